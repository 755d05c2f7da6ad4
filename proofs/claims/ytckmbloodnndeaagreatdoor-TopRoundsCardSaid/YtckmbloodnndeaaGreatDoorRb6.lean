/- A part of the proof of a law of this seat: it adds no condition. By an AI agent. -/
import Derived.Test.YtckmbloodnndeaaGreatDoorRb3
section
set_option linter.all false
set_option maxRecDepth 100000
set_option maxHeartbeats 8000000
namespace Lg
open Go Go.Proofs

/-! ### Best and BestRoute -/
def bestS (l : List Stop) (h : Spot) (s : Int) : BS := tryR l h s l.length [] ([], -1)
def bestE (l : List Stop) (h : Spot) (s : Int) : Tr := if 8 < l.length then .tup [.sl 1 [], .int 0, .int 2] else if (bestS l h s).2 < 0 then .tup [.sl 1 [], .int 0, .int 8] else .tup [.ints (bestS l h s).1, .int (bestS l h s).2, .int 0]
theorem seek_best {l : List Stop} {h : Spot} {s : Int} : seekD l h l.length [] h s 0 ([], -1) = bestS l h s := by
  unfold bestS
  exact seek_try _ _ _ _ _ _ (by rw [drvP])
theorem inR_rep (n : Nat) : List.replicate n [Tr.bool false] = inR n [] := by
  apply List.ext_getElem?
  intro j
  rw [inR_get, List.getElem?_replicate]
  by_cases h : j < n
  · rw [if_pos h, if_pos h, decide_eq_false (by simp)]
  · rw [if_neg h, if_neg h]
theorem seek_imp {x y s m : Int} {l : List Stop} {ad2 : Option Addr} {n2 cap2 : Nat} : ImpL [.int x, .int y, .stops l, .int s, Tr.raw (.slice none 0 0), Tr.raw (.slice ad2 n2 cap2), Tr.raw (.slice none 0 0), .int m] [.int x, .int y, .stops l, .int s, Tr.raw (.slice none 0 0), Tr.raw (.slice ad2 n2 cap2), .ints [], .int m] :=
  .cons Imp.refl (.cons Imp.refl (.cons Imp.refl (.cons Imp.refl (.cons Imp.refl (.cons Imp.refl (.cons Imp.nil (.cons Imp.refl .nil)))))))
attribute [local irreducible] intRows tryR itF drvP tripE ordersE inR seekD bestS
theorem best_fn (h : Spot) (l : List Stop) (s : Int) (hl : l.length ≤ 1000) : PFn Tryz.prog 12 [.agg h.row, .stops l, .int s] (· = if tripE h l s ≠ 0 then .tup [.sl 1 [], .int 0, .int (tripE h l s)] else bestE l h s) := by
  have hL : (l.map Stop.row).length = l.length := List.length_map _
  have k0 := fault_fn h l s hl
  unfold Spot.row
  by_cases ht : tripE h l s ≠ 0
  · rw [if_pos ht]
    generalize tripE h l s = E at *
    refine PFn.mk (Spec.body Tryz.func12 rfl rfl (Tryz.ntmps12) rfl fun w0 own0 M => ?_)
    repeat' (first | refine goH ?_ | refine goV ?_ | refine goB (fun b => ?_) | refine goC (fun ad cap => ?_) | refine goI ?_ | (refine Cw.k_cond ?_; first | (refine Cw.cond_dec rfl (fun hc => ?_) (fun hc => ?_) <;> try (exfalso; omega)) | refine Cw.cond_bool rfl (fun hc => ?_) (fun hc => ?_)) | (refine Ops.k_calla ?_; first | (refine Ops.k_callf 39 ?_; refine Ops.callV k0 (Evs.cons rfl Evs.nil) rfl ?_)) | (apply OpW.k_call; first | (apply OpW.k_callf 39; exact OpW.callV k0 (Evs.cons rfl Evs.nil))) | refine goR ?_ | refine goP ?_ | apply PSeq.cons | apply PSeq.yes rfl rfl rfl | exact goW | fail)
    refine Fin.ret (Ent.trans (Ent.nilsl 1 (s := 6) rfl) (Ent.take goTk)) (Outs.many rfl (OutL.cons goOe (OutL.cons goOe (OutL.cons goOe OutL.nil))) rfl) ⟨rfl, rfl⟩
  rw [if_neg ht]
  have ht0 : tripE h l s = 0 := by omega
  rw [ht0] at k0
  unfold bestE
  by_cases h8 : 8 < l.length
  · rw [if_pos h8]
    refine PFn.mk (Spec.body Tryz.func12 rfl rfl (Tryz.ntmps12) rfl fun w0 own0 M => ?_)
    repeat' (first | refine goH ?_ | refine goV ?_ | refine goB (fun b => ?_) | refine goC (fun ad cap => ?_) | refine goI ?_ | (refine Cw.k_cond ?_; first | (refine Cw.cond_dec rfl (fun hc => ?_) (fun hc => ?_) <;> try (exfalso; omega)) | refine Cw.cond_bool rfl (fun hc => ?_) (fun hc => ?_)) | (refine Ops.k_calla ?_; first | (refine Ops.k_callf 39 ?_; refine Ops.callV k0 (Evs.cons rfl Evs.nil) rfl ?_)) | (apply OpW.k_call; first | (apply OpW.k_callf 39; exact OpW.callV k0 (Evs.cons rfl Evs.nil))) | refine goR ?_ | refine goP ?_ | apply PSeq.cons | apply PSeq.yes rfl rfl rfl | exact goW | fail)
    refine Fin.ret (Ent.trans (Ent.nilsl 1 (s := 6) rfl) (Ent.take goTk)) (Outs.many rfl (OutL.cons goOe (OutL.cons goOe (OutL.cons goOe OutL.nil))) rfl) ⟨rfl, rfl⟩
  rw [if_neg h8]
  have hsb := (trip_ok ht0).2
  have kS := fun (bk : Nat) (ad2 : Option Addr) (cap2 : Nat) => seek_fn h l s ht0 bk ad2 cap2 l.length [] h s 0 ([], -1) none 0 (by simp) hsb.1 (by omega) (by simp)
  obtain ⟨B, m, hS⟩ : ∃ B m, bestS l h s = (B, m) := ⟨_, _, rfl⟩
  simp only [seek_best, hS, skC, intRows_nil] at kS
  rw [hS]
  refine PFn.mk (Spec.body Tryz.func12 rfl rfl (Tryz.ntmps12) rfl fun w0 own0 M => ?_)
  repeat' (first | refine goH ?_ | refine goV ?_ | refine goB (fun b => ?_) | refine goC (fun ad cap => ?_) | refine goI ?_ | (refine Cw.k_cond ?_; first | (refine Cw.cond_dec rfl (fun hc => ?_) (fun hc => ?_) <;> try (exfalso; omega)) | refine Cw.cond_bool rfl (fun hc => ?_) (fun hc => ?_)) | (refine Ops.k_calla ?_; first | (refine Ops.k_callf 39 ?_; refine Ops.callV k0 (Evs.cons rfl Evs.nil) rfl ?_)) | (apply OpW.k_call; first | (apply OpW.k_callf 39; exact OpW.callV k0 (Evs.cons rfl Evs.nil))) | fail)
  rename_i b3
  first | refine Cw.region_YP (fun ξ S => Chunk.box b 92 [.int h.x, .int h.y, .stops l, .int s] :: Chunk.box b3 43 [.int h.x, .int h.y] :: (stg (S 3) [] [ownV (ξ 3) 1 4 (List.replicate (l.map Stop.row).length [Tr.bool false])] ++ (stg (S 5) [] [Chunk.box (blk (ξ 5)) 97 [.int h.x, .int h.y, .stops l, .int s, Tr.raw (.slice none 0 0), slV (ξ 3) (l.map Stop.row).length, Tr.raw (.slice none 0 0), .int (-1)]] ++ []))) rfl (by decide +kernel) rfl ((fun (ξ : Nat → Value) (S : Nat → Bool) => Chunk.box b 92 [.int h.x, .int h.y, .stops l, .int s] :: Chunk.box b3 43 [.int h.x, .int h.y] :: (stg (S 3) [] [ownV (ξ 3) 1 4 (List.replicate (l.map Stop.row).length [Tr.bool false])] ++ (stg (S 5) [] [Chunk.box (blk (ξ 5)) 97 [.int h.x, .int h.y, .stops l, .int s, Tr.raw (.slice none 0 0), slV (ξ 3) (l.map Stop.row).length, Tr.raw (.slice none 0 0), .int (-1)]] ++ []))) (fun _ => undef) (fun _ => false)) (by simp only [upd_same, updD_same, upd_ne, updD_ne, ne_eq, Nat.reduceEqDiff, not_false_eq_true, stg_t, stg_f, vAd_s, vCap_s, blk_p, List.cons_append, List.nil_append, b2n_t, b2n_f]; exact goXm) (fun _ => rfl) ?_ | fail
  apply YSeq.w (by intro _ _ _; rfl)
  · intro ξ S h1 h2 h3 h4
    have hN0_4 := closed_false h1 h3 (k := 4) rfl (by decide)
    have hN0_5 := closed_false hN0_4 h3 (k := 5) rfl (by decide)
    try simp only [upd_same, updD_same, upd_ne, updD_ne, ne_eq, Nat.reduceEqDiff, not_false_eq_true, stg_t, stg_f, vAd_s, vCap_s, blk_p, List.cons_append, List.nil_append, b2n_t, b2n_f, hN0_5]
    exact goW
  · intro ξ v; rfl
  · intro ξ k v S h3 hn hk
    first
    | rfl
  apply YSeq.w (by intro _ _ _; rfl)
  · intro ξ S h1 h2 h3 h4
    have hN1_2 := closed_false h1 h3 (k := 2) rfl (by decide)
    have hN1_3 := closed_false hN1_2 h3 (k := 3) rfl (by decide)
    have hN1_4 := closed_false hN1_3 h3 (k := 4) rfl (by decide)
    have hN1_5 := closed_false hN1_4 h3 (k := 5) rfl (by decide)
    try simp only [upd_same, updD_same, upd_ne, updD_ne, ne_eq, Nat.reduceEqDiff, not_false_eq_true, stg_t, stg_f, vAd_s, vCap_s, blk_p, List.cons_append, List.nil_append, b2n_t, b2n_f, hN1_3, hN1_5]
    exact goW
  · intro ξ v; rfl
  · intro ξ k v S h3 hn hk
    first
    | rfl
  apply YSeq.w (by intro _ _ _; rfl)
  · intro ξ S h1 h2 h3 h4
    have hN2_3 := closed_false h1 h3 (k := 3) rfl (by decide)
    have hN2_4 := closed_false hN2_3 h3 (k := 4) rfl (by decide)
    have hN2_5 := closed_false hN2_4 h3 (k := 5) rfl (by decide)
    try simp only [upd_same, updD_same, upd_ne, updD_ne, ne_eq, Nat.reduceEqDiff, not_false_eq_true, stg_t, stg_f, vAd_s, vCap_s, blk_p, List.cons_append, List.nil_append, b2n_t, b2n_f, hN2_3, hN2_5]
    exact goW
  · intro ξ v; rfl
  · intro ξ k v S h3 hn hk
    first
    | rfl
  apply YSeq.mkOwn ((l.map Stop.row).length) (fun _ => rfl) (fun _ => rfl) (by omega) (by omega)
  · intro ξ S h1 h3 ad cap
    have hN3_4 := closed_false h1 h3 (k := 4) rfl (by decide)
    have hN3_5 := closed_false hN3_4 h3 (k := 5) rfl (by decide)
    simp only [upd_same, updD_same, upd_ne, updD_ne, ne_eq, Nat.reduceEqDiff, not_false_eq_true, stg_t, stg_f, vAd_s, vCap_s, blk_p, List.cons_append, List.nil_append, b2n_t, b2n_f, h1, hN3_5]
    exact goXm
  apply YSeq.w (by intro _ _ _; rfl)
  · intro ξ S h1 h2 h3 h4
    have hY4_3 : S 3 = true := h2 3 (by decide)
    have hN4_5 := closed_false h1 h3 (k := 5) rfl (by decide)
    try simp only [upd_same, updD_same, upd_ne, updD_ne, ne_eq, Nat.reduceEqDiff, not_false_eq_true, stg_t, stg_f, vAd_s, vCap_s, blk_p, List.cons_append, List.nil_append, b2n_t, b2n_f, hY4_3, hN4_5]
    exact goW
  · intro ξ v; rfl
  · intro ξ k v S h3 hn hk
    first
    | rfl
    | skip
      have hY4_3 : S 3 = true := h3 4 _ rfl hn 3 (by decide)
      simp only [upd_S hY4_3 hk]
  apply YSeq.box
  · intro ξ S h1 h2 h3 h4
    have hY5_4 : S 4 = true := h2 4 (by decide)
    have hY5_3 : S 3 = true := h3 4 _ rfl hY5_4 3 (by decide)
    simp only [upd_same, updD_same, upd_ne, updD_ne, ne_eq, Nat.reduceEqDiff, not_false_eq_true, stg_t, stg_f, vAd_s, vCap_s, blk_p, List.cons_append, List.nil_append, b2n_t, b2n_f, hY5_3, h1]
    refine ⟨_, _, rfl, inferInstance, fun b => ?_⟩
    try simp only [upd_same, updD_same, upd_ne, updD_ne, ne_eq, Nat.reduceEqDiff, not_false_eq_true, stg_t, stg_f, vAd_s, vCap_s, blk_p, List.cons_append, List.nil_append, b2n_t, b2n_f, hY5_3, h1]
    exact goXm
  apply YSeq.w (by intro _ _ _; rfl)
  · intro ξ S h1 h2 h3 h4
    have hY6_3 : S 3 = true := h2 3 (by decide)
    have hY6_5 : S 5 = true := h2 5 (by decide)
    try simp only [upd_same, updD_same, upd_ne, updD_ne, ne_eq, Nat.reduceEqDiff, not_false_eq_true, stg_t, stg_f, vAd_s, vCap_s, blk_p, List.cons_append, List.nil_append, b2n_t, b2n_f, hY6_3, hY6_5]
    exact goW
  · intro ξ v; rfl
  · intro ξ k v S h3 hn hk
    first
    | rfl
    | skip
      have hY6_3 : S 3 = true := h3 6 _ rfl hn 3 (by decide)
      have hY6_5 : S 5 = true := h3 6 _ rfl hn 5 (by decide)
      simp only [upd_S hY6_3 hk, upd_S hY6_5 hk]
  refine YSeq.nil fun ξ hf => ?_
  refine ⟨[(2, _), (3, _), (6, _), (7, _), (8, _), (11, _)], _, Ent.trans (Ent.eqc rfl (by first | (simp only [upd_same, updD_same, upd_ne, updD_ne, ne_eq, Nat.reduceEqDiff, not_false_eq_true, stg_t, stg_f, vAd_s, vCap_s, blk_p, List.cons_append, List.nil_append, b2n_t, b2n_f, ownV, slV, ptV] <;> rfl) | rfl)) (Ent.sub goSub), ?_⟩
  clear hf
  generalize vAd (ξ 3) = ad27
  generalize vCap (ξ 3) = cap27
  generalize blk (ξ 5) = b29
  refine Then.norm ?_
  rw [hL, inR_rep]
  refine Cw.ent (Ent.trans (Ent.imp_box (b := b29) goPk seek_imp) (Ent.nil 1 3)) ?_
  by_cases hm : m < 0
  · rw [if_pos hm]
    repeat' (first | refine goH ?_ | refine goV ?_ | refine goB (fun b => ?_) | refine goC (fun ad cap => ?_) | refine goI ?_ | (refine Cw.k_cond ?_; first | (refine Cw.cond_dec rfl (fun hc => ?_) (fun hc => ?_) <;> try (exfalso; omega)) | refine Cw.cond_bool rfl (fun hc => ?_) (fun hc => ?_)) | (refine Ops.k_calla ?_; first | (refine Ops.k_callf 40 ?_; (refine Ops.call (kS _ _ _) (Evs.cons rfl (Evs.cons rfl (Evs.cons rfl (Evs.cons rfl Evs.nil)))) goPm rfl ?_; rintro y cs' ⟨rfl, ad', cap', rfl⟩))) | refine goR ?_ | refine goP ?_ | apply PSeq.cons | apply PSeq.yes rfl rfl rfl | exact goW | fail)
    refine Fin.ret (Ent.trans (Ent.nilsl 1 (s := 6) rfl) (Ent.take goTk)) (Outs.many rfl (OutL.cons goOe (OutL.cons goOe (OutL.cons goOe OutL.nil))) rfl) ⟨rfl, rfl⟩
  · rw [if_neg hm]
    repeat' (first | refine goH ?_ | refine goV ?_ | refine goB (fun b => ?_) | refine goC (fun ad cap => ?_) | refine goI ?_ | (refine Cw.k_cond ?_; first | (refine Cw.cond_dec rfl (fun hc => ?_) (fun hc => ?_) <;> try (exfalso; omega)) | refine Cw.cond_bool rfl (fun hc => ?_) (fun hc => ?_)) | (refine Ops.k_calla ?_; first | (refine Ops.k_callf 40 ?_; (refine Ops.call (kS _ _ _) (Evs.cons rfl (Evs.cons rfl (Evs.cons rfl (Evs.cons rfl Evs.nil)))) goPm rfl ?_; rintro y cs' ⟨rfl, ad', cap', rfl⟩))) | refine goR ?_ | refine goP ?_ | apply PSeq.cons | apply PSeq.yes rfl rfl rfl | exact goW | fail)
    refine Fin.ret (Ent.take goTk) (Outs.many rfl (OutL.cons goOe (OutL.cons goOe (OutL.cons goOe OutL.nil))) rfl) ⟨rfl, rfl⟩
end Lg
end
section
set_option linter.all false
set_option maxRecDepth 100000
set_option maxHeartbeats 8000000
namespace Lg
open Go Go.Proofs

/-! ### Nearest and NearestRoute, in plain terms -/
theorem nd_len : ∀ {l m : List Int}, l.Nodup → (∀ x ∈ l, x ∈ m) → l.length ≤ m.length
  | [], _, _, _ => by simp
  | x :: l, m, h, hm => by
    obtain ⟨h1, h2⟩ := List.nodup_cons.1 h
    have := nd_len (m := m.erase x) h2 fun y hy => (List.mem_erase_of_ne (by rintro rfl; exact h1 hy)).2 (hm y (List.mem_cons_of_mem _ hy))
    have hx := hm x (by simp)
    rw [List.length_erase_of_mem hx] at this
    have := List.length_pos_of_mem hx
    simp
    omega
theorem ord_len {n : Nat} {o : List Int} (h : ordersE n o = 0) : o.length ≤ n := by
  obtain ⟨h1, h2⟩ := ordersE_iff.1 h
  have := nd_len (m := (List.range n).map fun (k : Nat) => (k : Int)) h2 fun y hy => by
    obtain ⟨h3, h4⟩ := h1 y hy
    exact List.mem_map.2 ⟨y.toNat, List.mem_range.2 (by omega), by omega⟩
  rw [List.length_map, List.length_range] at this
  exact this
theorem ord_snoc {n : Nat} {pre : List Int} {k : Nat} (ho : ordersE n pre = 0) (hk : k < n) (hm : (k : Int) ∉ pre) : ordersE n (pre ++ [(k : Int)]) = 0 := by
  obtain ⟨h1, h2⟩ := ordersE_iff.1 ho
  refine ordersE_iff.2 ⟨fun y hy => ?_, ?_⟩
  · rcases List.mem_append.1 hy with e | e
    · exact h1 y e
    · rw [List.mem_singleton.1 e]; omega
  · rw [List.nodup_append]
    exact ⟨h2, by simp, fun a ha b hb => by rw [List.mem_singleton.1 hb]; exact fun e => hm (e ▸ ha)⟩
section near
variable (l : List Stop)
def toS (a : Spot) (nx : Int) : Int := match l[nx.toNat]? with
  | none => 0
  | some y => farI a y.spot
def nrK (out : List Int) (a : Spot) (now : Int) (k : Nat) (nx : Int) : Int := match l[k]? with
  | none => nx
  | some x => if (k : Int) ∉ out ∧ now + farI a x.spot ≤ x.t ∧ (nx < 0 ∨ farI a x.spot < toS l a nx) then (k : Int) else nx
def nrN (out : List Int) (a : Spot) (now : Int) : Int := itF (nrK l out a now) 0 l.length (-1)
def nrR : Nat → List Int → Spot → Int → List Int
  | 0, out, _, _ => out
  | n + 1, out, a, now => if nrN l out a now < 0 then out else match l[(nrN l out a now).toNat]? with
    | none => out
    | some x => nrR n (out ++ [nrN l out a now]) x.spot (max (now + farI a x.spot) x.f + x.n)
end near
section near
variable {l : List Stop}
/-- what the next stop is: none, or one that is not on the route -/
def nrOk (l : List Stop) (out : List Int) (a : Spot) (now nx : Int) : Prop := nx = -1 ∨ (0 ≤ nx ∧ nx < l.length ∧ nx ∉ out ∧ ∃ x, l[nx.toNat]? = some x ∧ now + farI a x.spot ≤ x.t)
theorem nrK_ok {out : List Int} {a : Spot} {now nx : Int} {k : Nat} (h : nrOk l out a now nx) : nrOk l out a now (nrK l out a now k nx) := by
  unfold nrK
  cases hx : l[k]? with
  | none => exact h
  | some x =>
    simp only
    by_cases hc : (k : Int) ∉ out ∧ now + farI a x.spot ≤ x.t ∧ (nx < 0 ∨ farI a x.spot < toS l a nx)
    · rw [if_pos hc]
      have := (List.getElem?_eq_some_iff.1 hx).1
      exact .inr ⟨by omega, by omega, hc.1, x, hx, hc.2.1⟩
    · rw [if_neg hc]
      exact h
theorem nrI_ok {out : List Int} {a : Spot} {now : Int} : ∀ (n k : Nat) (nx : Int), nrOk l out a now nx → nrOk l out a now (itF (nrK l out a now) k n nx)
  | 0, _, _, h => h
  | n + 1, k, nx, h => nrI_ok n (k + 1) _ (nrK_ok h)
theorem nrN_ok {out : List Int} {a : Spot} {now : Int} : nrOk l out a now (nrN l out a now) := nrI_ok _ _ _ (.inl rfl)
/-- driving one stop further -/
theorem drvP_next {h : Spot} {s : Int} {out : List Int} {a : Spot} {now w : Int} {k : Nat} {x : Stop} (hd : drvP l out h s 0 = some (a, now, w)) (hx : l[k]? = some x) (hf : x.f ≤ x.t) :
    drvP l (out ++ [(k : Int)]) h s 0 = if now + farI a x.spot ≤ x.t then some (x.spot, max (now + farI a x.spot) x.f + x.n, w + farI a x.spot) else none := by
  rw [drvP_snoc, hd]
  simp only
  rw [drvP_one hx]
  by_cases hc : now + farI a x.spot ≤ x.t
  · rw [if_pos hc, if_neg (by omega)]
  · rw [if_neg hc, if_pos (by omega)]
theorem nrR_end {n : Nat} {out : List Int} {a : Spot} {now : Int} (h : nrN l out a now < 0) : nrR l n out a now = out := by
  cases n with
  | zero => rw [nrR]
  | succ n => rw [nrR, if_pos h]
theorem nrR_step {n : Nat} {out : List Int} {a : Spot} {now : Int} {x : Stop} (h : ¬ nrN l out a now < 0) (hx : l[(nrN l out a now).toNat]? = some x) : nrR l (n + 1) out a now = nrR l n (out ++ [nrN l out a now]) x.spot (max (now + farI a x.spot) x.f + x.n) := by
  rw [nrR, if_neg h, hx]
end near
end Lg
end
section
set_option linter.all false
set_option maxRecDepth 100000
set_option maxHeartbeats 8000000
namespace Lg
open Go Go.Proofs

theorem nrK_at {l : List Stop} {out : List Int} {a : Spot} {now nx : Int} {k : Nat} {x : Stop} (hx : l[k]? = some x) : nrK l out a now k nx = if (k : Int) ∉ out ∧ now + farI a x.spot ≤ x.t ∧ (nx < 0 ∨ farI a x.spot < toS l a nx) then (k : Int) else nx := by
  rw [nrK, hx]
theorem toS_at {l : List Stop} {a : Spot} {nx : Int} {y : Stop} (h : l[nx.toNat]? = some y) : toS l a nx = farI a y.spot := by
  rw [toS, h]
theorem nrN_eq (l : List Stop) (out : List Int) (a : Spot) (now : Int) : itF (nrK l out a now) 0 (l.length - 0) (-1) = nrN l out a now := rfl
attribute [local irreducible] intRows itF drvP tripE ordersE nrK nrN nrR toS farI
theorem nearest_fn (h : Spot) (l : List Stop) (s : Int) (hl : l.length ≤ 1000) : PFn Tryz.prog 13 [.agg h.row, .stops l, .int s] (· = if tripE h l s ≠ 0 then .tup [.sl 1 [], .int (tripE h l s)] else .tup [.ints (nrR l (l.length + 1) [] h s), .int 0]) := by
  have hL : (l.map Stop.row).length = l.length := List.length_map _
  have k0 := fault_fn h l s hl
  unfold Spot.row
  by_cases ht : tripE h l s ≠ 0
  · rw [if_pos ht]
    generalize tripE h l s = E at *
    refine PFn.mk (Spec.body Tryz.func13 rfl rfl (Tryz.ntmps13) rfl fun w0 own0 M => ?_)
    repeat' (first | refine goH ?_ | refine goV ?_ | refine goB (fun b => ?_) | refine goC (fun ad cap => ?_) | refine goG ?_ | (refine Ops.k_guard ?_; first | (refine Ops.guard_dec rfl rfl (fun hc => ?_) (fun hc => ?_) <;> try (exfalso; omega)) | refine Ops.guard_split rfl rfl (fun hc => ?_) (fun hc => ?_)) | refine goI ?_ | (refine Cw.k_cond ?_; first | (refine Cw.cond_dec rfl (fun hc => ?_) (fun hc => ?_) <;> try (exfalso; omega)) | refine Cw.cond_bool rfl (fun hc => ?_) (fun hc => ?_)) | (refine Ops.k_calla ?_; first | (refine Ops.k_callf 39 ?_; refine Ops.callV k0 (Evs.cons rfl Evs.nil) rfl ?_)) | (apply OpW.k_call; first | (apply OpW.k_callf 39; exact OpW.callV k0 (Evs.cons rfl Evs.nil))) | refine goR ?_ | refine goP ?_ | apply PSeq.cons | apply PSeq.yes rfl rfl rfl | exact goW | fail)
    refine Fin.ret (Ent.trans (Ent.nilsl 1 (s := 6) rfl) (Ent.take goTk)) (Outs.many rfl (OutL.cons goOe (OutL.cons goOe OutL.nil)) rfl) ⟨rfl, rfl⟩
  rw [if_neg ht]
  have ht0 : tripE h l s = 0 := by omega
  rw [ht0] at k0
  have hst := (stops_ok (trip_ok ht0).1).2
  have hl60 := (stops_ok (trip_ok ht0).1).1
  obtain ⟨hhb, hs0, hs1⟩ := (trip_ok ht0).2
  clear ht ht0
  obtain ⟨S, hS⟩ : ∃ S, S = nrR l (l.length + 1) [] h s := ⟨_, rfl⟩
  rw [← hS]
  refine PFn.mk (Spec.body Tryz.func13 rfl rfl (Tryz.ntmps13) rfl fun w0 own0 M => ?_)
  repeat' (first | refine goH ?_ | refine goV ?_ | refine goB (fun b => ?_) | refine goC (fun ad cap => ?_) | refine goG ?_ | (refine Ops.k_guard ?_; first | (refine Ops.guard_dec rfl rfl (fun hc => ?_) (fun hc => ?_) <;> try (exfalso; omega)) | refine Ops.guard_split rfl rfl (fun hc => ?_) (fun hc => ?_)) | refine goI ?_ | (refine Cw.k_cond ?_; first | (refine Cw.cond_dec rfl (fun hc => ?_) (fun hc => ?_) <;> try (exfalso; omega)) | refine Cw.cond_bool rfl (fun hc => ?_) (fun hc => ?_)) | (refine Ops.k_calla ?_; first | (refine Ops.k_callf 39 ?_; refine Ops.callV k0 (Evs.cons rfl Evs.nil) rfl ?_)) | (apply OpW.k_call; first | (apply OpW.k_callf 39; exact OpW.callV k0 (Evs.cons rfl Evs.nil))) | refine goR ?_ | refine goP ?_ | apply PSeq.cons | apply PSeq.yes rfl rfl rfl | exact goW | fail)
  rename_i b3 b8
  refine Cw.loopI [(1, _), (11, _)] _ (fun z e cc => ∃ (out : List Int) (a : Spot) (now : Int) (ad : Option Addr) (cap : Nat) (rows : List (List Tr)), z = l.length + 1 - out.length ∧ (rows = intRows out ∧ ordersE l.length out = 0 ∧ spotB a = true ∧ (0 ≤ now ∧ now ≤ 3000) ∧ S = nrR l (l.length + 1 - out.length) out a now) ∧ e = [(10, Tr.raw (.slice ad out.length cap)), (12, .int now)] ∧ cc = [Chunk.box b 43 [.int a.x, .int a.y], Chunk.own ad cap 1 3 rows])
    ⟨_, _, _, Ent.trans (Ent.nil 1 3) (Ent.mkP goSub goPm), [], h, s, none, 0, [], rfl, ⟨intRows_nil.symm, ordersE_iff.2 (by simp), hhb, by omega, hS⟩, rfl, rfl⟩ ?_
  clear hS k0
  rintro _ _ _ ⟨out, a, now, ad, cap, _, rfl, ⟨rfl, ho, hab, hnow, hV⟩, rfl, rfl⟩
  have hol := ord_len ho
  have hoR := intRows_len out
  obtain ⟨N, hN⟩ : ∃ N, N = nrN l out a now := ⟨_, rfl⟩
  have hNok : nrOk l out a now N := by rw [hN]; exact nrN_ok
  have hV2 : if N < 0 then S = out else ∀ x, l[N.toNat]? = some x → S = nrR l (l.length - out.length) (out ++ [N]) x.spot (max (now + farI a x.spot) x.f + x.n) := by
    by_cases hc : N < 0
    · rw [if_pos hc]
      rw [hN] at hc
      rw [nrR_end hc] at hV
      exact hV
    · rw [if_neg hc]
      intro x hx
      rw [hN] at hc hx
      rw [show l.length + 1 - out.length = (l.length - out.length) + 1 by omega, nrR_step hc hx, ← hN] at hV
      exact hV
  rw [← nrN_eq] at hN
  clear hV
  repeat' (first | refine goH ?_ | refine goV ?_ | refine goB (fun b => ?_) | refine goC (fun ad cap => ?_) | refine goG ?_ | (refine Ops.k_guard ?_; first | (refine Ops.guard_dec rfl rfl (fun hc => ?_) (fun hc => ?_) <;> try (exfalso; omega)) | refine Ops.guard_split rfl rfl (fun hc => ?_) (fun hc => ?_)) | refine goI ?_ | (refine Cw.k_cond ?_; first | (refine Cw.cond_dec rfl (fun hc => ?_) (fun hc => ?_) <;> try (exfalso; omega)) | refine Cw.cond_bool rfl (fun hc => ?_) (fun hc => ?_)) | refine goR ?_ | refine goP ?_ | apply PSeq.cons | apply PSeq.yes rfl rfl rfl | exact goW | fail)
  refine Cw.loopI [(1, _), (10, _), (11, _), (12, _), (29, _), (30, _)] _ (fun z e cc => ∃ (k : Nat) (nx : Int), z = l.length - k ∧ (k ≤ l.length ∧ N = itF (nrK l out a now) k (l.length - k) nx ∧ nrOk l out a now nx) ∧ e = [(13, .int nx), (31, .int k)] ∧ cc = [])
    ⟨_, _, _, (Ent.mkP goSub goPm), 0, -1, rfl, ⟨by omega, hN, .inl rfl⟩, rfl, rfl⟩ ?_
  clear hN
  rintro _ _ _ ⟨k, nx, rfl, ⟨hk, hN, hok⟩, rfl, rfl⟩
  by_cases hkl : k < l.length
  · obtain ⟨x, hx⟩ := at_lt hkl
    rw [itF_step hkl, nrK_at hx] at hN
    have hok2 := nrK_ok (k := k) hok
    rw [nrK_at hx] at hok2
    have hrow : (l.map Stop.row)[k]? = some [.str x.key, .int x.x, .int x.y, .int x.f, .int x.t, .int x.n] := rows_at hx
    obtain ⟨⟨hxs, hx1⟩, hx2⟩ := stopB_ok (hst x (List.mem_of_getElem? hx))
    have kF : PFn Tryz.prog 41 [.agg [.int a.x, .int a.y], .agg [.int x.x, .int x.y]] (· = .int (farI a x.spot)) := far_ok hab hxs
    have hfb := farI_bd hab hxs
    have kO := containsO_fn (ad := ad) (n := out.length) (cap := cap) out k hoR.symm (by omega)
    clear hx hV2 ho
    by_cases hm : (k : Int) ∈ out
    · rw [if_neg (fun hc => hc.1 hm)] at hN hok2
      rw [decide_eq_true hm] at kO
      clear hNok hok
      generalize farI a x.spot = f at *
      repeat' (first | refine goH ?_ | refine goV ?_ | refine goB (fun b => ?_) | refine goC (fun ad cap => ?_) | refine goG ?_ | (refine Ops.k_guard ?_; first | (refine Ops.guard_dec rfl rfl (fun hc => ?_) (fun hc => ?_) <;> try (exfalso; omega)) | refine Ops.guard_split rfl rfl (fun hc => ?_) (fun hc => ?_)) | refine goI ?_ | (refine Cw.k_cond ?_; first | (refine Cw.cond_dec rfl (fun hc => ?_) (fun hc => ?_) <;> try (exfalso; omega)) | refine Cw.cond_bool rfl (fun hc => ?_) (fun hc => ?_)) | exact OpW.callS kO (Evs.cons rfl (Evs.cons rfl Evs.nil)) goPm | (refine Ops.k_calla ?_; first | (refine Ops.k_callf 41 ?_; refine Ops.callV kF (Evs.cons rfl (Evs.cons rfl Evs.nil)) rfl ?_)) | (apply OpW.k_call; first | (apply OpW.k_callf 41; exact OpW.callV kF (Evs.cons rfl (Evs.cons rfl Evs.nil)))) | refine goR ?_ | refine goP ?_ | apply PSeq.cons | apply PSeq.yes rfl rfl rfl | exact goW | fail)
      exact ⟨_, _, _, (Ent.mk goSub goTk), ⟨k + 1, nx, rfl, ⟨by omega, hN, hok2⟩, rfl, rfl⟩, by omega⟩
    rw [decide_eq_false hm] at kO
    by_cases hlate : now + farI a x.spot ≤ x.t
    rotate_left
    · rw [if_neg (fun hc => hlate hc.2.1)] at hN hok2
      clear hNok hok
      generalize farI a x.spot = f at *
      repeat' (first | refine goH ?_ | refine goV ?_ | refine goB (fun b => ?_) | refine goC (fun ad cap => ?_) | refine goG ?_ | (refine Ops.k_guard ?_; first | (refine Ops.guard_dec rfl rfl (fun hc => ?_) (fun hc => ?_) <;> try (exfalso; omega)) | refine Ops.guard_split rfl rfl (fun hc => ?_) (fun hc => ?_)) | refine goI ?_ | (refine Cw.k_cond ?_; first | (refine Cw.cond_dec rfl (fun hc => ?_) (fun hc => ?_) <;> try (exfalso; omega)) | refine Cw.cond_bool rfl (fun hc => ?_) (fun hc => ?_)) | exact OpW.callS kO (Evs.cons rfl (Evs.cons rfl Evs.nil)) goPm | (refine Ops.k_calla ?_; first | (refine Ops.k_callf 41 ?_; refine Ops.callV kF (Evs.cons rfl (Evs.cons rfl Evs.nil)) rfl ?_)) | (apply OpW.k_call; first | (apply OpW.k_callf 41; exact OpW.callV kF (Evs.cons rfl (Evs.cons rfl Evs.nil)))) | refine goR ?_ | refine goP ?_ | apply PSeq.cons | apply PSeq.yes rfl rfl rfl | exact goW | fail)
      exact ⟨_, _, _, (Ent.mk goSub goTk), ⟨k + 1, nx, rfl, ⟨by omega, hN, hok2⟩, rfl, rfl⟩, by omega⟩
    by_cases hn0 : nx < 0
    · rw [if_pos ⟨hm, hlate, .inl hn0⟩] at hN hok2
      clear hNok hok
      generalize farI a x.spot = f at *
      repeat' (first | refine goH ?_ | refine goV ?_ | refine goB (fun b => ?_) | refine goC (fun ad cap => ?_) | refine goG ?_ | (refine Ops.k_guard ?_; first | (refine Ops.guard_dec rfl rfl (fun hc => ?_) (fun hc => ?_) <;> try (exfalso; omega)) | refine Ops.guard_split rfl rfl (fun hc => ?_) (fun hc => ?_)) | refine goI ?_ | (refine Cw.k_cond ?_; first | (refine Cw.cond_dec rfl (fun hc => ?_) (fun hc => ?_) <;> try (exfalso; omega)) | refine Cw.cond_bool rfl (fun hc => ?_) (fun hc => ?_)) | exact OpW.callS kO (Evs.cons rfl (Evs.cons rfl Evs.nil)) goPm | (refine Ops.k_calla ?_; first | (refine Ops.k_callf 41 ?_; refine Ops.callV kF (Evs.cons rfl (Evs.cons rfl Evs.nil)) rfl ?_)) | (apply OpW.k_call; first | (apply OpW.k_callf 41; exact OpW.callV kF (Evs.cons rfl (Evs.cons rfl Evs.nil)))) | refine goR ?_ | refine goP ?_ | apply PSeq.cons | apply PSeq.yes rfl rfl rfl | exact goW | fail)
      exact ⟨_, _, _, (Ent.mk goSub goTk), ⟨k + 1, k, rfl, ⟨by omega, hN, hok2⟩, rfl, rfl⟩, by omega⟩
    obtain hok | ⟨hx0, hxl, hxm, y, hy, hyt⟩ := hok
    · omega
    have hrow2 : (l.map Stop.row)[nx.toNat]? = some [.str y.key, .int y.x, .int y.y, .int y.f, .int y.t, .int y.n] := rows_at hy
    have hys := (stopB_ok (hst y (List.mem_of_getElem? hy))).1.1
    have kF2 : PFn Tryz.prog 41 [.agg [.int a.x, .int a.y], .agg [.int y.x, .int y.y]] (· = .int (farI a y.spot)) := far_ok hab hys
    rw [toS_at hy] at hN hok2
    clear hNok hy hyt
    by_cases hlt : farI a x.spot < farI a y.spot
    · rw [if_pos ⟨hm, hlate, .inr hlt⟩] at hN hok2
      generalize farI a x.spot = f at *
      generalize farI a y.spot = f2 at *
      repeat' (first | refine goH ?_ | refine goV ?_ | refine goB (fun b => ?_) | refine goC (fun ad cap => ?_) | refine goG ?_ | (refine Ops.k_guard ?_; first | (refine Ops.guard_dec rfl rfl (fun hc => ?_) (fun hc => ?_) <;> try (exfalso; omega)) | refine Ops.guard_split rfl rfl (fun hc => ?_) (fun hc => ?_)) | refine goI ?_ | (refine Cw.k_cond ?_; first | (refine Cw.cond_dec rfl (fun hc => ?_) (fun hc => ?_) <;> try (exfalso; omega)) | refine Cw.cond_bool rfl (fun hc => ?_) (fun hc => ?_)) | exact OpW.callS kO (Evs.cons rfl (Evs.cons rfl Evs.nil)) goPm | exact OpW.callV kF2 (Evs.cons rfl (Evs.cons rfl Evs.nil)) | exact OpV.w (OpV.load_ref_part rfl rfl rfl) | (refine Ops.k_calla ?_; first | (refine Ops.k_callf 41 ?_; refine Ops.callV kF (Evs.cons rfl (Evs.cons rfl Evs.nil)) rfl ?_)) | (apply OpW.k_call; first | (apply OpW.k_callf 41; exact OpW.callV kF (Evs.cons rfl (Evs.cons rfl Evs.nil)))) | refine goR ?_ | refine goP ?_ | apply PSeq.cons | apply PSeq.yes rfl rfl rfl | exact goW | fail)
      exact ⟨_, _, _, (Ent.mk goSub goTk), ⟨k + 1, k, rfl, ⟨by omega, hN, hok2⟩, rfl, rfl⟩, by omega⟩
    · rw [if_neg (fun hc => hc.2.2.elim hn0 hlt)] at hN hok2
      generalize farI a x.spot = f at *
      generalize farI a y.spot = f2 at *
      repeat' (first | refine goH ?_ | refine goV ?_ | refine goB (fun b => ?_) | refine goC (fun ad cap => ?_) | refine goG ?_ | (refine Ops.k_guard ?_; first | (refine Ops.guard_dec rfl rfl (fun hc => ?_) (fun hc => ?_) <;> try (exfalso; omega)) | refine Ops.guard_split rfl rfl (fun hc => ?_) (fun hc => ?_)) | refine goI ?_ | (refine Cw.k_cond ?_; first | (refine Cw.cond_dec rfl (fun hc => ?_) (fun hc => ?_) <;> try (exfalso; omega)) | refine Cw.cond_bool rfl (fun hc => ?_) (fun hc => ?_)) | exact OpW.callS kO (Evs.cons rfl (Evs.cons rfl Evs.nil)) goPm | exact OpW.callV kF2 (Evs.cons rfl (Evs.cons rfl Evs.nil)) | exact OpV.w (OpV.load_ref_part rfl rfl rfl) | (refine Ops.k_calla ?_; first | (refine Ops.k_callf 41 ?_; refine Ops.callV kF (Evs.cons rfl (Evs.cons rfl Evs.nil)) rfl ?_)) | (apply OpW.k_call; first | (apply OpW.k_callf 41; exact OpW.callV kF (Evs.cons rfl (Evs.cons rfl Evs.nil)))) | refine goR ?_ | refine goP ?_ | apply PSeq.cons | apply PSeq.yes rfl rfl rfl | exact goW | fail)
      exact ⟨_, _, _, (Ent.mk goSub goTk), ⟨k + 1, nx, rfl, ⟨by omega, hN, hok2⟩, rfl, rfl⟩, by omega⟩
  · rw [itF_end hkl] at hN
    subst hN
    by_cases hn0 : N < 0
    · rw [if_pos hn0] at hV2
      subst hV2
      clear hok hNok
      repeat' (first | refine goH ?_ | refine goV ?_ | refine goB (fun b => ?_) | refine goC (fun ad cap => ?_) | refine goG ?_ | (refine Ops.k_guard ?_; first | (refine Ops.guard_dec rfl rfl (fun hc => ?_) (fun hc => ?_) <;> try (exfalso; omega)) | refine Ops.guard_split rfl rfl (fun hc => ?_) (fun hc => ?_)) | refine goI ?_ | (refine Cw.k_cond ?_; first | (refine Cw.cond_dec rfl (fun hc => ?_) (fun hc => ?_) <;> try (exfalso; omega)) | refine Cw.cond_bool rfl (fun hc => ?_) (fun hc => ?_)) | refine goR ?_ | refine goP ?_ | apply PSeq.cons | apply PSeq.yes rfl rfl rfl | exact goW | fail)
      rw [← hoR]
      refine Fin.ret (Ent.trans (Ent.settle (s := 6) rfl goPk rfl) (Ent.take goTk)) (Outs.many rfl (OutL.cons goOe (OutL.cons goOe OutL.nil)) rfl) ⟨rfl, rfl⟩
    rw [if_neg hn0] at hV2
    obtain hok | ⟨hx0, hxl, hxm, x, hx, hlate⟩ := hok
    · omega
    obtain ⟨k2, rfl⟩ : ∃ k2 : Nat, N = k2 := ⟨N.toNat, by omega⟩
    rw [Int.toNat_natCast] at hx
    have hV := hV2 x hx
    have ho2 := ord_snoc ho (by omega) hxm
    have hrow : (l.map Stop.row)[k2]? = some [.str x.key, .int x.x, .int x.y, .int x.f, .int x.t, .int x.n] := rows_at hx
    obtain ⟨⟨hxs, hx1⟩, hx2⟩ := stopB_ok (hst x (List.mem_of_getElem? hx))
    have kF : PFn Tryz.prog 41 [.agg [.int a.x, .int a.y], .agg [.int x.x, .int x.y]] (· = .int (farI a x.spot)) := far_ok hab hxs
    have hfb := farI_bd hab hxs
    have hpl4 : (out ++ [(k2 : Int)]).length = out.length + 1 := by simp
    have hol2 := ord_len ho2
    clear hx hV2 ho hNok hxm
    rw [show l.length - out.length = l.length + 1 - (out ++ [(k2 : Int)]).length by omega] at hV
    generalize farI a x.spot = f at *
    repeat' (first | refine goH ?_ | refine goV ?_ | refine goB (fun b => ?_) | refine goC (fun ad cap => ?_) | refine goG ?_ | (refine Ops.k_guard ?_; first | (refine Ops.guard_dec rfl rfl (fun hc => ?_) (fun hc => ?_) <;> try (exfalso; omega)) | refine Ops.guard_split rfl rfl (fun hc => ?_) (fun hc => ?_)) | refine goI ?_ | (refine Cw.k_cond ?_; first | (refine Cw.cond_dec rfl (fun hc => ?_) (fun hc => ?_) <;> try (exfalso; omega)) | refine Cw.cond_bool rfl (fun hc => ?_) (fun hc => ?_)) | exact OpW.callV kF (Evs.cons rfl (Evs.cons rfl Evs.nil)) | refine goR ?_ | refine goP ?_ | apply PSeq.cons | apply PSeq.yes rfl rfl rfl | exact goW | fail)
    rw [intRows_snoc, intRows_len]
    exact ⟨_, _, _, (Ent.mk goSub goTk), ⟨out ++ [(k2 : Int)], x.spot, _, _, _, _, rfl, ⟨rfl, ho2, hxs, by omega, hV⟩, rfl, rfl⟩, by omega⟩
end Lg
end
