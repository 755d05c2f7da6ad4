/- A part of the proof of a law of this seat: it adds no condition. By an AI agent. -/
import Derived.Test.YtkmelphaecmfmaaGreatDy4
section
set_option linter.all false
set_option maxRecDepth 100000
set_option maxHeartbeats 8000000
namespace Lg
open Go Go.Proofs

theorem gapsBad_fn (l : List Rdg) (hl : l.length ≤ 12) (lg : Int) (hg : gapE l lg ≠ 0) : PFn Tryz.prog 16 [.sl 2 (l.map Rdg.row), .int lg] (· = .tup [.sl 2 [], .int (gapE l lg)]) := by
  have hL : (l.map Rdg.row).length = l.length := List.length_map _
  have e1 : gapE l lg = 1 ∧ (l.any badM = true ∨ (lg < 0 ∨ 5761440 < lg)) := by
    unfold gapE at hg ⊢
    rw [if_neg (by omega)] at hg ⊢
    by_cases h : l.any badM = true ∨ (lg < 0 ∨ 5761440 < lg)
    · exact ⟨if_pos h, h⟩
    · rw [if_neg h] at hg; exact absurd rfl hg
  obtain ⟨e1, hb⟩ := e1
  rw [e1]
  clear hg e1
  refine PFn.mk (Spec.body Tryz.func16 rfl rfl (Tryz.ntmps16) rfl fun w0 own0 M => ?_)
  repeat' (first | refine goH ?_ | refine goV ?_ | refine goB (fun b => ?_) | refine goC (fun ad cap => ?_) | refine goI ?_ | (refine Cw.k_cond ?_; first | (refine Cw.cond_dec rfl (fun hc => ?_) (fun hc => ?_) <;> try (exfalso; omega)) | refine Cw.cond_bool rfl (fun hc => ?_) (fun hc => ?_)) | refine goR ?_ | refine goP ?_ | apply PSeq.cons | apply PSeq.yes rfl rfl rfl | exact goW | fail)
  refine Cw.loopI [(1, _), (14, _), (15, _)] _ (fun q e cc => ∃ (k : Nat) (ad : Option Addr) (cap n : Nat) (rows : List (List Tr)), q = l.length - k ∧ (k ≤ l.length ∧ rows.length = n ∧ n = k ∧ l.any badM = (l.drop k).any badM) ∧ e = [(6, Tr.raw (.slice ad n cap)), (16, .int k)] ∧ cc = [Chunk.own ad cap 1 3 rows])
    ⟨_, _, _, Ent.trans (Ent.nil 1 3) (Ent.mkP goSub goPm), 0, none, 0, 0, [], rfl, ⟨by omega, rfl, rfl, rfl⟩, rfl, rfl⟩ ?_
  rintro _ _ _ ⟨k, ad, cap, n, rows, rfl, ⟨hk, hrl, hn, hA⟩, rfl, rfl⟩
  by_cases hkl : k < l.length
  · obtain ⟨x, hx⟩ := at_lt hkl
    have hrow : (l.map Rdg.row)[k]? = some [.int x.t, .ints x.vs] := rows_at hx
    have kM := momentD_fn x.t
    rw [drop_at hx, List.any_cons] at hA
    have hbm : badM x = !decide (0 ≤ x.t ∧ x.t < 5761440) := rfl
    rw [hbm] at hA
    have hl2 : (rows ++ [[Tr.int x.t]]).length = k + 1 := by rw [List.length_append, hrl, hn]; rfl
    clear hx hbm
    cases hd : decide (0 ≤ x.t ∧ x.t < 5761440)
    · rw [hd] at kM
      repeat' (first | refine goH ?_ | refine goV ?_ | refine goB (fun b => ?_) | refine goC (fun ad cap => ?_) | refine goI ?_ | (refine Cw.k_cond ?_; first | (refine Cw.cond_dec rfl (fun hc => ?_) (fun hc => ?_) <;> try (exfalso; omega)) | refine Cw.cond_bool rfl (fun hc => ?_) (fun hc => ?_)) | (refine Ops.k_calla ?_; first | (refine Ops.k_callf 51 ?_; refine Ops.callV kM (Evs.cons rfl Evs.nil) rfl ?_)) | (apply OpW.k_call; first | (apply OpW.k_callf 51; exact OpW.callV kM (Evs.cons rfl Evs.nil))) | refine goR ?_ | refine goP ?_ | apply PSeq.cons | apply PSeq.yes rfl rfl rfl | exact goW | fail)
      refine Fin.ret (Ent.trans (Ent.nilsl 2 (s := 4) rfl) (Ent.take goTk)) (Outs.many rfl (OutL.cons goOe (OutL.cons goOe OutL.nil)) rfl) ⟨rfl, rfl⟩
    · rw [hd] at kM hA
      repeat' (first | refine goH ?_ | refine goV ?_ | refine goB (fun b => ?_) | refine goC (fun ad cap => ?_) | refine goI ?_ | (refine Cw.k_cond ?_; first | (refine Cw.cond_dec rfl (fun hc => ?_) (fun hc => ?_) <;> try (exfalso; omega)) | refine Cw.cond_bool rfl (fun hc => ?_) (fun hc => ?_)) | (refine Ops.k_calla ?_; first | (refine Ops.k_callf 51 ?_; refine Ops.callV kM (Evs.cons rfl Evs.nil) rfl ?_)) | (apply OpW.k_call; first | (apply OpW.k_callf 51; exact OpW.callV kM (Evs.cons rfl Evs.nil))) | refine goR ?_ | refine goP ?_ | apply PSeq.cons | apply PSeq.yes rfl rfl rfl | exact goW | fail)
      exact ⟨_, _, _, (Ent.mk goSub goTk), ⟨k + 1, _, _, _, _, rfl, ⟨by omega, rfl, hl2, hA⟩, rfl, rfl⟩, by omega⟩
  · rw [List.drop_of_length_le (by omega)] at hA
    have hA2 : l.any badM = false := hA
    have hlg : lg < 0 ∨ 5761440 < lg := hb.resolve_left (by rw [hA2]; simp)
    have kO := out_fn lg 0 5761440
    rw [show outB lg 0 5761440 = true by simp [outB]; omega] at kO
    repeat' (first | refine goH ?_ | refine goV ?_ | refine goB (fun b => ?_) | refine goC (fun ad cap => ?_) | refine goI ?_ | (refine Cw.k_cond ?_; first | (refine Cw.cond_dec rfl (fun hc => ?_) (fun hc => ?_) <;> try (exfalso; omega)) | refine Cw.cond_bool rfl (fun hc => ?_) (fun hc => ?_)) | (refine Ops.k_calla ?_; first | (refine Ops.k_callf 28 ?_; refine Ops.callV kO (Evs.cons rfl (Evs.cons rfl (Evs.cons rfl Evs.nil))) rfl ?_)) | (apply OpW.k_call; first | (apply OpW.k_callf 28; exact OpW.callV kO (Evs.cons rfl (Evs.cons rfl (Evs.cons rfl Evs.nil))))) | refine goR ?_ | refine goP ?_ | apply PSeq.cons | apply PSeq.yes rfl rfl rfl | exact goW | fail)
    refine Fin.ret (Ent.trans (Ent.nilsl 2 (s := 4) rfl) (Ent.take goTk)) (Outs.many rfl (OutL.cons goOe (OutL.cons goOe OutL.nil)) rfl) ⟨rfl, rfl⟩
/-! ### what was counted otherwise -/
abbrev bdA (x : Int) : Bool := outB x 0 1000000000
def agE (c : Int) (o : List Int) (w : Int) : Int := if (o.length : Int) ≠ c then 3 else if o.any bdA = true ∨ bdA w = true then 1 else 0
def apK (w : Int) (own o : List Int) : Nat → List (Int × Int × Int)
  | 0 => []
  | k + 1 => apK w own o k ++ (if w < max (ix o k - ix own k) (ix own k - ix o k) then [((k : Int), ix own k, ix o k)] else [])
abbrev prA (p : Int × Int × Int) : List Tr := [.int p.1, .int p.2.1, .int p.2.2]
theorem apK_len (w : Int) (own o : List Int) : ∀ k, (apK w own o k).length ≤ k
  | 0 => by simp [apK]
  | k + 1 => by
    have := apK_len w own o k
    unfold apK
    rw [List.length_append]
    split <;> simp <;> omega
theorem agC_fn (x : Int) : PFn Tryz.prog 57 [.int x] (· = .bool (bdA x)) := by
  refine PFn.mk (Spec.body Tryz.func57 rfl rfl (Tryz.ntmps57) rfl fun w0 own0 M => ?_)
  repeat' (first | refine goH ?_ | refine goV ?_ | refine goI ?_ | (refine Cw.k_cond ?_; first | (refine Cw.cond_dec rfl (fun hc => ?_) (fun hc => ?_) <;> try (exfalso; omega)) | refine Cw.cond_bool rfl (fun hc => ?_) (fun hc => ?_)) | (refine Ops.k_calla ?_; first | (refine Ops.k_callf 28 ?_; refine Ops.callV (out_fn _ _ _) (Evs.cons rfl (Evs.cons rfl (Evs.cons rfl Evs.nil))) rfl ?_)) | fail)
  exact Fin.ret (Ent.take goTk) (Outs.one rfl rfl) ⟨rfl, rfl⟩
theorem agCR_fn (x : Int) : PFn Tryz.prog 58 [.int x] (· = .bool (bdA x)) := by
  refine PFn.mk (Spec.body Tryz.func58 rfl rfl (Tryz.ntmps58) rfl fun w0 own0 M => ?_)
  unfold bdA outB
  repeat' (first | refine goH ?_ | refine goV ?_ | refine goG ?_ | (refine Ops.k_guard ?_; first | (refine Ops.guard_dec rfl rfl (fun hc => ?_) (fun hc => ?_) <;> try (exfalso; omega)) | refine Ops.guard_split rfl rfl (fun hc => ?_) (fun hc => ?_)) | refine goI ?_ | (refine Cw.k_cond ?_; first | (refine Cw.cond_dec rfl (fun hc => ?_) (fun hc => ?_) <;> try (exfalso; omega)) | refine Cw.cond_bool rfl (fun hc => ?_) (fun hc => ?_)) | fail)
  all_goals (refine Fin.ret (Ent.take goTk) (Outs.one rfl rfl) ⟨rfl, congrArg Tr.bool ?_⟩; first | (rw [decide_eq_true_iff.2 (by omega)]; done) | (rw [decide_eq_false_iff_not.2 (by omega)]; done) | (simp; omega))
theorem agreeFault_fn (c t f : Int) (o : List Int) (ho : o.length ≤ 1000) (w : Int) : PFn Tryz.prog 22 [.mtr c t f, .ints o, .int w] (· = .int (agE c o w)) := by
  have hO := intRows_len o
  have kC := clone_int (intRows o) (intRows_k _) (by omega)
  have k3 : Spec Tryz.prog 30 [.ints (o ++ [w]), Tr.raw (.func (.func 58) #[] #[])] [] (fun x cs => x = .bool ((o ++ [w]).any bdA) ∧ cs = []) := containsFunc_int (p := bdA) (caps := []) (cin := []) (l := o ++ [w]) (by rw [List.length_append]; simp; omega) (fun x _ => (agCR_fn x).lend)
  have key : intRows o ++ [[Tr.int w]] = intRows (o ++ [w]) := by rw [intRows_app]; rfl
  have hkl : (intRows (o ++ [w])).length = o.length + 1 := by rw [intRows_len, List.length_append]; rfl
  unfold agE
  refine PFn.mk (Spec.body Tryz.func22 rfl rfl (Tryz.ntmps22) rfl fun w0 own0 M => ?_)
  by_cases h1 : (o.length : Int) = c
  · rw [if_neg (fun h => h h1)]
    have e : (o ++ [w]).any bdA = (o.any bdA || bdA w) := by rw [List.any_append]; simp
    rw [e] at k3
    generalize o.any bdA = b1 at *
    generalize bdA w = b2 at *
    clear e
    repeat' (first | refine goH ?_ | refine goV ?_ | refine goB (fun b => ?_) | refine goC (fun ad cap => ?_) | refine goI ?_ | (refine Cw.k_cond ?_; first | (refine Cw.cond_dec rfl (fun hc => ?_) (fun hc => ?_) <;> try (exfalso; omega)) | refine Cw.cond_bool rfl (fun hc => ?_) (fun hc => ?_)) | (rw [key]; refine Ops.ent (Ent.settle (s := 16) rfl goPk rfl) ?_; refine Ops.callS k3 (Evs.cons rfl (Evs.cons rfl Evs.nil)) (List.Perm.refl _) rfl ?_) | (refine Ops.k_calla ?_; first | (refine Ops.k_callf 39 ?_; (refine Ops.callO kC (Evs.cons rfl Evs.nil) rfl (fun ad cap rows hr => ?_); subst hr))) | fail)
    all_goals first | (exfalso; omega) | (refine Fin.ret (Ent.take goTk) (Outs.one rfl rfl) ⟨rfl, congrArg Tr.int ?_⟩; revert b1 b2; intro b1 b2; cases b1 <;> cases b2 <;> simp_all)
  · rw [if_pos h1]
    clear kC k3
    repeat' (first | refine goH ?_ | refine goV ?_ | refine goB (fun b => ?_) | refine goC (fun ad cap => ?_) | refine goI ?_ | (refine Cw.k_cond ?_; first | (refine Cw.cond_dec rfl (fun hc => ?_) (fun hc => ?_) <;> try (exfalso; omega)) | refine Cw.cond_bool rfl (fun hc => ?_) (fun hc => ?_)) | fail)
    all_goals first | (exfalso; omega) | exact Fin.ret (Ent.take goTk) (Outs.one rfl rfl) ⟨rfl, rfl⟩
theorem agreeD_fn {c t f : Int} (L : List Rdg) (own : List Int) (kS : PFn Tryz.prog 56 [.mtr c t f, .sl 2 (L.map Rdg.row)] (· = .tup [.ints own, .int 0])) (hol : (own.length : Int) = c) (hob : ∀ x ∈ own, 0 ≤ x ∧ x ≤ 1000000000) (o : List Int) (ho : o.length ≤ 1000) (w : Int) (hg : agE c o w = 0) :
    PFn Tryz.prog 21 [.mtr c t f, .sl 2 (L.map Rdg.row), .ints o, .int w] (· = .tup [.sl 3 ((apK w own o o.length).map prA), .int 0]) := by
  have hO := intRows_len o
  have hW := intRows_len own
  unfold agE at hg
  have h1 : (o.length : Int) = c := by
    by_cases h : (o.length : Int) = c
    · exact h
    · rw [if_pos h] at hg; cases hg
  rw [if_neg (fun h => h h1)] at hg
  have h2 : ¬ (o.any bdA = true ∨ bdA w = true) := fun h => by rw [if_pos h] at hg; cases hg
  have h3 : o.any bdA = false := by cases h : o.any bdA; rfl; exact absurd (.inl h) h2
  have h4 : bdA w = false := by cases h : bdA w; rfl; exact absurd (.inr h) h2
  have hxb : ∀ x ∈ o, 0 ≤ x ∧ x ≤ 1000000000 := fun x hx => by
    have := List.any_eq_false.1 h3 x hx
    simp [bdA, outB] at this
    omega
  have k3 : Spec Tryz.prog 30 [.ints o, Tr.raw (.func (.func 57) #[] #[])] [] (fun x cs => x = .bool (o.any bdA) ∧ cs = []) := containsFunc_int (p := bdA) (caps := []) (cin := []) (l := o) (by omega) (fun x _ => (agC_fn x).lend)
  have k4 := out_fn w 0 1000000000
  rw [h3] at k3
  rw [show outB w 0 1000000000 = false from h4] at k4
  clear hg h2 h3 h4
  refine PFn.mk (Spec.body Tryz.func21 rfl rfl (Tryz.ntmps21) rfl fun w0 own0 M => ?_)
  repeat' (first | refine goH ?_ | refine goV ?_ | refine goB (fun b => ?_) | refine goC (fun ad cap => ?_) | refine goG ?_ | (refine Ops.k_guard ?_; first | (refine Ops.guard_dec rfl rfl (fun hc => ?_) (fun hc => ?_) <;> try (exfalso; omega)) | refine Ops.guard_split rfl rfl (fun hc => ?_) (fun hc => ?_)) | refine goI ?_ | (refine Cw.k_cond ?_; first | (refine Cw.cond_dec rfl (fun hc => ?_) (fun hc => ?_) <;> try (exfalso; omega)) | refine Cw.cond_bool rfl (fun hc => ?_) (fun hc => ?_)) | (refine Ops.k_calla ?_; first | refine Ops.callV kS (Evs.cons rfl (Evs.cons rfl Evs.nil)) rfl ?_ | (refine Ops.k_callf 30 ?_; refine Ops.callS k3 (Evs.cons rfl (Evs.cons rfl Evs.nil)) (List.Perm.refl _) rfl ?_) | (refine Ops.k_callf 28 ?_; refine Ops.callV k4 (Evs.cons rfl (Evs.cons rfl (Evs.cons rfl Evs.nil))) rfl ?_)) | (apply OpW.k_call; first | exact OpW.callV kS (Evs.cons rfl (Evs.cons rfl Evs.nil)) | (apply OpW.k_callf 30; exact OpW.callS k3 (Evs.cons rfl (Evs.cons rfl Evs.nil)) (List.Perm.refl _)) | (apply OpW.k_callf 28; exact OpW.callV k4 (Evs.cons rfl (Evs.cons rfl (Evs.cons rfl Evs.nil))))) | refine goR ?_ | refine goP ?_ | apply PSeq.cons | apply PSeq.yes rfl rfl rfl | exact goW | fail)
  refine Cw.loopI [(3, _), (10, _), (35, _), (36, _)] _ (fun q e cc => ∃ (k : Nat) (ad : Option Addr) (cap n : Nat) (rows : List (List Tr)), q = o.length - k ∧ (k ≤ o.length ∧ rows = (apK w own o k).map prA ∧ n = rows.length) ∧ e = [(12, Tr.raw (.slice ad n cap)), (37, .int k)] ∧ cc = [Chunk.own ad cap 3 64 rows])
    ⟨_, _, _, Ent.trans (Ent.nil 3 64) (Ent.mkP goSub goPm), 0, none, 0, 0, [], rfl, ⟨by omega, rfl, rfl⟩, rfl, rfl⟩ ?_
  rintro _ _ _ ⟨k, ad, cap, n, rows, rfl, ⟨hk, hrows, hn⟩, rfl, rfl⟩
  by_cases hkl : k < o.length
  · have r1 : (intRows o)[k]? = some [Tr.int (ix o k)] := ixR hkl
    have r2 : (intRows own)[((k : Nat) : Int).toNat]? = some [Tr.int (ix own k)] := by rw [Int.toNat_natCast]; exact ixR (by omega)
    have b1 := hxb _ (List.mem_of_getElem? (ix_lt hkl))
    have b2 := hob _ (List.mem_of_getElem? (ix_lt (L := own) (i := k) (by omega)))
    have hrn : rows.length ≤ 1000 := by have := apK_len w own o k; rw [hrows, List.length_map]; omega
    have hst : apK w own o (k + 1) = apK w own o k ++ (if w < max (ix o k - ix own k) (ix own k - ix o k) then [((k : Int), ix own k, ix o k)] else []) := rfl
    by_cases hc : w < max (ix o k - ix own k) (ix own k - ix o k)
    · rw [if_pos hc] at hst
      have hr2 : rows ++ [[Tr.int (k : Int), Tr.int (ix own k), Tr.int (ix o k)]] = (apK w own o (k + 1)).map prA := by rw [hst, List.map_append, hrows]; rfl
      generalize ix o k = x at *
      generalize ix own k = y at *
      clear hst hrows
      repeat' (first | refine goH ?_ | refine goV ?_ | refine goB (fun b => ?_) | refine goC (fun ad cap => ?_) | refine goG ?_ | (refine Ops.k_guard ?_; first | (refine Ops.guard_dec rfl rfl (fun hc => ?_) (fun hc => ?_) <;> try (exfalso; omega)) | refine Ops.guard_split rfl rfl (fun hc => ?_) (fun hc => ?_)) | refine goI ?_ | (refine Cw.k_cond ?_; first | (refine Cw.cond_dec rfl (fun hc => ?_) (fun hc => ?_) <;> try (exfalso; omega)) | refine Cw.cond_bool rfl (fun hc => ?_) (fun hc => ?_)) | refine goR ?_ | refine goP ?_ | apply PSeq.cons | apply PSeq.yes rfl rfl rfl | exact goW | fail)
      exact ⟨_, _, _, (Ent.mk goSub goTk), ⟨k + 1, _, _, _, _, rfl, ⟨by omega, hr2, rfl⟩, rfl, rfl⟩, by omega⟩
    · rw [if_neg hc, List.append_nil] at hst
      rw [← hst] at hrows
      generalize ix o k = x at *
      generalize ix own k = y at *
      clear hst
      repeat' (first | refine goH ?_ | refine goV ?_ | refine goB (fun b => ?_) | refine goC (fun ad cap => ?_) | refine goG ?_ | (refine Ops.k_guard ?_; first | (refine Ops.guard_dec rfl rfl (fun hc => ?_) (fun hc => ?_) <;> try (exfalso; omega)) | refine Ops.guard_split rfl rfl (fun hc => ?_) (fun hc => ?_)) | refine goI ?_ | (refine Cw.k_cond ?_; first | (refine Cw.cond_dec rfl (fun hc => ?_) (fun hc => ?_) <;> try (exfalso; omega)) | refine Cw.cond_bool rfl (fun hc => ?_) (fun hc => ?_)) | refine goR ?_ | refine goP ?_ | apply PSeq.cons | apply PSeq.yes rfl rfl rfl | exact goW | fail)
      exact ⟨_, _, _, (Ent.mk goSub goTk), ⟨k + 1, _, _, _, _, rfl, ⟨by omega, hrows, hn⟩, rfl, rfl⟩, by omega⟩
  · rw [show k = o.length by omega] at hrows
    subst hn
    subst hrows
    repeat' (first | refine goH ?_ | refine goV ?_ | refine goB (fun b => ?_) | refine goC (fun ad cap => ?_) | refine goG ?_ | (refine Ops.k_guard ?_; first | (refine Ops.guard_dec rfl rfl (fun hc => ?_) (fun hc => ?_) <;> try (exfalso; omega)) | refine Ops.guard_split rfl rfl (fun hc => ?_) (fun hc => ?_)) | refine goI ?_ | (refine Cw.k_cond ?_; first | (refine Cw.cond_dec rfl (fun hc => ?_) (fun hc => ?_) <;> try (exfalso; omega)) | refine Cw.cond_bool rfl (fun hc => ?_) (fun hc => ?_)) | refine goR ?_ | refine goP ?_ | apply PSeq.cons | apply PSeq.yes rfl rfl rfl | exact goW | fail)
    refine Fin.ret (Ent.trans (Ent.settle (s := 8) rfl goPk rfl) (Ent.take goTk)) (Outs.many rfl (OutL.cons goOe (OutL.cons goOe OutL.nil)) rfl) ⟨rfl, rfl⟩
theorem agreeR_fn {c t f : Int} (D : List Rdg) (own : List Int) (kS : PFn Tryz.prog 59 [.mtr c t f, .sl 2 (D.map Rdg.row)] (· = .ints own)) (hob : ∀ x ∈ own, 0 ≤ x ∧ x ≤ 1000000000) (o : List Int) (hol : own.length = o.length) (ho : o.length ≤ 1000) (hxb : ∀ x ∈ o, 0 ≤ x ∧ x ≤ 1000000000) (w : Int) :
    PFn Tryz.prog 25 [.mtr c t f, .sl 2 (D.map Rdg.row), .ints o, .int w] (· = .sl 3 ((apK w own o o.length).map prA)) := by
  have hO := intRows_len o
  have hW := intRows_len own
  refine PFn.mk (Spec.body Tryz.func25 rfl rfl (Tryz.ntmps25) rfl fun w0 own0 M => ?_)
  repeat' (first | refine goH ?_ | refine goV ?_ | refine goB (fun b => ?_) | refine goC (fun ad cap => ?_) | refine goI ?_ | (refine Cw.k_cond ?_; first | (refine Cw.cond_dec rfl (fun hc => ?_) (fun hc => ?_) <;> try (exfalso; omega)) | refine Cw.cond_bool rfl (fun hc => ?_) (fun hc => ?_)) | (refine Ops.k_calla ?_; first | refine Ops.callV kS (Evs.cons rfl (Evs.cons rfl Evs.nil)) rfl ?_) | (apply OpW.k_call; first | exact OpW.callV kS (Evs.cons rfl (Evs.cons rfl Evs.nil))) | refine goR ?_ | refine goP ?_ | apply PSeq.cons | apply PSeq.yes rfl rfl rfl | exact goW | fail)
  refine Cw.loopI [(2, _), (3, _), (14, _), (15, _)] _ (fun q e cc => ∃ (k : Nat) (ad : Option Addr) (cap n : Nat) (rows : List (List Tr)), q = o.length - k ∧ (k ≤ o.length ∧ rows = (apK w own o k).map prA ∧ n = rows.length) ∧ e = [(9, Tr.raw (.slice ad n cap)), (16, .int k)] ∧ cc = [Chunk.own ad cap 3 64 rows])
    ⟨_, _, _, Ent.trans (Ent.nil 3 64) (Ent.mkP goSub goPm), 0, none, 0, 0, [], rfl, ⟨by omega, rfl, rfl⟩, rfl, rfl⟩ ?_
  rintro _ _ _ ⟨k, ad, cap, n, rows, rfl, ⟨hk, hrows, hn⟩, rfl, rfl⟩
  by_cases hkl : k < o.length
  · have r1 : (intRows own)[k]? = some [Tr.int (ix own k)] := ixR (by omega)
    have r2 : (intRows o)[((k : Nat) : Int).toNat]? = some [Tr.int (ix o k)] := by rw [Int.toNat_natCast]; exact ixR hkl
    have b1 := hxb _ (List.mem_of_getElem? (ix_lt hkl))
    have b2 := hob _ (List.mem_of_getElem? (ix_lt (L := own) (i := k) (by omega)))
    have hrn : rows.length ≤ 1000 := by have := apK_len w own o k; rw [hrows, List.length_map]; omega
    have hst : apK w own o (k + 1) = apK w own o k ++ (if w < max (ix o k - ix own k) (ix own k - ix o k) then [((k : Int), ix own k, ix o k)] else []) := rfl
    by_cases hc : w < max (ix o k - ix own k) (ix own k - ix o k)
    · rw [if_pos hc] at hst
      have hr2 : rows ++ [[Tr.int (k : Int), Tr.int (ix own k), Tr.int (ix o k)]] = (apK w own o (k + 1)).map prA := by rw [hst, List.map_append, hrows]; rfl
      generalize ix o k = x at *
      generalize ix own k = y at *
      clear hst hrows
      repeat' (first | refine goH ?_ | refine goV ?_ | refine goB (fun b => ?_) | refine goC (fun ad cap => ?_) | refine goI ?_ | (refine Cw.k_cond ?_; first | (refine Cw.cond_dec rfl (fun hc => ?_) (fun hc => ?_) <;> try (exfalso; omega)) | refine Cw.cond_bool rfl (fun hc => ?_) (fun hc => ?_)) | refine goR ?_ | refine goP ?_ | apply PSeq.cons | apply PSeq.yes rfl rfl rfl | exact goW | fail)
      exact ⟨_, _, _, (Ent.mk goSub goTk), ⟨k + 1, _, _, _, _, rfl, ⟨by omega, hr2, rfl⟩, rfl, rfl⟩, by omega⟩
    · rw [if_neg hc, List.append_nil] at hst
      rw [← hst] at hrows
      generalize ix o k = x at *
      generalize ix own k = y at *
      clear hst
      repeat' (first | refine goH ?_ | refine goV ?_ | refine goB (fun b => ?_) | refine goC (fun ad cap => ?_) | refine goI ?_ | (refine Cw.k_cond ?_; first | (refine Cw.cond_dec rfl (fun hc => ?_) (fun hc => ?_) <;> try (exfalso; omega)) | refine Cw.cond_bool rfl (fun hc => ?_) (fun hc => ?_)) | refine goR ?_ | refine goP ?_ | apply PSeq.cons | apply PSeq.yes rfl rfl rfl | exact goW | fail)
      exact ⟨_, _, _, (Ent.mk goSub goTk), ⟨k + 1, _, _, _, _, rfl, ⟨by omega, hrows, hn⟩, rfl, rfl⟩, by omega⟩
  · rw [show k = o.length by omega] at hrows
    subst hn
    subst hrows
    repeat' (first | refine goH ?_ | refine goV ?_ | refine goB (fun b => ?_) | refine goC (fun ad cap => ?_) | refine goI ?_ | (refine Cw.k_cond ?_; first | (refine Cw.cond_dec rfl (fun hc => ?_) (fun hc => ?_) <;> try (exfalso; omega)) | refine Cw.cond_bool rfl (fun hc => ?_) (fun hc => ?_)) | refine goR ?_ | refine goP ?_ | apply PSeq.cons | apply PSeq.yes rfl rfl rfl | exact goW | fail)
    refine Fin.ret (Ent.trans (Ent.settle (s := 8) rfl goPk rfl) (Ent.take goTk)) (Outs.sole rfl goOe) ⟨rfl, rfl⟩
end Lg
end
section
set_option linter.all false
set_option maxRecDepth 100000
set_option maxHeartbeats 8000000
namespace Lg
open Go Go.Proofs

theorem daysBad1_fn {c t f : Int} (L : List Rdg) {e : Int} (he : e ≠ 0) (kSt : PFn Tryz.prog 46 [.mtr c t f, .sl 2 (L.map Rdg.row)] (· = .tup [.sl 4 [], .int e])) (k : Int) : PFn Tryz.prog 13 [.mtr c t f, .sl 2 (L.map Rdg.row), .int k] (· = .tup [.sl 2 [], .int e]) := by
  refine PFn.mk (Spec.body Tryz.func13 rfl rfl (Tryz.ntmps13) rfl fun w0 own0 M => ?_)
  repeat' (first | refine goH ?_ | refine goV ?_ | refine goB (fun b => ?_) | refine goC (fun ad cap => ?_) | refine goI ?_ | (refine Cw.k_cond ?_; first | (refine Cw.cond_dec rfl (fun hc => ?_) (fun hc => ?_) <;> try (exfalso; omega)) | refine Cw.cond_bool rfl (fun hc => ?_) (fun hc => ?_)) | (refine Ops.k_calla ?_; first | refine Ops.callV kSt (Evs.cons rfl (Evs.cons rfl Evs.nil)) rfl ?_) | (apply OpW.k_call; first | exact OpW.callV kSt (Evs.cons rfl (Evs.cons rfl Evs.nil))) | refine goR ?_ | refine goP ?_ | apply PSeq.cons | apply PSeq.yes rfl rfl rfl | exact goW | fail)
  refine Fin.ret (Ent.trans (Ent.nilsl 2 (s := 6) rfl) (Ent.take goTk)) (Outs.many rfl (OutL.cons goOe (OutL.cons goOe OutL.nil)) rfl) ⟨rfl, rfl⟩
theorem daysBad2_fn {c t f : Int} (hc : 1 ≤ c ∧ c ≤ 60) (L : List Rdg) (S : List Stp) (kSt : PFn Tryz.prog 46 [.mtr c t f, .sl 2 (L.map Rdg.row)] (· = .tup [.sl 4 (S.map Stp.row), .int 0])) (k : Int) (hk : k < 0 ∨ c ≤ k) : PFn Tryz.prog 13 [.mtr c t f, .sl 2 (L.map Rdg.row), .int k] (· = .tup [.sl 2 [], .int 1]) := by
  have kOut := out_fn k 0 (c - 1)
  rw [show outB k 0 (c - 1) = true by simp [outB]; omega] at kOut
  refine PFn.mk (Spec.body Tryz.func13 rfl rfl (Tryz.ntmps13) rfl fun w0 own0 M => ?_)
  repeat' (first | refine goH ?_ | refine goV ?_ | refine goB (fun b => ?_) | refine goC (fun ad cap => ?_) | refine goI ?_ | (refine Cw.k_cond ?_; first | (refine Cw.cond_dec rfl (fun hc => ?_) (fun hc => ?_) <;> try (exfalso; omega)) | refine Cw.cond_bool rfl (fun hc => ?_) (fun hc => ?_)) | (refine Ops.k_calla ?_; first | refine Ops.callV kSt (Evs.cons rfl (Evs.cons rfl Evs.nil)) rfl ?_ | (refine Ops.k_callf 28 ?_; refine Ops.callV kOut (Evs.cons rfl (Evs.cons rfl (Evs.cons rfl Evs.nil))) rfl ?_)) | (apply OpW.k_call; first | exact OpW.callV kSt (Evs.cons rfl (Evs.cons rfl Evs.nil)) | (apply OpW.k_callf 28; exact OpW.callV kOut (Evs.cons rfl (Evs.cons rfl (Evs.cons rfl Evs.nil))))) | refine goR ?_ | refine goP ?_ | apply PSeq.cons | apply PSeq.yes rfl rfl rfl | exact goW | fail)
  refine Fin.ret (Ent.trans (Ent.nilsl 2 (s := 6) rfl) (Ent.take goTk)) (Outs.many rfl (OutL.cons goOe (OutL.cons goOe OutL.nil)) rfl) ⟨rfl, rfl⟩
theorem agreeBad1_fn {c t f : Int} (L : List Rdg) {e : Int} (he : e ≠ 0) (kS : PFn Tryz.prog 56 [.mtr c t f, .sl 2 (L.map Rdg.row)] (· = .tup [.sl 1 [], .int e])) (o : List Int) (w : Int) : PFn Tryz.prog 21 [.mtr c t f, .sl 2 (L.map Rdg.row), .ints o, .int w] (· = .tup [.sl 3 [], .int e]) := by
  refine PFn.mk (Spec.body Tryz.func21 rfl rfl (Tryz.ntmps21) rfl fun w0 own0 M => ?_)
  repeat' (first | refine goH ?_ | refine goV ?_ | refine goB (fun b => ?_) | refine goC (fun ad cap => ?_) | refine goG ?_ | (refine Ops.k_guard ?_; first | (refine Ops.guard_dec rfl rfl (fun hc => ?_) (fun hc => ?_) <;> try (exfalso; omega)) | refine Ops.guard_split rfl rfl (fun hc => ?_) (fun hc => ?_)) | refine goI ?_ | (refine Cw.k_cond ?_; first | (refine Cw.cond_dec rfl (fun hc => ?_) (fun hc => ?_) <;> try (exfalso; omega)) | refine Cw.cond_bool rfl (fun hc => ?_) (fun hc => ?_)) | (refine Ops.k_calla ?_; first | refine Ops.callV kS (Evs.cons rfl (Evs.cons rfl Evs.nil)) rfl ?_) | (apply OpW.k_call; first | exact OpW.callV kS (Evs.cons rfl (Evs.cons rfl Evs.nil))) | refine goR ?_ | refine goP ?_ | apply PSeq.cons | apply PSeq.yes rfl rfl rfl | exact goW | fail)
  refine Fin.ret (Ent.trans (Ent.nilsl 3 (s := 8) rfl) (Ent.take goTk)) (Outs.many rfl (OutL.cons goOe (OutL.cons goOe OutL.nil)) rfl) ⟨rfl, rfl⟩
theorem agreeBad2_fn {c t f : Int} (L : List Rdg) (own : List Int) (kS : PFn Tryz.prog 56 [.mtr c t f, .sl 2 (L.map Rdg.row)] (· = .tup [.ints own, .int 0])) (o : List Int) (ho : o.length ≤ 1000) (w : Int) (hg : agE c o w ≠ 0) : PFn Tryz.prog 21 [.mtr c t f, .sl 2 (L.map Rdg.row), .ints o, .int w] (· = .tup [.sl 3 [], .int (agE c o w)]) := by
  have hO := intRows_len o
  have k3 : Spec Tryz.prog 30 [.ints o, Tr.raw (.func (.func 57) #[] #[])] [] (fun x cs => x = .bool (o.any bdA) ∧ cs = []) := containsFunc_int (p := bdA) (caps := []) (cin := []) (l := o) (by omega) (fun x _ => (agC_fn x).lend)
  have k4 := out_fn w 0 1000000000
  unfold agE at hg ⊢
  by_cases h1 : (o.length : Int) = c
  · rw [if_neg (fun h => h h1)] at hg ⊢
    have h2 : o.any bdA = true ∨ bdA w = true := by
      by_cases h : o.any bdA = true ∨ bdA w = true
      · exact h
      · rw [if_neg h] at hg; exact absurd rfl hg
    rw [if_pos h2]
    clear hg
    cases h3 : o.any bdA
    · have h4 : outB w 0 1000000000 = true := h2.resolve_left (by rw [h3]; simp)
      rw [h3] at k3
      rw [h4] at k4
      refine PFn.mk (Spec.body Tryz.func21 rfl rfl (Tryz.ntmps21) rfl fun w0 own0 M => ?_)
      repeat' (first | refine goH ?_ | refine goV ?_ | refine goB (fun b => ?_) | refine goC (fun ad cap => ?_) | refine goG ?_ | (refine Ops.k_guard ?_; first | (refine Ops.guard_dec rfl rfl (fun hc => ?_) (fun hc => ?_) <;> try (exfalso; omega)) | refine Ops.guard_split rfl rfl (fun hc => ?_) (fun hc => ?_)) | refine goI ?_ | (refine Cw.k_cond ?_; first | (refine Cw.cond_dec rfl (fun hc => ?_) (fun hc => ?_) <;> try (exfalso; omega)) | refine Cw.cond_bool rfl (fun hc => ?_) (fun hc => ?_)) | (refine Ops.k_calla ?_; first | refine Ops.callV kS (Evs.cons rfl (Evs.cons rfl Evs.nil)) rfl ?_ | (refine Ops.k_callf 30 ?_; refine Ops.callS k3 (Evs.cons rfl (Evs.cons rfl Evs.nil)) (List.Perm.refl _) rfl ?_) | (refine Ops.k_callf 28 ?_; refine Ops.callV k4 (Evs.cons rfl (Evs.cons rfl (Evs.cons rfl Evs.nil))) rfl ?_)) | (apply OpW.k_call; first | exact OpW.callV kS (Evs.cons rfl (Evs.cons rfl Evs.nil)) | (apply OpW.k_callf 30; exact OpW.callS k3 (Evs.cons rfl (Evs.cons rfl Evs.nil)) (List.Perm.refl _)) | (apply OpW.k_callf 28; exact OpW.callV k4 (Evs.cons rfl (Evs.cons rfl (Evs.cons rfl Evs.nil))))) | refine goR ?_ | refine goP ?_ | apply PSeq.cons | apply PSeq.yes rfl rfl rfl | exact goW | fail)
      all_goals first | (exfalso; omega) | (refine Fin.ret (Ent.trans (Ent.nilsl 3 (s := 8) rfl) (Ent.take goTk)) (Outs.many rfl (OutL.cons goOe (OutL.cons goOe OutL.nil)) rfl) ⟨rfl, rfl⟩)
    · rw [h3] at k3
      refine PFn.mk (Spec.body Tryz.func21 rfl rfl (Tryz.ntmps21) rfl fun w0 own0 M => ?_)
      repeat' (first | refine goH ?_ | refine goV ?_ | refine goB (fun b => ?_) | refine goC (fun ad cap => ?_) | refine goG ?_ | (refine Ops.k_guard ?_; first | (refine Ops.guard_dec rfl rfl (fun hc => ?_) (fun hc => ?_) <;> try (exfalso; omega)) | refine Ops.guard_split rfl rfl (fun hc => ?_) (fun hc => ?_)) | refine goI ?_ | (refine Cw.k_cond ?_; first | (refine Cw.cond_dec rfl (fun hc => ?_) (fun hc => ?_) <;> try (exfalso; omega)) | refine Cw.cond_bool rfl (fun hc => ?_) (fun hc => ?_)) | (refine Ops.k_calla ?_; first | refine Ops.callV kS (Evs.cons rfl (Evs.cons rfl Evs.nil)) rfl ?_ | (refine Ops.k_callf 30 ?_; refine Ops.callS k3 (Evs.cons rfl (Evs.cons rfl Evs.nil)) (List.Perm.refl _) rfl ?_)) | (apply OpW.k_call; first | exact OpW.callV kS (Evs.cons rfl (Evs.cons rfl Evs.nil)) | (apply OpW.k_callf 30; exact OpW.callS k3 (Evs.cons rfl (Evs.cons rfl Evs.nil)) (List.Perm.refl _))) | refine goR ?_ | refine goP ?_ | apply PSeq.cons | apply PSeq.yes rfl rfl rfl | exact goW | fail)
      all_goals first | (exfalso; omega) | (refine Fin.ret (Ent.trans (Ent.nilsl 3 (s := 8) rfl) (Ent.take goTk)) (Outs.many rfl (OutL.cons goOe (OutL.cons goOe OutL.nil)) rfl) ⟨rfl, rfl⟩)
  · rw [if_pos h1]
    refine PFn.mk (Spec.body Tryz.func21 rfl rfl (Tryz.ntmps21) rfl fun w0 own0 M => ?_)
    clear k3 k4
    repeat' (first | refine goH ?_ | refine goV ?_ | refine goB (fun b => ?_) | refine goC (fun ad cap => ?_) | refine goG ?_ | (refine Ops.k_guard ?_; first | (refine Ops.guard_dec rfl rfl (fun hc => ?_) (fun hc => ?_) <;> try (exfalso; omega)) | refine Ops.guard_split rfl rfl (fun hc => ?_) (fun hc => ?_)) | refine goI ?_ | (refine Cw.k_cond ?_; first | (refine Cw.cond_dec rfl (fun hc => ?_) (fun hc => ?_) <;> try (exfalso; omega)) | refine Cw.cond_bool rfl (fun hc => ?_) (fun hc => ?_)) | (refine Ops.k_calla ?_; first | refine Ops.callV kS (Evs.cons rfl (Evs.cons rfl Evs.nil)) rfl ?_) | (apply OpW.k_call; first | exact OpW.callV kS (Evs.cons rfl (Evs.cons rfl Evs.nil))) | refine goR ?_ | refine goP ?_ | apply PSeq.cons | apply PSeq.yes rfl rfl rfl | exact goW | fail)
    all_goals first | (exfalso; omega) | (refine Fin.ret (Ent.trans (Ent.nilsl 3 (s := 8) rfl) (Ent.take goTk)) (Outs.many rfl (OutL.cons goOe (OutL.cons goOe OutL.nil)) rfl) ⟨rfl, rfl⟩)
theorem metersN_fn : PFn Tryz.prog 23 [] (· = .bool true) := by
  have k := share_fn 3 [1, 2] (by decide)
  have e : shT 3 [1, 2] = .tup [.ints [1, 2], .int 0] := by
    unfold shT
    rw [if_neg (by decide), show shOf 3 [1, 2] = [1, 2] by decide]
  rw [e] at k
  have k : PFn Tryz.prog 6 [.int 3, .sl 1 [[Tr.int 1], [Tr.int 2]]] (· = .tup [.sl 1 [[Tr.int 1], [Tr.int 2]], .int 0]) := k
  have k2 : PFn Tryz.prog 8 [.sl 1 [[Tr.int 1], [Tr.int 2]], .sl 1 [[Tr.int 1], [Tr.int 2]]] (· = .bool true) := equalInts_same [1, 2] (by simp)
  refine PFn.mk (Spec.body Tryz.func23 rfl rfl (Tryz.ntmps23) rfl fun w0 own0 M => ?_)
  repeat' (first | refine goH ?_ | refine goV ?_ | refine goG ?_ | (refine Ops.k_guard ?_; first | (refine Ops.guard_dec rfl rfl (fun hc => ?_) (fun hc => ?_) <;> try (exfalso; omega)) | refine Ops.guard_split rfl rfl (fun hc => ?_) (fun hc => ?_)) | refine goI ?_ | (refine Cw.k_cond ?_; first | (refine Cw.cond_dec rfl (fun hc => ?_) (fun hc => ?_) <;> try (exfalso; omega)) | refine Cw.cond_bool rfl (fun hc => ?_) (fun hc => ?_)) | (refine Ops.k_calla ?_; first | (refine Ops.k_callf 6 ?_; refine Ops.callV k (Evs.cons rfl (Evs.cons rfl Evs.nil)) rfl ?_) | (refine Ops.k_callf 8 ?_; refine Ops.callV k2 (Evs.cons rfl (Evs.cons rfl Evs.nil)) rfl ?_)) | fail)
  all_goals first | exact Fin.ret (Ent.take goTk) (Outs.one rfl rfl) ⟨rfl, rfl⟩ | (exfalso; omega)
theorem dyc_eq0 (n : Nat) (a b : Int) (w : World) : (Op.equalIn (n + 1 + 1) 46 (.agg #[.int .i64 a, .int .i64 b]) (.agg #[.int .i64 a, .int .i64 b])).run Tryz.prog w = .ok true w := by
  have hs : Tryz.prog.stoodInHeld 46 = false := by kernel_rfl
  simp [Op.equalIn, run_underlying Tryz.underlying46, run_underlying Tryz.underlying3, hs, part, Go.sizeOf, typeInfo]
theorem dyc_ne1 (a b : Int) (w : World) : (binOp .neq 46 (.agg #[.int .i64 a, .int .i64 b]) (.agg #[.int .i64 a, .int .i64 b])).run Tryz.prog w = .ok (.bool false) w := by
  show (do let r ← Op.equalIn (9998 + 1 + 1) 46 _ _; pure (Value.bool !r) : Sem Value).run Tryz.prog w = _
  have := dyc_eq0 9998 a b w
  generalize Op.equalIn (9998 + 1 + 1) 46 (.agg #[.int .i64 a, .int .i64 b]) (.agg #[.int .i64 a, .int .i64 b]) = s at *
  simp [this]
section
variable {Γ : Ctx} {env : Env} {cs : List Chunk} {x y : Operand} {T2 ty : TypeId}
theorem OpV.dyc_ne_f {a b : Int} (hx : ev env x = some (.agg ([.int .i64 a, .int .i64 b].map Tr.raw))) (hy : ev env y = some (.agg ([.int .i64 a, .int .i64 b].map Tr.raw))) : OpV Tryz.prog Γ (.binOp .neq 46 x y T2) ty env cs (.bool false) := by
  unfold OpV
  intro ac w d
  have h1 := agg_raw (l := [.int .i64 a, .int .i64 b]) (d.ev hx)
  have h2 := agg_raw (l := [.int .i64 a, .int .i64 b]) (d.ev hy)
  have h3 := dyc_ne1 a b w
  have h4 : (eqGuard .neq 46 x y (.agg #[.int .i64 a, .int .i64 b]) (.agg #[.int .i64 a, .int .i64 b])).run Tryz.prog w = .ok () w := by simp [eqGuard]
  exact ⟨.bool false, by simp [execOp, h1, h2, h3, h4], by unfold Tr.bool Tr.raw; rfl⟩
end
theorem equal_dyc (xs : List (Int × Int)) (h : xs.length ≤ 1000000000) : PFn Tryz.prog 14 [.sl 2 (xs.map prD), .sl 2 (xs.map prD)] (· = .bool true) := by
  refine PFn.mk (Spec.body Tryz.func14 rfl rfl (Tryz.ntmps14) rfl fun w0 own0 M => ?_)
  have hL : (xs.map prD).length = xs.length := List.length_map _
  repeat' (first | refine goH ?_ | refine goV ?_ | refine goI ?_ | (refine Cw.k_cond ?_; first | (refine Cw.cond_dec rfl (fun hc => ?_) (fun hc => ?_) <;> try (exfalso; omega)) | refine Cw.cond_bool rfl (fun hc => ?_) (fun hc => ?_)) | refine goR ?_ | refine goP ?_ | apply PSeq.cons | apply PSeq.yes rfl rfl rfl | exact goW | fail)
  refine Cw.loop (ι := Nat) (fun k => k ≤ xs.length) (fun k => [(0, .sl 2 (xs.map prD)), (1, .sl 2 (xs.map prD)), (11, .sl 2 (xs.map prD)), (12, .int (xs.map prD).length), (13, .int k)]) (fun _ => []) (fun k => xs.length - k) ⟨0, by omega, (Ent.mk goSub goTk)⟩ ?_
  intro k hk
  by_cases hkl : k < xs.length
  · obtain ⟨d, hd⟩ : ∃ x, xs[k]? = some x := ⟨_, List.getElem?_eq_getElem hkl⟩
    have hrow : (xs.map prD)[k]? = some [Tr.int d.1, Tr.int d.2] := rows_at hd
    repeat' (first | refine goH ?_ | refine goV ?_ | refine goI ?_ | (refine Cw.k_cond ?_; first | (refine Cw.cond_dec rfl (fun hc => ?_) (fun hc => ?_) <;> try (exfalso; omega)) | refine Cw.cond_bool rfl (fun hc => ?_) (fun hc => ?_)) | (apply OpV.w; apply OpV.dyc_ne_f; exact rfl; exact rfl) | refine goR ?_ | refine goP ?_ | apply PSeq.cons | apply PSeq.yes rfl rfl rfl | exact goW | fail)
    exact ⟨k + 1, by omega, by omega, (Ent.mk goSub goTk)⟩
  · repeat' (first | refine goH ?_ | refine goV ?_ | refine goI ?_ | (refine Cw.k_cond ?_; first | (refine Cw.cond_dec rfl (fun hc => ?_) (fun hc => ?_) <;> try (exfalso; omega)) | refine Cw.cond_bool rfl (fun hc => ?_) (fun hc => ?_)) | refine goR ?_ | refine goP ?_ | apply PSeq.cons | apply PSeq.yes rfl rfl rfl | exact goW | fail)
    exact Fin.ret Ent.refl (Outs.one rfl rfl) ⟨rfl, rfl⟩

theorem wnd_eq0 (n : Nat) (a b : Int) (w : World) : (Op.equalIn (n + 1 + 1) 54 (.agg #[.int .i64 a, .int .i64 b]) (.agg #[.int .i64 a, .int .i64 b])).run Tryz.prog w = .ok true w := by
  have hs : Tryz.prog.stoodInHeld 54 = false := by kernel_rfl
  simp [Op.equalIn, run_underlying Tryz.underlying54, run_underlying Tryz.underlying3, hs, part, Go.sizeOf, typeInfo]
theorem wnd_ne1 (a b : Int) (w : World) : (binOp .neq 54 (.agg #[.int .i64 a, .int .i64 b]) (.agg #[.int .i64 a, .int .i64 b])).run Tryz.prog w = .ok (.bool false) w := by
  show (do let r ← Op.equalIn (9998 + 1 + 1) 54 _ _; pure (Value.bool !r) : Sem Value).run Tryz.prog w = _
  have := wnd_eq0 9998 a b w
  generalize Op.equalIn (9998 + 1 + 1) 54 (.agg #[.int .i64 a, .int .i64 b]) (.agg #[.int .i64 a, .int .i64 b]) = s at *
  simp [this]
section
variable {Γ : Ctx} {env : Env} {cs : List Chunk} {x y : Operand} {T2 ty : TypeId}
theorem OpV.wnd_ne_f {a b : Int} (hx : ev env x = some (.agg ([.int .i64 a, .int .i64 b].map Tr.raw))) (hy : ev env y = some (.agg ([.int .i64 a, .int .i64 b].map Tr.raw))) : OpV Tryz.prog Γ (.binOp .neq 54 x y T2) ty env cs (.bool false) := by
  unfold OpV
  intro ac w d
  have h1 := agg_raw (l := [.int .i64 a, .int .i64 b]) (d.ev hx)
  have h2 := agg_raw (l := [.int .i64 a, .int .i64 b]) (d.ev hy)
  have h3 := wnd_ne1 a b w
  have h4 : (eqGuard .neq 54 x y (.agg #[.int .i64 a, .int .i64 b]) (.agg #[.int .i64 a, .int .i64 b])).run Tryz.prog w = .ok () w := by simp [eqGuard]
  exact ⟨.bool false, by simp [execOp, h1, h2, h3, h4], by unfold Tr.bool Tr.raw; rfl⟩
end
theorem equal_wnd (xs : List (Int × Int)) (h : xs.length ≤ 1000000000) : PFn Tryz.prog 18 [.sl 2 (xs.map prD), .sl 2 (xs.map prD)] (· = .bool true) := by
  refine PFn.mk (Spec.body Tryz.func18 rfl rfl (Tryz.ntmps18) rfl fun w0 own0 M => ?_)
  have hL : (xs.map prD).length = xs.length := List.length_map _
  repeat' (first | refine goH ?_ | refine goV ?_ | refine goI ?_ | (refine Cw.k_cond ?_; first | (refine Cw.cond_dec rfl (fun hc => ?_) (fun hc => ?_) <;> try (exfalso; omega)) | refine Cw.cond_bool rfl (fun hc => ?_) (fun hc => ?_)) | refine goR ?_ | refine goP ?_ | apply PSeq.cons | apply PSeq.yes rfl rfl rfl | exact goW | fail)
  refine Cw.loop (ι := Nat) (fun k => k ≤ xs.length) (fun k => [(0, .sl 2 (xs.map prD)), (1, .sl 2 (xs.map prD)), (11, .sl 2 (xs.map prD)), (12, .int (xs.map prD).length), (13, .int k)]) (fun _ => []) (fun k => xs.length - k) ⟨0, by omega, (Ent.mk goSub goTk)⟩ ?_
  intro k hk
  by_cases hkl : k < xs.length
  · obtain ⟨d, hd⟩ : ∃ x, xs[k]? = some x := ⟨_, List.getElem?_eq_getElem hkl⟩
    have hrow : (xs.map prD)[k]? = some [Tr.int d.1, Tr.int d.2] := rows_at hd
    repeat' (first | refine goH ?_ | refine goV ?_ | refine goI ?_ | (refine Cw.k_cond ?_; first | (refine Cw.cond_dec rfl (fun hc => ?_) (fun hc => ?_) <;> try (exfalso; omega)) | refine Cw.cond_bool rfl (fun hc => ?_) (fun hc => ?_)) | (apply OpV.w; apply OpV.wnd_ne_f; exact rfl; exact rfl) | refine goR ?_ | refine goP ?_ | apply PSeq.cons | apply PSeq.yes rfl rfl rfl | exact goW | fail)
    exact ⟨k + 1, by omega, by omega, (Ent.mk goSub goTk)⟩
  · repeat' (first | refine goH ?_ | refine goV ?_ | refine goI ?_ | (refine Cw.k_cond ?_; first | (refine Cw.cond_dec rfl (fun hc => ?_) (fun hc => ?_) <;> try (exfalso; omega)) | refine Cw.cond_bool rfl (fun hc => ?_) (fun hc => ?_)) | refine goR ?_ | refine goP ?_ | apply PSeq.cons | apply PSeq.yes rfl rfl rfl | exact goW | fail)
    exact Fin.ret Ent.refl (Outs.one rfl rfl) ⟨rfl, rfl⟩

theorem apt_eq0 (n : Nat) (a b c : Int) (w : World) : (Op.equalIn (n + 1 + 1) 64 (.agg #[.int .i64 a, .int .i64 b, .int .i64 c]) (.agg #[.int .i64 a, .int .i64 b, .int .i64 c])).run Tryz.prog w = .ok true w := by
  have hs : Tryz.prog.stoodInHeld 64 = false := by kernel_rfl
  simp [Op.equalIn, run_underlying Tryz.underlying64, run_underlying Tryz.underlying3, hs, part, Go.sizeOf, typeInfo]
theorem apt_ne1 (a b c : Int) (w : World) : (binOp .neq 64 (.agg #[.int .i64 a, .int .i64 b, .int .i64 c]) (.agg #[.int .i64 a, .int .i64 b, .int .i64 c])).run Tryz.prog w = .ok (.bool false) w := by
  show (do let r ← Op.equalIn (9998 + 1 + 1) 64 _ _; pure (Value.bool !r) : Sem Value).run Tryz.prog w = _
  have := apt_eq0 9998 a b c w
  generalize Op.equalIn (9998 + 1 + 1) 64 (.agg #[.int .i64 a, .int .i64 b, .int .i64 c]) (.agg #[.int .i64 a, .int .i64 b, .int .i64 c]) = s at *
  simp [this]
section
variable {Γ : Ctx} {env : Env} {cs : List Chunk} {x y : Operand} {T2 ty : TypeId}
theorem OpV.apt_ne_f {a b c : Int} (hx : ev env x = some (.agg ([.int .i64 a, .int .i64 b, .int .i64 c].map Tr.raw))) (hy : ev env y = some (.agg ([.int .i64 a, .int .i64 b, .int .i64 c].map Tr.raw))) : OpV Tryz.prog Γ (.binOp .neq 64 x y T2) ty env cs (.bool false) := by
  unfold OpV
  intro ac w d
  have h1 := agg_raw (l := [.int .i64 a, .int .i64 b, .int .i64 c]) (d.ev hx)
  have h2 := agg_raw (l := [.int .i64 a, .int .i64 b, .int .i64 c]) (d.ev hy)
  have h3 := apt_ne1 a b c w
  have h4 : (eqGuard .neq 64 x y (.agg #[.int .i64 a, .int .i64 b, .int .i64 c]) (.agg #[.int .i64 a, .int .i64 b, .int .i64 c])).run Tryz.prog w = .ok () w := by simp [eqGuard]
  exact ⟨.bool false, by simp [execOp, h1, h2, h3, h4], by unfold Tr.bool Tr.raw; rfl⟩
end
theorem equal_apt (xs : List (Int × Int × Int)) (h : xs.length ≤ 1000000000) : PFn Tryz.prog 24 [.sl 3 (xs.map prA), .sl 3 (xs.map prA)] (· = .bool true) := by
  refine PFn.mk (Spec.body Tryz.func24 rfl rfl (Tryz.ntmps24) rfl fun w0 own0 M => ?_)
  have hL : (xs.map prA).length = xs.length := List.length_map _
  repeat' (first | refine goH ?_ | refine goV ?_ | refine goI ?_ | (refine Cw.k_cond ?_; first | (refine Cw.cond_dec rfl (fun hc => ?_) (fun hc => ?_) <;> try (exfalso; omega)) | refine Cw.cond_bool rfl (fun hc => ?_) (fun hc => ?_)) | refine goR ?_ | refine goP ?_ | apply PSeq.cons | apply PSeq.yes rfl rfl rfl | exact goW | fail)
  refine Cw.loop (ι := Nat) (fun k => k ≤ xs.length) (fun k => [(0, .sl 3 (xs.map prA)), (1, .sl 3 (xs.map prA)), (11, .sl 3 (xs.map prA)), (12, .int (xs.map prA).length), (13, .int k)]) (fun _ => []) (fun k => xs.length - k) ⟨0, by omega, (Ent.mk goSub goTk)⟩ ?_
  intro k hk
  by_cases hkl : k < xs.length
  · obtain ⟨d, hd⟩ : ∃ x, xs[k]? = some x := ⟨_, List.getElem?_eq_getElem hkl⟩
    have hrow : (xs.map prA)[k]? = some [Tr.int d.1, Tr.int d.2.1, Tr.int d.2.2] := rows_at hd
    repeat' (first | refine goH ?_ | refine goV ?_ | refine goI ?_ | (refine Cw.k_cond ?_; first | (refine Cw.cond_dec rfl (fun hc => ?_) (fun hc => ?_) <;> try (exfalso; omega)) | refine Cw.cond_bool rfl (fun hc => ?_) (fun hc => ?_)) | (apply OpV.w; apply OpV.apt_ne_f; exact rfl; exact rfl) | refine goR ?_ | refine goP ?_ | apply PSeq.cons | apply PSeq.yes rfl rfl rfl | exact goW | fail)
    exact ⟨k + 1, by omega, by omega, (Ent.mk goSub goTk)⟩
  · repeat' (first | refine goH ?_ | refine goV ?_ | refine goI ?_ | (refine Cw.k_cond ?_; first | (refine Cw.cond_dec rfl (fun hc => ?_) (fun hc => ?_) <;> try (exfalso; omega)) | refine Cw.cond_bool rfl (fun hc => ?_) (fun hc => ?_)) | refine goR ?_ | refine goP ?_ | apply PSeq.cons | apply PSeq.yes rfl rfl rfl | exact goW | fail)
    exact Fin.ret Ent.refl (Outs.one rfl rfl) ⟨rfl, rfl⟩

theorem soldF_bd : ∀ {S : List Stp} {acc : List Int} {m : Int}, (∀ x ∈ acc, 0 ≤ x ∧ x ≤ m) → (∀ s ∈ S, ∀ x ∈ s.s, 0 ≤ x ∧ x ≤ 1000000) → ∀ x ∈ soldF acc S, 0 ≤ x ∧ x ≤ m + S.length * 1000000
  | [], acc, m, h, _ => fun x hx => by rw [soldF] at hx; have := h x hx; simp; omega
  | s :: S, acc, m, h, hs => fun x hx => by
    rw [soldF] at hx
    have := soldF_bd (S := S) (addL_bd h (hs s (by simp))) (fun s' h' => hs s' (by simp [h'])) x hx
    rw [List.length_cons]
    omega
theorem soldF_lenN {n : Nat} : ∀ {S : List Stp} {acc : List Int}, acc.length = n → (∀ s ∈ S, s.s.length = n) → (soldF acc S).length = n
  | [], acc, h, _ => by rw [soldF]; exact h
  | s :: S, acc, h, hs => by
    rw [soldF]
    exact soldF_lenN (addL_len h (hs s (by simp))) (fun s' h' => hs s' (by simp [h']))
/-- the readings sorted, in whichever case -/
theorem srtA (c t f : Int) (l : List Rdg) : ∃ (e : Int) (D : List Rdg), srtO c t f l = .tup [.sl 2 (D.map Rdg.row), .int e] ∧ (e = 0 → mtrE c t f = 0 ∧ (∀ r ∈ D, ROk c t r) ∧ D.length ≤ l.length) ∧ (e = 0 → D.Pairwise fun a b => a.t < b.t) := by
  by_cases h : rdsE c t f l = 0
  · cases hd : dedA [] (isort rlt l) with
    | none => exact ⟨13, [], srtO_no h hd, (fun h => by cases h), (fun h => by cases h)⟩
    | some D =>
      obtain ⟨h1, h2⟩ := rdsE_ok h
      exact ⟨0, D, srtO_yes h hd, fun _ => ⟨h1, fun r hr => h2 r (dedA_mem hd r hr), by have := dedA_len hd; rw [isort_len] at this; simpa using this⟩, fun _ => srt_asc hd⟩
  · exact ⟨_, [], srtO_bad rfl h, fun h' => absurd h' h, fun h' => absurd h' h⟩
end Lg
end
