/- A part of the proof of a law of this seat: it adds no condition. By an AI agent. -/
import Derived.Test.YtgjiiacknhdabaaDoorLgX5
set_option linter.all false
set_option maxRecDepth 100000
set_option maxHeartbeats 8000000
namespace Lg
open Go Go.Proofs

def catX (s2 s5 : Bool) (v2 v5 : Value) (E : TypeId) (rows rows2 : List (List Tr)) : List Chunk := match s5 with
  | true => [Chunk.own (vAd v5) (vCap v5) 1 E rows2]
  | false => match s2 with
    | true => [Chunk.own (vAd v2) (vCap v2) 1 E rows]
    | false => []
theorem any_drop {l : List Int} {k : Nat} {x : Int} (h : l[k]? = some x) : (l.drop k).any bC = (bC x || (l.drop (k + 1)).any bC) := by
  have hk := (List.getElem?_eq_some_iff.1 h)
  obtain ⟨hlt, e⟩ := hk
  rw [List.drop_eq_getElem_cons hlt, List.any_cons, e]
theorem walletFault_fn (w : Wal) (hb : WBd w) : PFn Tryd.prog 20 [.wal w] (· = .int (walE w)) := by
  have hS := strRows_len w.sites
  have hR := intsR_len w.rights
  have hU := intRows_len w.used
  have n1 := hb.n1
  have nr := hb.r
  have nu := hb.u
  have kS := kiosksFault_fn w.sites (by omega)
  have k1 : ∀ (n b : Nat), Spec Tryd.prog 48 [.sl 1 (intsR w.rights), Tr.raw (.func (.func 49) #[] [Value.pointer (some ⟨b, 0, none⟩)].toArray)] [Chunk.box b 3 [.int n]] (fun r cs => r = .bool (w.rights.any (formB n)) ∧ cs = [Chunk.box b 3 [.int n]]) := fun n b => containsFunc_intL (p := formB n) (caps := [.pointer (some ⟨b, 0, none⟩)]) (cin := [Chunk.box b 3 [.int n]]) (l := w.rights) (by omega) (fun x _ => formR_fn n b x)
  refine PFn.mk (Spec.body Tryd.func20 rfl rfl (Tryd.ntmps20) rfl fun w0 own0 M => ?_)
  by_cases h1 : sitE w.sites ≠ 0
  · have e : walE w = sitE w.sites := by unfold walE; rw [if_pos h1]
    rw [e]
    generalize sitE w.sites = c at *
    repeat' (first | refine goH ?_ | refine goV ?_ | refine goB (fun b => ?_) | refine goC (fun ad cap => ?_) | refine goG ?_ | (refine Ops.k_guard ?_; first | (refine Ops.guard_dec rfl rfl (fun hc => ?_) (fun hc => ?_) <;> try (exfalso; omega)) | refine Ops.guard_split rfl rfl (fun hc => ?_) (fun hc => ?_)) | refine goI ?_ | (refine Cw.k_cond ?_; first | (refine Cw.cond_dec rfl (fun hc => ?_) (fun hc => ?_) <;> try (exfalso; omega)) | refine Cw.cond_bool rfl (fun hc => ?_) (fun hc => ?_)) | (refine Ops.k_calla ?_; first | (refine Ops.k_callf 36 ?_; refine Ops.callV kS (Evs.cons rfl Evs.nil) rfl ?_)) | (apply OpW.k_call; first | (apply OpW.k_callf 36; exact OpW.callV kS (Evs.cons rfl Evs.nil))) | refine goR ?_ | refine goP ?_ | apply PSeq.cons | apply PSeq.yes rfl rfl rfl | exact goW | fail)
    exact Fin.ret (Ent.take goTk) (Outs.one rfl rfl) ⟨rfl, rfl⟩
  have h0 : sitE w.sites = 0 := by omega
  rw [h0] at kS
  repeat' (first | refine goH ?_ | refine goV ?_ | refine goB (fun b => ?_) | refine goC (fun ad cap => ?_) | refine goG ?_ | (refine Ops.k_guard ?_; first | (refine Ops.guard_dec rfl rfl (fun hc => ?_) (fun hc => ?_) <;> try (exfalso; omega)) | refine Ops.guard_split rfl rfl (fun hc => ?_) (fun hc => ?_)) | refine goI ?_ | (refine Cw.k_cond ?_; first | (refine Cw.cond_dec rfl (fun hc => ?_) (fun hc => ?_) <;> try (exfalso; omega)) | refine Cw.cond_bool rfl (fun hc => ?_) (fun hc => ?_)) | (refine Ops.k_calla ?_; first | (refine Ops.k_callf 36 ?_; refine Ops.callV kS (Evs.cons rfl Evs.nil) rfl ?_) | (refine Ops.k_callf 48 ?_; (refine Ops.call (k1 _ _) (Evs.cons rfl (Evs.cons rfl Evs.nil)) goPm rfl ?_; rintro r cs' ⟨rfl, rfl⟩))) | (apply OpW.k_call; first | (apply OpW.k_callf 36; exact OpW.callV kS (Evs.cons rfl Evs.nil))) | fail)
  · exact Fin.ret (Ent.take goTk) (Outs.one rfl rfl) ⟨rfl, congrArg Tr.int (walE_3 h0 (by unfold badForm; simp; omega)).symm⟩
  · exact Fin.ret (Ent.take goTk) (Outs.one rfl rfl) ⟨rfl, congrArg Tr.int (walE_3 h0 (by unfold badForm; simp; omega)).symm⟩
  · rename_i hc1 hc2
    rw [hS] at hc
    exact Fin.ret (Ent.take goTk) (Outs.one rfl rfl) ⟨rfl, congrArg Tr.int (walE_3 h0 (by unfold badForm; rw [hc]; simp)).symm⟩
  rename_i b1 hc1 hc2
  rw [hS] at hc
  have hbf : badForm w = false := by unfold badForm; rw [Bool.or_eq_false_iff, Bool.or_eq_false_iff]; exact ⟨by simp; omega, by simp; omega, by simpa using hc⟩
  have q1 : w.rights.flatten.length ≤ 10000 := flat_bd (n := 100) (m := 100) hb.rr (by omega)
  have hfl := intRows_len w.rights.flatten
  have k2 := concat_fn w.rights (by omega) (by omega)
  have hW3 := walE_1 h0 hbf
  have hW4 := walE_0 h0 hbf
  have hwo := wok_of h0 hbf
  clear k1 kS
  have key : intRows w.rights.flatten ++ intRows w.used = intRows (w.rights.flatten ++ w.used) := by rw [intRows_app]
  have hAl : (w.rights.flatten ++ w.used).length ≤ 20000 := by rw [List.length_append]; omega
  have hAr := intRows_len (w.rights.flatten ++ w.used)
  refine Cw.region_X (fun ξ S => Chunk.box b 3 [.int (strRows w.sites).length] :: Chunk.box b1 31 [.strs w.sites, .sl 1 (intsR w.rights), .ints w.used] :: catX (S 2) (S 5) (ξ 2) (ξ 5) 3 (intRows w.rights.flatten) (intRows w.rights.flatten ++ intRows w.used)) rfl (by decide +kernel) rfl (fun _ => rfl) ?_
  apply XSeq.w (by intro _ _ _; rfl)
  · intro ξ S h1 h2 h3 h4; exact goW
  apply XSeq.w (by intro _ _ _; rfl)
  · intro ξ S h1 h2 h3 h4; exact goW
  apply XSeq.callO k2 (fun _ => (Evs.cons rfl Evs.nil))
  · intro ξ S h1 h3 ad cap
    have e5 := closed_false h1 h3 (k := 5) rfl (by decide)
    show (_ :: _ :: catX true (S 5) (.slice ad _ cap) (ξ 5) 3 _ _).Perm (_ :: _ :: _ :: catX (S 2) (S 5) (ξ 2) (ξ 5) 3 _ _)
    rw [h1, e5]
    exact (pickS (pickS pick0))
  apply XSeq.w (by intro _ _ _; rfl)
  · intro ξ S h1 h2 h3 h4; exact goW
  apply XSeq.w (by intro _ _ _; rfl)
  · intro ξ S h1 h2 h3 h4; exact goW
  apply XSeq.append (w.rights.flatten ++ w.used).length
  · intro ξ S h1 h2 h3 h4
    have e := h2 2 (by decide)
    obtain ⟨ad, cap, hb2⟩ : ∃ ad cap, ξ 2 = .slice ad (intRows w.rights.flatten).length cap := h4 2 e
    obtain ⟨ξ, rfl⟩ := exists_upd hb2
    refine ⟨ad, (intRows w.rights.flatten).length, cap, intRows w.rights.flatten, intRows w.used, [Chunk.box b 3 [.int (strRows w.sites).length], Chunk.box b1 31 [.strs w.sites, .sl 1 (intsR w.rights), .ints w.used]], rfl, rfl, ?_, rfl, ?_, ?_, ?_, ?_⟩
    · show (_ :: _ :: catX (S 2) (S 5) (.slice ad _ cap) (ξ 5) 3 _ _).Perm _
      rw [h1, e]
      exact (pickS (pickS pick0))
    · rw [List.length_append]; omega
    · omega
    · omega
    · intro ad' cap'
      exact (pickS (pickS pick0))
  apply XSeq.w (t := Tr.int (w.rights.flatten ++ w.used).length) (by intro _ _ _; rfl)
  · intro ξ S h1 h2 h3 h4
    have e := h2 5 (by decide)
    obtain ⟨ad, cap, hb2⟩ : ∃ ad cap, ξ 5 = .slice ad (w.rights.flatten ++ w.used).length cap := h4 5 e
    obtain ⟨ξ, rfl⟩ := exists_upd hb2
    exact goW
  apply XSeq.w (by intro _ _ _; rfl)
  · intro ξ S h1 h2 h3 h4; exact goW
  refine XSeq.nil fun ξ hf => ?_
  obtain ⟨ad, cap, hb2⟩ : ∃ ad cap, ξ 5 = .slice ad (w.rights.flatten ++ w.used).length cap := hf 5
  obtain ⟨ξ, rfl⟩ := exists_upd hb2
  clear hf
  rw [key]
  refine ⟨[(1, .ptr b1), (40, Tr.raw (.slice ad (w.rights.flatten ++ w.used).length cap)), (41, .int (w.rights.flatten ++ w.used).length), (42, .int 0)], [Chunk.box b 3 [.int (strRows w.sites).length], Chunk.box b1 31 [.strs w.sites, .sl 1 (intsR w.rights), .ints w.used], Chunk.own ad cap 1 3 (intRows (w.rights.flatten ++ w.used))], Ent.sub goSub, ?_⟩
  refine Then.norm ?_
  generalize hA : w.rights.flatten ++ w.used = A at *
  clear key k2 hfl q1 hb2
  have hV0 : A.any bC = (A.drop 0).any bC := rfl
  repeat' (first | refine goH ?_ | refine goV ?_ | refine goB (fun b => ?_) | refine goC (fun ad cap => ?_) | refine goG ?_ | (refine Ops.k_guard ?_; first | (refine Ops.guard_dec rfl rfl (fun hc => ?_) (fun hc => ?_) <;> try (exfalso; omega)) | refine Ops.guard_split rfl rfl (fun hc => ?_) (fun hc => ?_)) | refine goI ?_ | (refine Cw.k_cond ?_; first | (refine Cw.cond_dec rfl (fun hc => ?_) (fun hc => ?_) <;> try (exfalso; omega)) | refine Cw.cond_bool rfl (fun hc => ?_) (fun hc => ?_)) | refine goR ?_ | refine goP ?_ | apply PSeq.cons | apply PSeq.yes rfl rfl rfl | exact goW | fail)
  refine Cw.loopI [(1, _), (40, _), (41, _)] _ (fun q e cc => ∃ (k : Nat), q = A.length - k ∧ (k ≤ A.length ∧ A.any bC = (A.drop k).any bC) ∧ e = [(42, .int k)] ∧ cc = []) ⟨_, _, _, (Ent.mkP goSub goPm), 0, rfl, ⟨by omega, hV0⟩, rfl, rfl⟩ ?_
  clear hV0
  rintro _ _ _ ⟨k, rfl, ⟨hk, hV⟩, rfl, rfl⟩
  by_cases hkl : k < A.length
  · obtain ⟨x, hx⟩ := at_lt hkl
    have hrow := intRows_at hx
    have hd := any_drop hx
    rw [hd] at hV
    by_cases g : bC x = true
    · rw [g, Bool.true_or] at hV
      have e := hW3 hV
      have g' : x < 0 ∨ 1000000000 < x := by simpa [bC] using g
      clear hW3 hW4 hwo hd hV
      repeat' (first | refine goH ?_ | refine goV ?_ | refine goB (fun b => ?_) | refine goC (fun ad cap => ?_) | refine goG ?_ | (refine Ops.k_guard ?_; first | (refine Ops.guard_dec rfl rfl (fun hc => ?_) (fun hc => ?_) <;> try (exfalso; omega)) | refine Ops.guard_split rfl rfl (fun hc => ?_) (fun hc => ?_)) | refine goI ?_ | (refine Cw.k_cond ?_; first | (refine Cw.cond_dec rfl (fun hc => ?_) (fun hc => ?_) <;> try (exfalso; omega)) | refine Cw.cond_bool rfl (fun hc => ?_) (fun hc => ?_)) | refine goR ?_ | refine goP ?_ | apply PSeq.cons | apply PSeq.yes rfl rfl rfl | exact goW | fail)
      all_goals exact Fin.ret (Ent.take goTk) (Outs.one rfl rfl) ⟨rfl, congrArg Tr.int e.symm⟩
    · have g0 : bC x = false := by simpa using g
      rw [g0, Bool.false_or] at hV
      have g' : ¬ x < 0 ∧ ¬ x > 1000000000 := by simp [bC] at g0; omega
      obtain ⟨g1, g2⟩ := g'
      clear hW3 hW4 hwo hd
      repeat' (first | refine goH ?_ | refine goV ?_ | refine goB (fun b => ?_) | refine goC (fun ad cap => ?_) | refine goG ?_ | (refine Ops.k_guard ?_; first | (refine Ops.guard_dec rfl rfl (fun hc => ?_) (fun hc => ?_) <;> try (exfalso; omega)) | refine Ops.guard_split rfl rfl (fun hc => ?_) (fun hc => ?_)) | refine goI ?_ | (refine Cw.k_cond ?_; first | (refine Cw.cond_dec rfl (fun hc => ?_) (fun hc => ?_) <;> try (exfalso; omega)) | refine Cw.cond_bool rfl (fun hc => ?_) (fun hc => ?_)) | refine goR ?_ | refine goP ?_ | apply PSeq.cons | apply PSeq.yes rfl rfl rfl | exact goW | fail)
      exact ⟨_, _, _, (Ent.mk goSub goTk), ⟨k + 1, rfl, ⟨by omega, hV⟩, rfl, rfl⟩, by omega⟩
  rw [List.drop_of_length_le (by omega), List.any_nil] at hV
  have hV0 := hW4 hV
  have hw := hwo hV
  clear hW3 hW4 hwo hV
  repeat' (first | refine goH ?_ | refine goV ?_ | refine goB (fun b => ?_) | refine goC (fun ad cap => ?_) | refine goG ?_ | (refine Ops.k_guard ?_; first | (refine Ops.guard_dec rfl rfl (fun hc => ?_) (fun hc => ?_) <;> try (exfalso; omega)) | refine Ops.guard_split rfl rfl (fun hc => ?_) (fun hc => ?_)) | refine goI ?_ | (refine Cw.k_cond ?_; first | (refine Cw.cond_dec rfl (fun hc => ?_) (fun hc => ?_) <;> try (exfalso; omega)) | refine Cw.cond_bool rfl (fun hc => ?_) (fun hc => ?_)) | refine goR ?_ | refine goP ?_ | apply PSeq.cons | apply PSeq.yes rfl rfl rfl | exact goW | fail)
  refine Cw.loopI [(1, _), (55, _)] _ (fun q e cc => ∃ (k : Nat), q = w.sites.length - k ∧ (k ≤ w.sites.length ∧ walE w = firstE (rgtE w) k (w.sites.length - k)) ∧ e = [(56, .int k)] ∧ cc = []) ⟨_, _, _, (Ent.mkP goSub goPm), 0, rfl, ⟨by omega, hV0⟩, rfl, rfl⟩ ?_
  clear hV0
  rintro _ _ _ ⟨k, rfl, ⟨hk, hV⟩, rfl, rfl⟩
  by_cases hkl : k < w.sites.length
  rotate_left
  · repeat' (first | refine goH ?_ | refine goV ?_ | refine goB (fun b => ?_) | refine goC (fun ad cap => ?_) | refine goG ?_ | (refine Ops.k_guard ?_; first | (refine Ops.guard_dec rfl rfl (fun hc => ?_) (fun hc => ?_) <;> try (exfalso; omega)) | refine Ops.guard_split rfl rfl (fun hc => ?_) (fun hc => ?_)) | refine goI ?_ | (refine Cw.k_cond ?_; first | (refine Cw.cond_dec rfl (fun hc => ?_) (fun hc => ?_) <;> try (exfalso; omega)) | refine Cw.cond_bool rfl (fun hc => ?_) (fun hc => ?_)) | refine goR ?_ | refine goP ?_ | apply PSeq.cons | apply PSeq.yes rfl rfl rfl | exact goW | fail)
    refine Fin.ret (Ent.take goTk) (Outs.one rfl rfl) ⟨rfl, congrArg Tr.int ?_⟩
    rw [hV, firstE_end hkl]
  have kR := rightsR_fn w hw k hkl
  have fin : ∀ c, rgtE w k = c → c ≠ 0 → walE w = c := fun c h1 h2 => hV.trans (firstE_bad hkl h1 h2)
  have nxt : rgtE w k = 0 → walE w = firstE (rgtE w) (k + 1) (w.sites.length - (k + 1)) := fun h1 => hV.trans (firstE_ok hkl h1)
  have hE : rgtE w k = if rgt w k < 0 then 16 else 0 := rfl
  clear hV
  by_cases g : rgt w k < 0
  · rw [if_pos g] at hE
    have hF := fin 16 hE (by decide)
    clear fin nxt
    repeat' (first | refine goH ?_ | refine goV ?_ | refine goB (fun b => ?_) | refine goC (fun ad cap => ?_) | refine goG ?_ | (refine Ops.k_guard ?_; first | (refine Ops.guard_dec rfl rfl (fun hc => ?_) (fun hc => ?_) <;> try (exfalso; omega)) | refine Ops.guard_split rfl rfl (fun hc => ?_) (fun hc => ?_)) | refine goI ?_ | (refine Cw.k_cond ?_; first | (refine Cw.cond_dec rfl (fun hc => ?_) (fun hc => ?_) <;> try (exfalso; omega)) | refine Cw.cond_bool rfl (fun hc => ?_) (fun hc => ?_)) | (refine Ops.k_calla ?_; first | (refine Ops.k_callf 50 ?_; refine Ops.callV kR (Evs.cons rfl (Evs.cons rfl Evs.nil)) rfl ?_)) | (apply OpW.k_call; first | (apply OpW.k_callf 50; exact OpW.callV kR (Evs.cons rfl (Evs.cons rfl Evs.nil)))) | refine goR ?_ | refine goP ?_ | apply PSeq.cons | apply PSeq.yes rfl rfl rfl | exact goW | fail)
    exact Fin.ret (Ent.take goTk) (Outs.one rfl rfl) ⟨rfl, congrArg Tr.int hF.symm⟩
  · rw [if_neg g] at hE
    have hN := nxt hE
    clear fin nxt
    repeat' (first | refine goH ?_ | refine goV ?_ | refine goB (fun b => ?_) | refine goC (fun ad cap => ?_) | refine goG ?_ | (refine Ops.k_guard ?_; first | (refine Ops.guard_dec rfl rfl (fun hc => ?_) (fun hc => ?_) <;> try (exfalso; omega)) | refine Ops.guard_split rfl rfl (fun hc => ?_) (fun hc => ?_)) | refine goI ?_ | (refine Cw.k_cond ?_; first | (refine Cw.cond_dec rfl (fun hc => ?_) (fun hc => ?_) <;> try (exfalso; omega)) | refine Cw.cond_bool rfl (fun hc => ?_) (fun hc => ?_)) | (refine Ops.k_calla ?_; first | (refine Ops.k_callf 50 ?_; refine Ops.callV kR (Evs.cons rfl (Evs.cons rfl Evs.nil)) rfl ?_)) | (apply OpW.k_call; first | (apply OpW.k_callf 50; exact OpW.callV kR (Evs.cons rfl (Evs.cons rfl Evs.nil)))) | refine goR ?_ | refine goP ?_ | apply PSeq.cons | apply PSeq.yes rfl rfl rfl | exact goW | fail)
    exact ⟨_, _, _, (Ent.mk goSub goTk), ⟨k + 1, rfl, ⟨by omega, hN⟩, rfl, rfl⟩, by omega⟩
end Lg
set_option linter.all false
set_option maxRecDepth 100000
set_option maxHeartbeats 4000000
namespace Lg
open Go Go.Proofs
theorem equalStrs_same (xs : List ByteArray) (h : xs.length ≤ 1000000000) : PFn Tryd.prog 43 [.strs xs, .strs xs] (· = .bool true) := by
  refine PFn.mk (Spec.body Tryd.func43 rfl rfl (Tryd.ntmps43) rfl fun w0 own0 M => ?_)
  have hL := strRows_len xs
  repeat' (first | refine goH ?_ | refine goV ?_ | refine goI ?_ | (refine Cw.k_cond ?_; first | (refine Cw.cond_dec rfl (fun hc => ?_) (fun hc => ?_) <;> try (exfalso; omega)) | refine Cw.cond_bool rfl (fun hc => ?_) (fun hc => ?_)) | refine goR ?_ | refine goP ?_ | apply PSeq.cons | apply PSeq.yes rfl rfl rfl | exact goW | fail)
  refine Cw.loop (ι := Nat) (fun k => k ≤ xs.length) (fun k => [(0, .strs xs), (1, .strs xs), (11, .strs xs), (12, .int (strRows xs).length), (13, .int k)]) (fun _ => []) (fun k => xs.length - k) ⟨0, by omega, (Ent.mk goSub goTk)⟩ ?_
  intro k hk
  by_cases hkl : k < xs.length
  · obtain ⟨d, hd⟩ : ∃ x, xs[k]? = some x := ⟨_, List.getElem?_eq_getElem hkl⟩
    have hrow := strRows_at hd
    repeat' (first | refine goH ?_ | refine goV ?_ | refine goI ?_ | (refine Cw.k_cond ?_; first | (refine Cw.cond_dec rfl (fun hc => ?_) (fun hc => ?_) <;> try (exfalso; omega)) | refine Cw.cond_bool rfl (fun hc => ?_) (fun hc => ?_)) | refine goR ?_ | refine goP ?_ | apply PSeq.cons | apply PSeq.yes rfl rfl rfl | exact goW | fail)
    all_goals first | exact ⟨k + 1, by omega, by omega, (Ent.mk goSub goTk)⟩ | exact absurd rfl hc
  · repeat' (first | refine goH ?_ | refine goV ?_ | refine goI ?_ | (refine Cw.k_cond ?_; first | (refine Cw.cond_dec rfl (fun hc => ?_) (fun hc => ?_) <;> try (exfalso; omega)) | refine Cw.cond_bool rfl (fun hc => ?_) (fun hc => ?_)) | refine goR ?_ | refine goP ?_ | apply PSeq.cons | apply PSeq.yes rfl rfl rfl | exact goW | fail)
    exact Fin.ret Ent.refl (Outs.one rfl rfl) ⟨rfl, rfl⟩
end Lg
set_option linter.all false
set_option maxRecDepth 100000
set_option maxHeartbeats 8000000
namespace Lg
open Go Go.Proofs

theorem drop_ne {a b : List ByteArray} {k : Nat} {x y : ByteArray} (h1 : a[k]? = some x) (h2 : b[k]? = some y) (h : x ≠ y) : a ≠ b := by
  rintro rfl
  rw [h1] at h2
  exact h (Option.some.inj h2)
theorem equalStrs_fn (a b : List ByteArray) (ha : a.length ≤ 1000000) (hb : b.length ≤ 1000000) : PFn Tryd.prog 43 [.strs a, .strs b] (· = .bool (decide (a = b))) := by
  refine PFn.mk (Spec.body Tryd.func43 rfl rfl (Tryd.ntmps43) rfl fun w0 own0 M => ?_)
  have hA := strRows_len a
  have hB := strRows_len b
  by_cases hl : a.length = b.length
  rotate_left
  · have e : decide (a = b) = false := decide_eq_false (fun e => hl (by rw [e]))
    repeat' (first | refine goH ?_ | refine goV ?_ | refine goI ?_ | (refine Cw.k_cond ?_; first | (refine Cw.cond_dec rfl (fun hc => ?_) (fun hc => ?_) <;> try (exfalso; omega)) | refine Cw.cond_bool rfl (fun hc => ?_) (fun hc => ?_)) | refine goR ?_ | refine goP ?_ | apply PSeq.cons | apply PSeq.yes rfl rfl rfl | exact goW | fail)
    exact Fin.ret (Ent.take goTk) (Outs.one rfl rfl) ⟨rfl, congrArg Tr.bool e.symm⟩
  repeat' (first | refine goH ?_ | refine goV ?_ | refine goI ?_ | (refine Cw.k_cond ?_; first | (refine Cw.cond_dec rfl (fun hc => ?_) (fun hc => ?_) <;> try (exfalso; omega)) | refine Cw.cond_bool rfl (fun hc => ?_) (fun hc => ?_)) | refine goR ?_ | refine goP ?_ | apply PSeq.cons | apply PSeq.yes rfl rfl rfl | exact goW | fail)
  refine Cw.loopI [(0, _), (1, _), (11, _), (12, _)] _ (fun q e cc => ∃ (k : Nat), q = a.length - k ∧ (k ≤ a.length ∧ ∀ j, j < k → a[j]? = b[j]?) ∧ e = [(13, .int k)] ∧ cc = []) ⟨_, _, _, (Ent.mkP goSub goPm), 0, rfl, ⟨by omega, fun j h => absurd h (by omega)⟩, rfl, rfl⟩ ?_
  rintro _ _ _ ⟨k, rfl, ⟨hk, hV⟩, rfl, rfl⟩
  by_cases hkl : k < a.length
  · obtain ⟨x, hx⟩ := at_lt hkl
    obtain ⟨y, hy⟩ := at_lt (l := b) (k := k) (by omega)
    have hr1 := strRows_at hx
    have hr2 := strRows_at hy
    by_cases hxy : x = y
    · have nx : ∀ j, j < k + 1 → a[j]? = b[j]? := by
        intro j hj
        by_cases e : j = k
        · subst e; rw [hx, hy, hxy]
        · exact hV j (by omega)
      subst hxy
      clear hV
      repeat' (first | refine goH ?_ | refine goV ?_ | refine goI ?_ | (refine Cw.k_cond ?_; first | (refine Cw.cond_dec rfl (fun hc => ?_) (fun hc => ?_) <;> try (exfalso; omega)) | refine Cw.cond_bool rfl (fun hc => ?_) (fun hc => ?_)) | refine goR ?_ | refine goP ?_ | apply PSeq.cons | apply PSeq.yes rfl rfl rfl | exact goW | fail)
      all_goals first | exact ⟨_, _, _, (Ent.mk goSub goTk), ⟨k + 1, rfl, ⟨by omega, nx⟩, rfl, rfl⟩, by omega⟩ | exact absurd rfl hc
    · have e : decide (a = b) = false := decide_eq_false (drop_ne hx hy hxy)
      clear hV
      repeat' (first | refine goH ?_ | refine goV ?_ | refine goI ?_ | (refine Cw.k_cond ?_; first | (refine Cw.cond_dec rfl (fun hc => ?_) (fun hc => ?_) <;> try (exfalso; omega)) | refine Cw.cond_bool rfl (fun hc => ?_) (fun hc => ?_)) | refine goR ?_ | refine goP ?_ | apply PSeq.cons | apply PSeq.yes rfl rfl rfl | exact goW | fail)
      all_goals first | exact Fin.ret (Ent.take goTk) (Outs.one rfl rfl) ⟨rfl, congrArg Tr.bool e.symm⟩ | (exfalso; simp_all; done)
  · have e : decide (a = b) = true := by
      refine decide_eq_true (List.ext_getElem? fun j => ?_)
      by_cases hj : j < k
      · exact hV j hj
      · rw [List.getElem?_eq_none (by omega), List.getElem?_eq_none (by omega)]
    clear hV
    repeat' (first | refine goH ?_ | refine goV ?_ | refine goI ?_ | (refine Cw.k_cond ?_; first | (refine Cw.cond_dec rfl (fun hc => ?_) (fun hc => ?_) <;> try (exfalso; omega)) | refine Cw.cond_bool rfl (fun hc => ?_) (fun hc => ?_)) | refine goR ?_ | refine goP ?_ | apply PSeq.cons | apply PSeq.yes rfl rfl rfl | exact goW | fail)
    exact Fin.ret (Ent.take goTk) (Outs.one rfl rfl) ⟨rfl, congrArg Tr.bool e.symm⟩
def pairE (a b : Wal) : Int := if orI [walE a, walE b] ≠ 0 then orI [walE a, walE b] else if decide (a.sites = b.sites) = true then 0 else 3
theorem pairE_ok {a b : Wal} (h : pairE a b = 0) : walE a = 0 ∧ walE b = 0 ∧ b.sites = a.sites := by
  unfold pairE at h
  by_cases h1 : orI [walE a, walE b] ≠ 0
  · rw [if_pos h1] at h; exact absurd h h1
  rw [if_neg h1] at h
  by_cases h2 : decide (a.sites = b.sites) = true
  · have h1' : orI [walE a, walE b] = 0 := by omega
    rw [orI_cons] at h1'
    by_cases g : walE a ≠ 0
    · rw [if_pos g] at h1'; exact absurd h1' g
    rw [if_neg g, orI_cons] at h1'
    by_cases g2 : walE b ≠ 0
    · rw [if_pos g2] at h1'; exact absurd h1' g2
    exact ⟨by omega, by omega, (of_decide_eq_true h2).symm⟩
  · rw [if_neg h2] at h; cases h
theorem pairD_fn (a b : Wal) (ha : WBd a) (hb : WBd b) : PFn Tryd.prog 37 [.wal a, .wal b] (· = .int (pairE a b)) := by
  have kA := checkWallet_fn a ha
  have kB := checkWallet_fn b hb
  have n1 := ha.n1
  have n2 := hb.n1
  have kO := cmpOr_fn [walE a, walE b] (by simp)
  have kE := equalStrs_fn a.sites b.sites (by omega) (by omega)
  refine PFn.mk (Spec.body Tryd.func37 rfl rfl (Tryd.ntmps37) rfl fun w0 own0 M => ?_)
  unfold pairE
  by_cases h1 : orI [walE a, walE b] ≠ 0
  · rw [if_pos h1]
    generalize hX : walE a = x at *
    generalize hY : walE b = y at *
    generalize orI [x, y] = o at *
    repeat' (first | refine goH ?_ | refine goV ?_ | refine goB (fun b => ?_) | refine goI ?_ | (refine Cw.k_cond ?_; first | (refine Cw.cond_dec rfl (fun hc => ?_) (fun hc => ?_) <;> try (exfalso; omega)) | refine Cw.cond_bool rfl (fun hc => ?_) (fun hc => ?_)) | (refine Ops.k_calla ?_; first | (refine Ops.k_callf 21 ?_; refine Ops.callV kA (Evs.cons rfl Evs.nil) rfl ?_) | (refine Ops.k_callf 21 ?_; refine Ops.callV kB (Evs.cons rfl Evs.nil) rfl ?_) | (refine Ops.k_callf 60 ?_; refine Ops.callV kO (Evs.cons rfl Evs.nil) rfl ?_)) | (apply OpW.k_call; first | (apply OpW.k_callf 21; exact OpW.callV kA (Evs.cons rfl Evs.nil)) | (apply OpW.k_callf 21; exact OpW.callV kB (Evs.cons rfl Evs.nil)) | (apply OpW.k_callf 60; exact OpW.callV kO (Evs.cons rfl Evs.nil))) | refine goR ?_ | refine goP ?_ | apply PSeq.cons | apply PSeq.yes rfl rfl rfl | exact goW | fail)
    exact Fin.ret (Ent.take goTk) (Outs.one rfl rfl) ⟨rfl, rfl⟩
  · rw [if_neg h1]
    have h0 : orI [walE a, walE b] = 0 := by omega
    rw [h0] at kO
    generalize hX : walE a = x at *
    generalize hY : walE b = y at *
    by_cases h2 : decide (a.sites = b.sites) = true
    · rw [if_pos h2]
      rw [h2] at kE
      repeat' (first | refine goH ?_ | refine goV ?_ | refine goB (fun b => ?_) | refine goI ?_ | (refine Cw.k_cond ?_; first | (refine Cw.cond_dec rfl (fun hc => ?_) (fun hc => ?_) <;> try (exfalso; omega)) | refine Cw.cond_bool rfl (fun hc => ?_) (fun hc => ?_)) | (refine Ops.k_calla ?_; first | (refine Ops.k_callf 21 ?_; refine Ops.callV kA (Evs.cons rfl Evs.nil) rfl ?_) | (refine Ops.k_callf 21 ?_; refine Ops.callV kB (Evs.cons rfl Evs.nil) rfl ?_) | (refine Ops.k_callf 60 ?_; refine Ops.callV kO (Evs.cons rfl Evs.nil) rfl ?_) | (refine Ops.k_callf 43 ?_; refine Ops.callV kE (Evs.cons rfl (Evs.cons rfl Evs.nil)) rfl ?_)) | (apply OpW.k_call; first | (apply OpW.k_callf 21; exact OpW.callV kA (Evs.cons rfl Evs.nil)) | (apply OpW.k_callf 21; exact OpW.callV kB (Evs.cons rfl Evs.nil)) | (apply OpW.k_callf 60; exact OpW.callV kO (Evs.cons rfl Evs.nil)) | (apply OpW.k_callf 43; exact OpW.callV kE (Evs.cons rfl (Evs.cons rfl Evs.nil)))) | refine goR ?_ | refine goP ?_ | apply PSeq.cons | apply PSeq.yes rfl rfl rfl | exact goW | fail)
      exact Fin.ret (Ent.take goTk) (Outs.one rfl rfl) ⟨rfl, rfl⟩
    · rw [if_neg h2]
      have h3 : decide (a.sites = b.sites) = false := by simpa using h2
      rw [h3] at kE
      repeat' (first | refine goH ?_ | refine goV ?_ | refine goB (fun b => ?_) | refine goI ?_ | (refine Cw.k_cond ?_; first | (refine Cw.cond_dec rfl (fun hc => ?_) (fun hc => ?_) <;> try (exfalso; omega)) | refine Cw.cond_bool rfl (fun hc => ?_) (fun hc => ?_)) | (refine Ops.k_calla ?_; first | (refine Ops.k_callf 21 ?_; refine Ops.callV kA (Evs.cons rfl Evs.nil) rfl ?_) | (refine Ops.k_callf 21 ?_; refine Ops.callV kB (Evs.cons rfl Evs.nil) rfl ?_) | (refine Ops.k_callf 60 ?_; refine Ops.callV kO (Evs.cons rfl Evs.nil) rfl ?_) | (refine Ops.k_callf 43 ?_; refine Ops.callV kE (Evs.cons rfl (Evs.cons rfl Evs.nil)) rfl ?_)) | (apply OpW.k_call; first | (apply OpW.k_callf 21; exact OpW.callV kA (Evs.cons rfl Evs.nil)) | (apply OpW.k_callf 21; exact OpW.callV kB (Evs.cons rfl Evs.nil)) | (apply OpW.k_callf 60; exact OpW.callV kO (Evs.cons rfl Evs.nil)) | (apply OpW.k_callf 43; exact OpW.callV kE (Evs.cons rfl (Evs.cons rfl Evs.nil)))) | refine goR ?_ | refine goP ?_ | apply PSeq.cons | apply PSeq.yes rfl rfl rfl | exact goW | fail)
      exact Fin.ret (Ent.take goTk) (Outs.one rfl rfl) ⟨rfl, rfl⟩
theorem pairR_fn (a b : Wal) (ha : WBd a) (hb : WBd b) : PFn Tryd.prog 40 [.wal a, .wal b] (· = .int (pairE a b)) := by
  have kA := walletFault_fn a ha
  have kB := walletFault_fn b hb
  have n1 := ha.n1
  have n2 := hb.n1
  have kO := cmpOr_fn [walE a, walE b] (by simp)
  have kE := equalStrs_fn a.sites b.sites (by omega) (by omega)
  refine PFn.mk (Spec.body Tryd.func40 rfl rfl (Tryd.ntmps40) rfl fun w0 own0 M => ?_)
  unfold pairE
  by_cases h1 : orI [walE a, walE b] ≠ 0
  · rw [if_pos h1]
    generalize hX : walE a = x at *
    generalize hY : walE b = y at *
    generalize orI [x, y] = o at *
    repeat' (first | refine goH ?_ | refine goV ?_ | refine goB (fun b => ?_) | refine goI ?_ | (refine Cw.k_cond ?_; first | (refine Cw.cond_dec rfl (fun hc => ?_) (fun hc => ?_) <;> try (exfalso; omega)) | refine Cw.cond_bool rfl (fun hc => ?_) (fun hc => ?_)) | (refine Ops.k_calla ?_; first | (refine Ops.k_callf 20 ?_; refine Ops.callV kA (Evs.cons rfl Evs.nil) rfl ?_) | (refine Ops.k_callf 20 ?_; refine Ops.callV kB (Evs.cons rfl Evs.nil) rfl ?_) | (refine Ops.k_callf 60 ?_; refine Ops.callV kO (Evs.cons rfl Evs.nil) rfl ?_)) | (apply OpW.k_call; first | (apply OpW.k_callf 20; exact OpW.callV kA (Evs.cons rfl Evs.nil)) | (apply OpW.k_callf 20; exact OpW.callV kB (Evs.cons rfl Evs.nil)) | (apply OpW.k_callf 60; exact OpW.callV kO (Evs.cons rfl Evs.nil))) | refine goR ?_ | refine goP ?_ | apply PSeq.cons | apply PSeq.yes rfl rfl rfl | exact goW | fail)
    exact Fin.ret (Ent.take goTk) (Outs.one rfl rfl) ⟨rfl, rfl⟩
  · rw [if_neg h1]
    have h0 : orI [walE a, walE b] = 0 := by omega
    rw [h0] at kO
    generalize hX : walE a = x at *
    generalize hY : walE b = y at *
    by_cases h2 : decide (a.sites = b.sites) = true
    · rw [if_pos h2]
      rw [h2] at kE
      repeat' (first | refine goH ?_ | refine goV ?_ | refine goB (fun b => ?_) | refine goI ?_ | (refine Cw.k_cond ?_; first | (refine Cw.cond_dec rfl (fun hc => ?_) (fun hc => ?_) <;> try (exfalso; omega)) | refine Cw.cond_bool rfl (fun hc => ?_) (fun hc => ?_)) | (refine Ops.k_calla ?_; first | (refine Ops.k_callf 20 ?_; refine Ops.callV kA (Evs.cons rfl Evs.nil) rfl ?_) | (refine Ops.k_callf 20 ?_; refine Ops.callV kB (Evs.cons rfl Evs.nil) rfl ?_) | (refine Ops.k_callf 60 ?_; refine Ops.callV kO (Evs.cons rfl Evs.nil) rfl ?_) | (refine Ops.k_callf 43 ?_; refine Ops.callV kE (Evs.cons rfl (Evs.cons rfl Evs.nil)) rfl ?_)) | (apply OpW.k_call; first | (apply OpW.k_callf 20; exact OpW.callV kA (Evs.cons rfl Evs.nil)) | (apply OpW.k_callf 20; exact OpW.callV kB (Evs.cons rfl Evs.nil)) | (apply OpW.k_callf 60; exact OpW.callV kO (Evs.cons rfl Evs.nil)) | (apply OpW.k_callf 43; exact OpW.callV kE (Evs.cons rfl (Evs.cons rfl Evs.nil)))) | refine goR ?_ | refine goP ?_ | apply PSeq.cons | apply PSeq.yes rfl rfl rfl | exact goW | fail)
      exact Fin.ret (Ent.take goTk) (Outs.one rfl rfl) ⟨rfl, rfl⟩
    · rw [if_neg h2]
      have h3 : decide (a.sites = b.sites) = false := by simpa using h2
      rw [h3] at kE
      repeat' (first | refine goH ?_ | refine goV ?_ | refine goB (fun b => ?_) | refine goI ?_ | (refine Cw.k_cond ?_; first | (refine Cw.cond_dec rfl (fun hc => ?_) (fun hc => ?_) <;> try (exfalso; omega)) | refine Cw.cond_bool rfl (fun hc => ?_) (fun hc => ?_)) | (refine Ops.k_calla ?_; first | (refine Ops.k_callf 20 ?_; refine Ops.callV kA (Evs.cons rfl Evs.nil) rfl ?_) | (refine Ops.k_callf 20 ?_; refine Ops.callV kB (Evs.cons rfl Evs.nil) rfl ?_) | (refine Ops.k_callf 60 ?_; refine Ops.callV kO (Evs.cons rfl Evs.nil) rfl ?_) | (refine Ops.k_callf 43 ?_; refine Ops.callV kE (Evs.cons rfl (Evs.cons rfl Evs.nil)) rfl ?_)) | (apply OpW.k_call; first | (apply OpW.k_callf 20; exact OpW.callV kA (Evs.cons rfl Evs.nil)) | (apply OpW.k_callf 20; exact OpW.callV kB (Evs.cons rfl Evs.nil)) | (apply OpW.k_callf 60; exact OpW.callV kO (Evs.cons rfl Evs.nil)) | (apply OpW.k_callf 43; exact OpW.callV kE (Evs.cons rfl (Evs.cons rfl Evs.nil)))) | refine goR ?_ | refine goP ?_ | apply PSeq.cons | apply PSeq.yes rfl rfl rfl | exact goW | fail)
      exact Fin.ret (Ent.take goTk) (Outs.one rfl rfl) ⟨rfl, rfl⟩
theorem equalFunc_same (L : List (List Int)) (hL : L.length ≤ 100000) (hl : ∀ l ∈ L, l.length ≤ 1000000) : PFn Tryd.prog 45 [.sl 1 (intsR L), .sl 1 (intsR L), Tr.raw (.func (.func 44) #[] #[])] (· = .bool true) := by
  refine PFn.mk (Spec.body Tryd.func45 rfl rfl (Tryd.ntmps45) rfl fun w0 own0 M => ?_)
  have hR := intsR_len L
  repeat' (first | refine goH ?_ | refine goV ?_ | refine goI ?_ | (refine Cw.k_cond ?_; first | (refine Cw.cond_dec rfl (fun hc => ?_) (fun hc => ?_) <;> try (exfalso; omega)) | refine Cw.cond_bool rfl (fun hc => ?_) (fun hc => ?_)) | fail)
  refine Cw.loopI [(1, _), (2, _), (15, _), (16, _)] _ (fun q e cc => ∃ (k : Nat), q = L.length - k ∧ (k ≤ L.length) ∧ e = [(17, .int k)] ∧ cc = []) ⟨_, _, _, (Ent.mkP goSub goPm), 0, rfl, by omega, rfl, rfl⟩ ?_
  rintro _ _ _ ⟨k, rfl, hk, rfl, rfl⟩
  by_cases hkl : k < L.length
  · obtain ⟨l, hx⟩ := at_lt hkl
    have hr1 := intsR_at hx
    have hlb := hl l (List.mem_of_getElem? hx)
    have kE := (equalInts_same l (by omega)).lend
    repeat' (first | refine goH ?_ | refine goV ?_ | refine goI ?_ | (refine Cw.k_cond ?_; first | (refine Cw.cond_dec rfl (fun hc => ?_) (fun hc => ?_) <;> try (exfalso; omega)) | refine Cw.cond_bool rfl (fun hc => ?_) (fun hc => ?_)) | (refine Ops.k_calla ?_; first | refine Ops.callS_fn (caps := []) (args := [.ints l, .ints l]) rfl kE (Evs.cons rfl (Evs.cons rfl Evs.nil)) (List.Perm.refl _) rfl ?_) | fail)
    exact ⟨_, _, _, (Ent.mk goSub goTk), ⟨k + 1, rfl, by omega, rfl, rfl⟩, by omega⟩
  · repeat' (first | refine goH ?_ | refine goV ?_ | refine goI ?_ | (refine Cw.k_cond ?_; first | (refine Cw.cond_dec rfl (fun hc => ?_) (fun hc => ?_) <;> try (exfalso; omega)) | refine Cw.cond_bool rfl (fun hc => ?_) (fun hc => ?_)) | fail)
    exact Fin.ret (Ent.take goTk) (Outs.one rfl rfl) ⟨rfl, rfl⟩
theorem sameWallet_fn (w : Wal) (h : WBd w) : PFn Tryd.prog 15 [.wal w, .wal w] (· = .bool true) := by
  have n1 := h.n1
  have n2 := h.r
  have n3 := h.u
  have k1 := equalStrs_same w.sites (by omega)
  have k2 := equalInts_same w.used (by omega)
  have k3 := equalFunc_same w.rights (by omega) (fun l hl => by have := h.rr l hl; omega)
  refine PFn.mk (Spec.body Tryd.func15 rfl rfl (Tryd.ntmps15) rfl fun w0 own0 M => ?_)
  repeat' (first | refine goH ?_ | refine goV ?_ | refine goB (fun b => ?_) | refine goG ?_ | (refine Ops.k_guard ?_; first | (refine Ops.guard_dec rfl rfl (fun hc => ?_) (fun hc => ?_) <;> try (exfalso; omega)) | refine Ops.guard_split rfl rfl (fun hc => ?_) (fun hc => ?_)) | refine goI ?_ | (refine Cw.k_cond ?_; first | (refine Cw.cond_dec rfl (fun hc => ?_) (fun hc => ?_) <;> try (exfalso; omega)) | refine Cw.cond_bool rfl (fun hc => ?_) (fun hc => ?_)) | (refine Ops.k_calla ?_; first | (refine Ops.k_callf 43 ?_; refine Ops.callV k1 (Evs.cons rfl (Evs.cons rfl Evs.nil)) rfl ?_) | (refine Ops.k_callf 44 ?_; refine Ops.callV k2 (Evs.cons rfl (Evs.cons rfl Evs.nil)) rfl ?_) | (refine Ops.k_callf 45 ?_; refine Ops.callV k3 (Evs.cons rfl (Evs.cons rfl (Evs.cons rfl Evs.nil))) rfl ?_)) | fail)
  exact Fin.ret (Ent.take goTk) (Outs.one rfl rfl) ⟨rfl, rfl⟩
end Lg
set_option linter.all false
set_option maxRecDepth 100000
set_option maxHeartbeats 4000000
namespace Lg
open Go Go.Proofs

/-! ### merged wallets, and what a wallet knows -/
def mxL (x y : List Int) : List Int := List.zipWith max x y
def mxR (A B : List (List Int)) : List (List Int) := List.zipWith mxL A B
def mrgW (a b : Wal) : Wal := ⟨a.sites, mxR a.rights b.rights, mxL a.used b.used⟩
theorem mxL_len {x y : List Int} (h : y.length = x.length) : (mxL x y).length = x.length := by unfold mxL; rw [List.length_zipWith]; omega
theorem mxR_len {x y : List (List Int)} (h : y.length = x.length) : (mxR x y).length = x.length := by unfold mxR; rw [List.length_zipWith]; omega
theorem mxL_at {x y : List Int} {k : Nat} {a b : Int} (h1 : x[k]? = some a) (h2 : y[k]? = some b) : (mxL x y)[k]? = some (max a b) := by unfold mxL; rw [List.getElem?_zipWith, h1, h2]
theorem mxR_at {x y : List (List Int)} {k : Nat} {a b : List Int} (h1 : x[k]? = some a) (h2 : y[k]? = some b) : (mxR x y)[k]? = some (mxL a b) := by unfold mxR; rw [List.getElem?_zipWith, h1, h2]
/-- a list that is replaced from the front on -/
def mixL {α : Type} (m l : List α) (k : Nat) : List α := m.take k ++ l.drop k
theorem mixL_zero {α : Type} (m l : List α) : mixL m l 0 = l := by simp [mixL]
theorem mixL_len {α : Type} {m l : List α} {k : Nat} (h : m.length = l.length) (hk : k ≤ l.length) : (mixL m l k).length = l.length := by unfold mixL; rw [List.length_append, List.length_take, List.length_drop]; omega
theorem mixL_all {α : Type} {m l : List α} {k : Nat} (h : m.length = l.length) (hk : l.length ≤ k) : mixL m l k = m := by unfold mixL; rw [List.take_of_length_le (by omega), List.drop_of_length_le hk, List.append_nil]
theorem mixL_at {α : Type} {m l : List α} {k : Nat} (h : m.length = l.length) (hk : k < l.length) : (mixL m l k)[k]? = l[k]? := by
  unfold mixL
  rw [List.getElem?_append_right (by rw [List.length_take]; omega), List.length_take, List.getElem?_drop, Nat.min_eq_left (by omega)]
  congr 1
  omega
theorem mixL_set {α : Type} {m l : List α} {k : Nat} {x : α} (h : m.length = l.length) (hx : m[k]? = some x) : (mixL m l k).set k x = mixL m l (k + 1) := by
  have hk := (List.getElem?_eq_some_iff.1 hx).1
  unfold mixL
  rw [List.set_append_right _ _ (by rw [List.length_take]; omega), List.length_take, Nat.min_eq_left (by omega), Nat.sub_self]
  have e : l.drop k = l[k] :: l.drop (k + 1) := List.drop_eq_getElem_cons (by omega)
  rw [e, List.set_cons_zero]
  have e2 : m.take (k + 1) = m.take k ++ [x] := by
    rw [List.take_succ, hx]
    rfl
  rw [e2, List.append_assoc]
  rfl
theorem WOk.mrg {a b : Wal} (ha : WOk a) (hb : WOk b) (hs : b.sites = a.sites) : WOk (mrgW a b) := by
  have h1 := ha.r
  have h2 := hb.r
  have h3 := ha.u
  have h4 := hb.u
  rw [hs] at h2 h4
  have mem2 : ∀ {x y : List Int}, (∀ n ∈ x, 0 ≤ n ∧ n ≤ 1000000000) → (∀ n ∈ y, 0 ≤ n ∧ n ≤ 1000000000) → ∀ n ∈ mxL x y, 0 ≤ n ∧ n ≤ 1000000000 := by
    intro x y hx hy n hn
    obtain ⟨k, hk, rfl⟩ := List.getElem_of_mem hn
    unfold mxL at hk ⊢
    rw [List.length_zipWith] at hk
    rw [List.getElem_zipWith]
    have := hx _ (List.getElem_mem (show k < x.length by omega))
    have := hy _ (List.getElem_mem (show k < y.length by omega))
    omega
  have memR : ∀ l ∈ mxR a.rights b.rights, ∃ x y, x ∈ a.rights ∧ y ∈ b.rights ∧ l = mxL x y := by
    intro l hl
    obtain ⟨k, hk, rfl⟩ := List.getElem_of_mem hl
    unfold mxR at hk ⊢
    rw [List.length_zipWith] at hk
    exact ⟨_, _, List.getElem_mem (show k < a.rights.length by omega), List.getElem_mem (show k < b.rights.length by omega), by rw [List.getElem_zipWith]⟩
  refine ⟨ha.n1, by show (mxR a.rights b.rights).length = _; rw [mxR_len (by omega)]; exact h1, by show (mxL a.used b.used).length = _; rw [mxL_len (by omega)]; exact h3, ?_, mem2 ha.ru hb.ru, ?_⟩
  · intro l hl
    obtain ⟨x, y, hx, hy, rfl⟩ := memR l hl
    have e1 := ha.rr x hx
    have e2 := hb.rr y hy
    rw [hs] at e2
    rw [mxL_len (by omega)]
    exact e1
  · intro l hl
    obtain ⟨x, y, hx, hy, rfl⟩ := memR l hl
    exact mem2 (ha.rx x hx) (hb.rx y hy)

def geL (x y : List Int) : Prop := ∀ (k : Nat) (a b : Int), x[k]? = some a → y[k]? = some b → ¬ a < b
theorem geL_app {x x' y y' : List Int} (h : x.length = x'.length) : geL (x ++ y) (x' ++ y') ↔ geL x x' ∧ geL y y' := by
  constructor
  · intro hg
    refine ⟨fun k a b ha hb => ?_, fun k a b ha hb => ?_⟩
    · have h1 := (List.getElem?_eq_some_iff.1 ha).1
      exact hg k a b (by rw [List.getElem?_append_left h1]; exact ha) (by rw [List.getElem?_append_left (by omega)]; exact hb)
    · exact hg (x.length + k) a b (by rw [List.getElem?_append_right (by omega)]; rw [show x.length + k - x.length = k by omega]; exact ha) (by rw [List.getElem?_append_right (by omega)]; rw [show x.length + k - x'.length = k by omega]; exact hb)
  · rintro ⟨h1, h2⟩ k a b ha hb
    by_cases hk : k < x.length
    · rw [List.getElem?_append_left hk] at ha
      rw [List.getElem?_append_left (by omega)] at hb
      exact h1 k a b ha hb
    · rw [List.getElem?_append_right (by omega)] at ha
      rw [List.getElem?_append_right (by omega)] at hb
      rw [← h] at hb
      exact h2 _ a b ha hb
theorem geL_flat {n : Nat} : ∀ {A B : List (List Int)}, A.length = B.length → (∀ l ∈ A, l.length = n) → (∀ l ∈ B, l.length = n) → (geL A.flatten B.flatten ↔ ∀ (i : Nat) (l m : List Int), A[i]? = some l → B[i]? = some m → geL l m)
  | [], [], _, _, _ => by
    constructor
    · intro _ i l m h; simp at h
    · intro _ k a b h; simp at h
  | l :: A, m :: B, h, h1, h2 => by
    have ih := geL_flat (A := A) (B := B) (n := n) (by simpa using h) (fun l hl => h1 l (List.mem_cons_of_mem _ hl)) (fun l hl => h2 l (List.mem_cons_of_mem _ hl))
    have e1 := h1 l (List.mem_cons_self ..)
    have e2 := h2 m (List.mem_cons_self ..)
    rw [List.flatten_cons, List.flatten_cons, geL_app (by omega), ih]
    constructor
    · rintro ⟨g1, g2⟩ i x y hx hy
      cases i with
      | zero => simp at hx hy; subst hx; subst hy; exact g1
      | succ i => simp at hx hy; exact g2 i x y hx hy
    · intro g
      exact ⟨g 0 l m rfl rfl, fun i x y hx hy => g (i + 1) x y hx hy⟩
noncomputable instance (x y : List Int) : Decidable (geL x y) := Classical.propDecidable _
noncomputable def knB (a b : Wal) : Bool := decide (geL (a.rights.flatten ++ a.used) (b.rights.flatten ++ b.used))
theorem knB_iff {a b : Wal} (ha : WOk a) (hb : WOk b) (hs : b.sites = a.sites) : knB a b = true ↔ geL a.used b.used ∧ ∀ (i : Nat) (l m : List Int), a.rights[i]? = some l → b.rights[i]? = some m → geL l m := by
  have h1 := ha.r
  have h2 := hb.r
  have h3 := ha.rr
  have h4 := hb.rr
  rw [hs] at h2 h4
  have hf : ∀ {A B : List (List Int)} {n : Nat}, A.length = B.length → (∀ l ∈ A, l.length = n) → (∀ l ∈ B, l.length = n) → A.flatten.length = B.flatten.length := by
    intro A
    induction A with
    | nil => intro B n h _ _; cases B with
      | nil => rfl
      | cons => simp at h
    | cons x A ih => intro B n h g1 g2; cases B with
      | nil => simp at h
      | cons y B =>
        have := ih (B := B) (n := n) (by simpa using h) (fun l hl => g1 l (List.mem_cons_of_mem _ hl)) (fun l hl => g2 l (List.mem_cons_of_mem _ hl))
        have e1 := g1 x (List.mem_cons_self ..)
        have e2 := g2 y (List.mem_cons_self ..)
        rw [List.flatten_cons, List.flatten_cons, List.length_append, List.length_append]
        omega
  unfold knB
  rw [decide_eq_true_iff, geL_app (hf (by omega) h3 h4), geL_flat (by omega) h3 h4]
  exact And.comm
end Lg
set_option linter.all false
namespace Lg
open Go

/-! ### regions whose order is open: as LgX, but what an operation yields may be said by what others have yielded -/
section y
variable {P : Program} {Γ : Ctx} {env base : Env} {cs : List Chunk} {Q : Post} {H : (Nat → Value) → (Nat → Bool) → List Chunk} {L : List Oper}

/-- what an operation does once those that it waits for are done -/
def YStep (P : Program) (Γ : Ctx) (H : (Nat → Value) → (Nat → Bool) → List Chunk) (L : List Oper) (Pf : Nat → (Nat → Value) → Prop) (i : Nat) (o : Oper) (acc : (Nat → Value) → Env) (T : (Nat → Value) → Tr) (Pv : (Nat → Value) → Prop) : Prop :=
  ∀ (ξ : Nat → Value) (S : Nat → Bool), S i = false → (∀ j ∈ preds o.after, S j = true) → (∀ k ok, L[k]? = some ok → S k = true → ∀ j ∈ preds ok.after, S j = true) → (∀ k, S k = true → Pf k ξ) →
    ∀ a w, Den Γ (rst (slotsOf o.op) (acc ξ)) (H ξ S) a w → ∀ (next : Act → World → Prop) (F : Exit → Act → World → Prop),
      (∀ v w', Pv (upd ξ i v) → (T (upd ξ i v)).rd w' (av Γ.M (H (upd ξ i v) (updD S i))) v → (∀ env2, Den Γ env2 (H ξ S) a w → Den Γ env2 (H (upd ξ i v) (updD S i)) a w') → next (a.put o.dst v) w') → Oper.wp P o a w next F

def accY (o : Oper) (T : (Nat → Value) → Tr) (acc : (Nat → Value) → Env) : (Nat → Value) → Env := fun ξ => match o.dst with
  | some d => (d, T ξ) :: acc ξ
  | none => acc ξ
def pfY (n : Nat) (Pv : (Nat → Value) → Prop) (Pf : Nat → (Nat → Value) → Prop) : Nat → (Nat → Value) → Prop := fun j ξ => match Nat.beq j n with
  | true => Pv ξ
  | false => Pf j ξ
def Clo (L : List Oper) (S : Nat → Bool) : Prop := ∀ k ok, L[k]? = some ok → S k = true → ∀ j ∈ preds ok.after, S j = true
/-- it speaks of the operation's own value, and of those that it waits for -/
def PvOkY (L : List Oper) (n : Nat) (Pv : (Nat → Value) → Prop) : Prop := ∀ ξ k v S, Clo L S → S n = true → S k = false → Pv ξ → Pv (upd ξ k v)
def TOk (L : List Oper) (n : Nat) (T : (Nat → Value) → Tr) : Prop := ∀ ξ k v S, Clo L S → S n = true → S k = false → T (upd ξ k v) = T ξ
theorem upd_S {S : Nat → Bool} {m k : Nat} (h1 : S m = true) (h2 : S k = false) (ξ : Nat → Value) (v : Value) : upd ξ k v m = ξ m := upd_ne ξ v (fun e => by subst e; rw [h1] at h2; cases h2)

def YSeq (P : Program) (Γ : Ctx) (H : (Nat → Value) → (Nat → Bool) → List Chunk) (L : List Oper) (K : Env → List Chunk → Prop) : Nat → ((Nat → Value) → Env) → (Nat → (Nat → Value) → Prop) → List Oper → Prop
  | _, acc, Pf, [] => ∀ ξ : Nat → Value, (∀ j, Pf j ξ) → K (acc ξ) (H ξ fun _ => true)
  | n, acc, Pf, o :: l => ∃ (T : (Nat → Value) → Tr) (Pv : (Nat → Value) → Prop), (PvOkY L n Pv ∧ TOk L n T) ∧ YStep P Γ H L Pf n o acc T Pv ∧ YSeq P Γ H L K (n + 1) (accY o T acc) (pfY n Pv Pf) l

structure YI (L : List Oper) (env : Env) (n : Nat) (acc : (Nat → Value) → Env) (Pf : Nat → (Nat → Value) → Prop) (T : Nat → (Nat → Value) → Tr) (Pv : Nat → (Nat → Value) → Prop) : Prop where
  look : ∀ ξ s t, Lg.look (acc ξ) s = some t → (∃ j oj, j < n ∧ L[j]? = some oj ∧ oj.dst = some s ∧ t = T j ξ) ∨ (Lg.look env s = some t ∧ ∀ j oj, j < n → L[j]? = some oj → oj.dst ≠ some s)
  pf : ∀ (k : Nat) (ξ : Nat → Value), (k < n → Pv k ξ) → Pf k ξ
theorem YI.agree {n : Nat} {acc : (Nat → Value) → Env} {Pf : Nat → (Nat → Value) → Prop} {T T' : Nat → (Nat → Value) → Tr} {Pv Pv' : Nat → (Nat → Value) → Prop} (h : YI L env n acc Pf T Pv) (e : ∀ j, j < n → T' j = T j ∧ Pv' j = Pv j) : YI L env n acc Pf T' Pv' := by
  refine ⟨fun ξ s t hl => ?_, fun k v hk => h.pf k v fun hkn => ?_⟩
  · rcases h.look ξ s t hl with ⟨j, oj, h1, h2, h3, h4⟩ | h
    · exact .inl ⟨j, oj, h1, h2, h3, by rw [(e j h1).1]; exact h4⟩
    · exact .inr h
  · rw [← (e k hkn).2]
    exact hk hkn

theorem YSeq.out {K : Env → List Chunk → Prop} : ∀ {l : List Oper} {n : Nat} {acc : (Nat → Value) → Env} {Pf : Nat → (Nat → Value) → Prop} {T0 : Nat → (Nat → Value) → Tr} {Pv0 : Nat → (Nat → Value) → Prop},
    (∀ i : Nat, l[i]? = L[n + i]?) → n + l.length = L.length → YI L env n acc Pf T0 Pv0 → YSeq P Γ H L K n acc Pf l →
    ∃ (T : Nat → (Nat → Value) → Tr) (Pv : Nat → (Nat → Value) → Prop), (∀ j, j < n → T j = T0 j ∧ Pv j = Pv0 j) ∧
      (∀ i o, n ≤ i → L[i]? = some o → ∃ acc Pf, YI L env i acc Pf T Pv ∧ (PvOkY L i (Pv i) ∧ TOk L i (T i)) ∧ YStep P Γ H L Pf i o acc (T i) (Pv i)) ∧
      (∃ acc Pf, YI L env L.length acc Pf T Pv ∧ ∀ ξ : Nat → Value, (∀ j, Pf j ξ) → K (acc ξ) (H ξ fun _ => true))
  | [], n, acc, Pf, T0, Pv0, hL, hn, hI, h => by
    simp at hn
    refine ⟨T0, Pv0, fun j _ => ⟨rfl, rfl⟩, fun i o hi ho => ?_, acc, Pf, by rw [← hn]; exact hI, h⟩
    have := (List.getElem?_eq_some_iff.1 ho).1
    omega
  | o :: l, n, acc, Pf, T0, Pv0, hL, hn, hI, ⟨T1, Pv1, hok, hst, hk⟩ => by
    have ho : L[n]? = some o := by have := hL 0; simpa using this.symm
    have hI' : YI L env (n + 1) (accY o T1 acc) (pfY n Pv1 Pf) (fun j => match Nat.beq j n with | true => T1 | false => T0 j) (fun j => match Nat.beq j n with | true => Pv1 | false => Pv0 j) := by
      refine ⟨fun ξ s t hl => ?_, fun k v hkv => ?_⟩
      · have old : look (acc ξ) s = some t → (∀ d, o.dst = some d → d ≠ s) → (∃ j oj, j < n + 1 ∧ L[j]? = some oj ∧ oj.dst = some s ∧ t = (match Nat.beq j n with | true => T1 | false => T0 j) ξ) ∨ (look env s = some t ∧ ∀ j oj, j < n + 1 → L[j]? = some oj → oj.dst ≠ some s) := by
          intro hl hd
          rcases hI.look ξ s t hl with ⟨j, oj, h1, h2, h3, h4⟩ | ⟨h1, h2⟩
          · refine .inl ⟨j, oj, by omega, h2, h3, ?_⟩
            rw [nbeq_ne (show j ≠ n by omega)]
            exact h4
          · refine .inr ⟨h1, fun j oj hj hoj => ?_⟩
            by_cases e : j = n
            · subst e
              rw [ho] at hoj
              cases hoj
              intro hd2
              exact hd s hd2 rfl
            · exact h2 j oj (by omega) hoj
        unfold accY at hl
        cases hd : o.dst with
        | none =>
          rw [hd] at hl
          exact old hl (fun d h => by rw [hd] at h; cases h)
        | some d =>
          rw [hd] at hl
          by_cases e : d = s
          · subst e
            simp only at hl
            rw [look_cons_same] at hl
            cases hl
            exact .inl ⟨n, o, by omega, ho, hd, by simp⟩
          · simp only at hl
            rw [look_cons_ne _ _ e] at hl
            exact old hl (fun d' h => by rw [hd] at h; cases h; exact e)
      · unfold pfY
        by_cases e : k = n
        · subst e
          have := hkv (by omega)
          simpa using this
        · have hb : Nat.beq k n = false := nbeq_ne e
          rw [hb]
          refine hI.pf k v fun hkn => ?_
          have := hkv (by omega)
          rw [hb] at this
          exact this
    obtain ⟨T, Pv, h1, h2, h3⟩ := YSeq.out (l := l) (n := n + 1) (by intro i; have := hL (i + 1); simpa [Nat.add_assoc, Nat.add_comm 1] using this) (by simp at hn; omega) hI' hk
    have hag : ∀ j, j < n → T j = T0 j ∧ Pv j = Pv0 j := by
      intro j hj
      have := h1 j (by omega)
      rw [nbeq_ne (show j ≠ n by omega)] at this
      exact this
    have hn1 := h1 n (by omega)
    simp only [Nat.beq_refl] at hn1
    refine ⟨T, Pv, hag, fun i o' hi ho' => ?_, h3⟩
    by_cases e : i = n
    · subst e
      rw [ho] at ho'
      cases ho'
      exact ⟨acc, Pf, hI.agree hag, by rw [hn1.1, hn1.2]; exact hok, by rw [hn1.1, hn1.2]; exact hst⟩
    · exact h2 i o' (by omega) ho'

structure MidY (Γ : Ctx) (H : (Nat → Value) → (Nat → Bool) → List Chunk) (L : List Oper) (env : Env) (T : Nat → (Nat → Value) → Tr) (Pv : Nat → (Nat → Value) → Prop) (ξ : Nat → Value) (listed : Array Bool) (a : Act) (w : World) : Prop where
  den : Den Γ [] (H ξ fun j => listed.getD j true) a w
  size : listed.size = L.length
  keep : ∀ s t, look env s = some t → (∀ k o, L[k]? = some o → listed.getD k true = true → o.dst ≠ some s) → t.rd w (av Γ.M (H ξ fun j => listed.getD j true)) (a.tmps.getD s undef)
  done : ∀ i o, L[i]? = some o → listed.getD i true = true → Pv i ξ ∧ ∀ d, o.dst = some d → a.tmps.getD d undef = ξ i ∧ (T i ξ).rd w (av Γ.M (H ξ fun j => listed.getD j true)) (ξ i)
  closed : ∀ k o, L[k]? = some o → listed.getD k true = true → ∀ j ∈ preds o.after, listed.getD j true = true

theorem Cw.region_Y {id : Nat} {l : List Oper} (H : (Nat → Value) → (Nat → Bool) → List Chunk) (hm : P.follows .mixedOrders = true) (hb : (backOk l && (nodupB (dsts l) && (ssaFrom l 0 l && noGuards l))) = true) (hlt : (dsts l).all (Nat.blt · Γ.n) = true)
    (hs : ∀ ξ, H ξ (fun j => Nat.ble l.length j) = cs) (h : YSeq P Γ H l (fun acc cs => ∃ env' cs', Ent Γ acc cs env' cs' ∧ Q .normal env' cs') 0 (fun _ => env) (fun _ _ => True) l) : Cw P Γ (.region id l.toArray true) env cs Q := by
  simp only [Bool.and_eq_true] at hb
  obtain ⟨hb, hnd, hssa, hg⟩ := hb
  have hnodup := nodupB_iff hnd
  unfold Cw
  intro a w d
  obtain ⟨T, Pv, _, hstep, accE, PfE, hIE, hK⟩ := YSeq.out (L := l) (env := env) (T0 := fun _ _ => Tr.any) (Pv0 := fun _ _ => True) (by intro i; simp) (by simp) ⟨fun ξ s t hl => .inr ⟨hl, fun j oj hj => absurd hj (by omega)⟩, fun k v _ => trivial⟩ h
  have hback : ∀ (i : Nat) o, l[i]? = some o → ∀ j ∈ preds o.after, j < i := by
    intro i o ho j hj
    obtain ⟨e, he, hbd, rfl⟩ := mem_preds.1 hj
    have := backFrom_at (k := 0) (i := i) (o := o) hb ho e he hbd
    omega
  have hltn : ∀ (i : Nat) o d, l[i]? = some o → o.dst = some d → d < Γ.n := fun i o d ho hd => by
    have := List.all_eq_true.1 hlt d (List.mem_filterMap.2 ⟨o, List.mem_of_getElem? ho, hd⟩)
    simpa [Nat.blt_eq] using this
  have hguard : ∀ (i : Nat) o, l[i]? = some o → o.guard = none := fun i o ho => guard_none (List.all_eq_true.1 hg o (List.mem_of_getElem? ho))
  have hgd : ∀ (listed : Array Bool) (i : Nat), i < listed.size → listed.getD i true = listed.getD i false := by
    intro listed i hi
    rw [Array.getD_eq_getD_getElem?, Array.getD_eq_getD_getElem?, Array.getElem?_eq_getElem hi]
    rfl
  have fin : ∀ (ξ : Nat → Value) (listed : Array Bool) (a : Act) (w : World), MidY Γ H l env T Pv ξ listed a w → (∀ i, i < l.length → listed.getD i true = true) → Lift Γ Q .normal a w := by
    intro ξ listed a w hmid hall
    have hS : (fun j => listed.getD j true) = fun _ => true := by
      funext j
      by_cases hj : j < l.length
      · exact hall j hj
      · rw [Array.getD_eq_getD_getElem?, Array.getElem?_eq_none (by rw [hmid.size]; omega)]
        rfl
    have hd := hmid.den
    have hdone := hmid.done
    have hkeep := hmid.keep
    rw [hS] at hd hdone hkeep
    have hPf : ∀ j, PfE j ξ := by
      intro j
      refine hIE.pf j _ fun hj => ?_
      obtain ⟨o, ho⟩ : ∃ o, l[j]? = some o := ⟨_, List.getElem?_eq_getElem hj⟩
      exact (hdone j o ho (hall j hj)).1
    obtain ⟨env', cs', hE, hq⟩ := hK ξ hPf
    unfold Ent at hE
    refine ⟨env', cs', hq, hE a w ⟨hd.nodefer, hd.tmps, ?_, hd.chunks, hd.nodup, hd.fresh, hd.below, hd.frame⟩⟩
    · intro s t hl
      rcases hIE.look ξ s t hl with ⟨j, oj, h1, h2, h3, rfl⟩ | ⟨h1, h2⟩
      · obtain ⟨e1, e2⟩ := (hdone j oj h2 (hall j h1)).2 s h3
        rw [e1]
        exact e2
      · exact hkeep s t h1 fun k o hk _ => h2 k o (List.getElem?_eq_some_iff.1 hk).1 hk
  have main : ∀ (fuel : Nat) (ξ : Nat → Value) (listed : Array Bool) (a : Act) (w : World), MidY Γ H l env T Pv ξ listed a w → (listed.toList.filter (! ·)).length ≤ fuel → wpAny P .any l.toArray (Lift Γ Q) fuel listed a w := by
    intro fuel
    have first : ∀ (listed : Array Bool), listed.size = l.length → (∀ i, i < l.length → listed.getD i true = true) ∨ ∃ i, i ∈ Region.ready .any l.toArray listed := by
      intro listed hsz
      have : ∀ n, n ≤ l.length → (∀ j, j < n → listed.getD j true = true) ∨ ∃ i, i < l.length ∧ listed.getD i true = false ∧ ∀ j, j < i → listed.getD j true = true := by
        intro n
        induction n with
        | zero => intro _; exact .inl (fun j hj => by omega)
        | succ n ihn =>
          intro hn
          rcases ihn (by omega) with h | h
          · cases hc : listed.getD n true with
            | true =>
              refine .inl fun j hj => ?_
              by_cases e : j = n
              · subst e; exact hc
              · exact h j (by omega)
            | false => exact .inr ⟨n, by omega, hc, h⟩
          · exact .inr h
      rcases this _ (Nat.le_refl _) with h | ⟨i, hi, h1, h2⟩
      · exact .inl h
      · refine .inr ⟨i, mem_ready.2 ⟨_, List.getElem?_eq_getElem hi, h1, fun j hj => ?_⟩⟩
        have := hback i _ (List.getElem?_eq_getElem hi) j hj
        rw [← hgd listed j (by omega)]
        exact h2 j this
    induction fuel with
    | zero =>
      intro ξ listed a w hmid hf
      have hall : ∀ i, i < l.length → listed.getD i true = true := by
        intro i hi
        have hli : i < listed.size := by rw [hmid.size]; omega
        rw [Array.getD_eq_getD_getElem?, Array.getElem?_eq_getElem hli]
        cases hc : listed[i]'hli with
        | true => rfl
        | false =>
          exfalso
          have : false ∈ listed.toList.filter (! ·) := List.mem_filter.2 ⟨by rw [← hc]; simp, rfl⟩
          have := List.length_pos_of_mem this
          omega
      refine ⟨?_, fin ξ listed a w hmid hall⟩
      refine List.eq_nil_iff_forall_not_mem.2 fun i hi => ?_
      obtain ⟨o, ho, h1, _⟩ := mem_ready.1 hi
      have h9 := hall i (List.getElem?_eq_some_iff.1 ho).1
      rw [h1] at h9
      cases h9
    | succ fuel ih =>
      intro ξ listed a w hmid hf
      refine ⟨fun hr => ?_, ?_⟩
      · rcases first listed hmid.size with h | ⟨i, hi⟩
        · exact fin ξ listed a w hmid h
        · rw [hr] at hi; cases hi
      intro i hi
      obtain ⟨oi, hoi, hl2, hp2⟩ := mem_ready.1 hi
      have hil := (List.getElem?_eq_some_iff.1 hoi).1
      have hli : i < listed.size := by rw [hmid.size]; omega
      have hc : listed[i]'hli = false := by simpa [hli] using hl2
      obtain ⟨acc, Pf, hI, hokI, hx⟩ := hstep i oi (Nat.zero_le _) hoi
      have hpred : ∀ j ∈ preds oi.after, listed.getD j true = true := by
        intro j hj
        have := hback i oi hoi j hj
        rw [hgd listed j (by omega)]
        exact hp2 j hj
      have hnotafter : ∀ k ok, l[k]? = some ok → listed.getD k true = true → i ∉ preds ok.after := by
        intro k ok hk hlk hin
        have h9 := hmid.closed k ok hk hlk i hin
        rw [hl2] at h9
        cases h9
      have hS' : (fun j => (listed.setIfInBounds i true).getD j true) = updD (fun j => listed.getD j true) i := by
        funext j
        by_cases e : j = i
        · subst e
          rw [updD_same, Array.getD_eq_getD_getElem?, Array.getElem?_setIfInBounds_self]
          simp [hli]
        · rw [updD_ne _ e, Array.getD_eq_getD_getElem?, Array.getElem?_setIfInBounds_ne (Ne.symm e), ← Array.getD_eq_getD_getElem?]
      generalize hSS : (fun j => listed.getD j true) = S at *
      have hSj : ∀ j, listed.getD j true = S j := fun j => by rw [← hSS]
      have hden : Den Γ (rst (slotsOf oi.op) (acc ξ)) (H ξ S) a w := by
        have dd := hmid.den
        have hdone := hmid.done
        have hkeep := hmid.keep
        rw [hSS] at dd hdone hkeep
        refine ⟨dd.nodefer, dd.tmps, ?_, dd.chunks, dd.nodup, dd.fresh, dd.below, dd.frame⟩
        intro s t hlk
        obtain ⟨hs, hlk⟩ := rst_look hlk
        have hss := ssaFrom_at hssa hoi s hs
        rw [Nat.zero_add] at hss
        rcases hI.look ξ s t hlk with ⟨j, oj, h1, h2, h3, rfl⟩ | ⟨h1, h2⟩
        · have hjl : listed.getD j true = true := by
            rcases hss with h | ⟨k, hk, p, hkp, hpd⟩
            · exfalso
              rcases others_spec h2 h3 h with h | h
              · omega
              · have := hback j oj h2 i h
                omega
            · have := nodup_dst hnodup hkp h2 hpd h3
              subst this
              exact hpred k hk
          obtain ⟨e1, e2⟩ := (hdone j oj h2 hjl).2 s h3
          rw [e1]
          exact e2
        · refine hkeep s t h1 fun k ok hk hlk hd => ?_
          rcases Nat.lt_trichotomy k i with h | rfl | h
          · exact h2 k ok h hk hd
          · rw [hl2] at hlk
            cases hlk
          · rcases hss with h3 | ⟨k', hk', p, hkp, hpd⟩
            · rcases others_spec hk hd h3 with h | h
              · omega
              · exact hnotafter k ok hk hlk h
            · exact h2 k' p (hback i oi hoi k' hk') hkp hpd
      have hmden := hmid.den
      rw [hSS] at hmden
      have hx := hx ξ S (by rw [← hSj]; exact hl2) (fun j hj => by rw [← hSj]; exact hpred j hj) (fun k ok hk h j hj => by rw [← hSj] at h ⊢; exact hmid.closed k ok hk h j hj)
        (fun k hk => hI.pf k _ fun hki => by
          obtain ⟨ok, hok⟩ : ∃ ok, l[k]? = some ok := ⟨_, List.getElem?_eq_getElem (by omega)⟩
          exact (hmid.done k ok hok (by rw [hSj]; exact hk)).1) a w hden
      have hop : l.toArray[i]? = some oi := by simpa using hoi
      unfold wpOp
      simp only [hop]
      rw [if_pos (by unfold Region.wanted; rw [hguard i oi hoi])]
      refine .inl (hx _ _ fun v w' hPv hrd hpres => ih (upd ξ i v) _ _ _ ?_ ?_)
      · have hfact : ∀ {s : Nat} {t : Tr}, t.rd w (av Γ.M (H ξ S)) (a.tmps.getD s undef) → t.rd w' (av Γ.M (H (upd ξ i v) (updD S i))) (a.tmps.getD s undef) := by
          intro s t ht
          have dd := hmden
          have d1 : Den Γ [(s, t)] (H ξ S) a w := ⟨dd.nodefer, dd.tmps, fun i u hl => by
            by_cases e : s = i
            · subst e; rw [look_cons_same] at hl; cases hl; exact ht
            · rw [look_cons_ne _ _ e] at hl; simp [look] at hl, dd.chunks, dd.nodup, dd.fresh, dd.below, dd.frame⟩
          exact (hpres _ d1).env s t (look_cons_same _ _ _)
        have hput : ∀ s, oi.dst ≠ some s → (a.put oi.dst v).tmps.getD s undef = a.tmps.getD s undef := by
          intro s hs
          cases hd : oi.dst with
          | none => rfl
          | some x =>
            have hne : x ≠ s := fun e => hs (by rw [hd, e])
            simp [Act.put, Array.getElem?_setIfInBounds_ne hne]
        have hset : ∀ k, (listed.setIfInBounds i true).getD k true = true → k = i ∨ S k = true := by
          intro k hk
          by_cases e : k = i
          · exact .inl e
          · refine .inr ?_
            have := congrFun hS' k
            try simp only at this
            rw [hk, updD_ne _ e] at this
            exact this.symm
        have hset2 : ∀ k, S k = true → (listed.setIfInBounds i true).getD k true = true := by
          intro k hk
          have := congrFun hS' k
          try simp only at this
          rw [this]
          by_cases e : k = i
          · rw [e, updD_same]
          · rw [updD_ne _ e]; exact hk
        have hkeep := hmid.keep
        have hdone := hmid.done
        rw [hSS] at hkeep hdone
        refine ⟨?_, by simpa using hmid.size, ?_, ?_, ?_⟩
        · rw [hS']
          have dd := hpres _ hmden
          cases oi.dst with
          | none => exact ⟨dd.nodefer, dd.tmps, fun q t hlk => by simp [look] at hlk, dd.chunks, dd.nodup, dd.fresh, dd.below, dd.frame⟩
          | some x => exact ⟨dd.nodefer, by simpa [Act.put] using dd.tmps, fun q t hlk => by simp [look] at hlk, dd.chunks, dd.nodup, dd.fresh, dd.below, dd.frame⟩
        · intro s t hlk hno
          rw [hS']
          rw [hput s (hno i oi hoi (by
            have := congrFun hS' i
            try simp only at this
            rw [this, updD_same]))]
          exact hfact (hkeep s t hlk fun k o hk hl => hno k o hk (hset2 k (by rw [← hSj]; exact hl)))
        · intro j o hoj hj
          rw [hS']
          by_cases e : j = i
          · subst e
            rw [hoi] at hoj
            cases hoj
            rw [upd_same]
            refine ⟨hPv, fun d hd => ⟨?_, hrd⟩⟩
            have hs : d < a.tmps.size := by rw [hmden.tmps]; exact hltn j oi d hoi hd
            rw [hd]
            simp [Act.put, hs]
          · have hj' : listed.getD j true = true := by
              rcases hset j hj with h | h
              · exact absurd h e
              · rw [hSj]; exact h
            rw [upd_ne _ _ e]
            obtain ⟨g1, g2⟩ := hdone j o hoj hj'
            obtain ⟨_, _, _, ⟨hokJ, hokT⟩, _⟩ := hstep j o (Nat.zero_le _) hoj
            have hclo : Clo l S := fun k ok hk h j hj => by rw [← hSj] at h ⊢; exact hmid.closed k ok hk h j hj
            have hsj : S j = true := by rw [← hSj]; exact hj'
            have hsi : S i = false := by rw [← hSj]; exact hl2
            rw [hokT ξ i v S hclo hsj hsi]
            refine ⟨hokJ ξ i v S hclo hsj hsi g1, fun d hd => ?_⟩
            obtain ⟨g3, g4⟩ := g2 d hd
            have hne : oi.dst ≠ some d := fun e2 => e (nodup_dst hnodup hoj hoi hd e2)
            rw [hput d hne]
            refine ⟨g3, ?_⟩
            have := hfact (s := d) (t := T j ξ) (by rw [g3]; exact g4)
            rwa [g3] at this
        · intro k o hk hkl j hj
          rcases hset k hkl with rfl | h
          · rw [hoi] at hk
            cases hk
            exact hset2 j (by rw [← hSj]; exact hpred j hj)
          · refine hset2 j ?_
            rw [← hSj]
            exact hmid.closed k o hk (by rw [hSj]; exact h) j hj
      · have hfs := filter_set listed.toList i (by simp [hli, hc])
        rw [Array.toList_setIfInBounds]
        omega
  refine wp_region_any hm ?_
  have hS0 : (fun j => (Array.replicate l.toArray.size false).getD j true) = fun j => Nat.ble l.length j := by
    funext j
    rw [Array.getD_eq_getD_getElem?, Array.getElem?_replicate]
    by_cases hj : j < l.length
    · have hb : Nat.ble l.length j = false := by rw [← Bool.not_eq_true]; intro h; have := Nat.le_of_ble_eq_true h; omega
      rw [hb]
      simp [hj]
    · have hb : Nat.ble l.length j = true := Nat.ble_eq_true_of_le (by omega)
      rw [hb]
      simp [hj]
  have hno : ∀ k o, l[k]? = some o → (Array.replicate l.toArray.size false).getD k true = true → False := by
    intro k o hk hkl
    have := congrFun hS0 k
    try simp only at this
    rw [this] at hkl
    have := Nat.le_of_ble_eq_true hkl
    have := (List.getElem?_eq_some_iff.1 hk).1
    omega
  have dd := d.drew
  refine main _ (fun _ => undef) _ _ _ ⟨?_, by simp, ?_, fun i o ho hi => (hno i o ho hi).elim, fun k o hk hkl => (hno k o hk hkl).elim⟩ (by simp)
  · rw [hS0, hs]
    exact ⟨dd.nodefer, dd.tmps, fun i t hlk => by simp [look] at hlk, dd.chunks, dd.nodup, dd.fresh, dd.below, dd.frame⟩
  · intro s t hlk _
    rw [hS0, hs]
    exact dd.env s t hlk

/-! ### its rules -/
def vInt : Value → Int
  | .int _ n => n
  | _ => 0
def vBool : Value → Bool
  | .bool b => b
  | _ => false
def vStr : Value → ByteArray
  | .string s => s
  | _ => ⟨#[]⟩
variable {cf : List Chunk} {K : Env → List Chunk → Prop} {n : Nat} {l : List Oper} {Pf : Nat → (Nat → Value) → Prop} {i d : Nat} {op : Op} {ty : TypeId} {pos : String} {af : Array Edge} {acc : (Nat → Value) → Env}
theorem YSeq.nil (h : ∀ ξ : Nat → Value, (∀ j, Pf j ξ) → K (acc ξ) (H ξ fun _ => true)) : YSeq P Γ H L K n acc Pf [] := h
theorem YSeq.cons {o : Oper} {T : (Nat → Value) → Tr} {Pv : (Nat → Value) → Prop} (ok : PvOkY L n Pv) (ok2 : TOk L n T) (h : YStep P Γ H L Pf n o acc T Pv) (k : YSeq P Γ H L K (n + 1) (accY o T acc) (pfY n Pv Pf) l) : YSeq P Γ H L K n acc Pf (o :: l) := ⟨T, Pv, ⟨ok, ok2⟩, h, k⟩
theorem PvOkY.triv : PvOkY L n (fun _ => True) := fun _ _ _ _ _ _ _ _ => trivial
theorem PvOkY.own {p : Value → Prop} : PvOkY L n (fun ξ => p (ξ n)) := fun ξ k v S _ h1 h2 h => by
  show p (upd ξ k v n)
  rw [upd_S h1 h2]
  exact h
theorem TOk.own {T : Value → Tr} : TOk L n (fun ξ => T (ξ n)) := fun ξ k v S _ h1 h2 => by
  show T (upd ξ k v n) = T (ξ n)
  rw [upd_S h1 h2]
theorem TOk.const {t : Tr} : TOk L n (fun _ => t) := fun _ _ _ _ _ _ _ => rfl
/-- an operation that turns no memory that is owned -/
theorem YSeq.w {t : (Nat → Value) → Tr} (hH : ∀ ξ S v, H (upd ξ n v) (updD S n) = H ξ S)
    (h : ∀ (ξ : Nat → Value) (S : Nat → Bool), S n = false → (∀ j ∈ preds af, S j = true) → Clo L S → (∀ k, S k = true → Pf k ξ) → OpW P Γ op ty (rst (slotsOf op) (acc ξ)) (H ξ S) (t ξ))
    (ht : ∀ ξ v, t (upd ξ n v) = t ξ) (hT : TOk L n t)
    (k : YSeq P Γ H L K (n + 1) (fun ξ => (d, t ξ) :: acc ξ) (pfY n (fun _ => True) Pf) l) : YSeq P Γ H L K n acc Pf (⟨some d, op, ty, pos, af, none⟩ :: l) := by
  refine YSeq.cons PvOkY.triv hT ?_ k
  unfold YStep
  intro ξ S h1 h2 h3 h4 a w dd next F hk
  have h := h ξ S h1 h2 h3 h4
  unfold OpW at h
  refine h a w dd d pos af none next F fun v w' hv hp => hk v w' trivial ?_ ?_
  · rw [hH, ht]; exact hv
  · intro env2 d2
    rw [hH]
    exact hp env2 d2
theorem YSeq.alloc {T : TypeId} {zs : List Value} [hz : TyZero P T zs] (hH : ∀ (ξ : Nat → Value) (S : Nat → Bool) (b : Nat), S n = false → Clo L S → (H (upd ξ n (.pointer (some ⟨b, 0, none⟩))) (updD S n)).Perm (Chunk.box b T (zs.map Tr.raw) :: H ξ S))
    (k : YSeq P Γ H L K (n + 1) (fun ξ => (d, Tr.raw (.pointer (some ⟨blk (ξ n), 0, none⟩))) :: acc ξ) (pfY n (fun _ => True) Pf) l) : YSeq P Γ H L K n acc Pf (⟨some d, .alloc T, ty, pos, af, none⟩ :: l) := by
  refine YSeq.cons PvOkY.triv (TOk.own (T := fun v => Tr.raw (.pointer (some ⟨blk v, 0, none⟩)))) ?_ k
  unfold YStep
  intro ξ S h1 h2 h3 h4 a w dd next F hk
  obtain ⟨ti, zv, e1, e2, e3⟩ := hz.h
  have hrun : (execOp a.eval ⟨some d, .alloc T, ty, pos, af, none⟩).run P w = .ok (.value (.pointer (some ⟨w.heap.size, 0, none⟩))) (w.alloc (.cells zv.cells T)) := by
    simp [execOp, Instr.alloc, zeroValue, typeInfo, e1, e2, newVar, newRow] <;> rfl
  unfold Oper.wp
  rw [hrun]
  refine hk _ _ trivial ?_ fun env2 d2 => ?_
  · simp only [upd_same, blk]
    exact raw_self _
  have hd := d2.newblock zv.cells T (ts := zs.map Tr.raw) (by rw [e3]; exact rdc_raw hz.one)
  exact hd.perm (hH ξ S _ h1 h3).symm
theorem YSeq.store {T : TypeId} {x y : Operand} {m : Nat} [hT : TySz P T m]
    (h : ∀ (ξ : Nat → Value) (S : Nat → Bool), S n = false → (∀ j ∈ preds af, S j = true) → Clo L S → (∀ k, S k = true → Pf k ξ) →
      ∃ (b o : Nat) (e : TypeId) (ts us : List Tr) (t : Tr) (cf : List Chunk), ev (rst (slotsOf (.store T x y)) (acc ξ)) x = some (.raw (.pointer (some ⟨b, o, none⟩))) ∧ ev (rst (slotsOf (.store T x y)) (acc ξ)) y = some t ∧ RowT t us ∧ (H ξ S).Perm (Chunk.box b e ts :: cf) ∧ us.length = m ∧ o + m ≤ ts.length ∧ (H (upd ξ n undef) (updD S n)).Perm (Chunk.box b e (ts.take o ++ us ++ ts.drop (o + m)) :: cf))
    (k : YSeq P Γ H L K (n + 1) acc (pfY n (fun _ => True) Pf) l) : YSeq P Γ H L K n acc Pf (⟨none, .store T x y, ty, pos, af, none⟩ :: l) := by
  refine YSeq.cons PvOkY.triv (TOk.const (t := Tr.any)) ?_ k
  unfold YStep
  intro ξ S h1 h2 h3 h4 a w d next F hk
  obtain ⟨b, o, e, ts, us, t, cf, hx, hy, hr, hp, hn, ho, hq⟩ := h ξ S h1 h2 h3 h4
  have hv := rd_raw (d.ev hx)
  have hu := hr.h _ _ _ (d.ev hy)
  have hbx := d.has hp
  generalize hA : av Γ.M (H ξ S) = A at *
  have hbx2 := hbx
  unfold Chunk.box at hbx2
  obtain ⟨cur, hb, hc⟩ := hbx2
  have hl : (a.eval y).cells.size = m := by rw [← Array.length_toList, hu.length, hn]
  have hcl := hc.length
  have hrun := run_storeAt (P := P) (T := T) (w := w) (off := o) (v := a.eval y) hb hT.size hl (by simp at hcl; omega) hu.one
  have hx2 : (execOp a.eval ⟨none, .store T x y, ty, pos, af, none⟩).run P w = .ok .skip (w.setRow b (cur.toList.take o ++ (a.eval y).cells.toList ++ cur.toList.drop (o + m)).toArray) := by simp [execOp, hv, hrun] <;> rfl
  unfold Oper.wp
  rw [hx2]
  refine hk _ _ trivial tr_any_self fun env2 d2 => ?_
  have ea := av_perm hp Γ.M
  refine Den.perm ?_ hq.symm
  refine (d2.perm hp).store (cur := cur.toList) (e := e) (by unfold Chunk.box; rfl) (by unfold Chunk.box; rfl) (by simpa using hb) ?_
  intro hs hg _
  generalize hA2 : av Γ.M (Chunk.box b e (ts.take o ++ us ++ ts.drop (o + m)) :: cf) = A2 at *
  unfold Chunk.box
  exact ⟨_, hg, by
    have h1 := ((hc.take o).app hu).app (hc.drop (o + m))
    rw [← hA, ea] at h1
    have h2 := h1.mono hs
    simpa only [List.append_assoc] using h2⟩
/-- any call: T says what it yields -/
theorem YSeq.call {f : FuncId} {ol : List Operand} {ts : Array TypeId} {T : (Nat → Value) → Tr} {Pv : (Nat → Value) → Prop} (ok : PvOkY L n Pv) (ok2 : TOk L n T)
    (h : ∀ (ξ : Nat → Value) (S : Nat → Bool), S n = false → (∀ j ∈ preds af, S j = true) → Clo L S → (∀ k, S k = true → Pf k ξ) →
      ∃ (args : List Tr) (cin cf : List Chunk) (post : Tr → List Chunk → Prop), Spec P f args cin post ∧ Evs (rst (slotsOf (.call ⟨.value (.func f), ol.toArray, ts⟩)) (acc ξ)) ol args ∧ (H ξ S).Perm (cin ++ cf) ∧
        ∀ r cs', post r cs' → ∀ w A v, r.rd w A v → (T (upd ξ n v)).rd w A v ∧ Pv (upd ξ n v) ∧ (H (upd ξ n v) (updD S n)).Perm (cs' ++ cf))
    (k : YSeq P Γ H L K (n + 1) (fun ξ => (d, T ξ) :: acc ξ) (pfY n Pv Pf) l) : YSeq P Γ H L K n acc Pf (⟨some d, .call ⟨.value (.func f), ol.toArray, ts⟩, ty, pos, af, none⟩ :: l) := by
  refine YSeq.cons ok ok2 ?_ k
  unfold YStep
  intro ξ S h1 h2 h3 h4 a w dd next F hk
  obtain ⟨args, cin, cf, post, hs, ha, hp, hq⟩ := h ξ S h1 h2 h3 h4
  have hcc := call_core2 (cf := cf) hs dd hp (ha.rd dd)
  have hrun : (execOp a.eval ⟨some d, .call ⟨.value (.func f), ol.toArray, ts⟩, ty, pos, af, none⟩).run P w = .ok (.enter f (ol.map a.eval).toArray) w := by
    unfold Spec at hs
    have := hs.1 (ol.map a.eval).toArray w
    simp [execOp, resolve, invoke, Deferred.ofValue, Act.eval, this]
  unfold Oper.wp
  rw [hrun]
  refine hcc.mono ?_
  rintro e w' ⟨v, r, cs', rfl, hpo, hrd, hd⟩
  obtain ⟨g1, g2, g3⟩ := hq r cs' hpo _ _ _ hrd
  refine hk _ _ g2 ?_ fun env2 h2 => (hd env2 h2).perm g3.symm
  rw [av_perm g3]
  exact g1
/-- a call that hands out a slice -/
theorem YSeq.callO {f : FuncId} {ol : List Operand} {ts : Array TypeId} {kk E : Nat} (m : Nat)
    (h : ∀ (ξ : Nat → Value) (S : Nat → Bool), S n = false → (∀ j ∈ preds af, S j = true) → Clo L S → (∀ k, S k = true → Pf k ξ) →
      ∃ (args : List Tr) (rows : List (List Tr)), PFnO P f args kk E (· = rows) ∧ Evs (rst (slotsOf (.call ⟨.value (.func f), ol.toArray, ts⟩)) (acc ξ)) ol args ∧ rows.length = m ∧ ∀ ad cap, (H (upd ξ n (.slice ad m cap)) (updD S n)).Perm (Chunk.own ad cap kk E rows :: H ξ S))
    (k : YSeq P Γ H L K (n + 1) (fun ξ => (d, Tr.raw (.slice (vAd (ξ n)) m (vCap (ξ n)))) :: acc ξ) (pfY n (fun _ => True) Pf) l) : YSeq P Γ H L K n acc Pf (⟨some d, .call ⟨.value (.func f), ol.toArray, ts⟩, ty, pos, af, none⟩ :: l) := by
  refine YSeq.call PvOkY.triv (TOk.own (T := fun v => Tr.raw (.slice (vAd v) m (vCap v)))) ?_ k
  intro ξ S h1 h2 h3 h4
  obtain ⟨args, rows, hs, ha, hm, hp⟩ := h ξ S h1 h2 h3 h4
  subst hm
  unfold PFnO at hs
  refine ⟨args, [], H ξ S, _, hs, ha, List.Perm.refl _, ?_⟩
  rintro r cs' ⟨ad, cap, rows', rfl, rfl, rfl⟩ w A v hr
  have hv := rd_raw hr
  subst hv
  refine ⟨?_, trivial, hp ad cap⟩
  simp only [upd_same, vAd, vCap]
  exact raw_self _
/-- a call that writes nothing -/
theorem YSeq.callV {f : FuncId} {ol : List Operand} {ts : Array TypeId} {t : (Nat → Value) → Tr} (hH : ∀ ξ S v, H (upd ξ n v) (updD S n) = H ξ S)
    (h : ∀ (ξ : Nat → Value) (S : Nat → Bool), S n = false → (∀ j ∈ preds af, S j = true) → Clo L S → (∀ k, S k = true → Pf k ξ) →
      ∃ (args : List Tr), Evs (rst (slotsOf (.call ⟨.value (.func f), ol.toArray, ts⟩)) (acc ξ)) ol args ∧ PFn P f args (· = t ξ))
    (ht : ∀ ξ v, t (upd ξ n v) = t ξ) (hT : TOk L n t)
    (k : YSeq P Γ H L K (n + 1) (fun ξ => (d, t ξ) :: acc ξ) (pfY n (fun _ => True) Pf) l) : YSeq P Γ H L K n acc Pf (⟨some d, .call ⟨.value (.func f), ol.toArray, ts⟩, ty, pos, af, none⟩ :: l) := by
  refine YSeq.call PvOkY.triv hT ?_ k
  intro ξ S h1 h2 h3 h4
  obtain ⟨args, ha, hs⟩ := h ξ S h1 h2 h3 h4
  unfold PFn at hs
  refine ⟨args, [], H ξ S, _, hs, ha, List.Perm.refl _, ?_⟩
  rintro r cs' ⟨rfl, rfl⟩ w A v hr
  exact ⟨by rw [ht]; exact hr, trivial, by rw [hH]; exact List.Perm.refl _⟩
/-- a call that draws a number -/
theorem YSeq.callI {f : FuncId} {ol : List Operand} {ts : Array TypeId} {st c b : Nat} {args : List Tr} {xs : List Int} {p : Int → Prop} (hg : Gen P st f args c (fun r => ∃ x, r = .int x ∧ p x))
    (ha : ∀ ξ, Evs (rst (slotsOf (.call ⟨.value (.func f), ol.toArray, ts⟩)) (acc ξ)) ol (Tr.ptr b :: args))
    (hH : ∀ (ξ : Nat → Value) (S : Nat → Bool), S n = false → Clo L S → ∃ N cf, N + c ≤ 1000000000000 ∧ (H ξ S).Perm (Chunk.strm st b (intRows xs) N :: cf) ∧ ∀ v, (H (upd ξ n v) (updD S n)).Perm (Chunk.strm st b (intRows xs) (N + c) :: cf))
    (k : YSeq P Γ H L K (n + 1) (fun ξ => (d, Tr.int (vInt (ξ n))) :: acc ξ) (pfY n (fun ξ => p (vInt (ξ n))) Pf) l) : YSeq P Γ H L K n acc Pf (⟨some d, .call ⟨.value (.func f), ol.toArray, ts⟩, ty, pos, af, none⟩ :: l) := by
  refine YSeq.call (PvOkY.own (p := fun v => p (vInt v))) (TOk.own (T := fun v => Tr.int (vInt v))) ?_ k
  intro ξ S h1 h2 h3 h4
  unfold Gen at hg
  obtain ⟨N, cf, hN, hp, hp2⟩ := hH ξ S h1 h3
  refine ⟨_, _, cf, _, hg b xs N hN, ha ξ, hp, ?_⟩
  rintro r cs' ⟨rfl, x, rfl, hx⟩ w A v hr
  have hv := rd_raw hr
  subst hv
  refine ⟨?_, ?_, hp2 _⟩
  · simp only [upd_same, vInt]
    exact raw_self _
  · simpa only [upd_same, vInt] using hx
/-- a call that draws a string -/
theorem YSeq.callS {f : FuncId} {ol : List Operand} {ts : Array TypeId} {st c b : Nat} {args : List Tr} {xs : List Int} {p : ByteArray → Prop} (hg : Gen P st f args c (fun r => ∃ x, r = .str x ∧ p x))
    (ha : ∀ ξ, Evs (rst (slotsOf (.call ⟨.value (.func f), ol.toArray, ts⟩)) (acc ξ)) ol (Tr.ptr b :: args))
    (hH : ∀ (ξ : Nat → Value) (S : Nat → Bool), S n = false → Clo L S → ∃ N cf, N + c ≤ 1000000000000 ∧ (H ξ S).Perm (Chunk.strm st b (intRows xs) N :: cf) ∧ ∀ v, (H (upd ξ n v) (updD S n)).Perm (Chunk.strm st b (intRows xs) (N + c) :: cf))
    (k : YSeq P Γ H L K (n + 1) (fun ξ => (d, Tr.str (vStr (ξ n))) :: acc ξ) (pfY n (fun ξ => p (vStr (ξ n))) Pf) l) : YSeq P Γ H L K n acc Pf (⟨some d, .call ⟨.value (.func f), ol.toArray, ts⟩, ty, pos, af, none⟩ :: l) := by
  refine YSeq.call (PvOkY.own (p := fun v => p (vStr v))) (TOk.own (T := fun v => Tr.str (vStr v))) ?_ k
  intro ξ S h1 h2 h3 h4
  unfold Gen at hg
  obtain ⟨N, cf, hN, hp, hp2⟩ := hH ξ S h1 h3
  refine ⟨_, _, cf, _, hg b xs N hN, ha ξ, hp, ?_⟩
  rintro r cs' ⟨rfl, x, rfl, hx⟩ w A v hr
  have hv := rd_raw hr
  subst hv
  refine ⟨?_, ?_, hp2 _⟩
  · simp only [upd_same, vStr]
    exact raw_self _
  · simpa only [upd_same, vStr] using hx
/-- a call that draws a value of which only some tree is known -/
theorem YSeq.callT {f : FuncId} {ol : List Operand} {ts : Array TypeId} {st c b : Nat} {args : List Tr} {xs : List Int} {post : Tr → Prop} (t : Tr) (hg : Gen P st f args c post) (ht : ∀ r, post r → Imp r t)
    (ha : ∀ ξ, Evs (rst (slotsOf (.call ⟨.value (.func f), ol.toArray, ts⟩)) (acc ξ)) ol (Tr.ptr b :: args))
    (hH : ∀ (ξ : Nat → Value) (S : Nat → Bool), S n = false → Clo L S → ∃ N cf, N + c ≤ 1000000000000 ∧ (H ξ S).Perm (Chunk.strm st b (intRows xs) N :: cf) ∧ ∀ v, (H (upd ξ n v) (updD S n)).Perm (Chunk.strm st b (intRows xs) (N + c) :: cf))
    (k : YSeq P Γ H L K (n + 1) (fun ξ => (d, t) :: acc ξ) (pfY n (fun _ => True) Pf) l) : YSeq P Γ H L K n acc Pf (⟨some d, .call ⟨.value (.func f), ol.toArray, ts⟩, ty, pos, af, none⟩ :: l) := by
  refine YSeq.call PvOkY.triv (TOk.const (t := t)) ?_ k
  intro ξ S h1 h2 h3 h4
  unfold Gen at hg
  obtain ⟨N, cf, hN, hp, hp2⟩ := hH ξ S h1 h3
  refine ⟨_, _, cf, _, hg b xs N hN, ha ξ, hp, ?_⟩
  rintro r cs' ⟨rfl, hx⟩ w A v hr
  exact ⟨ht r hx _ _ _ hr, trivial, hp2 _⟩
end y
end Lg
