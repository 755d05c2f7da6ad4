/- A part of the proof of a law of this seat: it adds no condition. By an AI agent. -/
import Derived.Test.YtgjiiacknhdabaaDoorLgY2
import Derived.Test.YtgjiiacknhdabaaDoorWal4
section
set_option linter.all false
set_option maxRecDepth 100000
set_option maxHeartbeats 8000000
namespace Lg
open Go Go.Proofs

def catX (s2 s5 : Bool) (v2 v5 : Value) (E : TypeId) (rows rows2 : List (List Tr)) : List Chunk := match s5 with
  | true => [Chunk.own (vAd v5) (vCap v5) 1 E rows2]
  | false => match s2 with
    | true => [Chunk.own (vAd v2) (vCap v2) 1 E rows]
    | false => []
theorem any_drop {l : List Int} {k : Nat} {x : Int} (h : l[k]? = some x) : (l.drop k).any bC = (bC x || (l.drop (k + 1)).any bC) := by
  have hk := (List.getElem?_eq_some_iff.1 h)
  obtain ⟨hlt, e⟩ := hk
  rw [List.drop_eq_getElem_cons hlt, List.any_cons, e]
theorem walletFault_fn (w : Wal) (hb : WBd w) : PFn Tryd.prog 20 [.wal w] (· = .int (walE w)) := by
  have hS := strRows_len w.sites
  have hR := intsR_len w.rights
  have hU := intRows_len w.used
  have n1 := hb.n1
  have nr := hb.r
  have nu := hb.u
  have kS := kiosksFault_fn w.sites (by omega)
  have k1 : ∀ (n b : Nat), Spec Tryd.prog 48 [.sl 1 (intsR w.rights), Tr.raw (.func (.func 49) #[] [Value.pointer (some ⟨b, 0, none⟩)].toArray)] [Chunk.box b 3 [.int n]] (fun r cs => r = .bool (w.rights.any (formB n)) ∧ cs = [Chunk.box b 3 [.int n]]) := fun n b => containsFunc_intL (p := formB n) (caps := [.pointer (some ⟨b, 0, none⟩)]) (cin := [Chunk.box b 3 [.int n]]) (l := w.rights) (by omega) (fun x _ => formR_fn n b x)
  refine PFn.mk (Spec.body Tryd.func20 rfl rfl (Tryd.ntmps20) rfl fun w0 own0 M => ?_)
  by_cases h1 : sitE w.sites ≠ 0
  · have e : walE w = sitE w.sites := by unfold walE; rw [if_pos h1]
    rw [e]
    generalize sitE w.sites = c at *
    repeat' (first | refine goH ?_ | refine goV ?_ | refine goB (fun b => ?_) | refine goC (fun ad cap => ?_) | refine goG ?_ | (refine Ops.k_guard ?_; first | (refine Ops.guard_dec rfl rfl (fun hc => ?_) (fun hc => ?_) <;> try (exfalso; omega)) | refine Ops.guard_split rfl rfl (fun hc => ?_) (fun hc => ?_)) | refine goI ?_ | (refine Cw.k_cond ?_; first | (refine Cw.cond_dec rfl (fun hc => ?_) (fun hc => ?_) <;> try (exfalso; omega)) | refine Cw.cond_bool rfl (fun hc => ?_) (fun hc => ?_)) | (refine Ops.k_calla ?_; first | (refine Ops.k_callf 36 ?_; refine Ops.callV kS (Evs.cons rfl Evs.nil) rfl ?_)) | (apply OpW.k_call; first | (apply OpW.k_callf 36; exact OpW.callV kS (Evs.cons rfl Evs.nil))) | refine goR ?_ | refine goP ?_ | apply PSeq.cons | apply PSeq.yes rfl rfl rfl | exact goW | fail)
    exact Fin.ret (Ent.take goTk) (Outs.one rfl rfl) ⟨rfl, rfl⟩
  have h0 : sitE w.sites = 0 := by omega
  rw [h0] at kS
  repeat' (first | refine goH ?_ | refine goV ?_ | refine goB (fun b => ?_) | refine goC (fun ad cap => ?_) | refine goG ?_ | (refine Ops.k_guard ?_; first | (refine Ops.guard_dec rfl rfl (fun hc => ?_) (fun hc => ?_) <;> try (exfalso; omega)) | refine Ops.guard_split rfl rfl (fun hc => ?_) (fun hc => ?_)) | refine goI ?_ | (refine Cw.k_cond ?_; first | (refine Cw.cond_dec rfl (fun hc => ?_) (fun hc => ?_) <;> try (exfalso; omega)) | refine Cw.cond_bool rfl (fun hc => ?_) (fun hc => ?_)) | (refine Ops.k_calla ?_; first | (refine Ops.k_callf 36 ?_; refine Ops.callV kS (Evs.cons rfl Evs.nil) rfl ?_) | (refine Ops.k_callf 48 ?_; (refine Ops.call (k1 _ _) (Evs.cons rfl (Evs.cons rfl Evs.nil)) goPm rfl ?_; rintro r cs' ⟨rfl, rfl⟩))) | (apply OpW.k_call; first | (apply OpW.k_callf 36; exact OpW.callV kS (Evs.cons rfl Evs.nil))) | fail)
  · exact Fin.ret (Ent.take goTk) (Outs.one rfl rfl) ⟨rfl, congrArg Tr.int (walE_3 h0 (by unfold badForm; simp; omega)).symm⟩
  · exact Fin.ret (Ent.take goTk) (Outs.one rfl rfl) ⟨rfl, congrArg Tr.int (walE_3 h0 (by unfold badForm; simp; omega)).symm⟩
  · rename_i hc1 hc2
    rw [hS] at hc
    exact Fin.ret (Ent.take goTk) (Outs.one rfl rfl) ⟨rfl, congrArg Tr.int (walE_3 h0 (by unfold badForm; rw [hc]; simp)).symm⟩
  rename_i b1 hc1 hc2
  rw [hS] at hc
  have hbf : badForm w = false := by unfold badForm; rw [Bool.or_eq_false_iff, Bool.or_eq_false_iff]; exact ⟨by simp; omega, by simp; omega, by simpa using hc⟩
  have q1 : w.rights.flatten.length ≤ 10000 := flat_bd (n := 100) (m := 100) hb.rr (by omega)
  have hfl := intRows_len w.rights.flatten
  have k2 := concat_fn w.rights (by omega) (by omega)
  have hW3 := walE_1 h0 hbf
  have hW4 := walE_0 h0 hbf
  have hwo := wok_of h0 hbf
  clear k1 kS
  have key : intRows w.rights.flatten ++ intRows w.used = intRows (w.rights.flatten ++ w.used) := by rw [intRows_app]
  have hAl : (w.rights.flatten ++ w.used).length ≤ 20000 := by rw [List.length_append]; omega
  have hAr := intRows_len (w.rights.flatten ++ w.used)
  refine Cw.region_X (fun ξ S => Chunk.box b 3 [.int (strRows w.sites).length] :: Chunk.box b1 31 [.strs w.sites, .sl 1 (intsR w.rights), .ints w.used] :: catX (S 2) (S 5) (ξ 2) (ξ 5) 3 (intRows w.rights.flatten) (intRows w.rights.flatten ++ intRows w.used)) rfl (by decide +kernel) rfl (fun _ => rfl) ?_
  apply XSeq.w (by intro _ _ _; rfl)
  · intro ξ S h1 h2 h3 h4; exact goW
  apply XSeq.w (by intro _ _ _; rfl)
  · intro ξ S h1 h2 h3 h4; exact goW
  apply XSeq.callO k2 (fun _ => (Evs.cons rfl Evs.nil))
  · intro ξ S h1 h3 ad cap
    have e5 := closed_false h1 h3 (k := 5) rfl (by decide)
    show (_ :: _ :: catX true (S 5) (.slice ad _ cap) (ξ 5) 3 _ _).Perm (_ :: _ :: _ :: catX (S 2) (S 5) (ξ 2) (ξ 5) 3 _ _)
    rw [h1, e5]
    exact (pickS (pickS pick0))
  apply XSeq.w (by intro _ _ _; rfl)
  · intro ξ S h1 h2 h3 h4; exact goW
  apply XSeq.w (by intro _ _ _; rfl)
  · intro ξ S h1 h2 h3 h4; exact goW
  apply XSeq.append (w.rights.flatten ++ w.used).length
  · intro ξ S h1 h2 h3 h4
    have e := h2 2 (by decide)
    obtain ⟨ad, cap, hb2⟩ : ∃ ad cap, ξ 2 = .slice ad (intRows w.rights.flatten).length cap := h4 2 e
    obtain ⟨ξ, rfl⟩ := exists_upd hb2
    refine ⟨ad, (intRows w.rights.flatten).length, cap, intRows w.rights.flatten, intRows w.used, [Chunk.box b 3 [.int (strRows w.sites).length], Chunk.box b1 31 [.strs w.sites, .sl 1 (intsR w.rights), .ints w.used]], rfl, rfl, ?_, rfl, ?_, ?_, ?_, ?_⟩
    · show (_ :: _ :: catX (S 2) (S 5) (.slice ad _ cap) (ξ 5) 3 _ _).Perm _
      rw [h1, e]
      exact (pickS (pickS pick0))
    · rw [List.length_append]; omega
    · omega
    · omega
    · intro ad' cap'
      exact (pickS (pickS pick0))
  apply XSeq.w (t := Tr.int (w.rights.flatten ++ w.used).length) (by intro _ _ _; rfl)
  · intro ξ S h1 h2 h3 h4
    have e := h2 5 (by decide)
    obtain ⟨ad, cap, hb2⟩ : ∃ ad cap, ξ 5 = .slice ad (w.rights.flatten ++ w.used).length cap := h4 5 e
    obtain ⟨ξ, rfl⟩ := exists_upd hb2
    exact goW
  apply XSeq.w (by intro _ _ _; rfl)
  · intro ξ S h1 h2 h3 h4; exact goW
  refine XSeq.nil fun ξ hf => ?_
  obtain ⟨ad, cap, hb2⟩ : ∃ ad cap, ξ 5 = .slice ad (w.rights.flatten ++ w.used).length cap := hf 5
  obtain ⟨ξ, rfl⟩ := exists_upd hb2
  clear hf
  rw [key]
  refine ⟨[(1, .ptr b1), (40, Tr.raw (.slice ad (w.rights.flatten ++ w.used).length cap)), (41, .int (w.rights.flatten ++ w.used).length), (42, .int 0)], [Chunk.box b 3 [.int (strRows w.sites).length], Chunk.box b1 31 [.strs w.sites, .sl 1 (intsR w.rights), .ints w.used], Chunk.own ad cap 1 3 (intRows (w.rights.flatten ++ w.used))], Ent.sub goSub, ?_⟩
  refine Then.norm ?_
  generalize hA : w.rights.flatten ++ w.used = A at *
  clear key k2 hfl q1 hb2
  have hV0 : A.any bC = (A.drop 0).any bC := rfl
  repeat' (first | refine goH ?_ | refine goV ?_ | refine goB (fun b => ?_) | refine goC (fun ad cap => ?_) | refine goG ?_ | (refine Ops.k_guard ?_; first | (refine Ops.guard_dec rfl rfl (fun hc => ?_) (fun hc => ?_) <;> try (exfalso; omega)) | refine Ops.guard_split rfl rfl (fun hc => ?_) (fun hc => ?_)) | refine goI ?_ | (refine Cw.k_cond ?_; first | (refine Cw.cond_dec rfl (fun hc => ?_) (fun hc => ?_) <;> try (exfalso; omega)) | refine Cw.cond_bool rfl (fun hc => ?_) (fun hc => ?_)) | refine goR ?_ | refine goP ?_ | apply PSeq.cons | apply PSeq.yes rfl rfl rfl | exact goW | fail)
  refine Cw.loopI [(1, _), (40, _), (41, _)] _ (fun q e cc => ∃ (k : Nat), q = A.length - k ∧ (k ≤ A.length ∧ A.any bC = (A.drop k).any bC) ∧ e = [(42, .int k)] ∧ cc = []) ⟨_, _, _, (Ent.mkP goSub goPm), 0, rfl, ⟨by omega, hV0⟩, rfl, rfl⟩ ?_
  clear hV0
  rintro _ _ _ ⟨k, rfl, ⟨hk, hV⟩, rfl, rfl⟩
  by_cases hkl : k < A.length
  · obtain ⟨x, hx⟩ := at_lt hkl
    have hrow := intRows_at hx
    have hd := any_drop hx
    rw [hd] at hV
    by_cases g : bC x = true
    · rw [g, Bool.true_or] at hV
      have e := hW3 hV
      have g' : x < 0 ∨ 1000000000 < x := by simpa [bC] using g
      clear hW3 hW4 hwo hd hV
      repeat' (first | refine goH ?_ | refine goV ?_ | refine goB (fun b => ?_) | refine goC (fun ad cap => ?_) | refine goG ?_ | (refine Ops.k_guard ?_; first | (refine Ops.guard_dec rfl rfl (fun hc => ?_) (fun hc => ?_) <;> try (exfalso; omega)) | refine Ops.guard_split rfl rfl (fun hc => ?_) (fun hc => ?_)) | refine goI ?_ | (refine Cw.k_cond ?_; first | (refine Cw.cond_dec rfl (fun hc => ?_) (fun hc => ?_) <;> try (exfalso; omega)) | refine Cw.cond_bool rfl (fun hc => ?_) (fun hc => ?_)) | refine goR ?_ | refine goP ?_ | apply PSeq.cons | apply PSeq.yes rfl rfl rfl | exact goW | fail)
      all_goals exact Fin.ret (Ent.take goTk) (Outs.one rfl rfl) ⟨rfl, congrArg Tr.int e.symm⟩
    · have g0 : bC x = false := by simpa using g
      rw [g0, Bool.false_or] at hV
      have g' : ¬ x < 0 ∧ ¬ x > 1000000000 := by simp [bC] at g0; omega
      obtain ⟨g1, g2⟩ := g'
      clear hW3 hW4 hwo hd
      repeat' (first | refine goH ?_ | refine goV ?_ | refine goB (fun b => ?_) | refine goC (fun ad cap => ?_) | refine goG ?_ | (refine Ops.k_guard ?_; first | (refine Ops.guard_dec rfl rfl (fun hc => ?_) (fun hc => ?_) <;> try (exfalso; omega)) | refine Ops.guard_split rfl rfl (fun hc => ?_) (fun hc => ?_)) | refine goI ?_ | (refine Cw.k_cond ?_; first | (refine Cw.cond_dec rfl (fun hc => ?_) (fun hc => ?_) <;> try (exfalso; omega)) | refine Cw.cond_bool rfl (fun hc => ?_) (fun hc => ?_)) | refine goR ?_ | refine goP ?_ | apply PSeq.cons | apply PSeq.yes rfl rfl rfl | exact goW | fail)
      exact ⟨_, _, _, (Ent.mk goSub goTk), ⟨k + 1, rfl, ⟨by omega, hV⟩, rfl, rfl⟩, by omega⟩
  rw [List.drop_of_length_le (by omega), List.any_nil] at hV
  have hV0 := hW4 hV
  have hw := hwo hV
  clear hW3 hW4 hwo hV
  repeat' (first | refine goH ?_ | refine goV ?_ | refine goB (fun b => ?_) | refine goC (fun ad cap => ?_) | refine goG ?_ | (refine Ops.k_guard ?_; first | (refine Ops.guard_dec rfl rfl (fun hc => ?_) (fun hc => ?_) <;> try (exfalso; omega)) | refine Ops.guard_split rfl rfl (fun hc => ?_) (fun hc => ?_)) | refine goI ?_ | (refine Cw.k_cond ?_; first | (refine Cw.cond_dec rfl (fun hc => ?_) (fun hc => ?_) <;> try (exfalso; omega)) | refine Cw.cond_bool rfl (fun hc => ?_) (fun hc => ?_)) | refine goR ?_ | refine goP ?_ | apply PSeq.cons | apply PSeq.yes rfl rfl rfl | exact goW | fail)
  refine Cw.loopI [(1, _), (55, _)] _ (fun q e cc => ∃ (k : Nat), q = w.sites.length - k ∧ (k ≤ w.sites.length ∧ walE w = firstE (rgtE w) k (w.sites.length - k)) ∧ e = [(56, .int k)] ∧ cc = []) ⟨_, _, _, (Ent.mkP goSub goPm), 0, rfl, ⟨by omega, hV0⟩, rfl, rfl⟩ ?_
  clear hV0
  rintro _ _ _ ⟨k, rfl, ⟨hk, hV⟩, rfl, rfl⟩
  by_cases hkl : k < w.sites.length
  rotate_left
  · repeat' (first | refine goH ?_ | refine goV ?_ | refine goB (fun b => ?_) | refine goC (fun ad cap => ?_) | refine goG ?_ | (refine Ops.k_guard ?_; first | (refine Ops.guard_dec rfl rfl (fun hc => ?_) (fun hc => ?_) <;> try (exfalso; omega)) | refine Ops.guard_split rfl rfl (fun hc => ?_) (fun hc => ?_)) | refine goI ?_ | (refine Cw.k_cond ?_; first | (refine Cw.cond_dec rfl (fun hc => ?_) (fun hc => ?_) <;> try (exfalso; omega)) | refine Cw.cond_bool rfl (fun hc => ?_) (fun hc => ?_)) | refine goR ?_ | refine goP ?_ | apply PSeq.cons | apply PSeq.yes rfl rfl rfl | exact goW | fail)
    refine Fin.ret (Ent.take goTk) (Outs.one rfl rfl) ⟨rfl, congrArg Tr.int ?_⟩
    rw [hV, firstE_end hkl]
  have kR := rightsR_fn w hw k hkl
  have fin : ∀ c, rgtE w k = c → c ≠ 0 → walE w = c := fun c h1 h2 => hV.trans (firstE_bad hkl h1 h2)
  have nxt : rgtE w k = 0 → walE w = firstE (rgtE w) (k + 1) (w.sites.length - (k + 1)) := fun h1 => hV.trans (firstE_ok hkl h1)
  have hE : rgtE w k = if rgt w k < 0 then 16 else 0 := rfl
  clear hV
  by_cases g : rgt w k < 0
  · rw [if_pos g] at hE
    have hF := fin 16 hE (by decide)
    clear fin nxt
    repeat' (first | refine goH ?_ | refine goV ?_ | refine goB (fun b => ?_) | refine goC (fun ad cap => ?_) | refine goG ?_ | (refine Ops.k_guard ?_; first | (refine Ops.guard_dec rfl rfl (fun hc => ?_) (fun hc => ?_) <;> try (exfalso; omega)) | refine Ops.guard_split rfl rfl (fun hc => ?_) (fun hc => ?_)) | refine goI ?_ | (refine Cw.k_cond ?_; first | (refine Cw.cond_dec rfl (fun hc => ?_) (fun hc => ?_) <;> try (exfalso; omega)) | refine Cw.cond_bool rfl (fun hc => ?_) (fun hc => ?_)) | (refine Ops.k_calla ?_; first | (refine Ops.k_callf 50 ?_; refine Ops.callV kR (Evs.cons rfl (Evs.cons rfl Evs.nil)) rfl ?_)) | (apply OpW.k_call; first | (apply OpW.k_callf 50; exact OpW.callV kR (Evs.cons rfl (Evs.cons rfl Evs.nil)))) | refine goR ?_ | refine goP ?_ | apply PSeq.cons | apply PSeq.yes rfl rfl rfl | exact goW | fail)
    exact Fin.ret (Ent.take goTk) (Outs.one rfl rfl) ⟨rfl, congrArg Tr.int hF.symm⟩
  · rw [if_neg g] at hE
    have hN := nxt hE
    clear fin nxt
    repeat' (first | refine goH ?_ | refine goV ?_ | refine goB (fun b => ?_) | refine goC (fun ad cap => ?_) | refine goG ?_ | (refine Ops.k_guard ?_; first | (refine Ops.guard_dec rfl rfl (fun hc => ?_) (fun hc => ?_) <;> try (exfalso; omega)) | refine Ops.guard_split rfl rfl (fun hc => ?_) (fun hc => ?_)) | refine goI ?_ | (refine Cw.k_cond ?_; first | (refine Cw.cond_dec rfl (fun hc => ?_) (fun hc => ?_) <;> try (exfalso; omega)) | refine Cw.cond_bool rfl (fun hc => ?_) (fun hc => ?_)) | (refine Ops.k_calla ?_; first | (refine Ops.k_callf 50 ?_; refine Ops.callV kR (Evs.cons rfl (Evs.cons rfl Evs.nil)) rfl ?_)) | (apply OpW.k_call; first | (apply OpW.k_callf 50; exact OpW.callV kR (Evs.cons rfl (Evs.cons rfl Evs.nil)))) | refine goR ?_ | refine goP ?_ | apply PSeq.cons | apply PSeq.yes rfl rfl rfl | exact goW | fail)
    exact ⟨_, _, _, (Ent.mk goSub goTk), ⟨k + 1, rfl, ⟨by omega, hN⟩, rfl, rfl⟩, by omega⟩
end Lg
end
section
set_option linter.all false
set_option maxRecDepth 100000
set_option maxHeartbeats 4000000
namespace Lg
open Go Go.Proofs
theorem equalStrs_same (xs : List ByteArray) (h : xs.length ≤ 1000000000) : PFn Tryd.prog 43 [.strs xs, .strs xs] (· = .bool true) := by
  refine PFn.mk (Spec.body Tryd.func43 rfl rfl (Tryd.ntmps43) rfl fun w0 own0 M => ?_)
  have hL := strRows_len xs
  repeat' (first | refine goH ?_ | refine goV ?_ | refine goI ?_ | (refine Cw.k_cond ?_; first | (refine Cw.cond_dec rfl (fun hc => ?_) (fun hc => ?_) <;> try (exfalso; omega)) | refine Cw.cond_bool rfl (fun hc => ?_) (fun hc => ?_)) | refine goR ?_ | refine goP ?_ | apply PSeq.cons | apply PSeq.yes rfl rfl rfl | exact goW | fail)
  refine Cw.loop (ι := Nat) (fun k => k ≤ xs.length) (fun k => [(0, .strs xs), (1, .strs xs), (11, .strs xs), (12, .int (strRows xs).length), (13, .int k)]) (fun _ => []) (fun k => xs.length - k) ⟨0, by omega, (Ent.mk goSub goTk)⟩ ?_
  intro k hk
  by_cases hkl : k < xs.length
  · obtain ⟨d, hd⟩ : ∃ x, xs[k]? = some x := ⟨_, List.getElem?_eq_getElem hkl⟩
    have hrow := strRows_at hd
    repeat' (first | refine goH ?_ | refine goV ?_ | refine goI ?_ | (refine Cw.k_cond ?_; first | (refine Cw.cond_dec rfl (fun hc => ?_) (fun hc => ?_) <;> try (exfalso; omega)) | refine Cw.cond_bool rfl (fun hc => ?_) (fun hc => ?_)) | refine goR ?_ | refine goP ?_ | apply PSeq.cons | apply PSeq.yes rfl rfl rfl | exact goW | fail)
    all_goals first | exact ⟨k + 1, by omega, by omega, (Ent.mk goSub goTk)⟩ | exact absurd rfl hc
  · repeat' (first | refine goH ?_ | refine goV ?_ | refine goI ?_ | (refine Cw.k_cond ?_; first | (refine Cw.cond_dec rfl (fun hc => ?_) (fun hc => ?_) <;> try (exfalso; omega)) | refine Cw.cond_bool rfl (fun hc => ?_) (fun hc => ?_)) | refine goR ?_ | refine goP ?_ | apply PSeq.cons | apply PSeq.yes rfl rfl rfl | exact goW | fail)
    exact Fin.ret Ent.refl (Outs.one rfl rfl) ⟨rfl, rfl⟩
end Lg
end
section
set_option linter.all false
set_option maxRecDepth 100000
set_option maxHeartbeats 8000000
namespace Lg
open Go Go.Proofs

theorem drop_ne {a b : List ByteArray} {k : Nat} {x y : ByteArray} (h1 : a[k]? = some x) (h2 : b[k]? = some y) (h : x ≠ y) : a ≠ b := by
  rintro rfl
  rw [h1] at h2
  exact h (Option.some.inj h2)
theorem equalStrs_fn (a b : List ByteArray) (ha : a.length ≤ 1000000) (hb : b.length ≤ 1000000) : PFn Tryd.prog 43 [.strs a, .strs b] (· = .bool (decide (a = b))) := by
  refine PFn.mk (Spec.body Tryd.func43 rfl rfl (Tryd.ntmps43) rfl fun w0 own0 M => ?_)
  have hA := strRows_len a
  have hB := strRows_len b
  by_cases hl : a.length = b.length
  rotate_left
  · have e : decide (a = b) = false := decide_eq_false (fun e => hl (by rw [e]))
    repeat' (first | refine goH ?_ | refine goV ?_ | refine goI ?_ | (refine Cw.k_cond ?_; first | (refine Cw.cond_dec rfl (fun hc => ?_) (fun hc => ?_) <;> try (exfalso; omega)) | refine Cw.cond_bool rfl (fun hc => ?_) (fun hc => ?_)) | refine goR ?_ | refine goP ?_ | apply PSeq.cons | apply PSeq.yes rfl rfl rfl | exact goW | fail)
    exact Fin.ret (Ent.take goTk) (Outs.one rfl rfl) ⟨rfl, congrArg Tr.bool e.symm⟩
  repeat' (first | refine goH ?_ | refine goV ?_ | refine goI ?_ | (refine Cw.k_cond ?_; first | (refine Cw.cond_dec rfl (fun hc => ?_) (fun hc => ?_) <;> try (exfalso; omega)) | refine Cw.cond_bool rfl (fun hc => ?_) (fun hc => ?_)) | refine goR ?_ | refine goP ?_ | apply PSeq.cons | apply PSeq.yes rfl rfl rfl | exact goW | fail)
  refine Cw.loopI [(0, _), (1, _), (11, _), (12, _)] _ (fun q e cc => ∃ (k : Nat), q = a.length - k ∧ (k ≤ a.length ∧ ∀ j, j < k → a[j]? = b[j]?) ∧ e = [(13, .int k)] ∧ cc = []) ⟨_, _, _, (Ent.mkP goSub goPm), 0, rfl, ⟨by omega, fun j h => absurd h (by omega)⟩, rfl, rfl⟩ ?_
  rintro _ _ _ ⟨k, rfl, ⟨hk, hV⟩, rfl, rfl⟩
  by_cases hkl : k < a.length
  · obtain ⟨x, hx⟩ := at_lt hkl
    obtain ⟨y, hy⟩ := at_lt (l := b) (k := k) (by omega)
    have hr1 := strRows_at hx
    have hr2 := strRows_at hy
    by_cases hxy : x = y
    · have nx : ∀ j, j < k + 1 → a[j]? = b[j]? := by
        intro j hj
        by_cases e : j = k
        · subst e; rw [hx, hy, hxy]
        · exact hV j (by omega)
      subst hxy
      clear hV
      repeat' (first | refine goH ?_ | refine goV ?_ | refine goI ?_ | (refine Cw.k_cond ?_; first | (refine Cw.cond_dec rfl (fun hc => ?_) (fun hc => ?_) <;> try (exfalso; omega)) | refine Cw.cond_bool rfl (fun hc => ?_) (fun hc => ?_)) | refine goR ?_ | refine goP ?_ | apply PSeq.cons | apply PSeq.yes rfl rfl rfl | exact goW | fail)
      all_goals first | exact ⟨_, _, _, (Ent.mk goSub goTk), ⟨k + 1, rfl, ⟨by omega, nx⟩, rfl, rfl⟩, by omega⟩ | exact absurd rfl hc
    · have e : decide (a = b) = false := decide_eq_false (drop_ne hx hy hxy)
      clear hV
      repeat' (first | refine goH ?_ | refine goV ?_ | refine goI ?_ | (refine Cw.k_cond ?_; first | (refine Cw.cond_dec rfl (fun hc => ?_) (fun hc => ?_) <;> try (exfalso; omega)) | refine Cw.cond_bool rfl (fun hc => ?_) (fun hc => ?_)) | refine goR ?_ | refine goP ?_ | apply PSeq.cons | apply PSeq.yes rfl rfl rfl | exact goW | fail)
      all_goals first | exact Fin.ret (Ent.take goTk) (Outs.one rfl rfl) ⟨rfl, congrArg Tr.bool e.symm⟩ | (exfalso; simp_all; done)
  · have e : decide (a = b) = true := by
      refine decide_eq_true (List.ext_getElem? fun j => ?_)
      by_cases hj : j < k
      · exact hV j hj
      · rw [List.getElem?_eq_none (by omega), List.getElem?_eq_none (by omega)]
    clear hV
    repeat' (first | refine goH ?_ | refine goV ?_ | refine goI ?_ | (refine Cw.k_cond ?_; first | (refine Cw.cond_dec rfl (fun hc => ?_) (fun hc => ?_) <;> try (exfalso; omega)) | refine Cw.cond_bool rfl (fun hc => ?_) (fun hc => ?_)) | refine goR ?_ | refine goP ?_ | apply PSeq.cons | apply PSeq.yes rfl rfl rfl | exact goW | fail)
    exact Fin.ret (Ent.take goTk) (Outs.one rfl rfl) ⟨rfl, congrArg Tr.bool e.symm⟩
def pairE (a b : Wal) : Int := if orI [walE a, walE b] ≠ 0 then orI [walE a, walE b] else if decide (a.sites = b.sites) = true then 0 else 3
theorem pairE_ok {a b : Wal} (h : pairE a b = 0) : walE a = 0 ∧ walE b = 0 ∧ b.sites = a.sites := by
  unfold pairE at h
  by_cases h1 : orI [walE a, walE b] ≠ 0
  · rw [if_pos h1] at h; exact absurd h h1
  rw [if_neg h1] at h
  by_cases h2 : decide (a.sites = b.sites) = true
  · have h1' : orI [walE a, walE b] = 0 := by omega
    rw [orI_cons] at h1'
    by_cases g : walE a ≠ 0
    · rw [if_pos g] at h1'; exact absurd h1' g
    rw [if_neg g, orI_cons] at h1'
    by_cases g2 : walE b ≠ 0
    · rw [if_pos g2] at h1'; exact absurd h1' g2
    exact ⟨by omega, by omega, (of_decide_eq_true h2).symm⟩
  · rw [if_neg h2] at h; cases h
theorem pairD_fn (a b : Wal) (ha : WBd a) (hb : WBd b) : PFn Tryd.prog 37 [.wal a, .wal b] (· = .int (pairE a b)) := by
  have kA := checkWallet_fn a ha
  have kB := checkWallet_fn b hb
  have n1 := ha.n1
  have n2 := hb.n1
  have kO := cmpOr_fn [walE a, walE b] (by simp)
  have kE := equalStrs_fn a.sites b.sites (by omega) (by omega)
  refine PFn.mk (Spec.body Tryd.func37 rfl rfl (Tryd.ntmps37) rfl fun w0 own0 M => ?_)
  unfold pairE
  by_cases h1 : orI [walE a, walE b] ≠ 0
  · rw [if_pos h1]
    generalize hX : walE a = x at *
    generalize hY : walE b = y at *
    generalize orI [x, y] = o at *
    repeat' (first | refine goH ?_ | refine goV ?_ | refine goB (fun b => ?_) | refine goI ?_ | (refine Cw.k_cond ?_; first | (refine Cw.cond_dec rfl (fun hc => ?_) (fun hc => ?_) <;> try (exfalso; omega)) | refine Cw.cond_bool rfl (fun hc => ?_) (fun hc => ?_)) | (refine Ops.k_calla ?_; first | (refine Ops.k_callf 21 ?_; refine Ops.callV kA (Evs.cons rfl Evs.nil) rfl ?_) | (refine Ops.k_callf 21 ?_; refine Ops.callV kB (Evs.cons rfl Evs.nil) rfl ?_) | (refine Ops.k_callf 60 ?_; refine Ops.callV kO (Evs.cons rfl Evs.nil) rfl ?_)) | (apply OpW.k_call; first | (apply OpW.k_callf 21; exact OpW.callV kA (Evs.cons rfl Evs.nil)) | (apply OpW.k_callf 21; exact OpW.callV kB (Evs.cons rfl Evs.nil)) | (apply OpW.k_callf 60; exact OpW.callV kO (Evs.cons rfl Evs.nil))) | refine goR ?_ | refine goP ?_ | apply PSeq.cons | apply PSeq.yes rfl rfl rfl | exact goW | fail)
    exact Fin.ret (Ent.take goTk) (Outs.one rfl rfl) ⟨rfl, rfl⟩
  · rw [if_neg h1]
    have h0 : orI [walE a, walE b] = 0 := by omega
    rw [h0] at kO
    generalize hX : walE a = x at *
    generalize hY : walE b = y at *
    by_cases h2 : decide (a.sites = b.sites) = true
    · rw [if_pos h2]
      rw [h2] at kE
      repeat' (first | refine goH ?_ | refine goV ?_ | refine goB (fun b => ?_) | refine goI ?_ | (refine Cw.k_cond ?_; first | (refine Cw.cond_dec rfl (fun hc => ?_) (fun hc => ?_) <;> try (exfalso; omega)) | refine Cw.cond_bool rfl (fun hc => ?_) (fun hc => ?_)) | (refine Ops.k_calla ?_; first | (refine Ops.k_callf 21 ?_; refine Ops.callV kA (Evs.cons rfl Evs.nil) rfl ?_) | (refine Ops.k_callf 21 ?_; refine Ops.callV kB (Evs.cons rfl Evs.nil) rfl ?_) | (refine Ops.k_callf 60 ?_; refine Ops.callV kO (Evs.cons rfl Evs.nil) rfl ?_) | (refine Ops.k_callf 43 ?_; refine Ops.callV kE (Evs.cons rfl (Evs.cons rfl Evs.nil)) rfl ?_)) | (apply OpW.k_call; first | (apply OpW.k_callf 21; exact OpW.callV kA (Evs.cons rfl Evs.nil)) | (apply OpW.k_callf 21; exact OpW.callV kB (Evs.cons rfl Evs.nil)) | (apply OpW.k_callf 60; exact OpW.callV kO (Evs.cons rfl Evs.nil)) | (apply OpW.k_callf 43; exact OpW.callV kE (Evs.cons rfl (Evs.cons rfl Evs.nil)))) | refine goR ?_ | refine goP ?_ | apply PSeq.cons | apply PSeq.yes rfl rfl rfl | exact goW | fail)
      exact Fin.ret (Ent.take goTk) (Outs.one rfl rfl) ⟨rfl, rfl⟩
    · rw [if_neg h2]
      have h3 : decide (a.sites = b.sites) = false := by simpa using h2
      rw [h3] at kE
      repeat' (first | refine goH ?_ | refine goV ?_ | refine goB (fun b => ?_) | refine goI ?_ | (refine Cw.k_cond ?_; first | (refine Cw.cond_dec rfl (fun hc => ?_) (fun hc => ?_) <;> try (exfalso; omega)) | refine Cw.cond_bool rfl (fun hc => ?_) (fun hc => ?_)) | (refine Ops.k_calla ?_; first | (refine Ops.k_callf 21 ?_; refine Ops.callV kA (Evs.cons rfl Evs.nil) rfl ?_) | (refine Ops.k_callf 21 ?_; refine Ops.callV kB (Evs.cons rfl Evs.nil) rfl ?_) | (refine Ops.k_callf 60 ?_; refine Ops.callV kO (Evs.cons rfl Evs.nil) rfl ?_) | (refine Ops.k_callf 43 ?_; refine Ops.callV kE (Evs.cons rfl (Evs.cons rfl Evs.nil)) rfl ?_)) | (apply OpW.k_call; first | (apply OpW.k_callf 21; exact OpW.callV kA (Evs.cons rfl Evs.nil)) | (apply OpW.k_callf 21; exact OpW.callV kB (Evs.cons rfl Evs.nil)) | (apply OpW.k_callf 60; exact OpW.callV kO (Evs.cons rfl Evs.nil)) | (apply OpW.k_callf 43; exact OpW.callV kE (Evs.cons rfl (Evs.cons rfl Evs.nil)))) | refine goR ?_ | refine goP ?_ | apply PSeq.cons | apply PSeq.yes rfl rfl rfl | exact goW | fail)
      exact Fin.ret (Ent.take goTk) (Outs.one rfl rfl) ⟨rfl, rfl⟩
theorem pairR_fn (a b : Wal) (ha : WBd a) (hb : WBd b) : PFn Tryd.prog 40 [.wal a, .wal b] (· = .int (pairE a b)) := by
  have kA := walletFault_fn a ha
  have kB := walletFault_fn b hb
  have n1 := ha.n1
  have n2 := hb.n1
  have kO := cmpOr_fn [walE a, walE b] (by simp)
  have kE := equalStrs_fn a.sites b.sites (by omega) (by omega)
  refine PFn.mk (Spec.body Tryd.func40 rfl rfl (Tryd.ntmps40) rfl fun w0 own0 M => ?_)
  unfold pairE
  by_cases h1 : orI [walE a, walE b] ≠ 0
  · rw [if_pos h1]
    generalize hX : walE a = x at *
    generalize hY : walE b = y at *
    generalize orI [x, y] = o at *
    repeat' (first | refine goH ?_ | refine goV ?_ | refine goB (fun b => ?_) | refine goI ?_ | (refine Cw.k_cond ?_; first | (refine Cw.cond_dec rfl (fun hc => ?_) (fun hc => ?_) <;> try (exfalso; omega)) | refine Cw.cond_bool rfl (fun hc => ?_) (fun hc => ?_)) | (refine Ops.k_calla ?_; first | (refine Ops.k_callf 20 ?_; refine Ops.callV kA (Evs.cons rfl Evs.nil) rfl ?_) | (refine Ops.k_callf 20 ?_; refine Ops.callV kB (Evs.cons rfl Evs.nil) rfl ?_) | (refine Ops.k_callf 60 ?_; refine Ops.callV kO (Evs.cons rfl Evs.nil) rfl ?_)) | (apply OpW.k_call; first | (apply OpW.k_callf 20; exact OpW.callV kA (Evs.cons rfl Evs.nil)) | (apply OpW.k_callf 20; exact OpW.callV kB (Evs.cons rfl Evs.nil)) | (apply OpW.k_callf 60; exact OpW.callV kO (Evs.cons rfl Evs.nil))) | refine goR ?_ | refine goP ?_ | apply PSeq.cons | apply PSeq.yes rfl rfl rfl | exact goW | fail)
    exact Fin.ret (Ent.take goTk) (Outs.one rfl rfl) ⟨rfl, rfl⟩
  · rw [if_neg h1]
    have h0 : orI [walE a, walE b] = 0 := by omega
    rw [h0] at kO
    generalize hX : walE a = x at *
    generalize hY : walE b = y at *
    by_cases h2 : decide (a.sites = b.sites) = true
    · rw [if_pos h2]
      rw [h2] at kE
      repeat' (first | refine goH ?_ | refine goV ?_ | refine goB (fun b => ?_) | refine goI ?_ | (refine Cw.k_cond ?_; first | (refine Cw.cond_dec rfl (fun hc => ?_) (fun hc => ?_) <;> try (exfalso; omega)) | refine Cw.cond_bool rfl (fun hc => ?_) (fun hc => ?_)) | (refine Ops.k_calla ?_; first | (refine Ops.k_callf 20 ?_; refine Ops.callV kA (Evs.cons rfl Evs.nil) rfl ?_) | (refine Ops.k_callf 20 ?_; refine Ops.callV kB (Evs.cons rfl Evs.nil) rfl ?_) | (refine Ops.k_callf 60 ?_; refine Ops.callV kO (Evs.cons rfl Evs.nil) rfl ?_) | (refine Ops.k_callf 43 ?_; refine Ops.callV kE (Evs.cons rfl (Evs.cons rfl Evs.nil)) rfl ?_)) | (apply OpW.k_call; first | (apply OpW.k_callf 20; exact OpW.callV kA (Evs.cons rfl Evs.nil)) | (apply OpW.k_callf 20; exact OpW.callV kB (Evs.cons rfl Evs.nil)) | (apply OpW.k_callf 60; exact OpW.callV kO (Evs.cons rfl Evs.nil)) | (apply OpW.k_callf 43; exact OpW.callV kE (Evs.cons rfl (Evs.cons rfl Evs.nil)))) | refine goR ?_ | refine goP ?_ | apply PSeq.cons | apply PSeq.yes rfl rfl rfl | exact goW | fail)
      exact Fin.ret (Ent.take goTk) (Outs.one rfl rfl) ⟨rfl, rfl⟩
    · rw [if_neg h2]
      have h3 : decide (a.sites = b.sites) = false := by simpa using h2
      rw [h3] at kE
      repeat' (first | refine goH ?_ | refine goV ?_ | refine goB (fun b => ?_) | refine goI ?_ | (refine Cw.k_cond ?_; first | (refine Cw.cond_dec rfl (fun hc => ?_) (fun hc => ?_) <;> try (exfalso; omega)) | refine Cw.cond_bool rfl (fun hc => ?_) (fun hc => ?_)) | (refine Ops.k_calla ?_; first | (refine Ops.k_callf 20 ?_; refine Ops.callV kA (Evs.cons rfl Evs.nil) rfl ?_) | (refine Ops.k_callf 20 ?_; refine Ops.callV kB (Evs.cons rfl Evs.nil) rfl ?_) | (refine Ops.k_callf 60 ?_; refine Ops.callV kO (Evs.cons rfl Evs.nil) rfl ?_) | (refine Ops.k_callf 43 ?_; refine Ops.callV kE (Evs.cons rfl (Evs.cons rfl Evs.nil)) rfl ?_)) | (apply OpW.k_call; first | (apply OpW.k_callf 20; exact OpW.callV kA (Evs.cons rfl Evs.nil)) | (apply OpW.k_callf 20; exact OpW.callV kB (Evs.cons rfl Evs.nil)) | (apply OpW.k_callf 60; exact OpW.callV kO (Evs.cons rfl Evs.nil)) | (apply OpW.k_callf 43; exact OpW.callV kE (Evs.cons rfl (Evs.cons rfl Evs.nil)))) | refine goR ?_ | refine goP ?_ | apply PSeq.cons | apply PSeq.yes rfl rfl rfl | exact goW | fail)
      exact Fin.ret (Ent.take goTk) (Outs.one rfl rfl) ⟨rfl, rfl⟩
theorem equalFunc_same (L : List (List Int)) (hL : L.length ≤ 100000) (hl : ∀ l ∈ L, l.length ≤ 1000000) : PFn Tryd.prog 45 [.sl 1 (intsR L), .sl 1 (intsR L), Tr.raw (.func (.func 44) #[] #[])] (· = .bool true) := by
  refine PFn.mk (Spec.body Tryd.func45 rfl rfl (Tryd.ntmps45) rfl fun w0 own0 M => ?_)
  have hR := intsR_len L
  repeat' (first | refine goH ?_ | refine goV ?_ | refine goI ?_ | (refine Cw.k_cond ?_; first | (refine Cw.cond_dec rfl (fun hc => ?_) (fun hc => ?_) <;> try (exfalso; omega)) | refine Cw.cond_bool rfl (fun hc => ?_) (fun hc => ?_)) | fail)
  refine Cw.loopI [(1, _), (2, _), (15, _), (16, _)] _ (fun q e cc => ∃ (k : Nat), q = L.length - k ∧ (k ≤ L.length) ∧ e = [(17, .int k)] ∧ cc = []) ⟨_, _, _, (Ent.mkP goSub goPm), 0, rfl, by omega, rfl, rfl⟩ ?_
  rintro _ _ _ ⟨k, rfl, hk, rfl, rfl⟩
  by_cases hkl : k < L.length
  · obtain ⟨l, hx⟩ := at_lt hkl
    have hr1 := intsR_at hx
    have hlb := hl l (List.mem_of_getElem? hx)
    have kE := (equalInts_same l (by omega)).lend
    repeat' (first | refine goH ?_ | refine goV ?_ | refine goI ?_ | (refine Cw.k_cond ?_; first | (refine Cw.cond_dec rfl (fun hc => ?_) (fun hc => ?_) <;> try (exfalso; omega)) | refine Cw.cond_bool rfl (fun hc => ?_) (fun hc => ?_)) | (refine Ops.k_calla ?_; first | refine Ops.callS_fn (caps := []) (args := [.ints l, .ints l]) rfl kE (Evs.cons rfl (Evs.cons rfl Evs.nil)) (List.Perm.refl _) rfl ?_) | fail)
    exact ⟨_, _, _, (Ent.mk goSub goTk), ⟨k + 1, rfl, by omega, rfl, rfl⟩, by omega⟩
  · repeat' (first | refine goH ?_ | refine goV ?_ | refine goI ?_ | (refine Cw.k_cond ?_; first | (refine Cw.cond_dec rfl (fun hc => ?_) (fun hc => ?_) <;> try (exfalso; omega)) | refine Cw.cond_bool rfl (fun hc => ?_) (fun hc => ?_)) | fail)
    exact Fin.ret (Ent.take goTk) (Outs.one rfl rfl) ⟨rfl, rfl⟩
theorem sameWallet_fn (w : Wal) (h : WBd w) : PFn Tryd.prog 15 [.wal w, .wal w] (· = .bool true) := by
  have n1 := h.n1
  have n2 := h.r
  have n3 := h.u
  have k1 := equalStrs_same w.sites (by omega)
  have k2 := equalInts_same w.used (by omega)
  have k3 := equalFunc_same w.rights (by omega) (fun l hl => by have := h.rr l hl; omega)
  refine PFn.mk (Spec.body Tryd.func15 rfl rfl (Tryd.ntmps15) rfl fun w0 own0 M => ?_)
  repeat' (first | refine goH ?_ | refine goV ?_ | refine goB (fun b => ?_) | refine goG ?_ | (refine Ops.k_guard ?_; first | (refine Ops.guard_dec rfl rfl (fun hc => ?_) (fun hc => ?_) <;> try (exfalso; omega)) | refine Ops.guard_split rfl rfl (fun hc => ?_) (fun hc => ?_)) | refine goI ?_ | (refine Cw.k_cond ?_; first | (refine Cw.cond_dec rfl (fun hc => ?_) (fun hc => ?_) <;> try (exfalso; omega)) | refine Cw.cond_bool rfl (fun hc => ?_) (fun hc => ?_)) | (refine Ops.k_calla ?_; first | (refine Ops.k_callf 43 ?_; refine Ops.callV k1 (Evs.cons rfl (Evs.cons rfl Evs.nil)) rfl ?_) | (refine Ops.k_callf 44 ?_; refine Ops.callV k2 (Evs.cons rfl (Evs.cons rfl Evs.nil)) rfl ?_) | (refine Ops.k_callf 45 ?_; refine Ops.callV k3 (Evs.cons rfl (Evs.cons rfl (Evs.cons rfl Evs.nil))) rfl ?_)) | fail)
  exact Fin.ret (Ent.take goTk) (Outs.one rfl rfl) ⟨rfl, rfl⟩
end Lg
end
section
set_option linter.all false
set_option maxRecDepth 100000
set_option maxHeartbeats 4000000
namespace Lg
open Go Go.Proofs

/-! ### merged wallets, and what a wallet knows -/
def mxL (x y : List Int) : List Int := List.zipWith max x y
def mxR (A B : List (List Int)) : List (List Int) := List.zipWith mxL A B
def mrgW (a b : Wal) : Wal := ⟨a.sites, mxR a.rights b.rights, mxL a.used b.used⟩
theorem mxL_len {x y : List Int} (h : y.length = x.length) : (mxL x y).length = x.length := by unfold mxL; rw [List.length_zipWith]; omega
theorem mxR_len {x y : List (List Int)} (h : y.length = x.length) : (mxR x y).length = x.length := by unfold mxR; rw [List.length_zipWith]; omega
theorem mxL_at {x y : List Int} {k : Nat} {a b : Int} (h1 : x[k]? = some a) (h2 : y[k]? = some b) : (mxL x y)[k]? = some (max a b) := by unfold mxL; rw [List.getElem?_zipWith, h1, h2]
theorem mxR_at {x y : List (List Int)} {k : Nat} {a b : List Int} (h1 : x[k]? = some a) (h2 : y[k]? = some b) : (mxR x y)[k]? = some (mxL a b) := by unfold mxR; rw [List.getElem?_zipWith, h1, h2]
/-- a list that is replaced from the front on -/
def mixL {α : Type} (m l : List α) (k : Nat) : List α := m.take k ++ l.drop k
theorem mixL_zero {α : Type} (m l : List α) : mixL m l 0 = l := by simp [mixL]
theorem mixL_len {α : Type} {m l : List α} {k : Nat} (h : m.length = l.length) (hk : k ≤ l.length) : (mixL m l k).length = l.length := by unfold mixL; rw [List.length_append, List.length_take, List.length_drop]; omega
theorem mixL_all {α : Type} {m l : List α} {k : Nat} (h : m.length = l.length) (hk : l.length ≤ k) : mixL m l k = m := by unfold mixL; rw [List.take_of_length_le (by omega), List.drop_of_length_le hk, List.append_nil]
theorem mixL_at {α : Type} {m l : List α} {k : Nat} (h : m.length = l.length) (hk : k < l.length) : (mixL m l k)[k]? = l[k]? := by
  unfold mixL
  rw [List.getElem?_append_right (by rw [List.length_take]; omega), List.length_take, List.getElem?_drop, Nat.min_eq_left (by omega)]
  congr 1
  omega
theorem mixL_set {α : Type} {m l : List α} {k : Nat} {x : α} (h : m.length = l.length) (hx : m[k]? = some x) : (mixL m l k).set k x = mixL m l (k + 1) := by
  have hk := (List.getElem?_eq_some_iff.1 hx).1
  unfold mixL
  rw [List.set_append_right _ _ (by rw [List.length_take]; omega), List.length_take, Nat.min_eq_left (by omega), Nat.sub_self]
  have e : l.drop k = l[k] :: l.drop (k + 1) := List.drop_eq_getElem_cons (by omega)
  rw [e, List.set_cons_zero]
  have e2 : m.take (k + 1) = m.take k ++ [x] := by
    rw [List.take_succ, hx]
    rfl
  rw [e2, List.append_assoc]
  rfl
theorem WOk.mrg {a b : Wal} (ha : WOk a) (hb : WOk b) (hs : b.sites = a.sites) : WOk (mrgW a b) := by
  have h1 := ha.r
  have h2 := hb.r
  have h3 := ha.u
  have h4 := hb.u
  rw [hs] at h2 h4
  have mem2 : ∀ {x y : List Int}, (∀ n ∈ x, 0 ≤ n ∧ n ≤ 1000000000) → (∀ n ∈ y, 0 ≤ n ∧ n ≤ 1000000000) → ∀ n ∈ mxL x y, 0 ≤ n ∧ n ≤ 1000000000 := by
    intro x y hx hy n hn
    obtain ⟨k, hk, rfl⟩ := List.getElem_of_mem hn
    unfold mxL at hk ⊢
    rw [List.length_zipWith] at hk
    rw [List.getElem_zipWith]
    have := hx _ (List.getElem_mem (show k < x.length by omega))
    have := hy _ (List.getElem_mem (show k < y.length by omega))
    omega
  have memR : ∀ l ∈ mxR a.rights b.rights, ∃ x y, x ∈ a.rights ∧ y ∈ b.rights ∧ l = mxL x y := by
    intro l hl
    obtain ⟨k, hk, rfl⟩ := List.getElem_of_mem hl
    unfold mxR at hk ⊢
    rw [List.length_zipWith] at hk
    exact ⟨_, _, List.getElem_mem (show k < a.rights.length by omega), List.getElem_mem (show k < b.rights.length by omega), by rw [List.getElem_zipWith]⟩
  refine ⟨ha.n1, by show (mxR a.rights b.rights).length = _; rw [mxR_len (by omega)]; exact h1, by show (mxL a.used b.used).length = _; rw [mxL_len (by omega)]; exact h3, ?_, mem2 ha.ru hb.ru, ?_⟩
  · intro l hl
    obtain ⟨x, y, hx, hy, rfl⟩ := memR l hl
    have e1 := ha.rr x hx
    have e2 := hb.rr y hy
    rw [hs] at e2
    rw [mxL_len (by omega)]
    exact e1
  · intro l hl
    obtain ⟨x, y, hx, hy, rfl⟩ := memR l hl
    exact mem2 (ha.rx x hx) (hb.rx y hy)

def geL (x y : List Int) : Prop := ∀ (k : Nat) (a b : Int), x[k]? = some a → y[k]? = some b → ¬ a < b
theorem geL_app {x x' y y' : List Int} (h : x.length = x'.length) : geL (x ++ y) (x' ++ y') ↔ geL x x' ∧ geL y y' := by
  constructor
  · intro hg
    refine ⟨fun k a b ha hb => ?_, fun k a b ha hb => ?_⟩
    · have h1 := (List.getElem?_eq_some_iff.1 ha).1
      exact hg k a b (by rw [List.getElem?_append_left h1]; exact ha) (by rw [List.getElem?_append_left (by omega)]; exact hb)
    · exact hg (x.length + k) a b (by rw [List.getElem?_append_right (by omega)]; rw [show x.length + k - x.length = k by omega]; exact ha) (by rw [List.getElem?_append_right (by omega)]; rw [show x.length + k - x'.length = k by omega]; exact hb)
  · rintro ⟨h1, h2⟩ k a b ha hb
    by_cases hk : k < x.length
    · rw [List.getElem?_append_left hk] at ha
      rw [List.getElem?_append_left (by omega)] at hb
      exact h1 k a b ha hb
    · rw [List.getElem?_append_right (by omega)] at ha
      rw [List.getElem?_append_right (by omega)] at hb
      rw [← h] at hb
      exact h2 _ a b ha hb
theorem geL_flat {n : Nat} : ∀ {A B : List (List Int)}, A.length = B.length → (∀ l ∈ A, l.length = n) → (∀ l ∈ B, l.length = n) → (geL A.flatten B.flatten ↔ ∀ (i : Nat) (l m : List Int), A[i]? = some l → B[i]? = some m → geL l m)
  | [], [], _, _, _ => by
    constructor
    · intro _ i l m h; simp at h
    · intro _ k a b h; simp at h
  | l :: A, m :: B, h, h1, h2 => by
    have ih := geL_flat (A := A) (B := B) (n := n) (by simpa using h) (fun l hl => h1 l (List.mem_cons_of_mem _ hl)) (fun l hl => h2 l (List.mem_cons_of_mem _ hl))
    have e1 := h1 l (List.mem_cons_self ..)
    have e2 := h2 m (List.mem_cons_self ..)
    rw [List.flatten_cons, List.flatten_cons, geL_app (by omega), ih]
    constructor
    · rintro ⟨g1, g2⟩ i x y hx hy
      cases i with
      | zero => simp at hx hy; subst hx; subst hy; exact g1
      | succ i => simp at hx hy; exact g2 i x y hx hy
    · intro g
      exact ⟨g 0 l m rfl rfl, fun i x y hx hy => g (i + 1) x y hx hy⟩
noncomputable instance (x y : List Int) : Decidable (geL x y) := Classical.propDecidable _
noncomputable def knB (a b : Wal) : Bool := decide (geL (a.rights.flatten ++ a.used) (b.rights.flatten ++ b.used))
theorem knB_iff {a b : Wal} (ha : WOk a) (hb : WOk b) (hs : b.sites = a.sites) : knB a b = true ↔ geL a.used b.used ∧ ∀ (i : Nat) (l m : List Int), a.rights[i]? = some l → b.rights[i]? = some m → geL l m := by
  have h1 := ha.r
  have h2 := hb.r
  have h3 := ha.rr
  have h4 := hb.rr
  rw [hs] at h2 h4
  have hf : ∀ {A B : List (List Int)} {n : Nat}, A.length = B.length → (∀ l ∈ A, l.length = n) → (∀ l ∈ B, l.length = n) → A.flatten.length = B.flatten.length := by
    intro A
    induction A with
    | nil => intro B n h _ _; cases B with
      | nil => rfl
      | cons => simp at h
    | cons x A ih => intro B n h g1 g2; cases B with
      | nil => simp at h
      | cons y B =>
        have := ih (B := B) (n := n) (by simpa using h) (fun l hl => g1 l (List.mem_cons_of_mem _ hl)) (fun l hl => g2 l (List.mem_cons_of_mem _ hl))
        have e1 := g1 x (List.mem_cons_self ..)
        have e2 := g2 y (List.mem_cons_self ..)
        rw [List.flatten_cons, List.flatten_cons, List.length_append, List.length_append]
        omega
  unfold knB
  rw [decide_eq_true_iff, geL_app (hf (by omega) h3 h4), geL_flat (by omega) h3 h4]
  exact And.comm
end Lg
end
section
set_option linter.all false
set_option maxRecDepth 100000
set_option maxHeartbeats 8000000
namespace Lg
open Go Go.Proofs

/-- a copy of its own -/
theorem clone_int (rows : List (List Tr)) (hk : ∀ r ∈ rows, r.length = 1) (hl : rows.length ≤ 1000000) : PFnO Tryd.prog 33 [.sl 1 rows] 1 3 (· = rows) := by
  unfold PFnO
  refine Spec.body Tryd.func33 rfl rfl (Tryd.ntmps33) rfl fun w0 own0 M => ?_
  repeat' (first | refine goH ?_ | ((fail_if_success refine Ops.k_b_eql ?_); (fail_if_success refine Ops.k_buildSlice ?_); refine goV ?_) | ((fail_if_success refine Ops.k_b_eql ?_); (fail_if_success refine Ops.k_buildSlice ?_); refine goC (fun ad cap => ?_)) | refine goI ?_ | (refine Cw.k_cond ?_; first | (refine Cw.cond_dec rfl (fun hc => ?_) (fun hc => ?_) <;> try (exfalso; omega)) | refine Cw.cond_bool rfl (fun hc => ?_) (fun hc => ?_)) | fail)
  refine Ops.eql_nilS rfl rfl (fun b hb => ?_)
  cases b
  · repeat' (first | refine goH ?_ | ((fail_if_success refine Ops.k_buildSlice ?_); refine goV ?_) | ((fail_if_success refine Ops.k_buildSlice ?_); refine goC (fun ad cap => ?_)) | refine goI ?_ | (refine Cw.k_cond ?_; first | (refine Cw.cond_dec rfl (fun hc => ?_) (fun hc => ?_) <;> try (exfalso; omega)) | refine Cw.cond_bool rfl (fun hc => ?_) (fun hc => ?_)) | fail)
    refine Ops.buildSlice_own (by exact Parts.nil) rfl rfl rfl (fun ad cap => ?_)
    repeat' (first | refine goH ?_ | refine goV ?_ | refine goC (fun ad cap => ?_) | refine goI ?_ | (refine Cw.k_cond ?_; first | (refine Cw.cond_dec rfl (fun hc => ?_) (fun hc => ?_) <;> try (exfalso; omega)) | refine Cw.cond_bool rfl (fun hc => ?_) (fun hc => ?_)) | fail)
    exact Fin.ret (Ent.take goTk) (Outs.one rfl rfl) ⟨_, _, _, rfl, rfl, rfl⟩
  · have hr := hb rfl
    subst hr
    repeat' (first | refine goH ?_ | refine goV ?_ | refine goC (fun ad cap => ?_) | refine goI ?_ | (refine Cw.k_cond ?_; first | (refine Cw.cond_dec rfl (fun hc => ?_) (fun hc => ?_) <;> try (exfalso; omega)) | refine Cw.cond_bool rfl (fun hc => ?_) (fun hc => ?_)) | fail)
    exact Fin.ret (Ent.trans (Ent.nil 1 3) (Ent.take goTk)) (Outs.one rfl rfl) ⟨none, 0, [], rfl, rfl, rfl⟩

/-- a copy of its own -/
theorem clone_str (rows : List (List Tr)) (hk : ∀ r ∈ rows, r.length = 1) (hl : rows.length ≤ 1000000) : PFnO Tryd.prog 32 [.sl 1 rows] 1 9 (· = rows) := by
  unfold PFnO
  refine Spec.body Tryd.func32 rfl rfl (Tryd.ntmps32) rfl fun w0 own0 M => ?_
  repeat' (first | refine goH ?_ | ((fail_if_success refine Ops.k_b_eql ?_); (fail_if_success refine Ops.k_buildSlice ?_); refine goV ?_) | ((fail_if_success refine Ops.k_b_eql ?_); (fail_if_success refine Ops.k_buildSlice ?_); refine goC (fun ad cap => ?_)) | refine goI ?_ | (refine Cw.k_cond ?_; first | (refine Cw.cond_dec rfl (fun hc => ?_) (fun hc => ?_) <;> try (exfalso; omega)) | refine Cw.cond_bool rfl (fun hc => ?_) (fun hc => ?_)) | fail)
  refine Ops.eql_nilS rfl rfl (fun b hb => ?_)
  cases b
  · repeat' (first | refine goH ?_ | ((fail_if_success refine Ops.k_buildSlice ?_); refine goV ?_) | ((fail_if_success refine Ops.k_buildSlice ?_); refine goC (fun ad cap => ?_)) | refine goI ?_ | (refine Cw.k_cond ?_; first | (refine Cw.cond_dec rfl (fun hc => ?_) (fun hc => ?_) <;> try (exfalso; omega)) | refine Cw.cond_bool rfl (fun hc => ?_) (fun hc => ?_)) | fail)
    refine Ops.buildSlice_own (by exact Parts.nil) rfl rfl rfl (fun ad cap => ?_)
    repeat' (first | refine goH ?_ | refine goV ?_ | refine goC (fun ad cap => ?_) | refine goI ?_ | (refine Cw.k_cond ?_; first | (refine Cw.cond_dec rfl (fun hc => ?_) (fun hc => ?_) <;> try (exfalso; omega)) | refine Cw.cond_bool rfl (fun hc => ?_) (fun hc => ?_)) | fail)
    exact Fin.ret (Ent.take goTk) (Outs.one rfl rfl) ⟨_, _, _, rfl, rfl, rfl⟩
  · have hr := hb rfl
    subst hr
    repeat' (first | refine goH ?_ | refine goV ?_ | refine goC (fun ad cap => ?_) | refine goI ?_ | (refine Cw.k_cond ?_; first | (refine Cw.cond_dec rfl (fun hc => ?_) (fun hc => ?_) <;> try (exfalso; omega)) | refine Cw.cond_bool rfl (fun hc => ?_) (fun hc => ?_)) | fail)
    exact Fin.ret (Ent.trans (Ent.nil 1 9) (Ent.take goTk)) (Outs.one rfl rfl) ⟨none, 0, [], rfl, rfl, rfl⟩

theorem intRows_k (l : List Int) : ∀ r ∈ intRows l, r.length = 1 := by
  intro r hr
  obtain ⟨x, _, rfl⟩ := List.mem_map.1 hr
  rfl
theorem strRows_k (l : List ByteArray) : ∀ r ∈ strRows l, r.length = 1 := by
  intro r hr
  obtain ⟨x, _, rfl⟩ := List.mem_map.1 hr
  rfl
/-- a wallet of one's own -/
abbrev walV (s : List ByteArray) (adR : Option Addr) (capR : Nat) (L : List IL) (adU : Option Addr) (capU : Nat) (u : List Int) : List Tr := [.strs s, Tr.raw (.slice adR (rowsW L).length capR), Tr.raw (.slice adU (intRows u).length capU)]
def walC (adR : Option Addr) (capR : Nat) (L : List IL) (adU : Option Addr) (capU : Nat) (u : List Int) (cs : List Chunk) : Prop := cs = [Chunk.own adU capU 1 3 (intRows u), Chunk.own adR capR 1 22 (rowsW L), Chunk.bun (ownsW 3 L)]
theorem owned_fn (w : Wal) (hw : WBd w) : Spec Tryd.prog 38 [.wal w] [] (fun r cs => ∃ (adR : Option Addr) (capR : Nat) (L : List IL) (adU : Option Addr) (capU : Nat), r = .agg (walV w.sites adR capR L adU capU w.used) ∧ valsW L = w.rights ∧ walC adR capR L adU capU w.used cs) := by
  have n1 := hw.n1
  have nr := hw.r
  have nu := hw.u
  have hS := strRows_len w.sites
  have hR := intsR_len w.rights
  have hU := intRows_len w.used
  have k1 := (clone_str (strRows w.sites) (strRows_k _) (by omega)).val
  have k2 := clone_int (intRows w.used) (intRows_k _) (by omega)
  refine Spec.body Tryd.func38 rfl rfl (Tryd.ntmps38) rfl fun w0 own0 M => ?_
  repeat' (first | refine goH ?_ | refine goV ?_ | refine goB (fun b => ?_) | refine goC (fun ad cap => ?_) | refine goI ?_ | (refine Cw.k_cond ?_; first | (refine Cw.cond_dec rfl (fun hc => ?_) (fun hc => ?_) <;> try (exfalso; omega)) | refine Cw.cond_bool rfl (fun hc => ?_) (fun hc => ?_)) | fail)
  rename_i b1
  rename Nat => b2
  refine Cw.region_YP (fun ξ S => Chunk.box b1 31 [.strs w.sites, .sl 1 (intsR w.rights), .ints w.used] :: Chunk.box b2 31 (List.map Tr.raw [.slice none 0 0, .slice none 0 0, .slice none 0 0]) :: (stg (S 5) [] [ownV (ξ 5) 1 3 (intRows w.used)] ++ (stg (S 7) [] [Chunk.box (blk (ξ 7)) 31 (stg (S 8) [Tr.raw (.slice none 0 0), Tr.raw (.slice none 0 0), Tr.raw (.slice none 0 0)] [.strs w.sites, Tr.raw (.slice none 0 0), slV (ξ 5) (intRows w.used).length])] ++ []))) rfl (by decide +kernel) rfl ((fun (ξ : Nat → Value) (S : Nat → Bool) => Chunk.box b1 31 [.strs w.sites, .sl 1 (intsR w.rights), .ints w.used] :: Chunk.box b2 31 (List.map Tr.raw [.slice none 0 0, .slice none 0 0, .slice none 0 0]) :: (stg (S 5) [] [ownV (ξ 5) 1 3 (intRows w.used)] ++ (stg (S 7) [] [Chunk.box (blk (ξ 7)) 31 (stg (S 8) [Tr.raw (.slice none 0 0), Tr.raw (.slice none 0 0), Tr.raw (.slice none 0 0)] [.strs w.sites, Tr.raw (.slice none 0 0), slV (ξ 5) (intRows w.used).length])] ++ []))) (fun _ => undef) (fun _ => false)) (by simp only [upd_same, updD_same, upd_ne, updD_ne, ne_eq, Nat.reduceEqDiff, not_false_eq_true, stg_t, stg_f, vAd_s, vCap_s, blk_p, List.cons_append, List.nil_append, b2n_t, b2n_f]; exact goXm) (fun _ => rfl) ?_
  apply YSeq.w (by intro _ _ _; rfl)
  · intro ξ S h1 h2 h3 h4
    have hN0_1 := closed_false h1 h3 (k := 1) rfl (by decide)
    have hN0_2 := closed_false hN0_1 h3 (k := 2) rfl (by decide)
    have hN0_5 := closed_false hN0_2 h3 (k := 5) rfl (by decide)
    have hN0_8 := closed_false h1 h3 (k := 8) rfl (by decide)
    try simp only [upd_same, updD_same, upd_ne, updD_ne, ne_eq, Nat.reduceEqDiff, not_false_eq_true, stg_t, stg_f, vAd_s, vCap_s, blk_p, List.cons_append, List.nil_append, b2n_t, b2n_f, hN0_5, hN0_8]
    exact goW
  · intro ξ v; rfl
  · intro ξ k v S h3 hn hk
    first
    | rfl
  apply YSeq.w (by intro _ _ _; rfl)
  · intro ξ S h1 h2 h3 h4
    have hN1_2 := closed_false h1 h3 (k := 2) rfl (by decide)
    have hN1_5 := closed_false hN1_2 h3 (k := 5) rfl (by decide)
    have hN1_8 := closed_false h1 h3 (k := 8) rfl (by decide)
    try simp only [upd_same, updD_same, upd_ne, updD_ne, ne_eq, Nat.reduceEqDiff, not_false_eq_true, stg_t, stg_f, vAd_s, vCap_s, blk_p, List.cons_append, List.nil_append, b2n_t, b2n_f, hN1_5, hN1_8]
    exact goW
  · intro ξ v; rfl
  · intro ξ k v S h3 hn hk
    first
    | rfl
  apply YSeq.callV (by intro _ _ _; rfl)
  · intro ξ S h1 h2 h3 h4
    have hN2_5 := closed_false h1 h3 (k := 5) rfl (by decide)
    have hN2_8 := closed_false h1 h3 (k := 8) rfl (by decide)
    try simp only [upd_same, updD_same, upd_ne, updD_ne, ne_eq, Nat.reduceEqDiff, not_false_eq_true, stg_t, stg_f, vAd_s, vCap_s, blk_p, List.cons_append, List.nil_append, b2n_t, b2n_f, hN2_5, hN2_8]
    exact ⟨_, (Evs.cons rfl Evs.nil), k1⟩
  · intro ξ v; rfl
  · intro ξ k v S h3 hn hk
    first
    | rfl
  apply YSeq.w (by intro _ _ _; rfl)
  · intro ξ S h1 h2 h3 h4
    have hN3_4 := closed_false h1 h3 (k := 4) rfl (by decide)
    have hN3_5 := closed_false hN3_4 h3 (k := 5) rfl (by decide)
    have hN3_8 := closed_false h1 h3 (k := 8) rfl (by decide)
    try simp only [upd_same, updD_same, upd_ne, updD_ne, ne_eq, Nat.reduceEqDiff, not_false_eq_true, stg_t, stg_f, vAd_s, vCap_s, blk_p, List.cons_append, List.nil_append, b2n_t, b2n_f, hN3_5, hN3_8]
    exact goW
  · intro ξ v; rfl
  · intro ξ k v S h3 hn hk
    first
    | rfl
  apply YSeq.w (by intro _ _ _; rfl)
  · intro ξ S h1 h2 h3 h4
    have hN4_5 := closed_false h1 h3 (k := 5) rfl (by decide)
    have hN4_8 := closed_false h1 h3 (k := 8) rfl (by decide)
    try simp only [upd_same, updD_same, upd_ne, updD_ne, ne_eq, Nat.reduceEqDiff, not_false_eq_true, stg_t, stg_f, vAd_s, vCap_s, blk_p, List.cons_append, List.nil_append, b2n_t, b2n_f, hN4_5, hN4_8]
    exact goW
  · intro ξ v; rfl
  · intro ξ k v S h3 hn hk
    first
    | rfl
  apply YSeq.callO ((intRows w.used).length)
  · intro ξ S h1 h2 h3 h4
    have hN5_8 := closed_false h1 h3 (k := 8) rfl (by decide)
    refine ⟨_, _, k2, (Evs.cons rfl Evs.nil), (by first | rfl | simp | omega), fun ad cap => ?_⟩
    simp only [upd_same, updD_same, upd_ne, updD_ne, ne_eq, Nat.reduceEqDiff, not_false_eq_true, stg_t, stg_f, vAd_s, vCap_s, blk_p, List.cons_append, List.nil_append, b2n_t, b2n_f, h1, hN5_8]
    exact goXm
  apply YSeq.w (by intro _ _ _; rfl)
  · intro ξ S h1 h2 h3 h4
    have hY6_5 : S 5 = true := h2 5 (by decide)
    have hN6_8 := closed_false h1 h3 (k := 8) rfl (by decide)
    try simp only [upd_same, updD_same, upd_ne, updD_ne, ne_eq, Nat.reduceEqDiff, not_false_eq_true, stg_t, stg_f, vAd_s, vCap_s, blk_p, List.cons_append, List.nil_append, b2n_t, b2n_f, hY6_5, hN6_8]
    exact goW
  · intro ξ v; rfl
  · intro ξ k v S h3 hn hk
    first
    | rfl
    | skip
      have hY6_5 : S 5 = true := h3 6 _ rfl hn 5 (by decide)
      simp only [upd_S hY6_5 hk]
  apply YSeq.alloc
  · intro ξ S b h1 h3
    have hN7_8 := closed_false h1 h3 (k := 8) rfl (by decide)
    simp only [upd_same, updD_same, upd_ne, updD_ne, ne_eq, Nat.reduceEqDiff, not_false_eq_true, stg_t, stg_f, vAd_s, vCap_s, blk_p, List.cons_append, List.nil_append, b2n_t, b2n_f, h1, hN7_8]
    exact goXm
  apply YSeq.store
  · intro ξ S h1 h2 h3 h4
    have hY8_5 : S 5 = true := h2 5 (by decide)
    have hY8_7 : S 7 = true := h2 7 (by decide)
    simp only [upd_same, updD_same, upd_ne, updD_ne, ne_eq, Nat.reduceEqDiff, not_false_eq_true, stg_t, stg_f, vAd_s, vCap_s, blk_p, List.cons_append, List.nil_append, b2n_t, b2n_f, hY8_5, hY8_7, h1]
    refine ⟨_, _, _, _, _, _, _, rfl, rfl, inferInstance, goXp, rfl, Nat.le_of_ble_eq_true rfl, ?_⟩
    exact goXm
  refine YSeq.nil fun ξ hf => ?_
  refine ⟨[(1, _), (2, _), (3, _)], _, Ent.trans (Ent.eqc rfl (by simp only [upd_same, updD_same, upd_ne, updD_ne, ne_eq, Nat.reduceEqDiff, not_false_eq_true, stg_t, stg_f, vAd_s, vCap_s, blk_p, List.cons_append, List.nil_append, b2n_t, b2n_f, ownV, slV, ptV] <;> rfl)) (Ent.sub goSub), ?_⟩
  clear hf
  generalize vAd (ξ 5) = ad11
  generalize vCap (ξ 5) = cap11
  generalize blk (ξ 7) = b3
  repeat' (first | refine goH ?_ | refine goV ?_ | refine goB (fun b => ?_) | refine goC (fun ad cap => ?_) | refine goI ?_ | (refine Cw.k_cond ?_; first | (refine Cw.cond_dec rfl (fun hc => ?_) (fun hc => ?_) <;> try (exfalso; omega)) | refine Cw.cond_bool rfl (fun hc => ?_) (fun hc => ?_)) | refine goR ?_ | refine goP ?_ | apply PSeq.cons | apply PSeq.yes rfl rfl rfl | exact goW | fail)
  refine Cw.loopI [(2, _), (3, _), (14, _), (15, _)] _ (fun q e cc => ∃ (k : Nat) (ad : Option Addr) (cap : Nat) (L : List IL), q = w.rights.length - k ∧ (k ≤ w.rights.length ∧ L.length = k ∧ valsW L = w.rights.take k) ∧ e = [(16, .int k)] ∧ cc = [Chunk.box b3 31 [.strs w.sites, Tr.raw (.slice ad k cap), Tr.raw (.slice ad11 (intRows w.used).length cap11)], Chunk.own ad cap 1 22 (rowsW L), Chunk.bun (ownsW 3 L)])
    ⟨_, _, _, Ent.trans (Ent.nil 1 22) (Ent.trans Ent.bun0 (Ent.mkP goSub goPm)), 0, none, 0, [], rfl, ⟨by omega, rfl, rfl⟩, rfl, rfl⟩ ?_
  rintro _ _ _ ⟨k, ad, cap, L, rfl, ⟨hk, hL, hv⟩, rfl, rfl⟩
  have hVl : (rowsW L).length = k := by rw [rowsW_len, hL]
  by_cases hkl : k < w.rights.length
  · obtain ⟨l, hx⟩ := at_lt hkl
    have hrow := intsR_at hx
    have hlb := hw.rr l (List.mem_of_getElem? hx)
    have hlr := intRows_len l
    have k3 := clone_int (intRows l) (intRows_k _) (by omega)
    repeat' (first | refine goH ?_ | refine goV ?_ | refine goB (fun b => ?_) | refine goC (fun ad cap => ?_) | refine goI ?_ | (refine Cw.k_cond ?_; first | (refine Cw.cond_dec rfl (fun hc => ?_) (fun hc => ?_) <;> try (exfalso; omega)) | refine Cw.cond_bool rfl (fun hc => ?_) (fun hc => ?_)) | fail)
    refine Cw.region_YP (fun ξ S => Chunk.box b3 31 [.strs w.sites, stg (S 7) (Tr.raw (.slice ad k cap)) (slV (ξ 5) (k + 1)), Tr.raw (.slice ad11 (intRows w.used).length cap11)] :: Chunk.box b1 31 [.strs w.sites, .sl 1 (intsR w.rights), .ints w.used] :: Chunk.box b2 31 (List.map Tr.raw [.slice none 0 0, .slice none 0 0, .slice none 0 0]) :: Chunk.own ad11 cap11 1 3 (intRows w.used) :: Chunk.bun (ownsW 3 L) :: stg (S 5) (Chunk.own ad cap 1 22 (rowsW L)) (ownV (ξ 5) 1 22 (rowsW L ++ [[slV (ξ 3) (intRows l).length]])) :: (stg (S 3) [] [ownV (ξ 3) 1 3 (intRows l)] ++ (stg (S 4) [] (stg (S 5) [ownV (ξ 4) 1 22 [[slV (ξ 3) (intRows l).length]]] []) ++ []))) rfl (by decide +kernel) rfl ((fun (ξ : Nat → Value) (S : Nat → Bool) => Chunk.box b3 31 [.strs w.sites, stg (S 7) (Tr.raw (.slice ad k cap)) (slV (ξ 5) (k + 1)), Tr.raw (.slice ad11 (intRows w.used).length cap11)] :: Chunk.box b1 31 [.strs w.sites, .sl 1 (intsR w.rights), .ints w.used] :: Chunk.box b2 31 (List.map Tr.raw [.slice none 0 0, .slice none 0 0, .slice none 0 0]) :: Chunk.own ad11 cap11 1 3 (intRows w.used) :: Chunk.bun (ownsW 3 L) :: stg (S 5) (Chunk.own ad cap 1 22 (rowsW L)) (ownV (ξ 5) 1 22 (rowsW L ++ [[slV (ξ 3) (intRows l).length]])) :: (stg (S 3) [] [ownV (ξ 3) 1 3 (intRows l)] ++ (stg (S 4) [] (stg (S 5) [ownV (ξ 4) 1 22 [[slV (ξ 3) (intRows l).length]]] []) ++ []))) (fun _ => undef) (fun _ => false)) (by simp only [upd_same, updD_same, upd_ne, updD_ne, ne_eq, Nat.reduceEqDiff, not_false_eq_true, stg_t, stg_f, vAd_s, vCap_s, blk_p, List.cons_append, List.nil_append, b2n_t, b2n_f]; exact goXm) (fun _ => rfl) ?_
    apply YSeq.w (by intro _ _ _; rfl)
    · intro ξ S h1 h2 h3 h4
      have hN0_1 := closed_false h1 h3 (k := 1) rfl (by decide)
      have hN0_5 := closed_false hN0_1 h3 (k := 5) rfl (by decide)
      have hN0_7 := closed_false h1 h3 (k := 7) rfl (by decide)
      try simp only [upd_same, updD_same, upd_ne, updD_ne, ne_eq, Nat.reduceEqDiff, not_false_eq_true, stg_t, stg_f, vAd_s, vCap_s, blk_p, List.cons_append, List.nil_append, b2n_t, b2n_f, hN0_5, hN0_7]
      exact goW
    · intro ξ v; rfl
    · intro ξ k v S h3 hn hk
      first
      | rfl
    apply YSeq.w (by intro _ _ _; rfl)
    · intro ξ S h1 h2 h3 h4
      have hN1_5 := closed_false h1 h3 (k := 5) rfl (by decide)
      have hN1_7 := closed_false h1 h3 (k := 7) rfl (by decide)
      try simp only [upd_same, updD_same, upd_ne, updD_ne, ne_eq, Nat.reduceEqDiff, not_false_eq_true, stg_t, stg_f, vAd_s, vCap_s, blk_p, List.cons_append, List.nil_append, b2n_t, b2n_f, hN1_5, hN1_7]
      exact goW
    · intro ξ v; rfl
    · intro ξ k v S h3 hn hk
      first
      | rfl
    apply YSeq.w (by intro _ _ _; rfl)
    · intro ξ S h1 h2 h3 h4
      have hN2_3 := closed_false h1 h3 (k := 3) rfl (by decide)
      have hN2_4 := closed_false hN2_3 h3 (k := 4) rfl (by decide)
      have hN2_5 := closed_false hN2_3 h3 (k := 5) rfl (by decide)
      have hN2_7 := closed_false h1 h3 (k := 7) rfl (by decide)
      try simp only [upd_same, updD_same, upd_ne, updD_ne, ne_eq, Nat.reduceEqDiff, not_false_eq_true, stg_t, stg_f, vAd_s, vCap_s, blk_p, List.cons_append, List.nil_append, b2n_t, b2n_f, hN2_3, hN2_4, hN2_5, hN2_7]
      exact goW
    · intro ξ v; rfl
    · intro ξ k v S h3 hn hk
      first
      | rfl
    apply YSeq.callO ((intRows l).length)
    · intro ξ S h1 h2 h3 h4
      have hN3_4 := closed_false h1 h3 (k := 4) rfl (by decide)
      have hN3_5 := closed_false h1 h3 (k := 5) rfl (by decide)
      have hN3_7 := closed_false h1 h3 (k := 7) rfl (by decide)
      refine ⟨_, _, k3, (Evs.cons rfl Evs.nil), (by first | rfl | simp | omega), fun ad cap => ?_⟩
      simp only [upd_same, updD_same, upd_ne, updD_ne, ne_eq, Nat.reduceEqDiff, not_false_eq_true, stg_t, stg_f, vAd_s, vCap_s, blk_p, List.cons_append, List.nil_append, b2n_t, b2n_f, h1, hN3_4, hN3_5, hN3_7]
      exact goXm
    apply YSeq.lit
    · intro ξ S h1 h2 h3 h4
      have hY4_3 : S 3 = true := h2 3 (by decide)
      have hN4_5 := closed_false h1 h3 (k := 5) rfl (by decide)
      have hN4_7 := closed_false h1 h3 (k := 7) rfl (by decide)
      refine ⟨_, _, (by first | exact (by exact Parts.cons rfl rfl rfl (by exact Parts.nil)) | exact (by exact Parts.cons rfl rfl rfl (by exact Parts.cons rfl rfl rfl (by exact Parts.nil))) | exact (by exact Parts.cons rfl rfl rfl (by exact Parts.cons rfl rfl rfl (by exact Parts.cons rfl rfl rfl (by exact Parts.nil)))) | exact (by exact Parts.cons rfl rfl rfl (by exact Parts.cons rfl rfl rfl (by exact Parts.cons rfl rfl rfl (by exact Parts.cons rfl rfl rfl (by exact Parts.nil))))) | exact (by exact Parts.cons rfl rfl rfl (by exact Parts.cons rfl rfl rfl (by exact Parts.cons rfl rfl rfl (by exact Parts.cons rfl rfl rfl (by exact Parts.cons rfl rfl rfl (by exact Parts.nil))))))), goNt, rfl, fun ad cap => ?_⟩
      simp only [upd_same, updD_same, upd_ne, updD_ne, ne_eq, Nat.reduceEqDiff, not_false_eq_true, stg_t, stg_f, vAd_s, vCap_s, blk_p, List.cons_append, List.nil_append, b2n_t, b2n_f, hY4_3, h1, hN4_5, hN4_7]
      exact goXm
    apply YSeq.appendO (k + 1)
    · intro ξ S h1 h2 h3 h4
      have hY5_3 : S 3 = true := h2 3 (by decide)
      have hY5_4 : S 4 = true := h2 4 (by decide)
      have hN5_7 := closed_false h1 h3 (k := 7) rfl (by decide)
      simp only [upd_same, updD_same, upd_ne, updD_ne, ne_eq, Nat.reduceEqDiff, not_false_eq_true, stg_t, stg_f, vAd_s, vCap_s, blk_p, List.cons_append, List.nil_append, b2n_t, b2n_f, hY5_3, hY5_4, h1, hN5_7]
      refine ⟨_, _, _, _, _, _, _, _, _, _, rfl, rfl, goXp, goXp, (by first | rfl | (simp; done) | omega), (by first | rfl | (simp; done) | omega), (by first | rfl | omega | (simp; done) | (simp; omega)), (by first | omega | (simp; omega)), (by first | omega | (simp; omega)), fun ad' cap' => ?_⟩
      exact goXm
    apply YSeq.w (by intro _ _ _; rfl)
    · intro ξ S h1 h2 h3 h4
      have hY6_3 : S 3 = true := h2 3 (by decide)
      have hY6_4 : S 4 = true := h2 4 (by decide)
      have hY6_5 : S 5 = true := h2 5 (by decide)
      have hN6_7 := closed_false h1 h3 (k := 7) rfl (by decide)
      try simp only [upd_same, updD_same, upd_ne, updD_ne, ne_eq, Nat.reduceEqDiff, not_false_eq_true, stg_t, stg_f, vAd_s, vCap_s, blk_p, List.cons_append, List.nil_append, b2n_t, b2n_f, hY6_3, hY6_4, hY6_5, hN6_7]
      exact goW
    · intro ξ v; rfl
    · intro ξ k v S h3 hn hk
      first
      | rfl
      | skip
        have hY6_3 : S 3 = true := h3 6 _ rfl hn 3 (by decide)
        have hY6_4 : S 4 = true := h3 6 _ rfl hn 4 (by decide)
        have hY6_5 : S 5 = true := h3 6 _ rfl hn 5 (by decide)
        simp only [upd_S hY6_3 hk, upd_S hY6_4 hk, upd_S hY6_5 hk]
    apply YSeq.store
    · intro ξ S h1 h2 h3 h4
      have hY7_3 : S 3 = true := h2 3 (by decide)
      have hY7_4 : S 4 = true := h2 4 (by decide)
      have hY7_5 : S 5 = true := h2 5 (by decide)
      simp only [upd_same, updD_same, upd_ne, updD_ne, ne_eq, Nat.reduceEqDiff, not_false_eq_true, stg_t, stg_f, vAd_s, vCap_s, blk_p, List.cons_append, List.nil_append, b2n_t, b2n_f, hY7_3, hY7_4, hY7_5, h1]
      refine ⟨_, _, _, _, _, _, _, rfl, rfl, inferInstance, goXp, rfl, Nat.le_of_ble_eq_true rfl, ?_⟩
      exact goXm
    refine YSeq.nil fun ξ hf => ?_
    refine ⟨[(2, _), (3, _), (14, _), (15, _), (16, _)], _, Ent.trans (Ent.eqc rfl (by simp only [upd_same, updD_same, upd_ne, updD_ne, ne_eq, Nat.reduceEqDiff, not_false_eq_true, stg_t, stg_f, vAd_s, vCap_s, blk_p, List.cons_append, List.nil_append, b2n_t, b2n_f, ownV, slV, ptV] <;> rfl)) (Ent.sub goSub), ?_⟩
    clear hf
    generalize vAd (ξ 3) = ad23
    generalize vCap (ξ 3) = cap23
    generalize vAd (ξ 4) = ad24
    generalize vCap (ξ 4) = cap24
    generalize vAd (ξ 5) = ad25
    generalize vCap (ξ 5) = cap25
    rw [show ([[Tr.raw (.slice ad23 (intRows l).length cap23)]] : List (List Tr)) = [[Tr.raw (IL.val ⟨ad23, cap23, l⟩)]] from rfl, rowsW_snoc]
    refine InB.norm (Then.norm ?_)
    refine Cw.ent (Ent.push (c := (⟨ad23, cap23, l⟩ : IL).own 3) (L := ownsW 3 L) (by exact goPk) (by exact goPk)) ?_
    rw [ownsW_snoc]
    repeat' (first | refine goH ?_ | refine goV ?_ | refine goB (fun b => ?_) | refine goC (fun ad cap => ?_) | refine goI ?_ | (refine Cw.k_cond ?_; first | (refine Cw.cond_dec rfl (fun hc => ?_) (fun hc => ?_) <;> try (exfalso; omega)) | refine Cw.cond_bool rfl (fun hc => ?_) (fun hc => ?_)) | refine goR ?_ | refine goP ?_ | apply PSeq.cons | apply PSeq.yes rfl rfl rfl | exact goW | fail)
    exact ⟨_, _, _, (Ent.mk goSub goTk), ⟨k + 1, _, _, L ++ [⟨ad23, cap23, l⟩], rfl, ⟨by omega, by simp [hL], by rw [valsW_snoc, hv, take_at hx]⟩, rfl, rfl⟩, by omega⟩
  · have hkk : k = w.rights.length := by omega
    repeat' (first | refine goH ?_ | refine goV ?_ | refine goB (fun b => ?_) | refine goC (fun ad cap => ?_) | refine goI ?_ | (refine Cw.k_cond ?_; first | (refine Cw.cond_dec rfl (fun hc => ?_) (fun hc => ?_) <;> try (exfalso; omega)) | refine Cw.cond_bool rfl (fun hc => ?_) (fun hc => ?_)) | refine goR ?_ | refine goP ?_ | apply PSeq.cons | apply PSeq.yes rfl rfl rfl | exact goW | fail)
    rw [← hVl]
    refine Fin.ret (Ent.trans (Ent.setbox (s := 2) rfl goPk) (Ent.take goTk)) (Outs.sole rfl (by exact OutE.agg inferInstance rfl rfl)) ⟨ad, cap, L, ad11, cap11, rfl, ?_, rfl⟩
    rw [hv, hkk, List.take_length]
theorem walletCopy_fn (w : Wal) (hw : WBd w) : Spec Tryd.prog 41 [.wal w] [] (fun r cs => ∃ (adR : Option Addr) (capR : Nat) (L : List IL) (adU : Option Addr) (capU : Nat), r = .agg (walV w.sites adR capR L adU capU w.used) ∧ valsW L = w.rights ∧ walC adR capR L adU capU w.used cs) := by
  have n1 := hw.n1
  have nr := hw.r
  have nu := hw.u
  have hS := strRows_len w.sites
  have hR := intsR_len w.rights
  have hU := intRows_len w.used
  have k1 := (clone_str (strRows w.sites) (strRows_k _) (by omega)).val
  have k2 := clone_int (intRows w.used) (intRows_k _) (by omega)
  refine Spec.body Tryd.func41 rfl rfl (Tryd.ntmps41) rfl fun w0 own0 M => ?_
  repeat' (first | refine goH ?_ | refine goV ?_ | refine goB (fun b => ?_) | refine goC (fun ad cap => ?_) | refine goI ?_ | (refine Cw.k_cond ?_; first | (refine Cw.cond_dec rfl (fun hc => ?_) (fun hc => ?_) <;> try (exfalso; omega)) | refine Cw.cond_bool rfl (fun hc => ?_) (fun hc => ?_)) | fail)
  rename_i b1
  rename Nat => b2
  refine Cw.region_YP (fun ξ S => Chunk.box b1 31 [.strs w.sites, .sl 1 (intsR w.rights), .ints w.used] :: Chunk.box b2 31 (List.map Tr.raw [.slice none 0 0, .slice none 0 0, .slice none 0 0]) :: (stg (S 5) [] [ownV (ξ 5) 1 3 (intRows w.used)] ++ (stg (S 7) [] [Chunk.box (blk (ξ 7)) 31 (stg (S 8) [Tr.raw (.slice none 0 0), Tr.raw (.slice none 0 0), Tr.raw (.slice none 0 0)] [.strs w.sites, Tr.raw (.slice none 0 0), slV (ξ 5) (intRows w.used).length])] ++ []))) rfl (by decide +kernel) rfl ((fun (ξ : Nat → Value) (S : Nat → Bool) => Chunk.box b1 31 [.strs w.sites, .sl 1 (intsR w.rights), .ints w.used] :: Chunk.box b2 31 (List.map Tr.raw [.slice none 0 0, .slice none 0 0, .slice none 0 0]) :: (stg (S 5) [] [ownV (ξ 5) 1 3 (intRows w.used)] ++ (stg (S 7) [] [Chunk.box (blk (ξ 7)) 31 (stg (S 8) [Tr.raw (.slice none 0 0), Tr.raw (.slice none 0 0), Tr.raw (.slice none 0 0)] [.strs w.sites, Tr.raw (.slice none 0 0), slV (ξ 5) (intRows w.used).length])] ++ []))) (fun _ => undef) (fun _ => false)) (by simp only [upd_same, updD_same, upd_ne, updD_ne, ne_eq, Nat.reduceEqDiff, not_false_eq_true, stg_t, stg_f, vAd_s, vCap_s, blk_p, List.cons_append, List.nil_append, b2n_t, b2n_f]; exact goXm) (fun _ => rfl) ?_
  apply YSeq.w (by intro _ _ _; rfl)
  · intro ξ S h1 h2 h3 h4
    have hN0_1 := closed_false h1 h3 (k := 1) rfl (by decide)
    have hN0_2 := closed_false hN0_1 h3 (k := 2) rfl (by decide)
    have hN0_5 := closed_false hN0_2 h3 (k := 5) rfl (by decide)
    have hN0_8 := closed_false h1 h3 (k := 8) rfl (by decide)
    try simp only [upd_same, updD_same, upd_ne, updD_ne, ne_eq, Nat.reduceEqDiff, not_false_eq_true, stg_t, stg_f, vAd_s, vCap_s, blk_p, List.cons_append, List.nil_append, b2n_t, b2n_f, hN0_5, hN0_8]
    exact goW
  · intro ξ v; rfl
  · intro ξ k v S h3 hn hk
    first
    | rfl
  apply YSeq.w (by intro _ _ _; rfl)
  · intro ξ S h1 h2 h3 h4
    have hN1_2 := closed_false h1 h3 (k := 2) rfl (by decide)
    have hN1_5 := closed_false hN1_2 h3 (k := 5) rfl (by decide)
    have hN1_8 := closed_false h1 h3 (k := 8) rfl (by decide)
    try simp only [upd_same, updD_same, upd_ne, updD_ne, ne_eq, Nat.reduceEqDiff, not_false_eq_true, stg_t, stg_f, vAd_s, vCap_s, blk_p, List.cons_append, List.nil_append, b2n_t, b2n_f, hN1_5, hN1_8]
    exact goW
  · intro ξ v; rfl
  · intro ξ k v S h3 hn hk
    first
    | rfl
  apply YSeq.callV (by intro _ _ _; rfl)
  · intro ξ S h1 h2 h3 h4
    have hN2_5 := closed_false h1 h3 (k := 5) rfl (by decide)
    have hN2_8 := closed_false h1 h3 (k := 8) rfl (by decide)
    try simp only [upd_same, updD_same, upd_ne, updD_ne, ne_eq, Nat.reduceEqDiff, not_false_eq_true, stg_t, stg_f, vAd_s, vCap_s, blk_p, List.cons_append, List.nil_append, b2n_t, b2n_f, hN2_5, hN2_8]
    exact ⟨_, (Evs.cons rfl Evs.nil), k1⟩
  · intro ξ v; rfl
  · intro ξ k v S h3 hn hk
    first
    | rfl
  apply YSeq.w (by intro _ _ _; rfl)
  · intro ξ S h1 h2 h3 h4
    have hN3_4 := closed_false h1 h3 (k := 4) rfl (by decide)
    have hN3_5 := closed_false hN3_4 h3 (k := 5) rfl (by decide)
    have hN3_8 := closed_false h1 h3 (k := 8) rfl (by decide)
    try simp only [upd_same, updD_same, upd_ne, updD_ne, ne_eq, Nat.reduceEqDiff, not_false_eq_true, stg_t, stg_f, vAd_s, vCap_s, blk_p, List.cons_append, List.nil_append, b2n_t, b2n_f, hN3_5, hN3_8]
    exact goW
  · intro ξ v; rfl
  · intro ξ k v S h3 hn hk
    first
    | rfl
  apply YSeq.w (by intro _ _ _; rfl)
  · intro ξ S h1 h2 h3 h4
    have hN4_5 := closed_false h1 h3 (k := 5) rfl (by decide)
    have hN4_8 := closed_false h1 h3 (k := 8) rfl (by decide)
    try simp only [upd_same, updD_same, upd_ne, updD_ne, ne_eq, Nat.reduceEqDiff, not_false_eq_true, stg_t, stg_f, vAd_s, vCap_s, blk_p, List.cons_append, List.nil_append, b2n_t, b2n_f, hN4_5, hN4_8]
    exact goW
  · intro ξ v; rfl
  · intro ξ k v S h3 hn hk
    first
    | rfl
  apply YSeq.callO ((intRows w.used).length)
  · intro ξ S h1 h2 h3 h4
    have hN5_8 := closed_false h1 h3 (k := 8) rfl (by decide)
    refine ⟨_, _, k2, (Evs.cons rfl Evs.nil), (by first | rfl | simp | omega), fun ad cap => ?_⟩
    simp only [upd_same, updD_same, upd_ne, updD_ne, ne_eq, Nat.reduceEqDiff, not_false_eq_true, stg_t, stg_f, vAd_s, vCap_s, blk_p, List.cons_append, List.nil_append, b2n_t, b2n_f, h1, hN5_8]
    exact goXm
  apply YSeq.w (by intro _ _ _; rfl)
  · intro ξ S h1 h2 h3 h4
    have hY6_5 : S 5 = true := h2 5 (by decide)
    have hN6_8 := closed_false h1 h3 (k := 8) rfl (by decide)
    try simp only [upd_same, updD_same, upd_ne, updD_ne, ne_eq, Nat.reduceEqDiff, not_false_eq_true, stg_t, stg_f, vAd_s, vCap_s, blk_p, List.cons_append, List.nil_append, b2n_t, b2n_f, hY6_5, hN6_8]
    exact goW
  · intro ξ v; rfl
  · intro ξ k v S h3 hn hk
    first
    | rfl
    | skip
      have hY6_5 : S 5 = true := h3 6 _ rfl hn 5 (by decide)
      simp only [upd_S hY6_5 hk]
  apply YSeq.alloc
  · intro ξ S b h1 h3
    have hN7_8 := closed_false h1 h3 (k := 8) rfl (by decide)
    simp only [upd_same, updD_same, upd_ne, updD_ne, ne_eq, Nat.reduceEqDiff, not_false_eq_true, stg_t, stg_f, vAd_s, vCap_s, blk_p, List.cons_append, List.nil_append, b2n_t, b2n_f, h1, hN7_8]
    exact goXm
  apply YSeq.store
  · intro ξ S h1 h2 h3 h4
    have hY8_5 : S 5 = true := h2 5 (by decide)
    have hY8_7 : S 7 = true := h2 7 (by decide)
    simp only [upd_same, updD_same, upd_ne, updD_ne, ne_eq, Nat.reduceEqDiff, not_false_eq_true, stg_t, stg_f, vAd_s, vCap_s, blk_p, List.cons_append, List.nil_append, b2n_t, b2n_f, hY8_5, hY8_7, h1]
    refine ⟨_, _, _, _, _, _, _, rfl, rfl, inferInstance, goXp, rfl, Nat.le_of_ble_eq_true rfl, ?_⟩
    exact goXm
  refine YSeq.nil fun ξ hf => ?_
  refine ⟨[(1, _), (2, _), (3, _)], _, Ent.trans (Ent.eqc rfl (by simp only [upd_same, updD_same, upd_ne, updD_ne, ne_eq, Nat.reduceEqDiff, not_false_eq_true, stg_t, stg_f, vAd_s, vCap_s, blk_p, List.cons_append, List.nil_append, b2n_t, b2n_f, ownV, slV, ptV] <;> rfl)) (Ent.sub goSub), ?_⟩
  clear hf
  generalize vAd (ξ 5) = ad11
  generalize vCap (ξ 5) = cap11
  generalize blk (ξ 7) = b3
  repeat' (first | refine goH ?_ | refine goV ?_ | refine goB (fun b => ?_) | refine goC (fun ad cap => ?_) | refine goI ?_ | (refine Cw.k_cond ?_; first | (refine Cw.cond_dec rfl (fun hc => ?_) (fun hc => ?_) <;> try (exfalso; omega)) | refine Cw.cond_bool rfl (fun hc => ?_) (fun hc => ?_)) | refine goR ?_ | refine goP ?_ | apply PSeq.cons | apply PSeq.yes rfl rfl rfl | exact goW | fail)
  refine Cw.loopI [(2, _), (3, _), (14, _), (15, _)] _ (fun q e cc => ∃ (k : Nat) (ad : Option Addr) (cap : Nat) (L : List IL), q = w.rights.length - k ∧ (k ≤ w.rights.length ∧ L.length = k ∧ valsW L = w.rights.take k) ∧ e = [(16, .int k)] ∧ cc = [Chunk.box b3 31 [.strs w.sites, Tr.raw (.slice ad k cap), Tr.raw (.slice ad11 (intRows w.used).length cap11)], Chunk.own ad cap 1 22 (rowsW L), Chunk.bun (ownsW 3 L)])
    ⟨_, _, _, Ent.trans (Ent.nil 1 22) (Ent.trans Ent.bun0 (Ent.mkP goSub goPm)), 0, none, 0, [], rfl, ⟨by omega, rfl, rfl⟩, rfl, rfl⟩ ?_
  rintro _ _ _ ⟨k, ad, cap, L, rfl, ⟨hk, hL, hv⟩, rfl, rfl⟩
  have hVl : (rowsW L).length = k := by rw [rowsW_len, hL]
  by_cases hkl : k < w.rights.length
  · obtain ⟨l, hx⟩ := at_lt hkl
    have hrow := intsR_at hx
    have hlb := hw.rr l (List.mem_of_getElem? hx)
    have hlr := intRows_len l
    have k3 := clone_int (intRows l) (intRows_k _) (by omega)
    repeat' (first | refine goH ?_ | refine goV ?_ | refine goB (fun b => ?_) | refine goC (fun ad cap => ?_) | refine goI ?_ | (refine Cw.k_cond ?_; first | (refine Cw.cond_dec rfl (fun hc => ?_) (fun hc => ?_) <;> try (exfalso; omega)) | refine Cw.cond_bool rfl (fun hc => ?_) (fun hc => ?_)) | fail)
    refine Cw.region_YP (fun ξ S => Chunk.box b3 31 [.strs w.sites, stg (S 7) (Tr.raw (.slice ad k cap)) (slV (ξ 5) (k + 1)), Tr.raw (.slice ad11 (intRows w.used).length cap11)] :: Chunk.box b1 31 [.strs w.sites, .sl 1 (intsR w.rights), .ints w.used] :: Chunk.box b2 31 (List.map Tr.raw [.slice none 0 0, .slice none 0 0, .slice none 0 0]) :: Chunk.own ad11 cap11 1 3 (intRows w.used) :: Chunk.bun (ownsW 3 L) :: stg (S 5) (Chunk.own ad cap 1 22 (rowsW L)) (ownV (ξ 5) 1 22 (rowsW L ++ [[slV (ξ 3) (intRows l).length]])) :: (stg (S 3) [] [ownV (ξ 3) 1 3 (intRows l)] ++ (stg (S 4) [] (stg (S 5) [ownV (ξ 4) 1 22 [[slV (ξ 3) (intRows l).length]]] []) ++ []))) rfl (by decide +kernel) rfl ((fun (ξ : Nat → Value) (S : Nat → Bool) => Chunk.box b3 31 [.strs w.sites, stg (S 7) (Tr.raw (.slice ad k cap)) (slV (ξ 5) (k + 1)), Tr.raw (.slice ad11 (intRows w.used).length cap11)] :: Chunk.box b1 31 [.strs w.sites, .sl 1 (intsR w.rights), .ints w.used] :: Chunk.box b2 31 (List.map Tr.raw [.slice none 0 0, .slice none 0 0, .slice none 0 0]) :: Chunk.own ad11 cap11 1 3 (intRows w.used) :: Chunk.bun (ownsW 3 L) :: stg (S 5) (Chunk.own ad cap 1 22 (rowsW L)) (ownV (ξ 5) 1 22 (rowsW L ++ [[slV (ξ 3) (intRows l).length]])) :: (stg (S 3) [] [ownV (ξ 3) 1 3 (intRows l)] ++ (stg (S 4) [] (stg (S 5) [ownV (ξ 4) 1 22 [[slV (ξ 3) (intRows l).length]]] []) ++ []))) (fun _ => undef) (fun _ => false)) (by simp only [upd_same, updD_same, upd_ne, updD_ne, ne_eq, Nat.reduceEqDiff, not_false_eq_true, stg_t, stg_f, vAd_s, vCap_s, blk_p, List.cons_append, List.nil_append, b2n_t, b2n_f]; exact goXm) (fun _ => rfl) ?_
    apply YSeq.w (by intro _ _ _; rfl)
    · intro ξ S h1 h2 h3 h4
      have hN0_1 := closed_false h1 h3 (k := 1) rfl (by decide)
      have hN0_5 := closed_false hN0_1 h3 (k := 5) rfl (by decide)
      have hN0_7 := closed_false h1 h3 (k := 7) rfl (by decide)
      try simp only [upd_same, updD_same, upd_ne, updD_ne, ne_eq, Nat.reduceEqDiff, not_false_eq_true, stg_t, stg_f, vAd_s, vCap_s, blk_p, List.cons_append, List.nil_append, b2n_t, b2n_f, hN0_5, hN0_7]
      exact goW
    · intro ξ v; rfl
    · intro ξ k v S h3 hn hk
      first
      | rfl
    apply YSeq.w (by intro _ _ _; rfl)
    · intro ξ S h1 h2 h3 h4
      have hN1_5 := closed_false h1 h3 (k := 5) rfl (by decide)
      have hN1_7 := closed_false h1 h3 (k := 7) rfl (by decide)
      try simp only [upd_same, updD_same, upd_ne, updD_ne, ne_eq, Nat.reduceEqDiff, not_false_eq_true, stg_t, stg_f, vAd_s, vCap_s, blk_p, List.cons_append, List.nil_append, b2n_t, b2n_f, hN1_5, hN1_7]
      exact goW
    · intro ξ v; rfl
    · intro ξ k v S h3 hn hk
      first
      | rfl
    apply YSeq.w (by intro _ _ _; rfl)
    · intro ξ S h1 h2 h3 h4
      have hN2_3 := closed_false h1 h3 (k := 3) rfl (by decide)
      have hN2_4 := closed_false hN2_3 h3 (k := 4) rfl (by decide)
      have hN2_5 := closed_false hN2_3 h3 (k := 5) rfl (by decide)
      have hN2_7 := closed_false h1 h3 (k := 7) rfl (by decide)
      try simp only [upd_same, updD_same, upd_ne, updD_ne, ne_eq, Nat.reduceEqDiff, not_false_eq_true, stg_t, stg_f, vAd_s, vCap_s, blk_p, List.cons_append, List.nil_append, b2n_t, b2n_f, hN2_3, hN2_4, hN2_5, hN2_7]
      exact goW
    · intro ξ v; rfl
    · intro ξ k v S h3 hn hk
      first
      | rfl
    apply YSeq.callO ((intRows l).length)
    · intro ξ S h1 h2 h3 h4
      have hN3_4 := closed_false h1 h3 (k := 4) rfl (by decide)
      have hN3_5 := closed_false h1 h3 (k := 5) rfl (by decide)
      have hN3_7 := closed_false h1 h3 (k := 7) rfl (by decide)
      refine ⟨_, _, k3, (Evs.cons rfl Evs.nil), (by first | rfl | simp | omega), fun ad cap => ?_⟩
      simp only [upd_same, updD_same, upd_ne, updD_ne, ne_eq, Nat.reduceEqDiff, not_false_eq_true, stg_t, stg_f, vAd_s, vCap_s, blk_p, List.cons_append, List.nil_append, b2n_t, b2n_f, h1, hN3_4, hN3_5, hN3_7]
      exact goXm
    apply YSeq.lit
    · intro ξ S h1 h2 h3 h4
      have hY4_3 : S 3 = true := h2 3 (by decide)
      have hN4_5 := closed_false h1 h3 (k := 5) rfl (by decide)
      have hN4_7 := closed_false h1 h3 (k := 7) rfl (by decide)
      refine ⟨_, _, (by first | exact (by exact Parts.cons rfl rfl rfl (by exact Parts.nil)) | exact (by exact Parts.cons rfl rfl rfl (by exact Parts.cons rfl rfl rfl (by exact Parts.nil))) | exact (by exact Parts.cons rfl rfl rfl (by exact Parts.cons rfl rfl rfl (by exact Parts.cons rfl rfl rfl (by exact Parts.nil)))) | exact (by exact Parts.cons rfl rfl rfl (by exact Parts.cons rfl rfl rfl (by exact Parts.cons rfl rfl rfl (by exact Parts.cons rfl rfl rfl (by exact Parts.nil))))) | exact (by exact Parts.cons rfl rfl rfl (by exact Parts.cons rfl rfl rfl (by exact Parts.cons rfl rfl rfl (by exact Parts.cons rfl rfl rfl (by exact Parts.cons rfl rfl rfl (by exact Parts.nil))))))), goNt, rfl, fun ad cap => ?_⟩
      simp only [upd_same, updD_same, upd_ne, updD_ne, ne_eq, Nat.reduceEqDiff, not_false_eq_true, stg_t, stg_f, vAd_s, vCap_s, blk_p, List.cons_append, List.nil_append, b2n_t, b2n_f, hY4_3, h1, hN4_5, hN4_7]
      exact goXm
    apply YSeq.appendO (k + 1)
    · intro ξ S h1 h2 h3 h4
      have hY5_3 : S 3 = true := h2 3 (by decide)
      have hY5_4 : S 4 = true := h2 4 (by decide)
      have hN5_7 := closed_false h1 h3 (k := 7) rfl (by decide)
      simp only [upd_same, updD_same, upd_ne, updD_ne, ne_eq, Nat.reduceEqDiff, not_false_eq_true, stg_t, stg_f, vAd_s, vCap_s, blk_p, List.cons_append, List.nil_append, b2n_t, b2n_f, hY5_3, hY5_4, h1, hN5_7]
      refine ⟨_, _, _, _, _, _, _, _, _, _, rfl, rfl, goXp, goXp, (by first | rfl | (simp; done) | omega), (by first | rfl | (simp; done) | omega), (by first | rfl | omega | (simp; done) | (simp; omega)), (by first | omega | (simp; omega)), (by first | omega | (simp; omega)), fun ad' cap' => ?_⟩
      exact goXm
    apply YSeq.w (by intro _ _ _; rfl)
    · intro ξ S h1 h2 h3 h4
      have hY6_3 : S 3 = true := h2 3 (by decide)
      have hY6_4 : S 4 = true := h2 4 (by decide)
      have hY6_5 : S 5 = true := h2 5 (by decide)
      have hN6_7 := closed_false h1 h3 (k := 7) rfl (by decide)
      try simp only [upd_same, updD_same, upd_ne, updD_ne, ne_eq, Nat.reduceEqDiff, not_false_eq_true, stg_t, stg_f, vAd_s, vCap_s, blk_p, List.cons_append, List.nil_append, b2n_t, b2n_f, hY6_3, hY6_4, hY6_5, hN6_7]
      exact goW
    · intro ξ v; rfl
    · intro ξ k v S h3 hn hk
      first
      | rfl
      | skip
        have hY6_3 : S 3 = true := h3 6 _ rfl hn 3 (by decide)
        have hY6_4 : S 4 = true := h3 6 _ rfl hn 4 (by decide)
        have hY6_5 : S 5 = true := h3 6 _ rfl hn 5 (by decide)
        simp only [upd_S hY6_3 hk, upd_S hY6_4 hk, upd_S hY6_5 hk]
    apply YSeq.store
    · intro ξ S h1 h2 h3 h4
      have hY7_3 : S 3 = true := h2 3 (by decide)
      have hY7_4 : S 4 = true := h2 4 (by decide)
      have hY7_5 : S 5 = true := h2 5 (by decide)
      simp only [upd_same, updD_same, upd_ne, updD_ne, ne_eq, Nat.reduceEqDiff, not_false_eq_true, stg_t, stg_f, vAd_s, vCap_s, blk_p, List.cons_append, List.nil_append, b2n_t, b2n_f, hY7_3, hY7_4, hY7_5, h1]
      refine ⟨_, _, _, _, _, _, _, rfl, rfl, inferInstance, goXp, rfl, Nat.le_of_ble_eq_true rfl, ?_⟩
      exact goXm
    refine YSeq.nil fun ξ hf => ?_
    refine ⟨[(2, _), (3, _), (14, _), (15, _), (16, _)], _, Ent.trans (Ent.eqc rfl (by simp only [upd_same, updD_same, upd_ne, updD_ne, ne_eq, Nat.reduceEqDiff, not_false_eq_true, stg_t, stg_f, vAd_s, vCap_s, blk_p, List.cons_append, List.nil_append, b2n_t, b2n_f, ownV, slV, ptV] <;> rfl)) (Ent.sub goSub), ?_⟩
    clear hf
    generalize vAd (ξ 3) = ad23
    generalize vCap (ξ 3) = cap23
    generalize vAd (ξ 4) = ad24
    generalize vCap (ξ 4) = cap24
    generalize vAd (ξ 5) = ad25
    generalize vCap (ξ 5) = cap25
    rw [show ([[Tr.raw (.slice ad23 (intRows l).length cap23)]] : List (List Tr)) = [[Tr.raw (IL.val ⟨ad23, cap23, l⟩)]] from rfl, rowsW_snoc]
    refine InB.norm (Then.norm ?_)
    refine Cw.ent (Ent.push (c := (⟨ad23, cap23, l⟩ : IL).own 3) (L := ownsW 3 L) (by exact goPk) (by exact goPk)) ?_
    rw [ownsW_snoc]
    repeat' (first | refine goH ?_ | refine goV ?_ | refine goB (fun b => ?_) | refine goC (fun ad cap => ?_) | refine goI ?_ | (refine Cw.k_cond ?_; first | (refine Cw.cond_dec rfl (fun hc => ?_) (fun hc => ?_) <;> try (exfalso; omega)) | refine Cw.cond_bool rfl (fun hc => ?_) (fun hc => ?_)) | refine goR ?_ | refine goP ?_ | apply PSeq.cons | apply PSeq.yes rfl rfl rfl | exact goW | fail)
    exact ⟨_, _, _, (Ent.mk goSub goTk), ⟨k + 1, _, _, L ++ [⟨ad23, cap23, l⟩], rfl, ⟨by omega, by simp [hL], by rw [valsW_snoc, hv, take_at hx]⟩, rfl, rfl⟩, by omega⟩
  · have hkk : k = w.rights.length := by omega
    repeat' (first | refine goH ?_ | refine goV ?_ | refine goB (fun b => ?_) | refine goC (fun ad cap => ?_) | refine goI ?_ | (refine Cw.k_cond ?_; first | (refine Cw.cond_dec rfl (fun hc => ?_) (fun hc => ?_) <;> try (exfalso; omega)) | refine Cw.cond_bool rfl (fun hc => ?_) (fun hc => ?_)) | refine goR ?_ | refine goP ?_ | apply PSeq.cons | apply PSeq.yes rfl rfl rfl | exact goW | fail)
    rw [← hVl]
    refine Fin.ret (Ent.trans (Ent.setbox (s := 2) rfl goPk) (Ent.take goTk)) (Outs.sole rfl (by exact OutE.agg inferInstance rfl rfl)) ⟨ad, cap, L, ad11, cap11, rfl, ?_, rfl⟩
    rw [hv, hkk, List.take_length]
end Lg
end
