/- A part of the proof of a law of this seat: it adds no condition. By an AI agent. -/
import Derived.Test.YtjknjnkkpfeahaaGreatDoorWal4
section
set_option linter.all false
set_option maxRecDepth 100000
set_option maxHeartbeats 8000000
namespace Lg
open Go Go.Proofs

def catX (s2 s5 : Bool) (v2 v5 : Value) (E : TypeId) (rows rows2 : List (List Tr)) : List Chunk := match s5 with
  | true => [Chunk.own (vAd v5) (vCap v5) 1 E rows2]
  | false => match s2 with
    | true => [Chunk.own (vAd v2) (vCap v2) 1 E rows]
    | false => []
theorem any_drop {l : List Int} {k : Nat} {x : Int} (h : l[k]? = some x) : (l.drop k).any bC = (bC x || (l.drop (k + 1)).any bC) := by
  have hk := (List.getElem?_eq_some_iff.1 h)
  obtain ⟨hlt, e⟩ := hk
  rw [List.drop_eq_getElem_cons hlt, List.any_cons, e]
theorem walletFault_fn (w : Wal) (hb : WBd w) : PFn Tryz.prog 6 [.wal w] (· = .int (walE w)) := by
  have hS := strRows_len w.sites
  have hR := intsR_len w.rights
  have hU := intRows_len w.used
  have n1 := hb.n1
  have nr := hb.r
  have nu := hb.u
  have kS := kiosksFault_fn w.sites (by omega)
  have k1 : ∀ (n b : Nat), Spec Tryz.prog 27 [.sl 1 (intsR w.rights), Tr.raw (.func (.func 28) #[] [Value.pointer (some ⟨b, 0, none⟩)].toArray)] [Chunk.box b 3 [.int n]] (fun r cs => r = .bool (w.rights.any (formB n)) ∧ cs = [Chunk.box b 3 [.int n]]) := fun n b => containsFunc_intL (p := formB n) (caps := [.pointer (some ⟨b, 0, none⟩)]) (cin := [Chunk.box b 3 [.int n]]) (l := w.rights) (by omega) (fun x _ => formR_fn n b x)
  refine PFn.mk (Spec.body Tryz.func6 rfl rfl (Tryz.ntmps6) rfl fun w0 own0 M => ?_)
  by_cases h1 : sitE w.sites ≠ 0
  · have e : walE w = sitE w.sites := by unfold walE; rw [if_pos h1]
    rw [e]
    generalize sitE w.sites = c at *
    repeat' (first | refine goH ?_ | refine goV ?_ | refine goB (fun b => ?_) | refine goC (fun ad cap => ?_) | refine goG ?_ | (refine Ops.k_guard ?_; first | (refine Ops.guard_dec rfl rfl (fun hc => ?_) (fun hc => ?_) <;> try (exfalso; omega)) | refine Ops.guard_split rfl rfl (fun hc => ?_) (fun hc => ?_)) | refine goI ?_ | (refine Cw.k_cond ?_; first | (refine Cw.cond_dec rfl (fun hc => ?_) (fun hc => ?_) <;> try (exfalso; omega)) | refine Cw.cond_bool rfl (fun hc => ?_) (fun hc => ?_)) | (refine Ops.k_calla ?_; first | (refine Ops.k_callf 26 ?_; refine Ops.callV kS (Evs.cons rfl Evs.nil) rfl ?_)) | (apply OpW.k_call; first | (apply OpW.k_callf 26; exact OpW.callV kS (Evs.cons rfl Evs.nil))) | refine goR ?_ | refine goP ?_ | apply PSeq.cons | apply PSeq.yes rfl rfl rfl | exact goW | fail)
    exact Fin.ret (Ent.take goTk) (Outs.one rfl rfl) ⟨rfl, rfl⟩
  have h0 : sitE w.sites = 0 := by omega
  rw [h0] at kS
  repeat' (first | refine goH ?_ | refine goV ?_ | refine goB (fun b => ?_) | refine goC (fun ad cap => ?_) | refine goG ?_ | (refine Ops.k_guard ?_; first | (refine Ops.guard_dec rfl rfl (fun hc => ?_) (fun hc => ?_) <;> try (exfalso; omega)) | refine Ops.guard_split rfl rfl (fun hc => ?_) (fun hc => ?_)) | refine goI ?_ | (refine Cw.k_cond ?_; first | (refine Cw.cond_dec rfl (fun hc => ?_) (fun hc => ?_) <;> try (exfalso; omega)) | refine Cw.cond_bool rfl (fun hc => ?_) (fun hc => ?_)) | (refine Ops.k_calla ?_; first | (refine Ops.k_callf 26 ?_; refine Ops.callV kS (Evs.cons rfl Evs.nil) rfl ?_) | (refine Ops.k_callf 27 ?_; (refine Ops.call (k1 _ _) (Evs.cons rfl (Evs.cons rfl Evs.nil)) goPm rfl ?_; rintro r cs' ⟨rfl, rfl⟩))) | (apply OpW.k_call; first | (apply OpW.k_callf 26; exact OpW.callV kS (Evs.cons rfl Evs.nil))) | fail)
  · exact Fin.ret (Ent.take goTk) (Outs.one rfl rfl) ⟨rfl, congrArg Tr.int (walE_3 h0 (by unfold badForm; simp; omega)).symm⟩
  · exact Fin.ret (Ent.take goTk) (Outs.one rfl rfl) ⟨rfl, congrArg Tr.int (walE_3 h0 (by unfold badForm; simp; omega)).symm⟩
  · rename_i hc1 hc2
    rw [hS] at hc
    exact Fin.ret (Ent.take goTk) (Outs.one rfl rfl) ⟨rfl, congrArg Tr.int (walE_3 h0 (by unfold badForm; rw [hc]; simp)).symm⟩
  rename_i b1 hc1 hc2
  rw [hS] at hc
  have hbf : badForm w = false := by unfold badForm; rw [Bool.or_eq_false_iff, Bool.or_eq_false_iff]; exact ⟨by simp; omega, by simp; omega, by simpa using hc⟩
  have q1 : w.rights.flatten.length ≤ 10000 := flat_bd (n := 100) (m := 100) hb.rr (by omega)
  have hfl := intRows_len w.rights.flatten
  have k2 := concat_fn w.rights (by omega) (by omega)
  have hW3 := walE_1 h0 hbf
  have hW4 := walE_0 h0 hbf
  have hwo := wok_of h0 hbf
  clear k1 kS
  have key : intRows w.rights.flatten ++ intRows w.used = intRows (w.rights.flatten ++ w.used) := by rw [intRows_app]
  have hAl : (w.rights.flatten ++ w.used).length ≤ 20000 := by rw [List.length_append]; omega
  have hAr := intRows_len (w.rights.flatten ++ w.used)
  refine Cw.region_X (fun ξ S => Chunk.box b 3 [.int (strRows w.sites).length] :: Chunk.box b1 29 [.strs w.sites, .sl 1 (intsR w.rights), .ints w.used] :: catX (S 2) (S 5) (ξ 2) (ξ 5) 3 (intRows w.rights.flatten) (intRows w.rights.flatten ++ intRows w.used)) rfl (by decide +kernel) rfl (fun _ => rfl) ?_
  apply XSeq.w (by intro _ _ _; rfl)
  · intro ξ S h1 h2 h3 h4; exact goW
  apply XSeq.w (by intro _ _ _; rfl)
  · intro ξ S h1 h2 h3 h4; exact goW
  apply XSeq.callO k2 (fun _ => (Evs.cons rfl Evs.nil))
  · intro ξ S h1 h3 ad cap
    have e5 := closed_false h1 h3 (k := 5) rfl (by decide)
    show (_ :: _ :: catX true (S 5) (.slice ad _ cap) (ξ 5) 3 _ _).Perm (_ :: _ :: _ :: catX (S 2) (S 5) (ξ 2) (ξ 5) 3 _ _)
    rw [h1, e5]
    exact (pickS (pickS pick0))
  apply XSeq.w (by intro _ _ _; rfl)
  · intro ξ S h1 h2 h3 h4; exact goW
  apply XSeq.w (by intro _ _ _; rfl)
  · intro ξ S h1 h2 h3 h4; exact goW
  apply XSeq.append (w.rights.flatten ++ w.used).length
  · intro ξ S h1 h2 h3 h4
    have e := h2 2 (by decide)
    obtain ⟨ad, cap, hb2⟩ : ∃ ad cap, ξ 2 = .slice ad (intRows w.rights.flatten).length cap := h4 2 e
    obtain ⟨ξ, rfl⟩ := exists_upd hb2
    refine ⟨ad, (intRows w.rights.flatten).length, cap, intRows w.rights.flatten, intRows w.used, [Chunk.box b 3 [.int (strRows w.sites).length], Chunk.box b1 29 [.strs w.sites, .sl 1 (intsR w.rights), .ints w.used]], rfl, rfl, ?_, rfl, ?_, ?_, ?_, ?_⟩
    · show (_ :: _ :: catX (S 2) (S 5) (.slice ad _ cap) (ξ 5) 3 _ _).Perm _
      rw [h1, e]
      exact (pickS (pickS pick0))
    · rw [List.length_append]; omega
    · omega
    · omega
    · intro ad' cap'
      exact (pickS (pickS pick0))
  apply XSeq.w (t := Tr.int (w.rights.flatten ++ w.used).length) (by intro _ _ _; rfl)
  · intro ξ S h1 h2 h3 h4
    have e := h2 5 (by decide)
    obtain ⟨ad, cap, hb2⟩ : ∃ ad cap, ξ 5 = .slice ad (w.rights.flatten ++ w.used).length cap := h4 5 e
    obtain ⟨ξ, rfl⟩ := exists_upd hb2
    exact goW
  apply XSeq.w (by intro _ _ _; rfl)
  · intro ξ S h1 h2 h3 h4; exact goW
  refine XSeq.nil fun ξ hf => ?_
  obtain ⟨ad, cap, hb2⟩ : ∃ ad cap, ξ 5 = .slice ad (w.rights.flatten ++ w.used).length cap := hf 5
  obtain ⟨ξ, rfl⟩ := exists_upd hb2
  clear hf
  rw [key]
  refine ⟨[(1, .ptr b1), (40, Tr.raw (.slice ad (w.rights.flatten ++ w.used).length cap)), (41, .int (w.rights.flatten ++ w.used).length), (42, .int 0)], [Chunk.box b 3 [.int (strRows w.sites).length], Chunk.box b1 29 [.strs w.sites, .sl 1 (intsR w.rights), .ints w.used], Chunk.own ad cap 1 3 (intRows (w.rights.flatten ++ w.used))], Ent.sub goSub, ?_⟩
  refine Then.norm ?_
  generalize hA : w.rights.flatten ++ w.used = A at *
  clear key k2 hfl q1 hb2
  have hV0 : A.any bC = (A.drop 0).any bC := rfl
  repeat' (first | refine goH ?_ | refine goV ?_ | refine goB (fun b => ?_) | refine goC (fun ad cap => ?_) | refine goG ?_ | (refine Ops.k_guard ?_; first | (refine Ops.guard_dec rfl rfl (fun hc => ?_) (fun hc => ?_) <;> try (exfalso; omega)) | refine Ops.guard_split rfl rfl (fun hc => ?_) (fun hc => ?_)) | refine goI ?_ | (refine Cw.k_cond ?_; first | (refine Cw.cond_dec rfl (fun hc => ?_) (fun hc => ?_) <;> try (exfalso; omega)) | refine Cw.cond_bool rfl (fun hc => ?_) (fun hc => ?_)) | refine goR ?_ | refine goP ?_ | apply PSeq.cons | apply PSeq.yes rfl rfl rfl | exact goW | fail)
  refine Cw.loopI [(1, _), (40, _), (41, _)] _ (fun q e cc => ∃ (k : Nat), q = A.length - k ∧ (k ≤ A.length ∧ A.any bC = (A.drop k).any bC) ∧ e = [(42, .int k)] ∧ cc = []) ⟨_, _, _, (Ent.mkP goSub goPm), 0, rfl, ⟨by omega, hV0⟩, rfl, rfl⟩ ?_
  clear hV0
  rintro _ _ _ ⟨k, rfl, ⟨hk, hV⟩, rfl, rfl⟩
  by_cases hkl : k < A.length
  · obtain ⟨x, hx⟩ := at_lt hkl
    have hrow := intRows_at hx
    have hd := any_drop hx
    rw [hd] at hV
    by_cases g : bC x = true
    · rw [g, Bool.true_or] at hV
      have e := hW3 hV
      have g' : x < 0 ∨ 1000000000 < x := by simpa [bC] using g
      clear hW3 hW4 hwo hd hV
      repeat' (first | refine goH ?_ | refine goV ?_ | refine goB (fun b => ?_) | refine goC (fun ad cap => ?_) | refine goG ?_ | (refine Ops.k_guard ?_; first | (refine Ops.guard_dec rfl rfl (fun hc => ?_) (fun hc => ?_) <;> try (exfalso; omega)) | refine Ops.guard_split rfl rfl (fun hc => ?_) (fun hc => ?_)) | refine goI ?_ | (refine Cw.k_cond ?_; first | (refine Cw.cond_dec rfl (fun hc => ?_) (fun hc => ?_) <;> try (exfalso; omega)) | refine Cw.cond_bool rfl (fun hc => ?_) (fun hc => ?_)) | refine goR ?_ | refine goP ?_ | apply PSeq.cons | apply PSeq.yes rfl rfl rfl | exact goW | fail)
      all_goals exact Fin.ret (Ent.take goTk) (Outs.one rfl rfl) ⟨rfl, congrArg Tr.int e.symm⟩
    · have g0 : bC x = false := by simpa using g
      rw [g0, Bool.false_or] at hV
      have g' : ¬ x < 0 ∧ ¬ x > 1000000000 := by simp [bC] at g0; omega
      obtain ⟨g1, g2⟩ := g'
      clear hW3 hW4 hwo hd
      repeat' (first | refine goH ?_ | refine goV ?_ | refine goB (fun b => ?_) | refine goC (fun ad cap => ?_) | refine goG ?_ | (refine Ops.k_guard ?_; first | (refine Ops.guard_dec rfl rfl (fun hc => ?_) (fun hc => ?_) <;> try (exfalso; omega)) | refine Ops.guard_split rfl rfl (fun hc => ?_) (fun hc => ?_)) | refine goI ?_ | (refine Cw.k_cond ?_; first | (refine Cw.cond_dec rfl (fun hc => ?_) (fun hc => ?_) <;> try (exfalso; omega)) | refine Cw.cond_bool rfl (fun hc => ?_) (fun hc => ?_)) | refine goR ?_ | refine goP ?_ | apply PSeq.cons | apply PSeq.yes rfl rfl rfl | exact goW | fail)
      exact ⟨_, _, _, (Ent.mk goSub goTk), ⟨k + 1, rfl, ⟨by omega, hV⟩, rfl, rfl⟩, by omega⟩
  rw [List.drop_of_length_le (by omega), List.any_nil] at hV
  have hV0 := hW4 hV
  have hw := hwo hV
  clear hW3 hW4 hwo hV
  repeat' (first | refine goH ?_ | refine goV ?_ | refine goB (fun b => ?_) | refine goC (fun ad cap => ?_) | refine goG ?_ | (refine Ops.k_guard ?_; first | (refine Ops.guard_dec rfl rfl (fun hc => ?_) (fun hc => ?_) <;> try (exfalso; omega)) | refine Ops.guard_split rfl rfl (fun hc => ?_) (fun hc => ?_)) | refine goI ?_ | (refine Cw.k_cond ?_; first | (refine Cw.cond_dec rfl (fun hc => ?_) (fun hc => ?_) <;> try (exfalso; omega)) | refine Cw.cond_bool rfl (fun hc => ?_) (fun hc => ?_)) | refine goR ?_ | refine goP ?_ | apply PSeq.cons | apply PSeq.yes rfl rfl rfl | exact goW | fail)
  refine Cw.loopI [(1, _), (55, _)] _ (fun q e cc => ∃ (k : Nat), q = w.sites.length - k ∧ (k ≤ w.sites.length ∧ walE w = firstE (rgtE w) k (w.sites.length - k)) ∧ e = [(56, .int k)] ∧ cc = []) ⟨_, _, _, (Ent.mkP goSub goPm), 0, rfl, ⟨by omega, hV0⟩, rfl, rfl⟩ ?_
  clear hV0
  rintro _ _ _ ⟨k, rfl, ⟨hk, hV⟩, rfl, rfl⟩
  by_cases hkl : k < w.sites.length
  rotate_left
  · repeat' (first | refine goH ?_ | refine goV ?_ | refine goB (fun b => ?_) | refine goC (fun ad cap => ?_) | refine goG ?_ | (refine Ops.k_guard ?_; first | (refine Ops.guard_dec rfl rfl (fun hc => ?_) (fun hc => ?_) <;> try (exfalso; omega)) | refine Ops.guard_split rfl rfl (fun hc => ?_) (fun hc => ?_)) | refine goI ?_ | (refine Cw.k_cond ?_; first | (refine Cw.cond_dec rfl (fun hc => ?_) (fun hc => ?_) <;> try (exfalso; omega)) | refine Cw.cond_bool rfl (fun hc => ?_) (fun hc => ?_)) | refine goR ?_ | refine goP ?_ | apply PSeq.cons | apply PSeq.yes rfl rfl rfl | exact goW | fail)
    refine Fin.ret (Ent.take goTk) (Outs.one rfl rfl) ⟨rfl, congrArg Tr.int ?_⟩
    rw [hV, firstE_end hkl]
  have kR := rightsR_fn w hw k hkl
  have fin : ∀ c, rgtE w k = c → c ≠ 0 → walE w = c := fun c h1 h2 => hV.trans (firstE_bad hkl h1 h2)
  have nxt : rgtE w k = 0 → walE w = firstE (rgtE w) (k + 1) (w.sites.length - (k + 1)) := fun h1 => hV.trans (firstE_ok hkl h1)
  have hE : rgtE w k = if rgt w k < 0 then 16 else 0 := rfl
  clear hV
  by_cases g : rgt w k < 0
  · rw [if_pos g] at hE
    have hF := fin 16 hE (by decide)
    clear fin nxt
    repeat' (first | refine goH ?_ | refine goV ?_ | refine goB (fun b => ?_) | refine goC (fun ad cap => ?_) | refine goG ?_ | (refine Ops.k_guard ?_; first | (refine Ops.guard_dec rfl rfl (fun hc => ?_) (fun hc => ?_) <;> try (exfalso; omega)) | refine Ops.guard_split rfl rfl (fun hc => ?_) (fun hc => ?_)) | refine goI ?_ | (refine Cw.k_cond ?_; first | (refine Cw.cond_dec rfl (fun hc => ?_) (fun hc => ?_) <;> try (exfalso; omega)) | refine Cw.cond_bool rfl (fun hc => ?_) (fun hc => ?_)) | (refine Ops.k_calla ?_; first | (refine Ops.k_callf 30 ?_; refine Ops.callV kR (Evs.cons rfl (Evs.cons rfl Evs.nil)) rfl ?_)) | (apply OpW.k_call; first | (apply OpW.k_callf 30; exact OpW.callV kR (Evs.cons rfl (Evs.cons rfl Evs.nil)))) | refine goR ?_ | refine goP ?_ | apply PSeq.cons | apply PSeq.yes rfl rfl rfl | exact goW | fail)
    exact Fin.ret (Ent.take goTk) (Outs.one rfl rfl) ⟨rfl, congrArg Tr.int hF.symm⟩
  · rw [if_neg g] at hE
    have hN := nxt hE
    clear fin nxt
    repeat' (first | refine goH ?_ | refine goV ?_ | refine goB (fun b => ?_) | refine goC (fun ad cap => ?_) | refine goG ?_ | (refine Ops.k_guard ?_; first | (refine Ops.guard_dec rfl rfl (fun hc => ?_) (fun hc => ?_) <;> try (exfalso; omega)) | refine Ops.guard_split rfl rfl (fun hc => ?_) (fun hc => ?_)) | refine goI ?_ | (refine Cw.k_cond ?_; first | (refine Cw.cond_dec rfl (fun hc => ?_) (fun hc => ?_) <;> try (exfalso; omega)) | refine Cw.cond_bool rfl (fun hc => ?_) (fun hc => ?_)) | (refine Ops.k_calla ?_; first | (refine Ops.k_callf 30 ?_; refine Ops.callV kR (Evs.cons rfl (Evs.cons rfl Evs.nil)) rfl ?_)) | (apply OpW.k_call; first | (apply OpW.k_callf 30; exact OpW.callV kR (Evs.cons rfl (Evs.cons rfl Evs.nil)))) | refine goR ?_ | refine goP ?_ | apply PSeq.cons | apply PSeq.yes rfl rfl rfl | exact goW | fail)
    exact ⟨_, _, _, (Ent.mk goSub goTk), ⟨k + 1, rfl, ⟨by omega, hN⟩, rfl, rfl⟩, by omega⟩
end Lg
end
section
set_option linter.all false
set_option maxRecDepth 100000
set_option maxHeartbeats 4000000
namespace Lg
open Go Go.Proofs
theorem equalStrs_same (xs : List ByteArray) (h : xs.length ≤ 1000000000) : PFn Tryz.prog 40 [.strs xs, .strs xs] (· = .bool true) := by
  refine PFn.mk (Spec.body Tryz.func40 rfl rfl (Tryz.ntmps40) rfl fun w0 own0 M => ?_)
  have hL := strRows_len xs
  repeat' (first | refine goH ?_ | refine goV ?_ | refine goI ?_ | (refine Cw.k_cond ?_; first | (refine Cw.cond_dec rfl (fun hc => ?_) (fun hc => ?_) <;> try (exfalso; omega)) | refine Cw.cond_bool rfl (fun hc => ?_) (fun hc => ?_)) | refine goR ?_ | refine goP ?_ | apply PSeq.cons | apply PSeq.yes rfl rfl rfl | exact goW | fail)
  refine Cw.loop (ι := Nat) (fun k => k ≤ xs.length) (fun k => [(0, .strs xs), (1, .strs xs), (11, .strs xs), (12, .int (strRows xs).length), (13, .int k)]) (fun _ => []) (fun k => xs.length - k) ⟨0, by omega, (Ent.mk goSub goTk)⟩ ?_
  intro k hk
  by_cases hkl : k < xs.length
  · obtain ⟨d, hd⟩ : ∃ x, xs[k]? = some x := ⟨_, List.getElem?_eq_getElem hkl⟩
    have hrow := strRows_at hd
    repeat' (first | refine goH ?_ | refine goV ?_ | refine goI ?_ | (refine Cw.k_cond ?_; first | (refine Cw.cond_dec rfl (fun hc => ?_) (fun hc => ?_) <;> try (exfalso; omega)) | refine Cw.cond_bool rfl (fun hc => ?_) (fun hc => ?_)) | refine goR ?_ | refine goP ?_ | apply PSeq.cons | apply PSeq.yes rfl rfl rfl | exact goW | fail)
    all_goals first | exact ⟨k + 1, by omega, by omega, (Ent.mk goSub goTk)⟩ | exact absurd rfl hc
  · repeat' (first | refine goH ?_ | refine goV ?_ | refine goI ?_ | (refine Cw.k_cond ?_; first | (refine Cw.cond_dec rfl (fun hc => ?_) (fun hc => ?_) <;> try (exfalso; omega)) | refine Cw.cond_bool rfl (fun hc => ?_) (fun hc => ?_)) | refine goR ?_ | refine goP ?_ | apply PSeq.cons | apply PSeq.yes rfl rfl rfl | exact goW | fail)
    exact Fin.ret Ent.refl (Outs.one rfl rfl) ⟨rfl, rfl⟩
end Lg
end
section
set_option linter.all false
set_option maxRecDepth 100000
set_option maxHeartbeats 8000000
namespace Lg
open Go Go.Proofs

theorem drop_ne {a b : List ByteArray} {k : Nat} {x y : ByteArray} (h1 : a[k]? = some x) (h2 : b[k]? = some y) (h : x ≠ y) : a ≠ b := by
  rintro rfl
  rw [h1] at h2
  exact h (Option.some.inj h2)
theorem equalStrs_fn (a b : List ByteArray) (ha : a.length ≤ 1000000) (hb : b.length ≤ 1000000) : PFn Tryz.prog 40 [.strs a, .strs b] (· = .bool (decide (a = b))) := by
  refine PFn.mk (Spec.body Tryz.func40 rfl rfl (Tryz.ntmps40) rfl fun w0 own0 M => ?_)
  have hA := strRows_len a
  have hB := strRows_len b
  by_cases hl : a.length = b.length
  rotate_left
  · have e : decide (a = b) = false := decide_eq_false (fun e => hl (by rw [e]))
    repeat' (first | refine goH ?_ | refine goV ?_ | refine goI ?_ | (refine Cw.k_cond ?_; first | (refine Cw.cond_dec rfl (fun hc => ?_) (fun hc => ?_) <;> try (exfalso; omega)) | refine Cw.cond_bool rfl (fun hc => ?_) (fun hc => ?_)) | refine goR ?_ | refine goP ?_ | apply PSeq.cons | apply PSeq.yes rfl rfl rfl | exact goW | fail)
    exact Fin.ret (Ent.take goTk) (Outs.one rfl rfl) ⟨rfl, congrArg Tr.bool e.symm⟩
  repeat' (first | refine goH ?_ | refine goV ?_ | refine goI ?_ | (refine Cw.k_cond ?_; first | (refine Cw.cond_dec rfl (fun hc => ?_) (fun hc => ?_) <;> try (exfalso; omega)) | refine Cw.cond_bool rfl (fun hc => ?_) (fun hc => ?_)) | refine goR ?_ | refine goP ?_ | apply PSeq.cons | apply PSeq.yes rfl rfl rfl | exact goW | fail)
  refine Cw.loopI [(0, _), (1, _), (11, _), (12, _)] _ (fun q e cc => ∃ (k : Nat), q = a.length - k ∧ (k ≤ a.length ∧ ∀ j, j < k → a[j]? = b[j]?) ∧ e = [(13, .int k)] ∧ cc = []) ⟨_, _, _, (Ent.mkP goSub goPm), 0, rfl, ⟨by omega, fun j h => absurd h (by omega)⟩, rfl, rfl⟩ ?_
  rintro _ _ _ ⟨k, rfl, ⟨hk, hV⟩, rfl, rfl⟩
  by_cases hkl : k < a.length
  · obtain ⟨x, hx⟩ := at_lt hkl
    obtain ⟨y, hy⟩ := at_lt (l := b) (k := k) (by omega)
    have hr1 := strRows_at hx
    have hr2 := strRows_at hy
    by_cases hxy : x = y
    · have nx : ∀ j, j < k + 1 → a[j]? = b[j]? := by
        intro j hj
        by_cases e : j = k
        · subst e; rw [hx, hy, hxy]
        · exact hV j (by omega)
      subst hxy
      clear hV
      repeat' (first | refine goH ?_ | refine goV ?_ | refine goI ?_ | (refine Cw.k_cond ?_; first | (refine Cw.cond_dec rfl (fun hc => ?_) (fun hc => ?_) <;> try (exfalso; omega)) | refine Cw.cond_bool rfl (fun hc => ?_) (fun hc => ?_)) | refine goR ?_ | refine goP ?_ | apply PSeq.cons | apply PSeq.yes rfl rfl rfl | exact goW | fail)
      all_goals first | exact ⟨_, _, _, (Ent.mk goSub goTk), ⟨k + 1, rfl, ⟨by omega, nx⟩, rfl, rfl⟩, by omega⟩ | exact absurd rfl hc
    · have e : decide (a = b) = false := decide_eq_false (drop_ne hx hy hxy)
      clear hV
      repeat' (first | refine goH ?_ | refine goV ?_ | refine goI ?_ | (refine Cw.k_cond ?_; first | (refine Cw.cond_dec rfl (fun hc => ?_) (fun hc => ?_) <;> try (exfalso; omega)) | refine Cw.cond_bool rfl (fun hc => ?_) (fun hc => ?_)) | refine goR ?_ | refine goP ?_ | apply PSeq.cons | apply PSeq.yes rfl rfl rfl | exact goW | fail)
      all_goals first | exact Fin.ret (Ent.take goTk) (Outs.one rfl rfl) ⟨rfl, congrArg Tr.bool e.symm⟩ | (exfalso; simp_all; done)
  · have e : decide (a = b) = true := by
      refine decide_eq_true (List.ext_getElem? fun j => ?_)
      by_cases hj : j < k
      · exact hV j hj
      · rw [List.getElem?_eq_none (by omega), List.getElem?_eq_none (by omega)]
    clear hV
    repeat' (first | refine goH ?_ | refine goV ?_ | refine goI ?_ | (refine Cw.k_cond ?_; first | (refine Cw.cond_dec rfl (fun hc => ?_) (fun hc => ?_) <;> try (exfalso; omega)) | refine Cw.cond_bool rfl (fun hc => ?_) (fun hc => ?_)) | refine goR ?_ | refine goP ?_ | apply PSeq.cons | apply PSeq.yes rfl rfl rfl | exact goW | fail)
    exact Fin.ret (Ent.take goTk) (Outs.one rfl rfl) ⟨rfl, congrArg Tr.bool e.symm⟩
def pairE (a b : Wal) : Int := if orI [walE a, walE b] ≠ 0 then orI [walE a, walE b] else if decide (a.sites = b.sites) = true then 0 else 3
theorem pairE_ok {a b : Wal} (h : pairE a b = 0) : walE a = 0 ∧ walE b = 0 ∧ b.sites = a.sites := by
  unfold pairE at h
  by_cases h1 : orI [walE a, walE b] ≠ 0
  · rw [if_pos h1] at h; exact absurd h h1
  rw [if_neg h1] at h
  by_cases h2 : decide (a.sites = b.sites) = true
  · have h1' : orI [walE a, walE b] = 0 := by omega
    rw [orI_cons] at h1'
    by_cases g : walE a ≠ 0
    · rw [if_pos g] at h1'; exact absurd h1' g
    rw [if_neg g, orI_cons] at h1'
    by_cases g2 : walE b ≠ 0
    · rw [if_pos g2] at h1'; exact absurd h1' g2
    exact ⟨by omega, by omega, (of_decide_eq_true h2).symm⟩
  · rw [if_neg h2] at h; cases h
theorem pairR_fn (a b : Wal) (ha : WBd a) (hb : WBd b) : PFn Tryz.prog 66 [.wal a, .wal b] (· = .int (pairE a b)) := by
  have kA := walletFault_fn a ha
  have kB := walletFault_fn b hb
  have n1 := ha.n1
  have n2 := hb.n1
  have kO := cmpOr_fn [walE a, walE b] (by simp)
  have kE := equalStrs_fn a.sites b.sites (by omega) (by omega)
  refine PFn.mk (Spec.body Tryz.func66 rfl rfl (Tryz.ntmps66) rfl fun w0 own0 M => ?_)
  unfold pairE
  by_cases h1 : orI [walE a, walE b] ≠ 0
  · rw [if_pos h1]
    generalize hX : walE a = x at *
    generalize hY : walE b = y at *
    generalize orI [x, y] = o at *
    repeat' (first | refine goH ?_ | refine goV ?_ | refine goB (fun b => ?_) | refine goI ?_ | (refine Cw.k_cond ?_; first | (refine Cw.cond_dec rfl (fun hc => ?_) (fun hc => ?_) <;> try (exfalso; omega)) | refine Cw.cond_bool rfl (fun hc => ?_) (fun hc => ?_)) | (refine Ops.k_calla ?_; first | (refine Ops.k_callf 6 ?_; refine Ops.callV kA (Evs.cons rfl Evs.nil) rfl ?_) | (refine Ops.k_callf 6 ?_; refine Ops.callV kB (Evs.cons rfl Evs.nil) rfl ?_) | (refine Ops.k_callf 80 ?_; refine Ops.callV kO (Evs.cons rfl Evs.nil) rfl ?_)) | (apply OpW.k_call; first | (apply OpW.k_callf 6; exact OpW.callV kA (Evs.cons rfl Evs.nil)) | (apply OpW.k_callf 6; exact OpW.callV kB (Evs.cons rfl Evs.nil)) | (apply OpW.k_callf 80; exact OpW.callV kO (Evs.cons rfl Evs.nil))) | refine goR ?_ | refine goP ?_ | apply PSeq.cons | apply PSeq.yes rfl rfl rfl | exact goW | fail)
    exact Fin.ret (Ent.take goTk) (Outs.one rfl rfl) ⟨rfl, rfl⟩
  · rw [if_neg h1]
    have h0 : orI [walE a, walE b] = 0 := by omega
    rw [h0] at kO
    generalize hX : walE a = x at *
    generalize hY : walE b = y at *
    by_cases h2 : decide (a.sites = b.sites) = true
    · rw [if_pos h2]
      rw [h2] at kE
      repeat' (first | refine goH ?_ | refine goV ?_ | refine goB (fun b => ?_) | refine goI ?_ | (refine Cw.k_cond ?_; first | (refine Cw.cond_dec rfl (fun hc => ?_) (fun hc => ?_) <;> try (exfalso; omega)) | refine Cw.cond_bool rfl (fun hc => ?_) (fun hc => ?_)) | (refine Ops.k_calla ?_; first | (refine Ops.k_callf 6 ?_; refine Ops.callV kA (Evs.cons rfl Evs.nil) rfl ?_) | (refine Ops.k_callf 6 ?_; refine Ops.callV kB (Evs.cons rfl Evs.nil) rfl ?_) | (refine Ops.k_callf 80 ?_; refine Ops.callV kO (Evs.cons rfl Evs.nil) rfl ?_) | (refine Ops.k_callf 40 ?_; refine Ops.callV kE (Evs.cons rfl (Evs.cons rfl Evs.nil)) rfl ?_)) | (apply OpW.k_call; first | (apply OpW.k_callf 6; exact OpW.callV kA (Evs.cons rfl Evs.nil)) | (apply OpW.k_callf 6; exact OpW.callV kB (Evs.cons rfl Evs.nil)) | (apply OpW.k_callf 80; exact OpW.callV kO (Evs.cons rfl Evs.nil)) | (apply OpW.k_callf 40; exact OpW.callV kE (Evs.cons rfl (Evs.cons rfl Evs.nil)))) | refine goR ?_ | refine goP ?_ | apply PSeq.cons | apply PSeq.yes rfl rfl rfl | exact goW | fail)
      exact Fin.ret (Ent.take goTk) (Outs.one rfl rfl) ⟨rfl, rfl⟩
    · rw [if_neg h2]
      have h3 : decide (a.sites = b.sites) = false := by simpa using h2
      rw [h3] at kE
      repeat' (first | refine goH ?_ | refine goV ?_ | refine goB (fun b => ?_) | refine goI ?_ | (refine Cw.k_cond ?_; first | (refine Cw.cond_dec rfl (fun hc => ?_) (fun hc => ?_) <;> try (exfalso; omega)) | refine Cw.cond_bool rfl (fun hc => ?_) (fun hc => ?_)) | (refine Ops.k_calla ?_; first | (refine Ops.k_callf 6 ?_; refine Ops.callV kA (Evs.cons rfl Evs.nil) rfl ?_) | (refine Ops.k_callf 6 ?_; refine Ops.callV kB (Evs.cons rfl Evs.nil) rfl ?_) | (refine Ops.k_callf 80 ?_; refine Ops.callV kO (Evs.cons rfl Evs.nil) rfl ?_) | (refine Ops.k_callf 40 ?_; refine Ops.callV kE (Evs.cons rfl (Evs.cons rfl Evs.nil)) rfl ?_)) | (apply OpW.k_call; first | (apply OpW.k_callf 6; exact OpW.callV kA (Evs.cons rfl Evs.nil)) | (apply OpW.k_callf 6; exact OpW.callV kB (Evs.cons rfl Evs.nil)) | (apply OpW.k_callf 80; exact OpW.callV kO (Evs.cons rfl Evs.nil)) | (apply OpW.k_callf 40; exact OpW.callV kE (Evs.cons rfl (Evs.cons rfl Evs.nil)))) | refine goR ?_ | refine goP ?_ | apply PSeq.cons | apply PSeq.yes rfl rfl rfl | exact goW | fail)
      exact Fin.ret (Ent.take goTk) (Outs.one rfl rfl) ⟨rfl, rfl⟩
theorem equalFunc_same (L : List (List Int)) (hL : L.length ≤ 100000) (hl : ∀ l ∈ L, l.length ≤ 1000000) : PFn Tryz.prog 42 [.sl 1 (intsR L), .sl 1 (intsR L), Tr.raw (.func (.func 41) #[] #[])] (· = .bool true) := by
  refine PFn.mk (Spec.body Tryz.func42 rfl rfl (Tryz.ntmps42) rfl fun w0 own0 M => ?_)
  have hR := intsR_len L
  repeat' (first | refine goH ?_ | refine goV ?_ | refine goI ?_ | (refine Cw.k_cond ?_; first | (refine Cw.cond_dec rfl (fun hc => ?_) (fun hc => ?_) <;> try (exfalso; omega)) | refine Cw.cond_bool rfl (fun hc => ?_) (fun hc => ?_)) | fail)
  refine Cw.loopI [(1, _), (2, _), (15, _), (16, _)] _ (fun q e cc => ∃ (k : Nat), q = L.length - k ∧ (k ≤ L.length) ∧ e = [(17, .int k)] ∧ cc = []) ⟨_, _, _, (Ent.mkP goSub goPm), 0, rfl, by omega, rfl, rfl⟩ ?_
  rintro _ _ _ ⟨k, rfl, hk, rfl, rfl⟩
  by_cases hkl : k < L.length
  · obtain ⟨l, hx⟩ := at_lt hkl
    have hr1 := intsR_at hx
    have hlb := hl l (List.mem_of_getElem? hx)
    have kE := (equalInts_same l (by omega)).lend
    repeat' (first | refine goH ?_ | refine goV ?_ | refine goI ?_ | (refine Cw.k_cond ?_; first | (refine Cw.cond_dec rfl (fun hc => ?_) (fun hc => ?_) <;> try (exfalso; omega)) | refine Cw.cond_bool rfl (fun hc => ?_) (fun hc => ?_)) | (refine Ops.k_calla ?_; first | refine Ops.callS_fn (caps := []) (args := [.ints l, .ints l]) rfl kE (Evs.cons rfl (Evs.cons rfl Evs.nil)) (List.Perm.refl _) rfl ?_) | fail)
    exact ⟨_, _, _, (Ent.mk goSub goTk), ⟨k + 1, rfl, by omega, rfl, rfl⟩, by omega⟩
  · repeat' (first | refine goH ?_ | refine goV ?_ | refine goI ?_ | (refine Cw.k_cond ?_; first | (refine Cw.cond_dec rfl (fun hc => ?_) (fun hc => ?_) <;> try (exfalso; omega)) | refine Cw.cond_bool rfl (fun hc => ?_) (fun hc => ?_)) | fail)
    exact Fin.ret (Ent.take goTk) (Outs.one rfl rfl) ⟨rfl, rfl⟩
theorem sameWallet_fn (w : Wal) (h : WBd w) : PFn Tryz.prog 12 [.wal w, .wal w] (· = .bool true) := by
  have n1 := h.n1
  have n2 := h.r
  have n3 := h.u
  have k1 := equalStrs_same w.sites (by omega)
  have k2 := equalInts_same w.used (by omega)
  have k3 := equalFunc_same w.rights (by omega) (fun l hl => by have := h.rr l hl; omega)
  refine PFn.mk (Spec.body Tryz.func12 rfl rfl (Tryz.ntmps12) rfl fun w0 own0 M => ?_)
  repeat' (first | refine goH ?_ | refine goV ?_ | refine goB (fun b => ?_) | refine goG ?_ | (refine Ops.k_guard ?_; first | (refine Ops.guard_dec rfl rfl (fun hc => ?_) (fun hc => ?_) <;> try (exfalso; omega)) | refine Ops.guard_split rfl rfl (fun hc => ?_) (fun hc => ?_)) | refine goI ?_ | (refine Cw.k_cond ?_; first | (refine Cw.cond_dec rfl (fun hc => ?_) (fun hc => ?_) <;> try (exfalso; omega)) | refine Cw.cond_bool rfl (fun hc => ?_) (fun hc => ?_)) | (refine Ops.k_calla ?_; first | (refine Ops.k_callf 40 ?_; refine Ops.callV k1 (Evs.cons rfl (Evs.cons rfl Evs.nil)) rfl ?_) | (refine Ops.k_callf 41 ?_; refine Ops.callV k2 (Evs.cons rfl (Evs.cons rfl Evs.nil)) rfl ?_) | (refine Ops.k_callf 42 ?_; refine Ops.callV k3 (Evs.cons rfl (Evs.cons rfl (Evs.cons rfl Evs.nil))) rfl ?_)) | fail)
  exact Fin.ret (Ent.take goTk) (Outs.one rfl rfl) ⟨rfl, rfl⟩
end Lg
end
