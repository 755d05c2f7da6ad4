/- A part of the proof of a law of this seat: it adds no condition. By an AI agent. -/
import Derived.Test.YtgjiiacknhdabaaDoorLgX4
import Derived.Test.YtgjiiacknhdabaaDoorWal4
import Derived.Test.YtgjiiacknhdabaaDoorLgX5
set_option linter.all false
set_option maxRecDepth 100000
set_option maxHeartbeats 8000000
namespace Lg
open Go Go.Proofs

def catX (s2 s5 : Bool) (v2 v5 : Value) (E : TypeId) (rows rows2 : List (List Tr)) : List Chunk := match s5 with
  | true => [Chunk.own (vAd v5) (vCap v5) 1 E rows2]
  | false => match s2 with
    | true => [Chunk.own (vAd v2) (vCap v2) 1 E rows]
    | false => []
theorem any_drop {l : List Int} {k : Nat} {x : Int} (h : l[k]? = some x) : (l.drop k).any bC = (bC x || (l.drop (k + 1)).any bC) := by
  have hk := (List.getElem?_eq_some_iff.1 h)
  obtain ⟨hlt, e⟩ := hk
  rw [List.drop_eq_getElem_cons hlt, List.any_cons, e]
theorem walletFault_fn (w : Wal) (hb : WBd w) : PFn Tryd.prog 20 [.wal w] (· = .int (walE w)) := by
  have hS := strRows_len w.sites
  have hR := intsR_len w.rights
  have hU := intRows_len w.used
  have n1 := hb.n1
  have nr := hb.r
  have nu := hb.u
  have kS := kiosksFault_fn w.sites (by omega)
  have k1 : ∀ (n b : Nat), Spec Tryd.prog 48 [.sl 1 (intsR w.rights), Tr.raw (.func (.func 49) #[] [Value.pointer (some ⟨b, 0, none⟩)].toArray)] [Chunk.box b 3 [.int n]] (fun r cs => r = .bool (w.rights.any (formB n)) ∧ cs = [Chunk.box b 3 [.int n]]) := fun n b => containsFunc_intL (p := formB n) (caps := [.pointer (some ⟨b, 0, none⟩)]) (cin := [Chunk.box b 3 [.int n]]) (l := w.rights) (by omega) (fun x _ => formR_fn n b x)
  refine PFn.mk (Spec.body Tryd.func20 rfl rfl (Tryd.ntmps20) rfl fun w0 own0 M => ?_)
  by_cases h1 : sitE w.sites ≠ 0
  · have e : walE w = sitE w.sites := by unfold walE; rw [if_pos h1]
    rw [e]
    generalize sitE w.sites = c at *
    repeat' (first | refine goH ?_ | refine goV ?_ | refine goB (fun b => ?_) | refine goC (fun ad cap => ?_) | refine goG ?_ | (refine Ops.k_guard ?_; first | (refine Ops.guard_dec rfl rfl (fun hc => ?_) (fun hc => ?_) <;> try (exfalso; omega)) | refine Ops.guard_split rfl rfl (fun hc => ?_) (fun hc => ?_)) | refine goI ?_ | (refine Cw.k_cond ?_; first | (refine Cw.cond_dec rfl (fun hc => ?_) (fun hc => ?_) <;> try (exfalso; omega)) | refine Cw.cond_bool rfl (fun hc => ?_) (fun hc => ?_)) | (refine Ops.k_calla ?_; first | (refine Ops.k_callf 36 ?_; refine Ops.callV kS (Evs.cons rfl Evs.nil) rfl ?_)) | (apply OpW.k_call; first | (apply OpW.k_callf 36; exact OpW.callV kS (Evs.cons rfl Evs.nil))) | refine goR ?_ | refine goP ?_ | apply PSeq.cons | apply PSeq.yes rfl rfl rfl | exact goW | fail)
    exact Fin.ret (Ent.take (by repeat' (first | exact Take.nil | refine Take.cons (by first | exact pick0 | (apply pickS; first | exact pick0 | (apply pickS; first | exact pick0 | (apply pickS; first | exact pick0 | (apply pickS; first | exact pick0 | (apply pickS; first | exact pick0 | (apply pickS; first | exact pick0 | (apply pickS; first | exact pick0 | (apply pickS; first | exact pick0 | (apply pickS; first | exact pick0 | (apply pickS; exact pick0))))))))))) ?_))) (Outs.one rfl rfl) ⟨rfl, rfl⟩
  have h0 : sitE w.sites = 0 := by omega
  rw [h0] at kS
  repeat' (first | refine goH ?_ | refine goV ?_ | refine goB (fun b => ?_) | refine goC (fun ad cap => ?_) | refine goG ?_ | (refine Ops.k_guard ?_; first | (refine Ops.guard_dec rfl rfl (fun hc => ?_) (fun hc => ?_) <;> try (exfalso; omega)) | refine Ops.guard_split rfl rfl (fun hc => ?_) (fun hc => ?_)) | refine goI ?_ | (refine Cw.k_cond ?_; first | (refine Cw.cond_dec rfl (fun hc => ?_) (fun hc => ?_) <;> try (exfalso; omega)) | refine Cw.cond_bool rfl (fun hc => ?_) (fun hc => ?_)) | (refine Ops.k_calla ?_; first | (refine Ops.k_callf 36 ?_; refine Ops.callV kS (Evs.cons rfl Evs.nil) rfl ?_) | (refine Ops.k_callf 48 ?_; (refine Ops.call (k1 _ _) (Evs.cons rfl (Evs.cons rfl Evs.nil)) (by repeat' (first | exact List.Perm.refl _ | refine Perm.cons' (by first | exact pick0 | (apply pickS; first | exact pick0 | (apply pickS; first | exact pick0 | (apply pickS; first | exact pick0 | (apply pickS; first | exact pick0 | (apply pickS; first | exact pick0 | (apply pickS; first | exact pick0 | (apply pickS; first | exact pick0 | (apply pickS; first | exact pick0 | (apply pickS; first | exact pick0 | (apply pickS; exact pick0))))))))))) ?_)) rfl ?_; rintro r cs' ⟨rfl, rfl⟩))) | (apply OpW.k_call; first | (apply OpW.k_callf 36; exact OpW.callV kS (Evs.cons rfl Evs.nil))) | fail)
  · exact Fin.ret (Ent.take (by repeat' (first | exact Take.nil | refine Take.cons (by first | exact pick0 | (apply pickS; first | exact pick0 | (apply pickS; first | exact pick0 | (apply pickS; first | exact pick0 | (apply pickS; first | exact pick0 | (apply pickS; first | exact pick0 | (apply pickS; first | exact pick0 | (apply pickS; first | exact pick0 | (apply pickS; first | exact pick0 | (apply pickS; first | exact pick0 | (apply pickS; exact pick0))))))))))) ?_))) (Outs.one rfl rfl) ⟨rfl, congrArg Tr.int (walE_3 h0 (by unfold badForm; simp; omega)).symm⟩
  · exact Fin.ret (Ent.take (by repeat' (first | exact Take.nil | refine Take.cons (by first | exact pick0 | (apply pickS; first | exact pick0 | (apply pickS; first | exact pick0 | (apply pickS; first | exact pick0 | (apply pickS; first | exact pick0 | (apply pickS; first | exact pick0 | (apply pickS; first | exact pick0 | (apply pickS; first | exact pick0 | (apply pickS; first | exact pick0 | (apply pickS; first | exact pick0 | (apply pickS; exact pick0))))))))))) ?_))) (Outs.one rfl rfl) ⟨rfl, congrArg Tr.int (walE_3 h0 (by unfold badForm; simp; omega)).symm⟩
  · rename_i hc1 hc2
    rw [hS] at hc
    exact Fin.ret (Ent.take (by repeat' (first | exact Take.nil | refine Take.cons (by first | exact pick0 | (apply pickS; first | exact pick0 | (apply pickS; first | exact pick0 | (apply pickS; first | exact pick0 | (apply pickS; first | exact pick0 | (apply pickS; first | exact pick0 | (apply pickS; first | exact pick0 | (apply pickS; first | exact pick0 | (apply pickS; first | exact pick0 | (apply pickS; first | exact pick0 | (apply pickS; exact pick0))))))))))) ?_))) (Outs.one rfl rfl) ⟨rfl, congrArg Tr.int (walE_3 h0 (by unfold badForm; rw [hc]; simp)).symm⟩
  rename_i b1 hc1 hc2
  rw [hS] at hc
  have hbf : badForm w = false := by unfold badForm; rw [Bool.or_eq_false_iff, Bool.or_eq_false_iff]; exact ⟨by simp; omega, by simp; omega, by simpa using hc⟩
  have q1 : w.rights.flatten.length ≤ 10000 := flat_bd (n := 100) (m := 100) hb.rr (by omega)
  have hfl := intRows_len w.rights.flatten
  have k2 := concat_fn w.rights (by omega) (by omega)
  have hW3 := walE_1 h0 hbf
  have hW4 := walE_0 h0 hbf
  have hwo := wok_of h0 hbf
  clear k1 kS
  have key : intRows w.rights.flatten ++ intRows w.used = intRows (w.rights.flatten ++ w.used) := by rw [intRows_app]
  have hAl : (w.rights.flatten ++ w.used).length ≤ 20000 := by rw [List.length_append]; omega
  have hAr := intRows_len (w.rights.flatten ++ w.used)
  refine Cw.region_X (fun ξ S => Chunk.box b 3 [.int (strRows w.sites).length] :: Chunk.box b1 31 [.strs w.sites, .sl 1 (intsR w.rights), .ints w.used] :: catX (S 2) (S 5) (ξ 2) (ξ 5) 3 (intRows w.rights.flatten) (intRows w.rights.flatten ++ intRows w.used)) rfl (by decide +kernel) rfl (fun _ => rfl) ?_
  apply XSeq.w (by intro _ _ _; rfl)
  · intro ξ S h1 h2 h3 h4; exact goW
  apply XSeq.w (by intro _ _ _; rfl)
  · intro ξ S h1 h2 h3 h4; exact goW
  apply XSeq.callO k2 (fun _ => (Evs.cons rfl Evs.nil))
  · intro ξ S h1 h3 ad cap
    have e5 := closed_false h1 h3 (k := 5) rfl (by decide)
    show (_ :: _ :: catX true (S 5) (.slice ad _ cap) (ξ 5) 3 _ _).Perm (_ :: _ :: _ :: catX (S 2) (S 5) (ξ 2) (ξ 5) 3 _ _)
    rw [h1, e5]
    exact (pickS (pickS pick0))
  apply XSeq.w (by intro _ _ _; rfl)
  · intro ξ S h1 h2 h3 h4; exact goW
  apply XSeq.w (by intro _ _ _; rfl)
  · intro ξ S h1 h2 h3 h4; exact goW
  apply XSeq.append (w.rights.flatten ++ w.used).length
  · intro ξ S h1 h2 h3 h4
    have e := h2 2 (by decide)
    obtain ⟨ad, cap, hb2⟩ : ∃ ad cap, ξ 2 = .slice ad (intRows w.rights.flatten).length cap := h4 2 e
    obtain ⟨ξ, rfl⟩ := exists_upd hb2
    refine ⟨ad, (intRows w.rights.flatten).length, cap, intRows w.rights.flatten, intRows w.used, [Chunk.box b 3 [.int (strRows w.sites).length], Chunk.box b1 31 [.strs w.sites, .sl 1 (intsR w.rights), .ints w.used]], rfl, rfl, ?_, rfl, ?_, ?_, ?_, ?_⟩
    · show (_ :: _ :: catX (S 2) (S 5) (.slice ad _ cap) (ξ 5) 3 _ _).Perm _
      rw [h1, e]
      exact (pickS (pickS pick0))
    · rw [List.length_append]; omega
    · omega
    · omega
    · intro ad' cap'
      exact (pickS (pickS pick0))
  apply XSeq.w (t := Tr.int (w.rights.flatten ++ w.used).length) (by intro _ _ _; rfl)
  · intro ξ S h1 h2 h3 h4
    have e := h2 5 (by decide)
    obtain ⟨ad, cap, hb2⟩ : ∃ ad cap, ξ 5 = .slice ad (w.rights.flatten ++ w.used).length cap := h4 5 e
    obtain ⟨ξ, rfl⟩ := exists_upd hb2
    exact goW
  apply XSeq.w (by intro _ _ _; rfl)
  · intro ξ S h1 h2 h3 h4; exact goW
  refine XSeq.nil fun ξ hf => ?_
  obtain ⟨ad, cap, hb2⟩ : ∃ ad cap, ξ 5 = .slice ad (w.rights.flatten ++ w.used).length cap := hf 5
  obtain ⟨ξ, rfl⟩ := exists_upd hb2
  clear hf
  rw [key]
  refine ⟨[(1, .ptr b1), (40, Tr.raw (.slice ad (w.rights.flatten ++ w.used).length cap)), (41, .int (w.rights.flatten ++ w.used).length), (42, .int 0)], [Chunk.box b 3 [.int (strRows w.sites).length], Chunk.box b1 31 [.strs w.sites, .sl 1 (intsR w.rights), .ints w.used], Chunk.own ad cap 1 3 (intRows (w.rights.flatten ++ w.used))], Ent.sub (by repeat' (first | exact Sub.nil | refine Sub.cons rfl ?_)), ?_⟩
  refine Then.norm ?_
  generalize hA : w.rights.flatten ++ w.used = A at *
  clear key k2 hfl q1 hb2
  have hV0 : A.any bC = (A.drop 0).any bC := rfl
  repeat' (first | refine goH ?_ | refine goV ?_ | refine goB (fun b => ?_) | refine goC (fun ad cap => ?_) | refine goG ?_ | (refine Ops.k_guard ?_; first | (refine Ops.guard_dec rfl rfl (fun hc => ?_) (fun hc => ?_) <;> try (exfalso; omega)) | refine Ops.guard_split rfl rfl (fun hc => ?_) (fun hc => ?_)) | refine goI ?_ | (refine Cw.k_cond ?_; first | (refine Cw.cond_dec rfl (fun hc => ?_) (fun hc => ?_) <;> try (exfalso; omega)) | refine Cw.cond_bool rfl (fun hc => ?_) (fun hc => ?_)) | refine goR ?_ | refine goP ?_ | apply PSeq.cons | apply PSeq.yes rfl rfl rfl | exact goW | fail)
  refine Cw.loopI [(1, _), (40, _), (41, _)] _ (fun q e cc => ∃ (k : Nat), q = A.length - k ∧ (k ≤ A.length ∧ A.any bC = (A.drop k).any bC) ∧ e = [(42, .int k)] ∧ cc = []) ⟨_, _, _, (Ent.mkP (by repeat' (first | exact Sub.nil | refine Sub.cons rfl ?_)) (by repeat' (first | exact List.Perm.refl _ | refine Perm.cons' (by first | exact pick0 | (apply pickS; first | exact pick0 | (apply pickS; first | exact pick0 | (apply pickS; first | exact pick0 | (apply pickS; first | exact pick0 | (apply pickS; first | exact pick0 | (apply pickS; first | exact pick0 | (apply pickS; first | exact pick0 | (apply pickS; first | exact pick0 | (apply pickS; first | exact pick0 | (apply pickS; exact pick0))))))))))) ?_))), 0, rfl, ⟨by omega, hV0⟩, rfl, rfl⟩ ?_
  clear hV0
  rintro _ _ _ ⟨k, rfl, ⟨hk, hV⟩, rfl, rfl⟩
  by_cases hkl : k < A.length
  · obtain ⟨x, hx⟩ := at_lt hkl
    have hrow := intRows_at hx
    have hd := any_drop hx
    rw [hd] at hV
    by_cases g : bC x = true
    · rw [g, Bool.true_or] at hV
      have e := hW3 hV
      have g' : x < 0 ∨ 1000000000 < x := by simpa [bC] using g
      clear hW3 hW4 hwo hd hV
      repeat' (first | refine goH ?_ | refine goV ?_ | refine goB (fun b => ?_) | refine goC (fun ad cap => ?_) | refine goG ?_ | (refine Ops.k_guard ?_; first | (refine Ops.guard_dec rfl rfl (fun hc => ?_) (fun hc => ?_) <;> try (exfalso; omega)) | refine Ops.guard_split rfl rfl (fun hc => ?_) (fun hc => ?_)) | refine goI ?_ | (refine Cw.k_cond ?_; first | (refine Cw.cond_dec rfl (fun hc => ?_) (fun hc => ?_) <;> try (exfalso; omega)) | refine Cw.cond_bool rfl (fun hc => ?_) (fun hc => ?_)) | refine goR ?_ | refine goP ?_ | apply PSeq.cons | apply PSeq.yes rfl rfl rfl | exact goW | fail)
      all_goals exact Fin.ret (Ent.take (by repeat' (first | exact Take.nil | refine Take.cons (by first | exact pick0 | (apply pickS; first | exact pick0 | (apply pickS; first | exact pick0 | (apply pickS; first | exact pick0 | (apply pickS; first | exact pick0 | (apply pickS; first | exact pick0 | (apply pickS; first | exact pick0 | (apply pickS; first | exact pick0 | (apply pickS; first | exact pick0 | (apply pickS; first | exact pick0 | (apply pickS; exact pick0))))))))))) ?_))) (Outs.one rfl rfl) ⟨rfl, congrArg Tr.int e.symm⟩
    · have g0 : bC x = false := by simpa using g
      rw [g0, Bool.false_or] at hV
      have g' : ¬ x < 0 ∧ ¬ x > 1000000000 := by simp [bC] at g0; omega
      obtain ⟨g1, g2⟩ := g'
      clear hW3 hW4 hwo hd
      repeat' (first | refine goH ?_ | refine goV ?_ | refine goB (fun b => ?_) | refine goC (fun ad cap => ?_) | refine goG ?_ | (refine Ops.k_guard ?_; first | (refine Ops.guard_dec rfl rfl (fun hc => ?_) (fun hc => ?_) <;> try (exfalso; omega)) | refine Ops.guard_split rfl rfl (fun hc => ?_) (fun hc => ?_)) | refine goI ?_ | (refine Cw.k_cond ?_; first | (refine Cw.cond_dec rfl (fun hc => ?_) (fun hc => ?_) <;> try (exfalso; omega)) | refine Cw.cond_bool rfl (fun hc => ?_) (fun hc => ?_)) | refine goR ?_ | refine goP ?_ | apply PSeq.cons | apply PSeq.yes rfl rfl rfl | exact goW | fail)
      exact ⟨_, _, _, (Ent.mk (by repeat' (first | exact Sub.nil | refine Sub.cons rfl ?_)) (by repeat' (first | exact Take.nil | refine Take.cons (by first | exact pick0 | (apply pickS; first | exact pick0 | (apply pickS; first | exact pick0 | (apply pickS; first | exact pick0 | (apply pickS; first | exact pick0 | (apply pickS; first | exact pick0 | (apply pickS; first | exact pick0 | (apply pickS; first | exact pick0 | (apply pickS; first | exact pick0 | (apply pickS; first | exact pick0 | (apply pickS; exact pick0))))))))))) ?_))), ⟨k + 1, rfl, ⟨by omega, hV⟩, rfl, rfl⟩, by omega⟩
  rw [List.drop_of_length_le (by omega), List.any_nil] at hV
  have hV0 := hW4 hV
  have hw := hwo hV
  clear hW3 hW4 hwo hV
  repeat' (first | refine goH ?_ | refine goV ?_ | refine goB (fun b => ?_) | refine goC (fun ad cap => ?_) | refine goG ?_ | (refine Ops.k_guard ?_; first | (refine Ops.guard_dec rfl rfl (fun hc => ?_) (fun hc => ?_) <;> try (exfalso; omega)) | refine Ops.guard_split rfl rfl (fun hc => ?_) (fun hc => ?_)) | refine goI ?_ | (refine Cw.k_cond ?_; first | (refine Cw.cond_dec rfl (fun hc => ?_) (fun hc => ?_) <;> try (exfalso; omega)) | refine Cw.cond_bool rfl (fun hc => ?_) (fun hc => ?_)) | refine goR ?_ | refine goP ?_ | apply PSeq.cons | apply PSeq.yes rfl rfl rfl | exact goW | fail)
  refine Cw.loopI [(1, _), (55, _)] _ (fun q e cc => ∃ (k : Nat), q = w.sites.length - k ∧ (k ≤ w.sites.length ∧ walE w = firstE (rgtE w) k (w.sites.length - k)) ∧ e = [(56, .int k)] ∧ cc = []) ⟨_, _, _, (Ent.mkP (by repeat' (first | exact Sub.nil | refine Sub.cons rfl ?_)) (by repeat' (first | exact List.Perm.refl _ | refine Perm.cons' (by first | exact pick0 | (apply pickS; first | exact pick0 | (apply pickS; first | exact pick0 | (apply pickS; first | exact pick0 | (apply pickS; first | exact pick0 | (apply pickS; first | exact pick0 | (apply pickS; first | exact pick0 | (apply pickS; first | exact pick0 | (apply pickS; first | exact pick0 | (apply pickS; first | exact pick0 | (apply pickS; exact pick0))))))))))) ?_))), 0, rfl, ⟨by omega, hV0⟩, rfl, rfl⟩ ?_
  clear hV0
  rintro _ _ _ ⟨k, rfl, ⟨hk, hV⟩, rfl, rfl⟩
  by_cases hkl : k < w.sites.length
  rotate_left
  · repeat' (first | refine goH ?_ | refine goV ?_ | refine goB (fun b => ?_) | refine goC (fun ad cap => ?_) | refine goG ?_ | (refine Ops.k_guard ?_; first | (refine Ops.guard_dec rfl rfl (fun hc => ?_) (fun hc => ?_) <;> try (exfalso; omega)) | refine Ops.guard_split rfl rfl (fun hc => ?_) (fun hc => ?_)) | refine goI ?_ | (refine Cw.k_cond ?_; first | (refine Cw.cond_dec rfl (fun hc => ?_) (fun hc => ?_) <;> try (exfalso; omega)) | refine Cw.cond_bool rfl (fun hc => ?_) (fun hc => ?_)) | refine goR ?_ | refine goP ?_ | apply PSeq.cons | apply PSeq.yes rfl rfl rfl | exact goW | fail)
    refine Fin.ret (Ent.take (by repeat' (first | exact Take.nil | refine Take.cons (by first | exact pick0 | (apply pickS; first | exact pick0 | (apply pickS; first | exact pick0 | (apply pickS; first | exact pick0 | (apply pickS; first | exact pick0 | (apply pickS; first | exact pick0 | (apply pickS; first | exact pick0 | (apply pickS; first | exact pick0 | (apply pickS; first | exact pick0 | (apply pickS; first | exact pick0 | (apply pickS; exact pick0))))))))))) ?_))) (Outs.one rfl rfl) ⟨rfl, congrArg Tr.int ?_⟩
    rw [hV, firstE_end hkl]
  have kR := rightsR_fn w hw k hkl
  have fin : ∀ c, rgtE w k = c → c ≠ 0 → walE w = c := fun c h1 h2 => hV.trans (firstE_bad hkl h1 h2)
  have nxt : rgtE w k = 0 → walE w = firstE (rgtE w) (k + 1) (w.sites.length - (k + 1)) := fun h1 => hV.trans (firstE_ok hkl h1)
  have hE : rgtE w k = if rgt w k < 0 then 16 else 0 := rfl
  clear hV
  by_cases g : rgt w k < 0
  · rw [if_pos g] at hE
    have hF := fin 16 hE (by decide)
    clear fin nxt
    repeat' (first | refine goH ?_ | refine goV ?_ | refine goB (fun b => ?_) | refine goC (fun ad cap => ?_) | refine goG ?_ | (refine Ops.k_guard ?_; first | (refine Ops.guard_dec rfl rfl (fun hc => ?_) (fun hc => ?_) <;> try (exfalso; omega)) | refine Ops.guard_split rfl rfl (fun hc => ?_) (fun hc => ?_)) | refine goI ?_ | (refine Cw.k_cond ?_; first | (refine Cw.cond_dec rfl (fun hc => ?_) (fun hc => ?_) <;> try (exfalso; omega)) | refine Cw.cond_bool rfl (fun hc => ?_) (fun hc => ?_)) | (refine Ops.k_calla ?_; first | (refine Ops.k_callf 50 ?_; refine Ops.callV kR (Evs.cons rfl (Evs.cons rfl Evs.nil)) rfl ?_)) | (apply OpW.k_call; first | (apply OpW.k_callf 50; exact OpW.callV kR (Evs.cons rfl (Evs.cons rfl Evs.nil)))) | refine goR ?_ | refine goP ?_ | apply PSeq.cons | apply PSeq.yes rfl rfl rfl | exact goW | fail)
    exact Fin.ret (Ent.take (by repeat' (first | exact Take.nil | refine Take.cons (by first | exact pick0 | (apply pickS; first | exact pick0 | (apply pickS; first | exact pick0 | (apply pickS; first | exact pick0 | (apply pickS; first | exact pick0 | (apply pickS; first | exact pick0 | (apply pickS; first | exact pick0 | (apply pickS; first | exact pick0 | (apply pickS; first | exact pick0 | (apply pickS; first | exact pick0 | (apply pickS; exact pick0))))))))))) ?_))) (Outs.one rfl rfl) ⟨rfl, congrArg Tr.int hF.symm⟩
  · rw [if_neg g] at hE
    have hN := nxt hE
    clear fin nxt
    repeat' (first | refine goH ?_ | refine goV ?_ | refine goB (fun b => ?_) | refine goC (fun ad cap => ?_) | refine goG ?_ | (refine Ops.k_guard ?_; first | (refine Ops.guard_dec rfl rfl (fun hc => ?_) (fun hc => ?_) <;> try (exfalso; omega)) | refine Ops.guard_split rfl rfl (fun hc => ?_) (fun hc => ?_)) | refine goI ?_ | (refine Cw.k_cond ?_; first | (refine Cw.cond_dec rfl (fun hc => ?_) (fun hc => ?_) <;> try (exfalso; omega)) | refine Cw.cond_bool rfl (fun hc => ?_) (fun hc => ?_)) | (refine Ops.k_calla ?_; first | (refine Ops.k_callf 50 ?_; refine Ops.callV kR (Evs.cons rfl (Evs.cons rfl Evs.nil)) rfl ?_)) | (apply OpW.k_call; first | (apply OpW.k_callf 50; exact OpW.callV kR (Evs.cons rfl (Evs.cons rfl Evs.nil)))) | refine goR ?_ | refine goP ?_ | apply PSeq.cons | apply PSeq.yes rfl rfl rfl | exact goW | fail)
    exact ⟨_, _, _, (Ent.mk (by repeat' (first | exact Sub.nil | refine Sub.cons rfl ?_)) (by repeat' (first | exact Take.nil | refine Take.cons (by first | exact pick0 | (apply pickS; first | exact pick0 | (apply pickS; first | exact pick0 | (apply pickS; first | exact pick0 | (apply pickS; first | exact pick0 | (apply pickS; first | exact pick0 | (apply pickS; first | exact pick0 | (apply pickS; first | exact pick0 | (apply pickS; first | exact pick0 | (apply pickS; first | exact pick0 | (apply pickS; exact pick0))))))))))) ?_))), ⟨k + 1, rfl, ⟨by omega, hN⟩, rfl, rfl⟩, by omega⟩
end Lg
