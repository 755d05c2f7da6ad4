/- A part of the proof of a law of this seat: it adds no condition. By an AI agent. -/
import Derived.Test.YtnhnmjgjmlmahaaDem6
import Derived.Test.YtnhnmjgjmlmahaaDem9
import Derived.Test.YtnhnmjgjmlmahaaTk5
import Derived.Test.YtnhnmjgjmlmahaaTk6
import Derived.Test.YtnhnmjgjmlmahaaLaw
set_option linter.all false
set_option maxRecDepth 100000
set_option maxHeartbeats 8000000
namespace Lg
open Go Go.Proofs

def len3 (st : St3) : Nat × Nat := (st.1.length, st.2.2.length)
theorem stepJ_len (f : Int) (i j : Nat) (st : St3) (sh : Int) : len3 (stepJ f i st j sh) = len3 st := by unfold stepJ len3; simp
theorem rowF_len (f : Int) (i : Nat) : ∀ (l : List Int) (st : St3) (j : Nat), len3 (rowF f i st j l) = len3 st
  | [], st, j => rfl
  | sh :: l, st, j => by unfold rowF; rw [rowF_len f i l, stepJ_len]
theorem tabF_len : ∀ (L : List (List Int)) (st : St3) (i : Nat), len3 (tabF st i L) = len3 st
  | [], st, i => rfl
  | l :: L, st, i => by unfold tabF; rw [tabF_len L, rowF_len]
theorem insF_len {L : List (List Int)} {w s : List Int} (hw : w.length ≤ 1000) : (insF L w s).1.length ≤ 1000 ∧ (insF L w s).2.2.length ≤ 1000 := by
  have h := tabF_len L (z1 w s, z2 w s, z3 w s) 0
  have e1 : (z1 w s).length ≤ w.length := by unfold z1; rw [List.length_zipWith]; omega
  have e3 : (z3 w s).length ≤ w.length := by unfold z3; rw [List.length_zipWith]; omega
  unfold insF
  unfold len3 at h
  have h1 := congrArg Prod.fst h
  have h2 := congrArg Prod.snd h
  simp only at h1 h2
  omega

theorem takenInstead_law (xs : List Int) : Spec Try.prog 6 [Tr.ints xs] [] (fun r _ => r = Tr.bool true) := by
  refine Spec.body Try.func6 rfl rfl (Try.ntmps6) rfl fun w0 own0 M => ?_
  repeat' (first | refine goH ?_ | refine goV ?_ | refine goB (fun b => ?_) | refine goG ?_ | (refine Ops.k_guard ?_; first | (refine Ops.guard_dec rfl rfl (fun hc => ?_) (fun hc => ?_) <;> try (exfalso; omega)) | refine Ops.guard_split rfl rfl (fun hc => ?_) (fun hc => ?_)) | refine goI ?_ | (refine Cw.k_cond ?_; first | (refine Cw.cond_dec rfl (fun hc => ?_) (fun hc => ?_) <;> try (exfalso; omega)) | refine Cw.cond_bool rfl (fun hc => ?_) (fun hc => ?_)) | refine Ops.shut0 (ty := 25) rfl ?_ | (refine Ops.k_calla ?_; first | (refine Ops.k_callf 43 ?_; (refine Ops.callG table_gen (Evs.cons rfl Evs.nil) (by first | exact pick0 | exact pickS pick0 | exact pickS (pickS pick0) | exact pickS (pickS (pickS pick0)) | exact pickS (pickS (pickS (pickS pick0)))) (by omega) rfl ?_; rintro x ⟨ts, rfl, hts, hopn⟩))) | fail)
  refine Cw.open_box (by first | exact pick0 | exact pickS pick0 | exact pickS (pickS pick0) | exact pickS (pickS (pickS pick0)) | exact pickS (pickS (pickS (pickS pick0)))) (rdc_one_rowsT hopn) ?_
  rintro L ⟨hLl, hLm⟩
  have hB : LBd L := ⟨by omega, hLm⟩
  rw [show rowsI L = intsR L from rfl]
  have hR := intsR_len L
  rename_i bs
  refine Cw.region_X (fun ξ S => [Chunk.box b 68 [.sl 1 (intsR L)], Chunk.strm 25 bs (intRows xs) (40 + 60 * (b2n (S 4) + b2n (S 9)))]) rfl (by decide +kernel) rfl (fun _ => rfl) ?_
  apply XSeq.w (by intro _ _ _; rfl)
  · intro ξ S h1 h2 h3 h4; exact goW
  apply XSeq.w (by intro _ _ _; rfl)
  · intro ξ S h1 h2 h3 h4; exact goW
  apply XSeq.w (by intro _ _ _; rfl)
  · intro ξ S h1 h2 h3 h4; exact goW
  apply XSeq.w (by intro _ _ _; rfl)
  · intro ξ S h1 h2 h3 h4; exact goW
  apply XSeq.callG (t := Tr.exS (fun g : List Int => g.length ≤ 30) Tr.ints) (numbersM_gen (intsR L).length 20 (by omega) (by omega)) (fun _ => (Evs.cons rfl (Evs.cons rfl (Evs.cons rfl Evs.nil)))) (by rintro x ⟨v, rfl, h⟩; exact Imp.exS h)
  · intro ξ S h1 h3
    have hc := b2n_le (S 4)
    have hc2 := b2n_le (S 9)
    refine ⟨40 + 60 * (b2n (S 4) + b2n (S 9)), [Chunk.box b 68 [.sl 1 (intsR L)]], ?_, List.Perm.swap _ _ _, fun v => ?_⟩
    · omega
    · refine (List.Perm.swap _ _ _).trans (perm_strm ?_)
      show 40 + 60 * (b2n true + b2n (S 9)) = _
      rw [h1]; simp only [b2n]; omega
  apply XSeq.w (by intro _ _ _; rfl)
  · intro ξ S h1 h2 h3 h4; exact goW
  apply XSeq.w (by intro _ _ _; rfl)
  · intro ξ S h1 h2 h3 h4; exact goW
  apply XSeq.w (by intro _ _ _; rfl)
  · intro ξ S h1 h2 h3 h4; exact goW
  apply XSeq.w (by intro _ _ _; rfl)
  · intro ξ S h1 h2 h3 h4; exact goW
  apply XSeq.callG (t := Tr.exS (fun g : List Int => g.length ≤ 30) Tr.ints) (numbersM_gen (intsR L).length 12 (by omega) (by omega)) (fun _ => (Evs.cons rfl (Evs.cons rfl (Evs.cons rfl Evs.nil)))) (by rintro x ⟨v, rfl, h⟩; exact Imp.exS h)
  · intro ξ S h1 h3
    have hc := b2n_le (S 4)
    have hc2 := b2n_le (S 9)
    refine ⟨40 + 60 * (b2n (S 4) + b2n (S 9)), [Chunk.box b 68 [.sl 1 (intsR L)]], ?_, List.Perm.swap _ _ _, fun v => ?_⟩
    · omega
    · refine (List.Perm.swap _ _ _).trans (perm_strm ?_)
      show 40 + 60 * (b2n (S 4) + b2n true) = _
      rw [h1]; simp only [b2n]; omega
  apply XSeq.w (by intro _ _ _; rfl)
  · intro ξ S h1 h2 h3 h4; exact goW
  apply XSeq.w (by intro _ _ _; rfl)
  · intro ξ S h1 h2 h3 h4; exact goW
  refine XSeq.nil fun ξ hf => ?_
  clear hf
  refine ⟨[(3, .ptr bs), (4, .ptr b), (5, Tr.exS (fun g : List Int => g.length ≤ 30) Tr.ints), (6, Tr.exS (fun g : List Int => g.length ≤ 30) Tr.ints)], [Chunk.box b 68 [.sl 1 (intsR L)], Chunk.strm 25 bs (intRows xs) 160], Ent.sub (by repeat' (first | exact Sub.nil | refine Sub.cons rfl ?_)), ?_⟩
  refine Then.norm ?_
  refine Cw.open_slot (i := 5) rfl open_exS fun u hu => ?_
  refine Cw.open_slot (i := 6) rfl open_exS fun v hv => ?_
  have kCT := checkTable_fn L hB
  have kTF := tableFault_fn L hB
  have kI := instead_fn L hB u v (by omega) (by omega)
  have kIF := insteadFault_fn L hB u v (by omega) (by omega)
  have arm : True := trivial
  by_cases h0 : insE L u v = 0
  · have kIO := insteadOf_fn L hB u v h0
    rw [insO_ok h0] at kI
    rw [h0] at kIF
    obtain ⟨m1, m2⟩ := insF_len (L := L) (w := u) (s := v) (by omega)
    generalize (insF L u v).1 = A at *
    generalize (insF L u v).2.2 = C at *
    have q1 := equalInts_same A (by omega)
    have q2 := equalInts_same C (by omega)
    clear h0
    repeat' (first | refine goH ?_ | refine goV ?_ | refine goB (fun b => ?_) | refine goG ?_ | (refine Ops.k_guard ?_; first | (refine Ops.guard_dec rfl rfl (fun hc => ?_) (fun hc => ?_) <;> try (exfalso; omega)) | refine Ops.guard_split rfl rfl (fun hc => ?_) (fun hc => ?_)) | refine goI ?_ | (refine Cw.k_cond ?_; first | (refine Cw.cond_dec rfl (fun hc => ?_) (fun hc => ?_) <;> try (exfalso; omega)) | refine Cw.cond_bool rfl (fun hc => ?_) (fun hc => ?_)) | (refine Ops.k_calla ?_; first | (refine Ops.k_callf 44 ?_; refine Ops.callV kCT (Evs.cons rfl Evs.nil) rfl ?_) | (refine Ops.k_callf 45 ?_; refine Ops.callV kTF (Evs.cons rfl Evs.nil) rfl ?_) | (refine Ops.k_callf 46 ?_; refine Ops.callV kI (Evs.cons rfl (Evs.cons rfl (Evs.cons rfl Evs.nil))) rfl ?_) | (refine Ops.k_callf 47 ?_; refine Ops.callV kIF (Evs.cons rfl (Evs.cons rfl (Evs.cons rfl Evs.nil))) rfl ?_) | (refine Ops.k_callf 48 ?_; refine Ops.callV kIO (Evs.cons rfl (Evs.cons rfl (Evs.cons rfl Evs.nil))) rfl ?_) | (refine Ops.k_callf 18 ?_; refine Ops.callV q1 (Evs.cons rfl (Evs.cons rfl Evs.nil)) rfl ?_) | (refine Ops.k_callf 18 ?_; refine Ops.callV q2 (Evs.cons rfl (Evs.cons rfl Evs.nil)) rfl ?_) | (refine Ops.k_callf 15 ?_; refine Ops.callV demands_fn Evs.nil rfl ?_)) | (apply OpW.k_call; first | (apply OpW.k_callf 44; exact OpW.callV kCT (Evs.cons rfl Evs.nil)) | (apply OpW.k_callf 45; exact OpW.callV kTF (Evs.cons rfl Evs.nil)) | (apply OpW.k_callf 46; exact OpW.callV kI (Evs.cons rfl (Evs.cons rfl (Evs.cons rfl Evs.nil)))) | (apply OpW.k_callf 47; exact OpW.callV kIF (Evs.cons rfl (Evs.cons rfl (Evs.cons rfl Evs.nil)))) | (apply OpW.k_callf 48; exact OpW.callV kIO (Evs.cons rfl (Evs.cons rfl (Evs.cons rfl Evs.nil)))) | (apply OpW.k_callf 18; exact OpW.callV q1 (Evs.cons rfl (Evs.cons rfl Evs.nil))) | (apply OpW.k_callf 18; exact OpW.callV q2 (Evs.cons rfl (Evs.cons rfl Evs.nil))) | (apply OpW.k_callf 15; exact OpW.callV demands_fn Evs.nil)) | refine goR ?_ | refine goP ?_ | apply PSeq.cons | apply PSeq.yes rfl rfl rfl | exact goW | fail)
    all_goals exact Fin.ret Ent.refl (Outs.one rfl rfl) rfl
  · rw [insO_bad rfl h0] at kI
    generalize insE L u v = e at *
    repeat' (first | refine goH ?_ | refine goV ?_ | refine goB (fun b => ?_) | refine goG ?_ | (refine Ops.k_guard ?_; first | (refine Ops.guard_dec rfl rfl (fun hc => ?_) (fun hc => ?_) <;> try (exfalso; omega)) | refine Ops.guard_split rfl rfl (fun hc => ?_) (fun hc => ?_)) | refine goI ?_ | (refine Cw.k_cond ?_; first | (refine Cw.cond_dec rfl (fun hc => ?_) (fun hc => ?_) <;> try (exfalso; omega)) | refine Cw.cond_bool rfl (fun hc => ?_) (fun hc => ?_)) | (refine Ops.k_calla ?_; first | (refine Ops.k_callf 44 ?_; refine Ops.callV kCT (Evs.cons rfl Evs.nil) rfl ?_) | (refine Ops.k_callf 45 ?_; refine Ops.callV kTF (Evs.cons rfl Evs.nil) rfl ?_) | (refine Ops.k_callf 46 ?_; refine Ops.callV kI (Evs.cons rfl (Evs.cons rfl (Evs.cons rfl Evs.nil))) rfl ?_) | (refine Ops.k_callf 47 ?_; refine Ops.callV kIF (Evs.cons rfl (Evs.cons rfl (Evs.cons rfl Evs.nil))) rfl ?_) | (refine Ops.k_callf 15 ?_; refine Ops.callV demands_fn Evs.nil rfl ?_)) | (apply OpW.k_call; first | (apply OpW.k_callf 44; exact OpW.callV kCT (Evs.cons rfl Evs.nil)) | (apply OpW.k_callf 45; exact OpW.callV kTF (Evs.cons rfl Evs.nil)) | (apply OpW.k_callf 46; exact OpW.callV kI (Evs.cons rfl (Evs.cons rfl (Evs.cons rfl Evs.nil)))) | (apply OpW.k_callf 47; exact OpW.callV kIF (Evs.cons rfl (Evs.cons rfl (Evs.cons rfl Evs.nil)))) | (apply OpW.k_callf 15; exact OpW.callV demands_fn Evs.nil)) | refine goR ?_ | refine goP ?_ | apply PSeq.cons | apply PSeq.yes rfl rfl rfl | exact goW | fail)
    all_goals first | exact Fin.ret Ent.refl (Outs.one rfl rfl) rfl | (refine Fin.ret Ent.refl (Outs.one rfl rfl) (congrArg Tr.bool ?_); simp)
end Lg
