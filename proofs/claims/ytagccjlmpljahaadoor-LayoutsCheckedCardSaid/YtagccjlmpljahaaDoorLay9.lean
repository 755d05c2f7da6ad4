/- A part of the proof of a law of this seat: it adds no condition. By an AI agent. -/
import Derived.Test.YtagccjlmpljahaaDoorLay4
import Derived.Test.YtagccjlmpljahaaDoorLay5
import Derived.Test.YtagccjlmpljahaaDoorLay6
import Derived.Test.YtagccjlmpljahaaDoorLay7
import Derived.Test.YtagccjlmpljahaaDoorLay8
import Derived.Test.YtagccjlmpljahaaDoorLaw
set_option linter.all false
set_option maxRecDepth 100000
set_option maxHeartbeats 8000000
namespace Lg
open Go Go.Proofs

theorem touch_eq0 (n : Nat) (a b : Int) (w : World) : (Op.equalIn (n + 1 + 1) 59 (.agg #[.int .i64 a, .int .i64 b]) (.agg #[.int .i64 a, .int .i64 b])).run Tryd.prog w = .ok true w := by
  have hs : Tryd.prog.stoodInHeld 59 = false := by kernel_rfl
  simp [Op.equalIn, run_underlying Tryd.underlying59, run_underlying Tryd.underlying3, hs, part, Go.sizeOf, typeInfo]
theorem touch_eq1 (a b : Int) (w : World) : (binOp .eql 59 (.agg #[.int .i64 a, .int .i64 b]) (.agg #[.int .i64 a, .int .i64 b])).run Tryd.prog w = .ok (.bool true) w := by
  show (do let r ← Op.equalIn (9998 + 1 + 1) 59 _ _; pure (Value.bool r) : Sem Value).run Tryd.prog w = _
  have := touch_eq0 9998 a b w
  generalize Op.equalIn (9998 + 1 + 1) 59 (.agg #[.int .i64 a, .int .i64 b]) (.agg #[.int .i64 a, .int .i64 b]) = s at *
  simp [this]
theorem touch_ne1 (a b : Int) (w : World) : (binOp .neq 59 (.agg #[.int .i64 a, .int .i64 b]) (.agg #[.int .i64 a, .int .i64 b])).run Tryd.prog w = .ok (.bool false) w := by
  show (do let r ← Op.equalIn (9998 + 1 + 1) 59 _ _; pure (Value.bool !r) : Sem Value).run Tryd.prog w = _
  have := touch_eq0 9998 a b w
  generalize Op.equalIn (9998 + 1 + 1) 59 (.agg #[.int .i64 a, .int .i64 b]) (.agg #[.int .i64 a, .int .i64 b]) = s at *
  simp [this]
section
variable {Γ : Ctx} {env : Env} {cs : List Chunk} {x y : Operand} {T2 ty : TypeId}
theorem OpV.touch_t {a b : Int} (hx : ev env x = some (.agg ([.int .i64 a, .int .i64 b].map Tr.raw))) (hy : ev env y = some (.agg ([.int .i64 a, .int .i64 b].map Tr.raw))) : OpV Tryd.prog Γ (.binOp .eql 59 x y T2) ty env cs (.bool true) := by
  unfold OpV
  intro ac w d
  have h1 := agg_raw (l := [.int .i64 a, .int .i64 b]) (d.ev hx)
  have h2 := agg_raw (l := [.int .i64 a, .int .i64 b]) (d.ev hy)
  have h3 := touch_eq1 a b w
  have h4 : (eqGuard .eql 59 x y (.agg #[.int .i64 a, .int .i64 b]) (.agg #[.int .i64 a, .int .i64 b])).run Tryd.prog w = .ok () w := by simp [eqGuard]
  exact ⟨.bool true, by simp [execOp, h1, h2, h3, h4], by unfold Tr.bool Tr.raw; rfl⟩
theorem OpV.touch_ne_f {a b : Int} (hx : ev env x = some (.agg ([.int .i64 a, .int .i64 b].map Tr.raw))) (hy : ev env y = some (.agg ([.int .i64 a, .int .i64 b].map Tr.raw))) : OpV Tryd.prog Γ (.binOp .neq 59 x y T2) ty env cs (.bool false) := by
  unfold OpV
  intro ac w d
  have h1 := agg_raw (l := [.int .i64 a, .int .i64 b]) (d.ev hx)
  have h2 := agg_raw (l := [.int .i64 a, .int .i64 b]) (d.ev hy)
  have h3 := touch_ne1 a b w
  have h4 : (eqGuard .neq 59 x y (.agg #[.int .i64 a, .int .i64 b]) (.agg #[.int .i64 a, .int .i64 b])).run Tryd.prog w = .ok () w := by simp [eqGuard]
  exact ⟨.bool false, by simp [execOp, h1, h2, h3, h4], by unfold Tr.bool Tr.raw; rfl⟩
end
theorem equal_touch (xs : List Touch) (h : xs.length ≤ 1000000000) : PFn Tryd.prog 28 [.sl 2 (xs.map Touch.row), .sl 2 (xs.map Touch.row)] (· = .bool true) := by
  refine PFn.mk (Spec.body Tryd.func28 rfl rfl (Tryd.ntmps28) rfl fun w0 own0 M => ?_)
  have hL : (xs.map Touch.row).length = xs.length := List.length_map _
  repeat' (first | refine goH ?_ | refine goV ?_ | refine goI ?_ | (refine Cw.k_cond ?_; first | (refine Cw.cond_dec rfl (fun hc => ?_) (fun hc => ?_) <;> try (exfalso; omega)) | refine Cw.cond_bool rfl (fun hc => ?_) (fun hc => ?_)) | refine goR ?_ | refine goP ?_ | apply PSeq.cons | apply PSeq.yes rfl rfl rfl | exact goW | fail)
  refine Cw.loop (ι := Nat) (fun k => k ≤ xs.length) (fun k => [(0, .sl 2 (xs.map Touch.row)), (1, .sl 2 (xs.map Touch.row)), (11, .sl 2 (xs.map Touch.row)), (12, .int (xs.map Touch.row).length), (13, .int k)]) (fun _ => []) (fun k => xs.length - k) ⟨0, by omega, (Ent.mk (by repeat' (first | exact Sub.nil | refine Sub.cons rfl ?_)) (by repeat' (first | exact Take.nil | refine Take.cons (by first | exact pick0 | exact pickS pick0 | exact pickS (pickS pick0) | exact pickS (pickS (pickS pick0)) | exact pickS (pickS (pickS (pickS pick0)))) ?_)))⟩ ?_
  intro k hk
  by_cases hkl : k < xs.length
  · obtain ⟨d, hd⟩ : ∃ x, xs[k]? = some x := ⟨_, List.getElem?_eq_getElem hkl⟩
    have hrow : (xs.map Touch.row)[k]? = some [Tr.int d.a, Tr.int d.b] := rows_at hd
    repeat' (first | refine goH ?_ | refine goV ?_ | refine goI ?_ | (refine Cw.k_cond ?_; first | (refine Cw.cond_dec rfl (fun hc => ?_) (fun hc => ?_) <;> try (exfalso; omega)) | refine Cw.cond_bool rfl (fun hc => ?_) (fun hc => ?_)) | (apply OpV.w; apply OpV.touch_ne_f; exact rfl; exact rfl) | refine goR ?_ | refine goP ?_ | apply PSeq.cons | apply PSeq.yes rfl rfl rfl | exact goW | fail)
    exact ⟨k + 1, by omega, by omega, (Ent.mk (by repeat' (first | exact Sub.nil | refine Sub.cons rfl ?_)) (by repeat' (first | exact Take.nil | refine Take.cons (by first | exact pick0 | exact pickS pick0 | exact pickS (pickS pick0) | exact pickS (pickS (pickS pick0)) | exact pickS (pickS (pickS (pickS pick0)))) ?_)))⟩
  · repeat' (first | refine goH ?_ | refine goV ?_ | refine goI ?_ | (refine Cw.k_cond ?_; first | (refine Cw.cond_dec rfl (fun hc => ?_) (fun hc => ?_) <;> try (exfalso; omega)) | refine Cw.cond_bool rfl (fun hc => ?_) (fun hc => ?_)) | refine goR ?_ | refine goP ?_ | apply PSeq.cons | apply PSeq.yes rfl rfl rfl | exact goW | fail)
    exact Fin.ret Ent.refl (Outs.one rfl rfl) ⟨rfl, rfl⟩

theorem layoutE_ok {r c : Int} {l : List Offer} {xs : List ByteArray} (h : layoutE r c l xs = 0) : rackE r c = 0 ∧ offersE l = 0 ∧ (xs.length : Int) = r * c ∧ xs.any (oddB l) = false := by
  unfold layoutE at h
  by_cases q1 : rackE r c ≠ 0
  · rw [if_pos q1] at h; exact absurd h q1
  rw [if_neg q1] at h
  by_cases q2 : offersE l ≠ 0
  · rw [if_pos q2] at h; exact absurd h q2
  rw [if_neg q2] at h
  by_cases q3 : (xs.length : Int) ≠ r * c
  · rw [if_pos q3] at h; omega
  rw [if_neg q3] at h
  refine ⟨by omega, by omega, by omega, ?_⟩
  cases h4 : xs.any (oddB l)
  · rfl
  · rw [h4, if_pos rfl] at h; omega
theorem chgE_ok {a b : List ByteArray} (h : chgE a b = 0) : a.length = b.length := by
  unfold chgE at h
  split at h
  · omega
  · split at h
    · omega
    · omega
theorem listE_ok {l : List Offer} {xs : List ByteArray} (h : listE l xs = 0) : xs.any (oddB l) = false := by
  unfold listE at h
  split at h
  · omega
  · cases h4 : xs.any (oddB l)
    · rfl
    · rw [h4, if_pos rfl] at h; omega
theorem len_nat {n R C : Nat} (h : (n : Int) = (R : Int) * (C : Int)) : n = R * C := by
  rw [← Int.natCast_mul] at h
  exact Int.ofNat.inj h
theorem layoutsChecked_law (xs : List Int) : Spec Tryd.prog 4 [Tr.ints xs] [] (fun r _ => r = Tr.bool true) := by
  refine Spec.body Tryd.func4 rfl rfl (Tryd.ntmps4) rfl fun w0 own0 M => ?_
  repeat' (first | refine goH ?_ | refine goV ?_ | refine goB (fun b => ?_) | refine goG ?_ | (refine Ops.k_guard ?_; first | (refine Ops.guard_dec rfl rfl (fun hc => ?_) (fun hc => ?_) <;> try (exfalso; omega)) | refine Ops.guard_split rfl rfl (fun hc => ?_) (fun hc => ?_)) | refine goI ?_ | (refine Cw.k_cond ?_; first | (refine Cw.cond_dec rfl (fun hc => ?_) (fun hc => ?_) <;> try (exfalso; omega)) | refine Cw.cond_bool rfl (fun hc => ?_) (fun hc => ?_)) | refine Ops.shut0 (ty := 25) rfl ?_ | (refine Ops.k_calla ?_; first | (refine Ops.k_callf 20 ?_; (refine Ops.callG rack_gen (Evs.cons rfl Evs.nil) (by first | exact pick0 | exact pickS pick0 | exact pickS (pickS pick0) | exact pickS (pickS (pickS pick0)) | exact pickS (pickS (pickS (pickS pick0)))) (by omega) rfl ?_; rintro x ⟨r, c, rfl, hr, hc⟩)) | (refine Ops.k_callf 21 ?_; (refine Ops.callG (offers_gen 4 (by omega)) (Evs.cons rfl (Evs.cons rfl Evs.nil)) (by first | exact pick0 | exact pickS pick0 | exact pickS (pickS pick0) | exact pickS (pickS (pickS pick0)) | exact pickS (pickS (pickS (pickS pick0)))) (by omega) rfl ?_; rintro x ⟨l, rfl, hl, hlg⟩))) | fail)
  rename_i bs
  have hrc : 0 ≤ r * c ∧ r * c ≤ 110 := by
    refine ⟨Int.mul_nonneg hr.1 hc.1, ?_⟩
    have := Int.mul_le_mul hr.2 hc.2 hc.1 (by omega : (0 : Int) ≤ 11)
    omega
  have hm64 : -9223372036854775808 ≤ r * c ∧ r * c ≤ 9223372036854775807 := by omega
  refine Cw.region_X (fun ξ S => [Chunk.box b 47 [.int r, .int c], Chunk.strm 25 bs (intRows xs) (416 + 150 * (b2n (S 7) + b2n (S 15)))]) rfl (by decide +kernel) rfl (fun _ => rfl) ?_
  apply XSeq.w (by intro _ _ _; rfl)
  · intro ξ S h1 h2 h3 h4; exact goW
  apply XSeq.w (by intro _ _ _; rfl)
  · intro ξ S h1 h2 h3 h4; exact goW
  apply XSeq.w (by intro _ _ _; rfl)
  · intro ξ S h1 h2 h3 h4; exact goW
  apply XSeq.w (by intro _ _ _; rfl)
  · intro ξ S h1 h2 h3 h4; exact goW
  apply XSeq.w (by intro _ _ _; rfl)
  · intro ξ S h1 h2 h3 h4; exact goW
  apply XSeq.w (by intro _ _ _; rfl)
  · intro ξ S h1 h2 h3 h4; exact goW
  apply XSeq.w (by intro _ _ _; rfl)
  · intro ξ S h1 h2 h3 h4; exact goW
  apply XSeq.callG (t := Tr.exS (fun x : List ByteArray => x.length ≤ 71) Tr.strs) (layout_gen (r * c) (by omega) l (by omega)) (fun _ => (Evs.cons rfl (Evs.cons rfl (Evs.cons rfl Evs.nil)))) (by rintro x ⟨v, rfl, h⟩; exact Imp.exS h)
  · intro ξ S h1 h3
    have hc := b2n_le (S 7)
    have hc2 := b2n_le (S 15)
    refine ⟨416 + 150 * (b2n (S 7) + b2n (S 15)), [Chunk.box b 47 [.int r, .int c]], ?_, List.Perm.swap _ _ _, fun v => ?_⟩
    · omega
    · refine (List.Perm.swap _ _ _).trans (perm_strm ?_)
      show 416 + 150 * (b2n true + b2n (S 15)) = _
      rw [h1]; simp only [b2n]; omega
  apply XSeq.w (by intro _ _ _; rfl)
  · intro ξ S h1 h2 h3 h4; exact goW
  apply XSeq.w (by intro _ _ _; rfl)
  · intro ξ S h1 h2 h3 h4; exact goW
  apply XSeq.w (by intro _ _ _; rfl)
  · intro ξ S h1 h2 h3 h4; exact goW
  apply XSeq.w (by intro _ _ _; rfl)
  · intro ξ S h1 h2 h3 h4; exact goW
  apply XSeq.w (by intro _ _ _; rfl)
  · intro ξ S h1 h2 h3 h4; exact goW
  apply XSeq.w (by intro _ _ _; rfl)
  · intro ξ S h1 h2 h3 h4; exact goW
  apply XSeq.w (by intro _ _ _; rfl)
  · intro ξ S h1 h2 h3 h4; exact goW
  apply XSeq.callG (t := Tr.exS (fun x : List ByteArray => x.length ≤ 71) Tr.strs) (layout_gen (r * c) (by omega) l (by omega)) (fun _ => (Evs.cons rfl (Evs.cons rfl (Evs.cons rfl Evs.nil)))) (by rintro x ⟨v, rfl, h⟩; exact Imp.exS h)
  · intro ξ S h1 h3
    have hc := b2n_le (S 7)
    have hc2 := b2n_le (S 15)
    refine ⟨416 + 150 * (b2n (S 7) + b2n (S 15)), [Chunk.box b 47 [.int r, .int c]], ?_, List.Perm.swap _ _ _, fun v => ?_⟩
    · omega
    · refine (List.Perm.swap _ _ _).trans (perm_strm ?_)
      show 416 + 150 * (b2n (S 7) + b2n true) = _
      rw [h1]; simp only [b2n]; omega
  apply XSeq.w (by intro _ _ _; rfl)
  · intro ξ S h1 h2 h3 h4; exact goW
  apply XSeq.w (by intro _ _ _; rfl)
  · intro ξ S h1 h2 h3 h4; exact goW
  refine XSeq.nil fun ξ hf => ?_
  clear hf
  refine ⟨[(3, .ptr bs), (4, .ptr b), (5, .offers l), (6, Tr.exS (fun x : List ByteArray => x.length ≤ 71) Tr.strs), (7, Tr.exS (fun x : List ByteArray => x.length ≤ 71) Tr.strs)], [Chunk.box b 47 [.int r, .int c], Chunk.strm 25 bs (intRows xs) 716], Ent.sub (by repeat' (first | exact Sub.nil | refine Sub.cons rfl ?_)), ?_⟩
  refine Then.norm ?_
  refine Cw.open_slot (i := 6) rfl open_exS fun x hx => ?_
  refine Cw.open_slot (i := 7) rfl open_exS fun y hy => ?_
  have hOB : OBd l := ⟨by omega, fun o ho => by have := hlg o ho; unfold OGd at this; omega⟩
  have kLF := layoutFault_fn r c l hOB x (by omega)
  have kCR := checkRack_fn r c
  have kRF := rackFault_fn r c
  have kCL := checkLayout_fn r c l hOB x (by omega)
  have kC := clashes_fn r c l hOB x (by omega)
  have kN := counts_fn l hOB x (by omega)
  have kOF := offersFault_fn l hOB
  have kLi := listFault_fn l (by omega) x (by omega)
  have kCh := changed_fn x y (by omega) (by omega)
  have kCF := chgFault_fn x y (by omega) (by omega)
  by_cases h1 : layoutE r c l x ≠ 0
  · rw [if_pos h1] at kC
    generalize layoutE r c l x = le at *
    by_cases n1 : offersE l ≠ 0
    · have en : cnt1E l x = offersE l := by unfold cnt1E; rw [if_pos n1]
      rw [en, if_pos n1] at kN
      generalize offersE l = oe at *
      by_cases c1 : chgE x y ≠ 0
      · rw [if_pos c1] at kCh
        generalize chgE x y = ce at *
        repeat' (first | refine goH ?_ | (refine Ops.k_b_eql ?_; first | (refine Ops.val' rfl (OpV.eql_t rfl rfl (by omega)) ?_) | (refine Ops.val' rfl (OpV.eql_f rfl rfl (by omega)) ?_)) | (refine Ops.k_b_neq ?_; first | (refine Ops.val' rfl (OpV.neq_f rfl rfl (by omega)) ?_) | (refine Ops.val' rfl (OpV.neq_t rfl rfl (by omega)) ?_)) | refine goV ?_ | refine goB (fun b => ?_) | refine goG ?_ | (refine Ops.k_guard ?_; first | (refine Ops.guard_dec rfl rfl (fun hc => ?_) (fun hc => ?_) <;> try (exfalso; omega)) | refine Ops.guard_split rfl rfl (fun hc => ?_) (fun hc => ?_)) | refine goI ?_ | (refine Cw.k_cond ?_; first | (refine Cw.cond_dec rfl (fun hc => ?_) (fun hc => ?_) <;> try (exfalso; omega)) | refine Cw.cond_bool rfl (fun hc => ?_) (fun hc => ?_)) | (refine Ops.k_calla ?_; first | (refine Ops.k_callf 23 ?_; refine Ops.callV kLF (Evs.cons rfl (Evs.cons rfl (Evs.cons rfl Evs.nil))) rfl ?_) | (refine Ops.k_callf 24 ?_; refine Ops.callV kCR (Evs.cons rfl Evs.nil) rfl ?_) | (refine Ops.k_callf 25 ?_; refine Ops.callV kRF (Evs.cons rfl Evs.nil) rfl ?_) | (refine Ops.k_callf 26 ?_; refine Ops.callV kCL (Evs.cons rfl (Evs.cons rfl (Evs.cons rfl Evs.nil))) rfl ?_) | (refine Ops.k_callf 27 ?_; refine Ops.callV kC (Evs.cons rfl (Evs.cons rfl (Evs.cons rfl Evs.nil))) rfl ?_) | (refine Ops.k_callf 30 ?_; refine Ops.callV kN (Evs.cons rfl (Evs.cons rfl Evs.nil)) rfl ?_) | (refine Ops.k_callf 31 ?_; refine Ops.callV kOF (Evs.cons rfl Evs.nil) rfl ?_) | (refine Ops.k_callf 32 ?_; refine Ops.callV kLi (Evs.cons rfl (Evs.cons rfl Evs.nil)) rfl ?_) | (refine Ops.k_callf 35 ?_; refine Ops.callV kCh (Evs.cons rfl (Evs.cons rfl Evs.nil)) rfl ?_) | (refine Ops.k_callf 36 ?_; refine Ops.callV kCF (Evs.cons rfl (Evs.cons rfl Evs.nil)) rfl ?_) | (refine Ops.k_callf 14 ?_; refine Ops.callV shelves_fn Evs.nil rfl ?_)) | (apply OpW.k_call; first | (apply OpW.k_callf 23; exact OpW.callV kLF (Evs.cons rfl (Evs.cons rfl (Evs.cons rfl Evs.nil)))) | (apply OpW.k_callf 24; exact OpW.callV kCR (Evs.cons rfl Evs.nil)) | (apply OpW.k_callf 25; exact OpW.callV kRF (Evs.cons rfl Evs.nil)) | (apply OpW.k_callf 26; exact OpW.callV kCL (Evs.cons rfl (Evs.cons rfl (Evs.cons rfl Evs.nil)))) | (apply OpW.k_callf 27; exact OpW.callV kC (Evs.cons rfl (Evs.cons rfl (Evs.cons rfl Evs.nil)))) | (apply OpW.k_callf 30; exact OpW.callV kN (Evs.cons rfl (Evs.cons rfl Evs.nil))) | (apply OpW.k_callf 31; exact OpW.callV kOF (Evs.cons rfl Evs.nil)) | (apply OpW.k_callf 32; exact OpW.callV kLi (Evs.cons rfl (Evs.cons rfl Evs.nil))) | (apply OpW.k_callf 35; exact OpW.callV kCh (Evs.cons rfl (Evs.cons rfl Evs.nil))) | (apply OpW.k_callf 36; exact OpW.callV kCF (Evs.cons rfl (Evs.cons rfl Evs.nil))) | (apply OpW.k_callf 14; exact OpW.callV shelves_fn Evs.nil)) | refine goR ?_ | refine goP ?_ | apply PSeq.cons | apply PSeq.yes rfl rfl rfl | exact goW | fail)
        all_goals exact Fin.ret Ent.refl (Outs.one rfl rfl) rfl
      · have c0 : chgE x y = 0 := by omega
        have kCI := changedIn_fn x y (by omega) (chgE_ok c0)
        have q3 := equalInts_same (difN x y x.length) (by have := difN_len x y x.length; omega)
        rw [c0] at kCh kCF
        repeat' (first | refine goH ?_ | (refine Ops.k_b_eql ?_; first | (refine Ops.val' rfl (OpV.eql_t rfl rfl (by omega)) ?_) | (refine Ops.val' rfl (OpV.eql_f rfl rfl (by omega)) ?_)) | (refine Ops.k_b_neq ?_; first | (refine Ops.val' rfl (OpV.neq_f rfl rfl (by omega)) ?_) | (refine Ops.val' rfl (OpV.neq_t rfl rfl (by omega)) ?_)) | refine goV ?_ | refine goB (fun b => ?_) | refine goG ?_ | (refine Ops.k_guard ?_; first | (refine Ops.guard_dec rfl rfl (fun hc => ?_) (fun hc => ?_) <;> try (exfalso; omega)) | refine Ops.guard_split rfl rfl (fun hc => ?_) (fun hc => ?_)) | refine goI ?_ | (refine Cw.k_cond ?_; first | (refine Cw.cond_dec rfl (fun hc => ?_) (fun hc => ?_) <;> try (exfalso; omega)) | refine Cw.cond_bool rfl (fun hc => ?_) (fun hc => ?_)) | (refine Ops.k_calla ?_; first | (refine Ops.k_callf 23 ?_; refine Ops.callV kLF (Evs.cons rfl (Evs.cons rfl (Evs.cons rfl Evs.nil))) rfl ?_) | (refine Ops.k_callf 24 ?_; refine Ops.callV kCR (Evs.cons rfl Evs.nil) rfl ?_) | (refine Ops.k_callf 25 ?_; refine Ops.callV kRF (Evs.cons rfl Evs.nil) rfl ?_) | (refine Ops.k_callf 26 ?_; refine Ops.callV kCL (Evs.cons rfl (Evs.cons rfl (Evs.cons rfl Evs.nil))) rfl ?_) | (refine Ops.k_callf 27 ?_; refine Ops.callV kC (Evs.cons rfl (Evs.cons rfl (Evs.cons rfl Evs.nil))) rfl ?_) | (refine Ops.k_callf 30 ?_; refine Ops.callV kN (Evs.cons rfl (Evs.cons rfl Evs.nil)) rfl ?_) | (refine Ops.k_callf 31 ?_; refine Ops.callV kOF (Evs.cons rfl Evs.nil) rfl ?_) | (refine Ops.k_callf 32 ?_; refine Ops.callV kLi (Evs.cons rfl (Evs.cons rfl Evs.nil)) rfl ?_) | (refine Ops.k_callf 35 ?_; refine Ops.callV kCh (Evs.cons rfl (Evs.cons rfl Evs.nil)) rfl ?_) | (refine Ops.k_callf 36 ?_; refine Ops.callV kCF (Evs.cons rfl (Evs.cons rfl Evs.nil)) rfl ?_) | (refine Ops.k_callf 14 ?_; refine Ops.callV shelves_fn Evs.nil rfl ?_) | (refine Ops.k_callf 37 ?_; refine Ops.callV kCI (Evs.cons rfl (Evs.cons rfl Evs.nil)) rfl ?_) | (refine Ops.k_callf 33 ?_; refine Ops.callV q3 (Evs.cons rfl (Evs.cons rfl Evs.nil)) rfl ?_)) | (apply OpW.k_call; first | (apply OpW.k_callf 23; exact OpW.callV kLF (Evs.cons rfl (Evs.cons rfl (Evs.cons rfl Evs.nil)))) | (apply OpW.k_callf 24; exact OpW.callV kCR (Evs.cons rfl Evs.nil)) | (apply OpW.k_callf 25; exact OpW.callV kRF (Evs.cons rfl Evs.nil)) | (apply OpW.k_callf 26; exact OpW.callV kCL (Evs.cons rfl (Evs.cons rfl (Evs.cons rfl Evs.nil)))) | (apply OpW.k_callf 27; exact OpW.callV kC (Evs.cons rfl (Evs.cons rfl (Evs.cons rfl Evs.nil)))) | (apply OpW.k_callf 30; exact OpW.callV kN (Evs.cons rfl (Evs.cons rfl Evs.nil))) | (apply OpW.k_callf 31; exact OpW.callV kOF (Evs.cons rfl Evs.nil)) | (apply OpW.k_callf 32; exact OpW.callV kLi (Evs.cons rfl (Evs.cons rfl Evs.nil))) | (apply OpW.k_callf 35; exact OpW.callV kCh (Evs.cons rfl (Evs.cons rfl Evs.nil))) | (apply OpW.k_callf 36; exact OpW.callV kCF (Evs.cons rfl (Evs.cons rfl Evs.nil))) | (apply OpW.k_callf 14; exact OpW.callV shelves_fn Evs.nil) | (apply OpW.k_callf 37; exact OpW.callV kCI (Evs.cons rfl (Evs.cons rfl Evs.nil))) | (apply OpW.k_callf 33; exact OpW.callV q3 (Evs.cons rfl (Evs.cons rfl Evs.nil)))) | refine goR ?_ | refine goP ?_ | apply PSeq.cons | apply PSeq.yes rfl rfl rfl | exact goW | fail)
        all_goals exact Fin.ret Ent.refl (Outs.one rfl rfl) rfl
    have n0 : offersE l = 0 := by omega
    have en : cnt1E l x = listE l x := by unfold cnt1E; rw [if_neg n1]
    rw [en] at kN
    rw [n0] at kOF
    by_cases n2 : listE l x ≠ 0
    · rw [if_pos n2] at kN
      generalize listE l x = li at *
      by_cases c1 : chgE x y ≠ 0
      · rw [if_pos c1] at kCh
        generalize chgE x y = ce at *
        repeat' (first | refine goH ?_ | (refine Ops.k_b_eql ?_; first | (refine Ops.val' rfl (OpV.eql_t rfl rfl (by omega)) ?_) | (refine Ops.val' rfl (OpV.eql_f rfl rfl (by omega)) ?_)) | (refine Ops.k_b_neq ?_; first | (refine Ops.val' rfl (OpV.neq_f rfl rfl (by omega)) ?_) | (refine Ops.val' rfl (OpV.neq_t rfl rfl (by omega)) ?_)) | refine goV ?_ | refine goB (fun b => ?_) | refine goG ?_ | (refine Ops.k_guard ?_; first | (refine Ops.guard_dec rfl rfl (fun hc => ?_) (fun hc => ?_) <;> try (exfalso; omega)) | refine Ops.guard_split rfl rfl (fun hc => ?_) (fun hc => ?_)) | refine goI ?_ | (refine Cw.k_cond ?_; first | (refine Cw.cond_dec rfl (fun hc => ?_) (fun hc => ?_) <;> try (exfalso; omega)) | refine Cw.cond_bool rfl (fun hc => ?_) (fun hc => ?_)) | (refine Ops.k_calla ?_; first | (refine Ops.k_callf 23 ?_; refine Ops.callV kLF (Evs.cons rfl (Evs.cons rfl (Evs.cons rfl Evs.nil))) rfl ?_) | (refine Ops.k_callf 24 ?_; refine Ops.callV kCR (Evs.cons rfl Evs.nil) rfl ?_) | (refine Ops.k_callf 25 ?_; refine Ops.callV kRF (Evs.cons rfl Evs.nil) rfl ?_) | (refine Ops.k_callf 26 ?_; refine Ops.callV kCL (Evs.cons rfl (Evs.cons rfl (Evs.cons rfl Evs.nil))) rfl ?_) | (refine Ops.k_callf 27 ?_; refine Ops.callV kC (Evs.cons rfl (Evs.cons rfl (Evs.cons rfl Evs.nil))) rfl ?_) | (refine Ops.k_callf 30 ?_; refine Ops.callV kN (Evs.cons rfl (Evs.cons rfl Evs.nil)) rfl ?_) | (refine Ops.k_callf 31 ?_; refine Ops.callV kOF (Evs.cons rfl Evs.nil) rfl ?_) | (refine Ops.k_callf 32 ?_; refine Ops.callV kLi (Evs.cons rfl (Evs.cons rfl Evs.nil)) rfl ?_) | (refine Ops.k_callf 35 ?_; refine Ops.callV kCh (Evs.cons rfl (Evs.cons rfl Evs.nil)) rfl ?_) | (refine Ops.k_callf 36 ?_; refine Ops.callV kCF (Evs.cons rfl (Evs.cons rfl Evs.nil)) rfl ?_) | (refine Ops.k_callf 14 ?_; refine Ops.callV shelves_fn Evs.nil rfl ?_)) | (apply OpW.k_call; first | (apply OpW.k_callf 23; exact OpW.callV kLF (Evs.cons rfl (Evs.cons rfl (Evs.cons rfl Evs.nil)))) | (apply OpW.k_callf 24; exact OpW.callV kCR (Evs.cons rfl Evs.nil)) | (apply OpW.k_callf 25; exact OpW.callV kRF (Evs.cons rfl Evs.nil)) | (apply OpW.k_callf 26; exact OpW.callV kCL (Evs.cons rfl (Evs.cons rfl (Evs.cons rfl Evs.nil)))) | (apply OpW.k_callf 27; exact OpW.callV kC (Evs.cons rfl (Evs.cons rfl (Evs.cons rfl Evs.nil)))) | (apply OpW.k_callf 30; exact OpW.callV kN (Evs.cons rfl (Evs.cons rfl Evs.nil))) | (apply OpW.k_callf 31; exact OpW.callV kOF (Evs.cons rfl Evs.nil)) | (apply OpW.k_callf 32; exact OpW.callV kLi (Evs.cons rfl (Evs.cons rfl Evs.nil))) | (apply OpW.k_callf 35; exact OpW.callV kCh (Evs.cons rfl (Evs.cons rfl Evs.nil))) | (apply OpW.k_callf 36; exact OpW.callV kCF (Evs.cons rfl (Evs.cons rfl Evs.nil))) | (apply OpW.k_callf 14; exact OpW.callV shelves_fn Evs.nil)) | refine goR ?_ | refine goP ?_ | apply PSeq.cons | apply PSeq.yes rfl rfl rfl | exact goW | fail)
        all_goals exact Fin.ret Ent.refl (Outs.one rfl rfl) rfl
      · have c0 : chgE x y = 0 := by omega
        have kCI := changedIn_fn x y (by omega) (chgE_ok c0)
        have q3 := equalInts_same (difN x y x.length) (by have := difN_len x y x.length; omega)
        rw [c0] at kCh kCF
        repeat' (first | refine goH ?_ | (refine Ops.k_b_eql ?_; first | (refine Ops.val' rfl (OpV.eql_t rfl rfl (by omega)) ?_) | (refine Ops.val' rfl (OpV.eql_f rfl rfl (by omega)) ?_)) | (refine Ops.k_b_neq ?_; first | (refine Ops.val' rfl (OpV.neq_f rfl rfl (by omega)) ?_) | (refine Ops.val' rfl (OpV.neq_t rfl rfl (by omega)) ?_)) | refine goV ?_ | refine goB (fun b => ?_) | refine goG ?_ | (refine Ops.k_guard ?_; first | (refine Ops.guard_dec rfl rfl (fun hc => ?_) (fun hc => ?_) <;> try (exfalso; omega)) | refine Ops.guard_split rfl rfl (fun hc => ?_) (fun hc => ?_)) | refine goI ?_ | (refine Cw.k_cond ?_; first | (refine Cw.cond_dec rfl (fun hc => ?_) (fun hc => ?_) <;> try (exfalso; omega)) | refine Cw.cond_bool rfl (fun hc => ?_) (fun hc => ?_)) | (refine Ops.k_calla ?_; first | (refine Ops.k_callf 23 ?_; refine Ops.callV kLF (Evs.cons rfl (Evs.cons rfl (Evs.cons rfl Evs.nil))) rfl ?_) | (refine Ops.k_callf 24 ?_; refine Ops.callV kCR (Evs.cons rfl Evs.nil) rfl ?_) | (refine Ops.k_callf 25 ?_; refine Ops.callV kRF (Evs.cons rfl Evs.nil) rfl ?_) | (refine Ops.k_callf 26 ?_; refine Ops.callV kCL (Evs.cons rfl (Evs.cons rfl (Evs.cons rfl Evs.nil))) rfl ?_) | (refine Ops.k_callf 27 ?_; refine Ops.callV kC (Evs.cons rfl (Evs.cons rfl (Evs.cons rfl Evs.nil))) rfl ?_) | (refine Ops.k_callf 30 ?_; refine Ops.callV kN (Evs.cons rfl (Evs.cons rfl Evs.nil)) rfl ?_) | (refine Ops.k_callf 31 ?_; refine Ops.callV kOF (Evs.cons rfl Evs.nil) rfl ?_) | (refine Ops.k_callf 32 ?_; refine Ops.callV kLi (Evs.cons rfl (Evs.cons rfl Evs.nil)) rfl ?_) | (refine Ops.k_callf 35 ?_; refine Ops.callV kCh (Evs.cons rfl (Evs.cons rfl Evs.nil)) rfl ?_) | (refine Ops.k_callf 36 ?_; refine Ops.callV kCF (Evs.cons rfl (Evs.cons rfl Evs.nil)) rfl ?_) | (refine Ops.k_callf 14 ?_; refine Ops.callV shelves_fn Evs.nil rfl ?_) | (refine Ops.k_callf 37 ?_; refine Ops.callV kCI (Evs.cons rfl (Evs.cons rfl Evs.nil)) rfl ?_) | (refine Ops.k_callf 33 ?_; refine Ops.callV q3 (Evs.cons rfl (Evs.cons rfl Evs.nil)) rfl ?_)) | (apply OpW.k_call; first | (apply OpW.k_callf 23; exact OpW.callV kLF (Evs.cons rfl (Evs.cons rfl (Evs.cons rfl Evs.nil)))) | (apply OpW.k_callf 24; exact OpW.callV kCR (Evs.cons rfl Evs.nil)) | (apply OpW.k_callf 25; exact OpW.callV kRF (Evs.cons rfl Evs.nil)) | (apply OpW.k_callf 26; exact OpW.callV kCL (Evs.cons rfl (Evs.cons rfl (Evs.cons rfl Evs.nil)))) | (apply OpW.k_callf 27; exact OpW.callV kC (Evs.cons rfl (Evs.cons rfl (Evs.cons rfl Evs.nil)))) | (apply OpW.k_callf 30; exact OpW.callV kN (Evs.cons rfl (Evs.cons rfl Evs.nil))) | (apply OpW.k_callf 31; exact OpW.callV kOF (Evs.cons rfl Evs.nil)) | (apply OpW.k_callf 32; exact OpW.callV kLi (Evs.cons rfl (Evs.cons rfl Evs.nil))) | (apply OpW.k_callf 35; exact OpW.callV kCh (Evs.cons rfl (Evs.cons rfl Evs.nil))) | (apply OpW.k_callf 36; exact OpW.callV kCF (Evs.cons rfl (Evs.cons rfl Evs.nil))) | (apply OpW.k_callf 14; exact OpW.callV shelves_fn Evs.nil) | (apply OpW.k_callf 37; exact OpW.callV kCI (Evs.cons rfl (Evs.cons rfl Evs.nil))) | (apply OpW.k_callf 33; exact OpW.callV q3 (Evs.cons rfl (Evs.cons rfl Evs.nil)))) | refine goR ?_ | refine goP ?_ | apply PSeq.cons | apply PSeq.yes rfl rfl rfl | exact goW | fail)
        all_goals exact Fin.ret Ent.refl (Outs.one rfl rfl) rfl
    have n3 : listE l x = 0 := by omega
    rw [n3] at kN kLi
    have kCN := countsIn_fn l (by omega) x (by omega) (listE_ok n3)
    have q2 := equalInts_same (cntF l x) (by rw [cntF_len]; omega)
    by_cases c1 : chgE x y ≠ 0
    · rw [if_pos c1] at kCh
      generalize chgE x y = ce at *
      repeat' (first | refine goH ?_ | (refine Ops.k_b_eql ?_; first | (refine Ops.val' rfl (OpV.eql_t rfl rfl (by omega)) ?_) | (refine Ops.val' rfl (OpV.eql_f rfl rfl (by omega)) ?_)) | (refine Ops.k_b_neq ?_; first | (refine Ops.val' rfl (OpV.neq_f rfl rfl (by omega)) ?_) | (refine Ops.val' rfl (OpV.neq_t rfl rfl (by omega)) ?_)) | refine goV ?_ | refine goB (fun b => ?_) | refine goG ?_ | (refine Ops.k_guard ?_; first | (refine Ops.guard_dec rfl rfl (fun hc => ?_) (fun hc => ?_) <;> try (exfalso; omega)) | refine Ops.guard_split rfl rfl (fun hc => ?_) (fun hc => ?_)) | refine goI ?_ | (refine Cw.k_cond ?_; first | (refine Cw.cond_dec rfl (fun hc => ?_) (fun hc => ?_) <;> try (exfalso; omega)) | refine Cw.cond_bool rfl (fun hc => ?_) (fun hc => ?_)) | (refine Ops.k_calla ?_; first | (refine Ops.k_callf 23 ?_; refine Ops.callV kLF (Evs.cons rfl (Evs.cons rfl (Evs.cons rfl Evs.nil))) rfl ?_) | (refine Ops.k_callf 24 ?_; refine Ops.callV kCR (Evs.cons rfl Evs.nil) rfl ?_) | (refine Ops.k_callf 25 ?_; refine Ops.callV kRF (Evs.cons rfl Evs.nil) rfl ?_) | (refine Ops.k_callf 26 ?_; refine Ops.callV kCL (Evs.cons rfl (Evs.cons rfl (Evs.cons rfl Evs.nil))) rfl ?_) | (refine Ops.k_callf 27 ?_; refine Ops.callV kC (Evs.cons rfl (Evs.cons rfl (Evs.cons rfl Evs.nil))) rfl ?_) | (refine Ops.k_callf 30 ?_; refine Ops.callV kN (Evs.cons rfl (Evs.cons rfl Evs.nil)) rfl ?_) | (refine Ops.k_callf 31 ?_; refine Ops.callV kOF (Evs.cons rfl Evs.nil) rfl ?_) | (refine Ops.k_callf 32 ?_; refine Ops.callV kLi (Evs.cons rfl (Evs.cons rfl Evs.nil)) rfl ?_) | (refine Ops.k_callf 35 ?_; refine Ops.callV kCh (Evs.cons rfl (Evs.cons rfl Evs.nil)) rfl ?_) | (refine Ops.k_callf 36 ?_; refine Ops.callV kCF (Evs.cons rfl (Evs.cons rfl Evs.nil)) rfl ?_) | (refine Ops.k_callf 14 ?_; refine Ops.callV shelves_fn Evs.nil rfl ?_) | (refine Ops.k_callf 34 ?_; refine Ops.callV kCN (Evs.cons rfl (Evs.cons rfl Evs.nil)) rfl ?_) | (refine Ops.k_callf 33 ?_; refine Ops.callV q2 (Evs.cons rfl (Evs.cons rfl Evs.nil)) rfl ?_)) | (apply OpW.k_call; first | (apply OpW.k_callf 23; exact OpW.callV kLF (Evs.cons rfl (Evs.cons rfl (Evs.cons rfl Evs.nil)))) | (apply OpW.k_callf 24; exact OpW.callV kCR (Evs.cons rfl Evs.nil)) | (apply OpW.k_callf 25; exact OpW.callV kRF (Evs.cons rfl Evs.nil)) | (apply OpW.k_callf 26; exact OpW.callV kCL (Evs.cons rfl (Evs.cons rfl (Evs.cons rfl Evs.nil)))) | (apply OpW.k_callf 27; exact OpW.callV kC (Evs.cons rfl (Evs.cons rfl (Evs.cons rfl Evs.nil)))) | (apply OpW.k_callf 30; exact OpW.callV kN (Evs.cons rfl (Evs.cons rfl Evs.nil))) | (apply OpW.k_callf 31; exact OpW.callV kOF (Evs.cons rfl Evs.nil)) | (apply OpW.k_callf 32; exact OpW.callV kLi (Evs.cons rfl (Evs.cons rfl Evs.nil))) | (apply OpW.k_callf 35; exact OpW.callV kCh (Evs.cons rfl (Evs.cons rfl Evs.nil))) | (apply OpW.k_callf 36; exact OpW.callV kCF (Evs.cons rfl (Evs.cons rfl Evs.nil))) | (apply OpW.k_callf 14; exact OpW.callV shelves_fn Evs.nil) | (apply OpW.k_callf 34; exact OpW.callV kCN (Evs.cons rfl (Evs.cons rfl Evs.nil))) | (apply OpW.k_callf 33; exact OpW.callV q2 (Evs.cons rfl (Evs.cons rfl Evs.nil)))) | refine goR ?_ | refine goP ?_ | apply PSeq.cons | apply PSeq.yes rfl rfl rfl | exact goW | fail)
      all_goals exact Fin.ret Ent.refl (Outs.one rfl rfl) rfl
    · have c0 : chgE x y = 0 := by omega
      have kCI := changedIn_fn x y (by omega) (chgE_ok c0)
      have q3 := equalInts_same (difN x y x.length) (by have := difN_len x y x.length; omega)
      rw [c0] at kCh kCF
      repeat' (first | refine goH ?_ | (refine Ops.k_b_eql ?_; first | (refine Ops.val' rfl (OpV.eql_t rfl rfl (by omega)) ?_) | (refine Ops.val' rfl (OpV.eql_f rfl rfl (by omega)) ?_)) | (refine Ops.k_b_neq ?_; first | (refine Ops.val' rfl (OpV.neq_f rfl rfl (by omega)) ?_) | (refine Ops.val' rfl (OpV.neq_t rfl rfl (by omega)) ?_)) | refine goV ?_ | refine goB (fun b => ?_) | refine goG ?_ | (refine Ops.k_guard ?_; first | (refine Ops.guard_dec rfl rfl (fun hc => ?_) (fun hc => ?_) <;> try (exfalso; omega)) | refine Ops.guard_split rfl rfl (fun hc => ?_) (fun hc => ?_)) | refine goI ?_ | (refine Cw.k_cond ?_; first | (refine Cw.cond_dec rfl (fun hc => ?_) (fun hc => ?_) <;> try (exfalso; omega)) | refine Cw.cond_bool rfl (fun hc => ?_) (fun hc => ?_)) | (refine Ops.k_calla ?_; first | (refine Ops.k_callf 23 ?_; refine Ops.callV kLF (Evs.cons rfl (Evs.cons rfl (Evs.cons rfl Evs.nil))) rfl ?_) | (refine Ops.k_callf 24 ?_; refine Ops.callV kCR (Evs.cons rfl Evs.nil) rfl ?_) | (refine Ops.k_callf 25 ?_; refine Ops.callV kRF (Evs.cons rfl Evs.nil) rfl ?_) | (refine Ops.k_callf 26 ?_; refine Ops.callV kCL (Evs.cons rfl (Evs.cons rfl (Evs.cons rfl Evs.nil))) rfl ?_) | (refine Ops.k_callf 27 ?_; refine Ops.callV kC (Evs.cons rfl (Evs.cons rfl (Evs.cons rfl Evs.nil))) rfl ?_) | (refine Ops.k_callf 30 ?_; refine Ops.callV kN (Evs.cons rfl (Evs.cons rfl Evs.nil)) rfl ?_) | (refine Ops.k_callf 31 ?_; refine Ops.callV kOF (Evs.cons rfl Evs.nil) rfl ?_) | (refine Ops.k_callf 32 ?_; refine Ops.callV kLi (Evs.cons rfl (Evs.cons rfl Evs.nil)) rfl ?_) | (refine Ops.k_callf 35 ?_; refine Ops.callV kCh (Evs.cons rfl (Evs.cons rfl Evs.nil)) rfl ?_) | (refine Ops.k_callf 36 ?_; refine Ops.callV kCF (Evs.cons rfl (Evs.cons rfl Evs.nil)) rfl ?_) | (refine Ops.k_callf 14 ?_; refine Ops.callV shelves_fn Evs.nil rfl ?_) | (refine Ops.k_callf 34 ?_; refine Ops.callV kCN (Evs.cons rfl (Evs.cons rfl Evs.nil)) rfl ?_) | (refine Ops.k_callf 33 ?_; refine Ops.callV q2 (Evs.cons rfl (Evs.cons rfl Evs.nil)) rfl ?_) | (refine Ops.k_callf 37 ?_; refine Ops.callV kCI (Evs.cons rfl (Evs.cons rfl Evs.nil)) rfl ?_) | (refine Ops.k_callf 33 ?_; refine Ops.callV q3 (Evs.cons rfl (Evs.cons rfl Evs.nil)) rfl ?_)) | (apply OpW.k_call; first | (apply OpW.k_callf 23; exact OpW.callV kLF (Evs.cons rfl (Evs.cons rfl (Evs.cons rfl Evs.nil)))) | (apply OpW.k_callf 24; exact OpW.callV kCR (Evs.cons rfl Evs.nil)) | (apply OpW.k_callf 25; exact OpW.callV kRF (Evs.cons rfl Evs.nil)) | (apply OpW.k_callf 26; exact OpW.callV kCL (Evs.cons rfl (Evs.cons rfl (Evs.cons rfl Evs.nil)))) | (apply OpW.k_callf 27; exact OpW.callV kC (Evs.cons rfl (Evs.cons rfl (Evs.cons rfl Evs.nil)))) | (apply OpW.k_callf 30; exact OpW.callV kN (Evs.cons rfl (Evs.cons rfl Evs.nil))) | (apply OpW.k_callf 31; exact OpW.callV kOF (Evs.cons rfl Evs.nil)) | (apply OpW.k_callf 32; exact OpW.callV kLi (Evs.cons rfl (Evs.cons rfl Evs.nil))) | (apply OpW.k_callf 35; exact OpW.callV kCh (Evs.cons rfl (Evs.cons rfl Evs.nil))) | (apply OpW.k_callf 36; exact OpW.callV kCF (Evs.cons rfl (Evs.cons rfl Evs.nil))) | (apply OpW.k_callf 14; exact OpW.callV shelves_fn Evs.nil) | (apply OpW.k_callf 34; exact OpW.callV kCN (Evs.cons rfl (Evs.cons rfl Evs.nil))) | (apply OpW.k_callf 33; exact OpW.callV q2 (Evs.cons rfl (Evs.cons rfl Evs.nil))) | (apply OpW.k_callf 37; exact OpW.callV kCI (Evs.cons rfl (Evs.cons rfl Evs.nil))) | (apply OpW.k_callf 33; exact OpW.callV q3 (Evs.cons rfl (Evs.cons rfl Evs.nil)))) | refine goR ?_ | refine goP ?_ | apply PSeq.cons | apply PSeq.yes rfl rfl rfl | exact goW | fail)
      all_goals exact Fin.ret Ent.refl (Outs.one rfl rfl) rfl
  have h0 : layoutE r c l x = 0 := by omega
  obtain ⟨g1, g2, g3, g4⟩ := layoutE_ok h0
  have hbd := rackE_bd g1
  have kCl : PFn Tryd.prog 29 [.agg [.int r, .int c], .offers l, .strs x] (· = .touches (clashX r c l x)) := by
    obtain ⟨R, rfl⟩ := Int.eq_ofNat_of_zero_le (show 0 ≤ r by omega)
    obtain ⟨C, rfl⟩ := Int.eq_ofNat_of_zero_le (show 0 ≤ c by omega)
    unfold clashX
    rw [Int.toNat_natCast]
    exact clashesIn_fn R C (by omega) (by omega) l hOB (findO_nil g2) x (len_nat g3) (by omega) g4
  have q1 := equal_touch (clashX r c l x) (by have := clAll_len (hX l x) c.toNat x.length x.length; unfold clashX; omega)
  rw [h0] at kLF kCL kC
  have n1 : ¬ offersE l ≠ 0 := by omega
  have n0 : offersE l = 0 := by omega
  have en : cnt1E l x = listE l x := by unfold cnt1E; rw [if_neg n1]
  rw [en] at kN
  rw [n0] at kOF
  by_cases n2 : listE l x ≠ 0
  · rw [if_pos n2] at kN
    generalize listE l x = li at *
    by_cases c1 : chgE x y ≠ 0
    · rw [if_pos c1] at kCh
      generalize chgE x y = ce at *
      repeat' (first | refine goH ?_ | (refine Ops.k_b_eql ?_; first | (refine Ops.val' rfl (OpV.eql_t rfl rfl (by omega)) ?_) | (refine Ops.val' rfl (OpV.eql_f rfl rfl (by omega)) ?_)) | (refine Ops.k_b_neq ?_; first | (refine Ops.val' rfl (OpV.neq_f rfl rfl (by omega)) ?_) | (refine Ops.val' rfl (OpV.neq_t rfl rfl (by omega)) ?_)) | refine goV ?_ | refine goB (fun b => ?_) | refine goG ?_ | (refine Ops.k_guard ?_; first | (refine Ops.guard_dec rfl rfl (fun hc => ?_) (fun hc => ?_) <;> try (exfalso; omega)) | refine Ops.guard_split rfl rfl (fun hc => ?_) (fun hc => ?_)) | refine goI ?_ | (refine Cw.k_cond ?_; first | (refine Cw.cond_dec rfl (fun hc => ?_) (fun hc => ?_) <;> try (exfalso; omega)) | refine Cw.cond_bool rfl (fun hc => ?_) (fun hc => ?_)) | (refine Ops.k_calla ?_; first | (refine Ops.k_callf 23 ?_; refine Ops.callV kLF (Evs.cons rfl (Evs.cons rfl (Evs.cons rfl Evs.nil))) rfl ?_) | (refine Ops.k_callf 24 ?_; refine Ops.callV kCR (Evs.cons rfl Evs.nil) rfl ?_) | (refine Ops.k_callf 25 ?_; refine Ops.callV kRF (Evs.cons rfl Evs.nil) rfl ?_) | (refine Ops.k_callf 26 ?_; refine Ops.callV kCL (Evs.cons rfl (Evs.cons rfl (Evs.cons rfl Evs.nil))) rfl ?_) | (refine Ops.k_callf 27 ?_; refine Ops.callV kC (Evs.cons rfl (Evs.cons rfl (Evs.cons rfl Evs.nil))) rfl ?_) | (refine Ops.k_callf 30 ?_; refine Ops.callV kN (Evs.cons rfl (Evs.cons rfl Evs.nil)) rfl ?_) | (refine Ops.k_callf 31 ?_; refine Ops.callV kOF (Evs.cons rfl Evs.nil) rfl ?_) | (refine Ops.k_callf 32 ?_; refine Ops.callV kLi (Evs.cons rfl (Evs.cons rfl Evs.nil)) rfl ?_) | (refine Ops.k_callf 35 ?_; refine Ops.callV kCh (Evs.cons rfl (Evs.cons rfl Evs.nil)) rfl ?_) | (refine Ops.k_callf 36 ?_; refine Ops.callV kCF (Evs.cons rfl (Evs.cons rfl Evs.nil)) rfl ?_) | (refine Ops.k_callf 14 ?_; refine Ops.callV shelves_fn Evs.nil rfl ?_) | (refine Ops.k_callf 29 ?_; refine Ops.callV kCl (Evs.cons rfl (Evs.cons rfl (Evs.cons rfl Evs.nil))) rfl ?_) | (refine Ops.k_callf 28 ?_; refine Ops.callV q1 (Evs.cons rfl (Evs.cons rfl Evs.nil)) rfl ?_)) | (apply OpW.k_call; first | (apply OpW.k_callf 23; exact OpW.callV kLF (Evs.cons rfl (Evs.cons rfl (Evs.cons rfl Evs.nil)))) | (apply OpW.k_callf 24; exact OpW.callV kCR (Evs.cons rfl Evs.nil)) | (apply OpW.k_callf 25; exact OpW.callV kRF (Evs.cons rfl Evs.nil)) | (apply OpW.k_callf 26; exact OpW.callV kCL (Evs.cons rfl (Evs.cons rfl (Evs.cons rfl Evs.nil)))) | (apply OpW.k_callf 27; exact OpW.callV kC (Evs.cons rfl (Evs.cons rfl (Evs.cons rfl Evs.nil)))) | (apply OpW.k_callf 30; exact OpW.callV kN (Evs.cons rfl (Evs.cons rfl Evs.nil))) | (apply OpW.k_callf 31; exact OpW.callV kOF (Evs.cons rfl Evs.nil)) | (apply OpW.k_callf 32; exact OpW.callV kLi (Evs.cons rfl (Evs.cons rfl Evs.nil))) | (apply OpW.k_callf 35; exact OpW.callV kCh (Evs.cons rfl (Evs.cons rfl Evs.nil))) | (apply OpW.k_callf 36; exact OpW.callV kCF (Evs.cons rfl (Evs.cons rfl Evs.nil))) | (apply OpW.k_callf 14; exact OpW.callV shelves_fn Evs.nil) | (apply OpW.k_callf 29; exact OpW.callV kCl (Evs.cons rfl (Evs.cons rfl (Evs.cons rfl Evs.nil)))) | (apply OpW.k_callf 28; exact OpW.callV q1 (Evs.cons rfl (Evs.cons rfl Evs.nil)))) | refine goR ?_ | refine goP ?_ | apply PSeq.cons | apply PSeq.yes rfl rfl rfl | exact goW | fail)
      all_goals exact Fin.ret Ent.refl (Outs.one rfl rfl) rfl
    · have c0 : chgE x y = 0 := by omega
      have kCI := changedIn_fn x y (by omega) (chgE_ok c0)
      have q3 := equalInts_same (difN x y x.length) (by have := difN_len x y x.length; omega)
      rw [c0] at kCh kCF
      repeat' (first | refine goH ?_ | (refine Ops.k_b_eql ?_; first | (refine Ops.val' rfl (OpV.eql_t rfl rfl (by omega)) ?_) | (refine Ops.val' rfl (OpV.eql_f rfl rfl (by omega)) ?_)) | (refine Ops.k_b_neq ?_; first | (refine Ops.val' rfl (OpV.neq_f rfl rfl (by omega)) ?_) | (refine Ops.val' rfl (OpV.neq_t rfl rfl (by omega)) ?_)) | refine goV ?_ | refine goB (fun b => ?_) | refine goG ?_ | (refine Ops.k_guard ?_; first | (refine Ops.guard_dec rfl rfl (fun hc => ?_) (fun hc => ?_) <;> try (exfalso; omega)) | refine Ops.guard_split rfl rfl (fun hc => ?_) (fun hc => ?_)) | refine goI ?_ | (refine Cw.k_cond ?_; first | (refine Cw.cond_dec rfl (fun hc => ?_) (fun hc => ?_) <;> try (exfalso; omega)) | refine Cw.cond_bool rfl (fun hc => ?_) (fun hc => ?_)) | (refine Ops.k_calla ?_; first | (refine Ops.k_callf 23 ?_; refine Ops.callV kLF (Evs.cons rfl (Evs.cons rfl (Evs.cons rfl Evs.nil))) rfl ?_) | (refine Ops.k_callf 24 ?_; refine Ops.callV kCR (Evs.cons rfl Evs.nil) rfl ?_) | (refine Ops.k_callf 25 ?_; refine Ops.callV kRF (Evs.cons rfl Evs.nil) rfl ?_) | (refine Ops.k_callf 26 ?_; refine Ops.callV kCL (Evs.cons rfl (Evs.cons rfl (Evs.cons rfl Evs.nil))) rfl ?_) | (refine Ops.k_callf 27 ?_; refine Ops.callV kC (Evs.cons rfl (Evs.cons rfl (Evs.cons rfl Evs.nil))) rfl ?_) | (refine Ops.k_callf 30 ?_; refine Ops.callV kN (Evs.cons rfl (Evs.cons rfl Evs.nil)) rfl ?_) | (refine Ops.k_callf 31 ?_; refine Ops.callV kOF (Evs.cons rfl Evs.nil) rfl ?_) | (refine Ops.k_callf 32 ?_; refine Ops.callV kLi (Evs.cons rfl (Evs.cons rfl Evs.nil)) rfl ?_) | (refine Ops.k_callf 35 ?_; refine Ops.callV kCh (Evs.cons rfl (Evs.cons rfl Evs.nil)) rfl ?_) | (refine Ops.k_callf 36 ?_; refine Ops.callV kCF (Evs.cons rfl (Evs.cons rfl Evs.nil)) rfl ?_) | (refine Ops.k_callf 14 ?_; refine Ops.callV shelves_fn Evs.nil rfl ?_) | (refine Ops.k_callf 29 ?_; refine Ops.callV kCl (Evs.cons rfl (Evs.cons rfl (Evs.cons rfl Evs.nil))) rfl ?_) | (refine Ops.k_callf 28 ?_; refine Ops.callV q1 (Evs.cons rfl (Evs.cons rfl Evs.nil)) rfl ?_) | (refine Ops.k_callf 37 ?_; refine Ops.callV kCI (Evs.cons rfl (Evs.cons rfl Evs.nil)) rfl ?_) | (refine Ops.k_callf 33 ?_; refine Ops.callV q3 (Evs.cons rfl (Evs.cons rfl Evs.nil)) rfl ?_)) | (apply OpW.k_call; first | (apply OpW.k_callf 23; exact OpW.callV kLF (Evs.cons rfl (Evs.cons rfl (Evs.cons rfl Evs.nil)))) | (apply OpW.k_callf 24; exact OpW.callV kCR (Evs.cons rfl Evs.nil)) | (apply OpW.k_callf 25; exact OpW.callV kRF (Evs.cons rfl Evs.nil)) | (apply OpW.k_callf 26; exact OpW.callV kCL (Evs.cons rfl (Evs.cons rfl (Evs.cons rfl Evs.nil)))) | (apply OpW.k_callf 27; exact OpW.callV kC (Evs.cons rfl (Evs.cons rfl (Evs.cons rfl Evs.nil)))) | (apply OpW.k_callf 30; exact OpW.callV kN (Evs.cons rfl (Evs.cons rfl Evs.nil))) | (apply OpW.k_callf 31; exact OpW.callV kOF (Evs.cons rfl Evs.nil)) | (apply OpW.k_callf 32; exact OpW.callV kLi (Evs.cons rfl (Evs.cons rfl Evs.nil))) | (apply OpW.k_callf 35; exact OpW.callV kCh (Evs.cons rfl (Evs.cons rfl Evs.nil))) | (apply OpW.k_callf 36; exact OpW.callV kCF (Evs.cons rfl (Evs.cons rfl Evs.nil))) | (apply OpW.k_callf 14; exact OpW.callV shelves_fn Evs.nil) | (apply OpW.k_callf 29; exact OpW.callV kCl (Evs.cons rfl (Evs.cons rfl (Evs.cons rfl Evs.nil)))) | (apply OpW.k_callf 28; exact OpW.callV q1 (Evs.cons rfl (Evs.cons rfl Evs.nil))) | (apply OpW.k_callf 37; exact OpW.callV kCI (Evs.cons rfl (Evs.cons rfl Evs.nil))) | (apply OpW.k_callf 33; exact OpW.callV q3 (Evs.cons rfl (Evs.cons rfl Evs.nil)))) | refine goR ?_ | refine goP ?_ | apply PSeq.cons | apply PSeq.yes rfl rfl rfl | exact goW | fail)
      all_goals exact Fin.ret Ent.refl (Outs.one rfl rfl) rfl
  have n3 : listE l x = 0 := by omega
  rw [n3] at kN kLi
  have kCN := countsIn_fn l (by omega) x (by omega) (listE_ok n3)
  have q2 := equalInts_same (cntF l x) (by rw [cntF_len]; omega)
  by_cases c1 : chgE x y ≠ 0
  · rw [if_pos c1] at kCh
    generalize chgE x y = ce at *
    repeat' (first | refine goH ?_ | (refine Ops.k_b_eql ?_; first | (refine Ops.val' rfl (OpV.eql_t rfl rfl (by omega)) ?_) | (refine Ops.val' rfl (OpV.eql_f rfl rfl (by omega)) ?_)) | (refine Ops.k_b_neq ?_; first | (refine Ops.val' rfl (OpV.neq_f rfl rfl (by omega)) ?_) | (refine Ops.val' rfl (OpV.neq_t rfl rfl (by omega)) ?_)) | refine goV ?_ | refine goB (fun b => ?_) | refine goG ?_ | (refine Ops.k_guard ?_; first | (refine Ops.guard_dec rfl rfl (fun hc => ?_) (fun hc => ?_) <;> try (exfalso; omega)) | refine Ops.guard_split rfl rfl (fun hc => ?_) (fun hc => ?_)) | refine goI ?_ | (refine Cw.k_cond ?_; first | (refine Cw.cond_dec rfl (fun hc => ?_) (fun hc => ?_) <;> try (exfalso; omega)) | refine Cw.cond_bool rfl (fun hc => ?_) (fun hc => ?_)) | (refine Ops.k_calla ?_; first | (refine Ops.k_callf 23 ?_; refine Ops.callV kLF (Evs.cons rfl (Evs.cons rfl (Evs.cons rfl Evs.nil))) rfl ?_) | (refine Ops.k_callf 24 ?_; refine Ops.callV kCR (Evs.cons rfl Evs.nil) rfl ?_) | (refine Ops.k_callf 25 ?_; refine Ops.callV kRF (Evs.cons rfl Evs.nil) rfl ?_) | (refine Ops.k_callf 26 ?_; refine Ops.callV kCL (Evs.cons rfl (Evs.cons rfl (Evs.cons rfl Evs.nil))) rfl ?_) | (refine Ops.k_callf 27 ?_; refine Ops.callV kC (Evs.cons rfl (Evs.cons rfl (Evs.cons rfl Evs.nil))) rfl ?_) | (refine Ops.k_callf 30 ?_; refine Ops.callV kN (Evs.cons rfl (Evs.cons rfl Evs.nil)) rfl ?_) | (refine Ops.k_callf 31 ?_; refine Ops.callV kOF (Evs.cons rfl Evs.nil) rfl ?_) | (refine Ops.k_callf 32 ?_; refine Ops.callV kLi (Evs.cons rfl (Evs.cons rfl Evs.nil)) rfl ?_) | (refine Ops.k_callf 35 ?_; refine Ops.callV kCh (Evs.cons rfl (Evs.cons rfl Evs.nil)) rfl ?_) | (refine Ops.k_callf 36 ?_; refine Ops.callV kCF (Evs.cons rfl (Evs.cons rfl Evs.nil)) rfl ?_) | (refine Ops.k_callf 14 ?_; refine Ops.callV shelves_fn Evs.nil rfl ?_) | (refine Ops.k_callf 29 ?_; refine Ops.callV kCl (Evs.cons rfl (Evs.cons rfl (Evs.cons rfl Evs.nil))) rfl ?_) | (refine Ops.k_callf 28 ?_; refine Ops.callV q1 (Evs.cons rfl (Evs.cons rfl Evs.nil)) rfl ?_) | (refine Ops.k_callf 34 ?_; refine Ops.callV kCN (Evs.cons rfl (Evs.cons rfl Evs.nil)) rfl ?_) | (refine Ops.k_callf 33 ?_; refine Ops.callV q2 (Evs.cons rfl (Evs.cons rfl Evs.nil)) rfl ?_)) | (apply OpW.k_call; first | (apply OpW.k_callf 23; exact OpW.callV kLF (Evs.cons rfl (Evs.cons rfl (Evs.cons rfl Evs.nil)))) | (apply OpW.k_callf 24; exact OpW.callV kCR (Evs.cons rfl Evs.nil)) | (apply OpW.k_callf 25; exact OpW.callV kRF (Evs.cons rfl Evs.nil)) | (apply OpW.k_callf 26; exact OpW.callV kCL (Evs.cons rfl (Evs.cons rfl (Evs.cons rfl Evs.nil)))) | (apply OpW.k_callf 27; exact OpW.callV kC (Evs.cons rfl (Evs.cons rfl (Evs.cons rfl Evs.nil)))) | (apply OpW.k_callf 30; exact OpW.callV kN (Evs.cons rfl (Evs.cons rfl Evs.nil))) | (apply OpW.k_callf 31; exact OpW.callV kOF (Evs.cons rfl Evs.nil)) | (apply OpW.k_callf 32; exact OpW.callV kLi (Evs.cons rfl (Evs.cons rfl Evs.nil))) | (apply OpW.k_callf 35; exact OpW.callV kCh (Evs.cons rfl (Evs.cons rfl Evs.nil))) | (apply OpW.k_callf 36; exact OpW.callV kCF (Evs.cons rfl (Evs.cons rfl Evs.nil))) | (apply OpW.k_callf 14; exact OpW.callV shelves_fn Evs.nil) | (apply OpW.k_callf 29; exact OpW.callV kCl (Evs.cons rfl (Evs.cons rfl (Evs.cons rfl Evs.nil)))) | (apply OpW.k_callf 28; exact OpW.callV q1 (Evs.cons rfl (Evs.cons rfl Evs.nil))) | (apply OpW.k_callf 34; exact OpW.callV kCN (Evs.cons rfl (Evs.cons rfl Evs.nil))) | (apply OpW.k_callf 33; exact OpW.callV q2 (Evs.cons rfl (Evs.cons rfl Evs.nil)))) | refine goR ?_ | refine goP ?_ | apply PSeq.cons | apply PSeq.yes rfl rfl rfl | exact goW | fail)
    all_goals exact Fin.ret Ent.refl (Outs.one rfl rfl) rfl
  · have c0 : chgE x y = 0 := by omega
    have kCI := changedIn_fn x y (by omega) (chgE_ok c0)
    have q3 := equalInts_same (difN x y x.length) (by have := difN_len x y x.length; omega)
    rw [c0] at kCh kCF
    repeat' (first | refine goH ?_ | (refine Ops.k_b_eql ?_; first | (refine Ops.val' rfl (OpV.eql_t rfl rfl (by omega)) ?_) | (refine Ops.val' rfl (OpV.eql_f rfl rfl (by omega)) ?_)) | (refine Ops.k_b_neq ?_; first | (refine Ops.val' rfl (OpV.neq_f rfl rfl (by omega)) ?_) | (refine Ops.val' rfl (OpV.neq_t rfl rfl (by omega)) ?_)) | refine goV ?_ | refine goB (fun b => ?_) | refine goG ?_ | (refine Ops.k_guard ?_; first | (refine Ops.guard_dec rfl rfl (fun hc => ?_) (fun hc => ?_) <;> try (exfalso; omega)) | refine Ops.guard_split rfl rfl (fun hc => ?_) (fun hc => ?_)) | refine goI ?_ | (refine Cw.k_cond ?_; first | (refine Cw.cond_dec rfl (fun hc => ?_) (fun hc => ?_) <;> try (exfalso; omega)) | refine Cw.cond_bool rfl (fun hc => ?_) (fun hc => ?_)) | (refine Ops.k_calla ?_; first | (refine Ops.k_callf 23 ?_; refine Ops.callV kLF (Evs.cons rfl (Evs.cons rfl (Evs.cons rfl Evs.nil))) rfl ?_) | (refine Ops.k_callf 24 ?_; refine Ops.callV kCR (Evs.cons rfl Evs.nil) rfl ?_) | (refine Ops.k_callf 25 ?_; refine Ops.callV kRF (Evs.cons rfl Evs.nil) rfl ?_) | (refine Ops.k_callf 26 ?_; refine Ops.callV kCL (Evs.cons rfl (Evs.cons rfl (Evs.cons rfl Evs.nil))) rfl ?_) | (refine Ops.k_callf 27 ?_; refine Ops.callV kC (Evs.cons rfl (Evs.cons rfl (Evs.cons rfl Evs.nil))) rfl ?_) | (refine Ops.k_callf 30 ?_; refine Ops.callV kN (Evs.cons rfl (Evs.cons rfl Evs.nil)) rfl ?_) | (refine Ops.k_callf 31 ?_; refine Ops.callV kOF (Evs.cons rfl Evs.nil) rfl ?_) | (refine Ops.k_callf 32 ?_; refine Ops.callV kLi (Evs.cons rfl (Evs.cons rfl Evs.nil)) rfl ?_) | (refine Ops.k_callf 35 ?_; refine Ops.callV kCh (Evs.cons rfl (Evs.cons rfl Evs.nil)) rfl ?_) | (refine Ops.k_callf 36 ?_; refine Ops.callV kCF (Evs.cons rfl (Evs.cons rfl Evs.nil)) rfl ?_) | (refine Ops.k_callf 14 ?_; refine Ops.callV shelves_fn Evs.nil rfl ?_) | (refine Ops.k_callf 29 ?_; refine Ops.callV kCl (Evs.cons rfl (Evs.cons rfl (Evs.cons rfl Evs.nil))) rfl ?_) | (refine Ops.k_callf 28 ?_; refine Ops.callV q1 (Evs.cons rfl (Evs.cons rfl Evs.nil)) rfl ?_) | (refine Ops.k_callf 34 ?_; refine Ops.callV kCN (Evs.cons rfl (Evs.cons rfl Evs.nil)) rfl ?_) | (refine Ops.k_callf 33 ?_; refine Ops.callV q2 (Evs.cons rfl (Evs.cons rfl Evs.nil)) rfl ?_) | (refine Ops.k_callf 37 ?_; refine Ops.callV kCI (Evs.cons rfl (Evs.cons rfl Evs.nil)) rfl ?_) | (refine Ops.k_callf 33 ?_; refine Ops.callV q3 (Evs.cons rfl (Evs.cons rfl Evs.nil)) rfl ?_)) | (apply OpW.k_call; first | (apply OpW.k_callf 23; exact OpW.callV kLF (Evs.cons rfl (Evs.cons rfl (Evs.cons rfl Evs.nil)))) | (apply OpW.k_callf 24; exact OpW.callV kCR (Evs.cons rfl Evs.nil)) | (apply OpW.k_callf 25; exact OpW.callV kRF (Evs.cons rfl Evs.nil)) | (apply OpW.k_callf 26; exact OpW.callV kCL (Evs.cons rfl (Evs.cons rfl (Evs.cons rfl Evs.nil)))) | (apply OpW.k_callf 27; exact OpW.callV kC (Evs.cons rfl (Evs.cons rfl (Evs.cons rfl Evs.nil)))) | (apply OpW.k_callf 30; exact OpW.callV kN (Evs.cons rfl (Evs.cons rfl Evs.nil))) | (apply OpW.k_callf 31; exact OpW.callV kOF (Evs.cons rfl Evs.nil)) | (apply OpW.k_callf 32; exact OpW.callV kLi (Evs.cons rfl (Evs.cons rfl Evs.nil))) | (apply OpW.k_callf 35; exact OpW.callV kCh (Evs.cons rfl (Evs.cons rfl Evs.nil))) | (apply OpW.k_callf 36; exact OpW.callV kCF (Evs.cons rfl (Evs.cons rfl Evs.nil))) | (apply OpW.k_callf 14; exact OpW.callV shelves_fn Evs.nil) | (apply OpW.k_callf 29; exact OpW.callV kCl (Evs.cons rfl (Evs.cons rfl (Evs.cons rfl Evs.nil)))) | (apply OpW.k_callf 28; exact OpW.callV q1 (Evs.cons rfl (Evs.cons rfl Evs.nil))) | (apply OpW.k_callf 34; exact OpW.callV kCN (Evs.cons rfl (Evs.cons rfl Evs.nil))) | (apply OpW.k_callf 33; exact OpW.callV q2 (Evs.cons rfl (Evs.cons rfl Evs.nil))) | (apply OpW.k_callf 37; exact OpW.callV kCI (Evs.cons rfl (Evs.cons rfl Evs.nil))) | (apply OpW.k_callf 33; exact OpW.callV q3 (Evs.cons rfl (Evs.cons rfl Evs.nil)))) | refine goR ?_ | refine goP ?_ | apply PSeq.cons | apply PSeq.yes rfl rfl rfl | exact goW | fail)
    all_goals exact Fin.ret Ent.refl (Outs.one rfl rfl) rfl
end Lg
