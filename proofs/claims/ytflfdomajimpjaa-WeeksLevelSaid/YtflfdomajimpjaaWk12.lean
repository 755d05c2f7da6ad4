/- A part of the proof of a law of this seat: it adds no condition. By an AI agent. -/
import Derived.Test.YtflfdomajimpjaaWk3
section
set_option linter.all false
set_option maxRecDepth 100000
set_option maxHeartbeats 8000000
namespace Lg
open Go Go.Proofs

/-! ### moving one job after the other, in plain terms -/
def forF {σ : Type} (f : Nat → σ → σ) : Nat → Nat → σ → σ
  | _, 0, s => s
  | k, n + 1, s => forF f (k + 1) n (f k s)
theorem forF_step {σ : Type} {f : Nat → σ → σ} {k D : Nat} {s : σ} (h : k < D) : forF f k (D - k) s = forF f (k + 1) (D - (k + 1)) (f k s) := by
  obtain ⟨m, hm⟩ : ∃ m, D - k = m + 1 := ⟨D - k - 1, by omega⟩
  rw [hm, forF, show D - (k + 1) = m by omega]
theorem forF_end {σ : Type} {f : Nat → σ → σ} {k D : Nat} {s : σ} (h : ¬ k < D) : forF f k (D - k) s = s := by
  rw [show D - k = 0 by omega, forF]
theorem forF_ind {σ : Type} {f : Nat → σ → σ} (p : σ → Prop) (D : Nat) (hf : ∀ k s, k < D → p s → p (f k s)) : ∀ (n k : Nat) (s : σ), k + n ≤ D → p s → p (forF f k n s)
  | 0, k, s, _, hp => by rw [forF]; exact hp
  | n + 1, k, s, h, hp => by
    rw [forF]
    exact forF_ind p D hf n (k + 1) _ (by omega) (hf k s (by omega) hp)
abbrev MSt := Int × Int × Int
abbrev atI (L : List Int) (i : Int) : Int := L.getD i.toNat 0
def gainI (L : List Int) (x o d : Int) : Int := 2 * x * (atI L o - atI L d - x)
def stepM (L : List Int) (i : Int) (x o d : Int) (s : MSt) : MSt := if d ≠ o ∧ s.2.2 < gainI L x o d then (i, d, gainI L x o d) else s
def innM (J : List Int) (D : Nat) (now : List Int) (i : Nat) (s : MSt) : MSt := forF (fun d s => stepM (ldsOf J D now) i (atI J i) (atI now i) d s) 0 D s
def selM (J : List Int) (D : Nat) (now : List Int) : MSt := forF (innM J D now) 0 J.length (-1, 0, 0)
def movM (J : List Int) (D : Nat) : Nat → List Int → List Int
  | 0, now => now
  | n + 1, now => if (selM J D now).1 < 0 then now else movM J D n (now.set (selM J D now).1.toNat (selM J D now).2.1)
def sqL : List Int → Int
  | [] => 0
  | x :: l => x * x + sqL l
theorem sqL_app : ∀ (a b : List Int), sqL (a ++ b) = sqL a + sqL b
  | [], b => by simp [sqL]
  | x :: a, b => by rw [List.cons_append, sqL, sqL, sqL_app a b]; omega
theorem sqL_take {l : List Int} {k : Nat} {x : Int} (h : l[k]? = some x) : sqL (l.take (k + 1)) = sqL (l.take k) + x * x := by
  rw [take_at h, sqL_app]
  simp [sqL]
theorem sqL_set {l : List Int} {k : Nat} {x v : Int} (h : l[k]? = some x) : sqL (l.set k v) = sqL l - x * x + v * v := by
  have hk := (List.getElem?_eq_some_iff.1 h).1
  have e : l = l.take k ++ x :: l.drop (k + 1) := by rw [← drop_at h, List.take_append_drop]
  have e2 : l.set k v = l.take k ++ v :: l.drop (k + 1) := by
    rw [List.set_eq_take_append_cons_drop, if_pos hk]
  have h1 : sqL l = sqL (l.take k) + (x * x + sqL (l.drop (k + 1))) := by
    conv => lhs; rw [e]
    rw [sqL_app, sqL]
  rw [e2, sqL_app, sqL, h1]
  omega
theorem bumpN {L : List Int} {d : Nat} {v x : Int} (h : L[d]? = some v) : bump L (d : Int) x = L.set d (v + x) := by
  have := bump_at (d := (d : Int)) (x := x) (by rw [Int.toNat_natCast]; exact h)
  rwa [Int.toNat_natCast] at this
theorem bump_comm (L : List Int) (a b p q : Int) : bump (bump L a p) b q = bump (bump L b q) a p := by
  apply List.ext_getElem?
  intro i
  unfold bump
  simp only [List.getD_eq_getElem?_getD, List.getElem?_set, List.length_set]
  by_cases hab : a.toNat = b.toNat
  · rw [hab]
    by_cases hi : b.toNat = i
    · subst hi
      by_cases hl : b.toNat < L.length
      · simp [hl]; omega
      · simp [hl]
    · simp [hi]
  · by_cases h1 : b.toNat = i
    · subst h1
      have : ¬ b.toNat = a.toNat := fun e => hab e.symm
      simp [hab, this]
    · by_cases h2 : a.toNat = i
      · subst h2
        have : ¬ b.toNat = a.toNat := fun e => hab e.symm
        simp [hab, this]
      · simp [h1, h2]
theorem bump_undo (L : List Int) (a p : Int) : bump (bump L a p) a (-p) = L := by
  apply List.ext_getElem?
  intro i
  unfold bump
  simp only [List.getD_eq_getElem?_getD, List.getElem?_set, List.length_set]
  by_cases hi : a.toNat = i
  · subst hi
    by_cases hl : a.toNat < L.length
    · simp [hl]; omega
    · simp [hl]
  · simp [hi]
theorem ldsF_bump : ∀ (ds J : List Int) (L : List Int) (a p : Int), ldsF (bump L a p) ds J = bump (ldsF L ds J) a p
  | [], J, L, a, p => by rw [ldsF, ldsF]
  | d :: ds, [], L, a, p => by rw [ldsF, ldsF]
  | d :: ds, x :: J, L, a, p => by rw [ldsF, ldsF, bump_comm, ldsF_bump ds J]
theorem ldsF_set : ∀ (ds J : List Int) (L : List Int) (i : Nat) (o d x : Int), ds[i]? = some o → J[i]? = some x → ldsF L (ds.set i d) J = bump (bump (ldsF L ds J) o (-x)) d x
  | [], J, L, i, o, d, x, h, _ => by cases h
  | e :: ds, [], L, i, o, d, x, _, h => by cases h
  | e :: ds, y :: J, L, 0, o, d, x, h1, h2 => by
    simp at h1 h2
    subst h1
    subst h2
    rw [List.set_cons_zero, ldsF, ldsF, ldsF_bump, ldsF_bump, bump_undo]
  | e :: ds, y :: J, L, i + 1, o, d, x, h1, h2 => by
    simp at h1 h2
    rw [List.set_cons_succ, ldsF, ldsF, ldsF_set ds J (bump L e y) i o d x h1 h2]
theorem ldsOf_len (J : List Int) (D : Nat) (ds : List Int) : (ldsOf J D ds).length = D := by
  unfold ldsOf
  rw [ldsF_len, List.length_replicate, Int.toNat_natCast]
theorem ldsOf_set {J ds : List Int} {D : Nat} {i : Nat} {o d x : Int} (h1 : ds[i]? = some o) (h2 : J[i]? = some x) : ldsOf J D (ds.set i d) = bump (bump (ldsOf J D ds) o (-x)) d x := ldsF_set ds J _ i o d x h1 h2
theorem atI_at {L : List Int} {i : Nat} {v : Int} (h : L[i]? = some v) : atI L i = v := by
  unfold atI
  rw [Int.toNat_natCast, List.getD_eq_getElem?_getD, h]
  rfl
/-- the sum of squares becomes less by the gain -/
theorem sq_move {L : List Int} {o d : Nat} {x : Int} (ho : o < L.length) (hd : d < L.length) (hne : d ≠ o) : sqL (bump (bump L o (-x)) d x) = sqL L - gainI L x o d := by
  obtain ⟨vo, h1⟩ := at_lt ho
  obtain ⟨vd, h2⟩ := at_lt hd
  have h3 : (bump L o (-x))[d]? = some vd := by rw [bumpN h1, List.getElem?_set, if_neg (fun e => hne e.symm)]; exact h2
  rw [bumpN h3, sqL_set h3, bumpN h1, sqL_set h1]
  unfold gainI
  rw [atI_at h1, atI_at h2]
  have e1 : (vo + -x) * (vo + -x) = vo * vo - 2 * (x * vo) + x * x := by
    simp only [Int.add_mul, Int.mul_add, Int.neg_mul, Int.mul_neg, Int.neg_neg, Int.mul_comm vo x]; omega
  have e2 : (vd + x) * (vd + x) = vd * vd + 2 * (x * vd) + x * x := by
    rw [Int.add_mul, Int.mul_add, Int.mul_add, Int.mul_comm vd x]; omega
  have e3 : 2 * x * (vo - vd - x) = 2 * (x * vo) - 2 * (x * vd) - 2 * (x * x) := by
    simp only [Int.mul_assoc, Int.mul_sub]
  omega
theorem sq_same {L : List Int} {o : Int} {x : Int} : sqL (bump (bump L o (-x)) o x) = sqL L := by
  have := bump_undo L o (-x)
  rw [Int.neg_neg] at this
  rw [this]
/-- what the search holds -/
structure SelOk (J : List Int) (D : Nat) (now : List Int) (s : MSt) : Prop where
  no : s.1 < 0 → s.2.2 = 0
  ge : 0 ≤ s.2.2 ∧ s.2.2 ≤ 100000000000
  yes : 0 ≤ s.1 → s.1 < J.length ∧ (0 ≤ s.2.1 ∧ s.2.1 < D) ∧ s.2.1 ≠ atI now s.1 ∧ 0 < s.2.2
def bstM (now : List Int) (s : MSt) : List Int := if s.1 < 0 then now else now.set s.1.toNat s.2.1
theorem ldsF_bd : ∀ (ds J L : List Int) (m : Int), (∀ y ∈ L, 0 ≤ y ∧ y ≤ m) → (∀ x ∈ J, 0 ≤ x ∧ x ≤ 10000) → 0 ≤ m → ∀ y ∈ ldsF L ds J, 0 ≤ y ∧ y ≤ m + J.length * 10000
  | [], J, L, m, hL, _, hm, y, hy => by rw [ldsF] at hy; have := hL y hy; omega
  | d :: ds, [], L, m, hL, _, hm, y, hy => by rw [ldsF] at hy; have := hL y hy; simp; omega
  | d :: ds, x :: J, L, m, hL, hJ, hm, y, hy => by
    rw [ldsF] at hy
    have := ldsF_bd ds J (bump L d x) (m + 10000) (bump_bd hL (hJ x (by simp)) hm) (fun z hz => hJ z (by simp [hz])) (by omega) y hy
    simp
    omega
theorem lds_bd {J : List Int} {D : Nat} {ds : List Int} (hJ : ∀ x ∈ J, 0 ≤ x ∧ x ≤ 10000) (hl : J.length ≤ 15) : ∀ y ∈ ldsOf J D ds, 0 ≤ y ∧ y ≤ 150000 := by
  intro y hy
  have := ldsF_bd ds J (List.replicate D 0) 0 (fun z hz => by rw [List.eq_of_mem_replicate hz]; omega) hJ (by omega) y (by unfold ldsOf at hy; rwa [Int.toNat_natCast] at hy)
  omega
theorem gain_bd {x a b : Int} (hx : 0 ≤ x ∧ x ≤ 10000) (ha : 0 ≤ a ∧ a ≤ 150000) (hb : 0 ≤ b ∧ b ≤ 150000) : -100000000000 ≤ 2 * x * (a - b - x) ∧ 2 * x * (a - b - x) ≤ 100000000000 := by
  have h1 : 2 * x * (a - b - x) ≤ 20000 * 160000 := by
    rcases Int.le_total 0 (a - b - x) with h | h
    · exact Int.mul_le_mul (by omega) (by omega) h (by omega)
    · have := Int.mul_nonpos_of_nonneg_of_nonpos (show 0 ≤ 2 * x by omega) h
      omega
  have h2 : -(20000 * 160000) ≤ 2 * x * (a - b - x) := by
    rcases Int.le_total 0 (a - b - x) with h | h
    · have := Int.mul_nonneg (show 0 ≤ 2 * x by omega) h
      omega
    · have : 2 * x * (-(a - b - x)) ≤ 20000 * 160000 := Int.mul_le_mul (by omega) (by omega) (by omega) (by omega)
      rw [Int.mul_neg] at this
      omega
  omega
theorem sel_step {J : List Int} {D : Nat} {now L : List Int} {i d : Nat} {x : Int} {s : MSt} (h : SelOk J D now s) (hi : i < J.length) (hd : d < D) (hg : gainI L x (atI now i) d ≤ 100000000000) : SelOk J D now (stepM L i x (atI now i) d s) := by
  have h2 := h.ge
  unfold stepM
  by_cases hc : (d : Int) ≠ atI now i ∧ s.2.2 < gainI L x (atI now i) d
  · rw [if_pos hc]
    exact ⟨fun h3 => by simp only at h3; omega, by simp only; omega, fun _ => by simp only; exact ⟨by omega, by omega, hc.1, by omega⟩⟩
  · rw [if_neg hc]
    exact h
theorem sel_init (J : List Int) (D : Nat) (now : List Int) : SelOk J D now (-1, 0, 0) := ⟨fun _ => rfl, by simp, fun h => by simp at h⟩
theorem movM_stop {J : List Int} {D n : Nat} {now : List Int} (h : (selM J D now).1 < 0) : movM J D (n + 1) now = now := by rw [movM, if_pos h]
theorem movM_go {J : List Int} {D n : Nat} {now : List Int} (h : ¬ (selM J D now).1 < 0) : movM J D (n + 1) now = movM J D n (now.set (selM J D now).1.toNat (selM J D now).2.1) := by rw [movM, if_neg h]
theorem stepM_yes {L : List Int} {i x o d : Int} {s : MSt} (h : d ≠ o ∧ s.2.2 < gainI L x o d) : stepM L i x o d s = (i, d, gainI L x o d) := by unfold stepM; rw [if_pos h]
theorem stepM_no {L : List Int} {i x o d : Int} {s : MSt} (h : ¬ (d ≠ o ∧ s.2.2 < gainI L x o d)) : stepM L i x o d s = s := by unfold stepM; rw [if_neg h]
end Lg
end
section
set_option linter.all false
set_option maxRecDepth 100000
set_option maxHeartbeats 8000000
namespace Lg
open Go Go.Proofs

theorem sq_bd {l : List Int} (h : ∀ y ∈ l, 0 ≤ y ∧ y ≤ 1000000) : 0 ≤ sqL l ∧ sqL l ≤ l.length * 1000000000000 := by
  induction l with
  | nil => simp [sqL]
  | cons x l ih =>
    have h1 := ih (fun y hy => h y (by simp [hy]))
    have h2 := h x (by simp)
    have h3 : 0 ≤ x * x := Int.mul_nonneg h2.1 h2.1
    have h4 : x * x ≤ 1000000 * 1000000 := Int.mul_le_mul h2.2 h2.2 h2.1 (by omega)
    rw [sqL]
    simp
    omega
attribute [local irreducible] intRows sqL
theorem squares_fn (l : List Int) (hl : l.length ≤ 1000) (hb : ∀ y ∈ l, 0 ≤ y ∧ y ≤ 1000000) : PFn Try.prog 49 [.ints l] (· = .int (sqL l)) := by
  have hL := intRows_len l
  have h0 : (0 : Int) = sqL (l.take 0) := by rw [List.take_zero]; unfold sqL; rfl
  refine PFn.mk (Spec.body Try.func49 rfl rfl (Try.ntmps49) rfl fun w0 own0 M => ?_)
  repeat' (first | refine goH ?_ | refine goV ?_ | refine goI ?_ | (refine Cw.k_cond ?_; first | (refine Cw.cond_dec rfl (fun hc => ?_) (fun hc => ?_) <;> try (exfalso; omega)) | refine Cw.cond_bool rfl (fun hc => ?_) (fun hc => ?_)) | fail)
  refine Cw.loopI [(6, _), (7, _)] _ (fun q e cc => ∃ (k : Nat) (z : Int), q = l.length - k ∧ (k ≤ l.length ∧ z = sqL (l.take k)) ∧ e = [(3, .int z), (8, .int k)] ∧ cc = []) ⟨_, _, _, (Ent.mkP goSub goPm), 0, 0, rfl, ⟨by omega, h0⟩, rfl, rfl⟩ ?_
  rintro _ _ _ ⟨k, z, rfl, ⟨hk, hz⟩, rfl, rfl⟩
  by_cases hkl : k < l.length
  · obtain ⟨x, hx⟩ := at_lt hkl
    have r1 := intRows_at hx
    have hxb := hb x (List.mem_of_getElem? hx)
    have hT := sqL_take hx
    have hzb := sq_bd (l := l.take k) (fun y hy => hb y (List.mem_of_mem_take hy))
    rw [← hz] at hT hzb
    have h3 : 0 ≤ x * x := Int.mul_nonneg hxb.1 hxb.1
    have h4 : x * x ≤ 1000000 * 1000000 := Int.mul_le_mul hxb.2 hxb.2 hxb.1 (by omega)
    have hlk : ((l.take k).length : Int) ≤ 1000 := by rw [List.length_take]; omega
    have hmul : -9223372036854775808 ≤ x * x ∧ x * x ≤ 9223372036854775807 := by omega
    clear hx hz
    repeat' (first | refine goH ?_ | refine goV ?_ | refine goI ?_ | (refine Cw.k_cond ?_; first | (refine Cw.cond_dec rfl (fun hc => ?_) (fun hc => ?_) <;> try (exfalso; omega)) | refine Cw.cond_bool rfl (fun hc => ?_) (fun hc => ?_)) | fail)
    exact ⟨_, _, _, (Ent.mk goSub goTk), ⟨k + 1, _, rfl, ⟨by omega, hT.symm⟩, rfl, rfl⟩, by omega⟩
  · rw [List.take_of_length_le (by omega)] at hz
    subst hz
    repeat' (first | refine goH ?_ | refine goV ?_ | refine goI ?_ | (refine Cw.k_cond ?_; first | (refine Cw.cond_dec rfl (fun hc => ?_) (fun hc => ?_) <;> try (exfalso; omega)) | refine Cw.cond_bool rfl (fun hc => ?_) (fun hc => ?_)) | fail)
    exact Fin.ret (Ent.take goTk) (Outs.one rfl rfl) ⟨rfl, rfl⟩
end Lg
end
section
set_option linter.all false
set_option maxRecDepth 100000
set_option maxHeartbeats 8000000
namespace Lg
open Go Go.Proofs

theorem dayE_ok {J ds : List Int} {D : Int} (h : dayE J D ds = 0) : weekE J D = 0 ∧ lodE J D ds = 0 := by
  unfold dayE at h
  by_cases h1 : weekE J D ≠ 0
  · rw [if_pos h1] at h; exact absurd h h1
  · rw [if_neg h1] at h
    exact ⟨by omega, h⟩
theorem movM_len (J : List Int) (D : Nat) : ∀ (n : Nat) (now : List Int), (movM J D n now).length = now.length
  | 0, now => rfl
  | n + 1, now => by
    rw [movM]
    split
    · rfl
    · rw [movM_len J D n, List.length_set]
theorem movM_step {J : List Int} {D r k : Nat} {now : List Int} (h : k < r) : movM J D (r - k) now = if (selM J D now).1 < 0 then now else movM J D (r - (k + 1)) (now.set (selM J D now).1.toNat (selM J D now).2.1) := by
  obtain ⟨m, hm⟩ : ∃ m, r - k = m + 1 := ⟨r - k - 1, by omega⟩
  rw [hm, movM, show r - (k + 1) = m by omega]
theorem movM_end {J : List Int} {D r k : Nat} {now : List Int} (h : ¬ k < r) : movM J D (r - k) now = now := by
  rw [show r - k = 0 by omega, movM]
theorem bump_put {L : List Int} {d : Nat} {v x : Int} (h : L[d]? = some v) : L.set d (v + x) = bump L (d : Int) x := (bumpN h).symm
attribute [local irreducible] intRows bump ldsOf stepM mxL movM
theorem move_fn (J ds : List Int) (D rounds : Int) (hl : J.length ≤ 15) (hl2 : ds.length ≤ 60) (hD : -1000000 ≤ D ∧ D ≤ 1000000) (hr : -1000000 ≤ rounds ∧ rounds ≤ 1000000) : PFn Try.prog 12 [.week J D, .ints ds, .int rounds]
    (· = if dayE J D ds ≠ 0 then .tup [.sl 1 [], .int 0, .int (dayE J D ds)] else if rounds < 0 ∨ 100 < rounds then .tup [.sl 1 [], .int 0, .int 1] else .tup [.ints (movM J D.toNat rounds.toNat ds), .int (mxL (ldsOf J D.toNat (movM J D.toNat rounds.toNat ds))), .int 0]) := by
  have k1 := daysFault_fn J D ds (by omega) (by omega) hD
  by_cases he : dayE J D ds ≠ 0
  · rw [if_pos he]
    generalize dayE J D ds = e at *
    refine PFn.mk (Spec.body Try.func12 rfl rfl (Try.ntmps12) rfl fun w0 own0 M => ?_)
    repeat' (first | refine goH ?_ | refine goV ?_ | refine goB (fun b => ?_) | refine goG ?_ | (refine Ops.k_guard ?_; first | (refine Ops.guard_dec rfl rfl (fun hc => ?_) (fun hc => ?_) <;> try (exfalso; omega)) | refine Ops.guard_split rfl rfl (fun hc => ?_) (fun hc => ?_)) | refine goI ?_ | (refine Cw.k_cond ?_; first | (refine Cw.cond_dec rfl (fun hc => ?_) (fun hc => ?_) <;> try (exfalso; omega)) | refine Cw.cond_bool rfl (fun hc => ?_) (fun hc => ?_)) | (refine Ops.k_calla ?_; first | (refine Ops.k_callf 31 ?_; refine Ops.callV k1 (Evs.cons rfl (Evs.cons rfl Evs.nil)) rfl ?_)) | (apply OpW.k_call; first | (apply OpW.k_callf 31; exact OpW.callV k1 (Evs.cons rfl (Evs.cons rfl Evs.nil)))) | refine goR ?_ | refine goP ?_ | apply PSeq.cons | apply PSeq.yes rfl rfl rfl | exact goW | fail)
    refine Fin.ret (Ent.trans (Ent.nilsl 1 (s := 6) rfl) (Ent.take goTk)) (Outs.many rfl (OutL.cons goOe (OutL.cons goOe (OutL.cons goOe OutL.nil))) rfl) ⟨rfl, rfl⟩
  rw [if_neg he]
  have he0 : dayE J D ds = 0 := by omega
  obtain ⟨hw, hlo⟩ := dayE_ok he0
  rw [he0] at k1
  by_cases ho : rounds < 0 ∨ 100 < rounds
  · rw [if_pos ho]
    have kO := out_t rounds 0 100 ho
    refine PFn.mk (Spec.body Try.func12 rfl rfl (Try.ntmps12) rfl fun w0 own0 M => ?_)
    repeat' (first | refine goH ?_ | refine goV ?_ | refine goB (fun b => ?_) | refine goG ?_ | (refine Ops.k_guard ?_; first | (refine Ops.guard_dec rfl rfl (fun hc => ?_) (fun hc => ?_) <;> try (exfalso; omega)) | refine Ops.guard_split rfl rfl (fun hc => ?_) (fun hc => ?_)) | refine goI ?_ | (refine Cw.k_cond ?_; first | (refine Cw.cond_dec rfl (fun hc => ?_) (fun hc => ?_) <;> try (exfalso; omega)) | refine Cw.cond_bool rfl (fun hc => ?_) (fun hc => ?_)) | (refine Ops.k_calla ?_; first | (refine Ops.k_callf 31 ?_; refine Ops.callV k1 (Evs.cons rfl (Evs.cons rfl Evs.nil)) rfl ?_) | (refine Ops.k_callf 29 ?_; refine Ops.callV kO (Evs.cons rfl (Evs.cons rfl (Evs.cons rfl Evs.nil))) rfl ?_)) | (apply OpW.k_call; first | (apply OpW.k_callf 31; exact OpW.callV k1 (Evs.cons rfl (Evs.cons rfl Evs.nil))) | (apply OpW.k_callf 29; exact OpW.callV kO (Evs.cons rfl (Evs.cons rfl (Evs.cons rfl Evs.nil))))) | refine goR ?_ | refine goP ?_ | apply PSeq.cons | apply PSeq.yes rfl rfl rfl | exact goW | fail)
    refine Fin.ret (Ent.trans (Ent.nilsl 1 (s := 6) rfl) (Ent.take goTk)) (Outs.many rfl (OutL.cons goOe (OutL.cons goOe (OutL.cons goOe OutL.nil))) rfl) ⟨rfl, rfl⟩
  rw [if_neg ho]
  have kO := out_f rounds 0 100 (by omega)
  obtain ⟨hDb, hJ⟩ := weekE_ok hw
  obtain ⟨hdl, hdd⟩ := lodE_ok hlo
  have kL := loadsP_fn J D ds (by omega) hw ⟨hdl, hdd⟩
  have kC := clone_int (intRows ds) (intRows_k _) (by rw [intRows_len]; omega)
  have hdr := intRows_len ds
  have hJR := intRows_len J
  obtain ⟨n, hn⟩ : ∃ n : Nat, D.toNat = n := ⟨_, rfl⟩
  obtain ⟨q, hq⟩ : ∃ q : Nat, rounds.toNat = q := ⟨_, rfl⟩
  have hDn : D = n := by omega
  have hrq : rounds = q := by omega
  rw [hn, hq]
  subst hDn
  subst hrq
  obtain ⟨T, hT⟩ : ∃ T, T = movM J n q ds := ⟨_, rfl⟩
  rw [← hT]
  have hll := (intRows_len (ldsOf J n ds)).trans (ldsOf_len J n ds)
  refine PFn.mk (Spec.body Try.func12 rfl rfl (Try.ntmps12) rfl fun w0 own0 M => ?_)
  repeat' (first | refine goH ?_ | refine goV ?_ | refine goB (fun b => ?_) | refine goG ?_ | (refine Ops.k_guard ?_; first | (refine Ops.guard_dec rfl rfl (fun hc => ?_) (fun hc => ?_) <;> try (exfalso; omega)) | refine Ops.guard_split rfl rfl (fun hc => ?_) (fun hc => ?_)) | refine goI ?_ | (refine Cw.k_cond ?_; first | (refine Cw.cond_dec rfl (fun hc => ?_) (fun hc => ?_) <;> try (exfalso; omega)) | refine Cw.cond_bool rfl (fun hc => ?_) (fun hc => ?_)) | (refine Ops.k_calla ?_; first | (refine Ops.k_callf 31 ?_; refine Ops.callV k1 (Evs.cons rfl (Evs.cons rfl Evs.nil)) rfl ?_) | (refine Ops.k_callf 29 ?_; refine Ops.callV kO (Evs.cons rfl (Evs.cons rfl (Evs.cons rfl Evs.nil))) rfl ?_)) | (apply OpW.k_call; first | (apply OpW.k_callf 31; exact OpW.callV k1 (Evs.cons rfl (Evs.cons rfl Evs.nil))) | (apply OpW.k_callf 29; exact OpW.callV kO (Evs.cons rfl (Evs.cons rfl (Evs.cons rfl Evs.nil))))) | fail)
  first | refine Cw.region_YP (fun ξ S => Chunk.box b 27 [.ints J, .int n] :: (stg (S 1) [] [ownV (ξ 1) 1 3 (intRows ds)] ++ (stg (S 4) [] [ownV (ξ 4) 1 3 (intRows (ldsOf J n ds))] ++ []))) rfl (by decide +kernel) rfl ((fun (ξ : Nat → Value) (S : Nat → Bool) => Chunk.box b 27 [.ints J, .int n] :: (stg (S 1) [] [ownV (ξ 1) 1 3 (intRows ds)] ++ (stg (S 4) [] [ownV (ξ 4) 1 3 (intRows (ldsOf J n ds))] ++ []))) (fun _ => undef) (fun _ => false)) (by simp only [upd_same, updD_same, upd_ne, updD_ne, ne_eq, Nat.reduceEqDiff, not_false_eq_true, stg_t, stg_f, vAd_s, vCap_s, blk_p, List.cons_append, List.nil_append, b2n_t, b2n_f]; exact goXm) (fun _ => rfl) ?_ | fail
  apply YSeq.w (by intro _ _ _; rfl)
  · intro ξ S h1 h2 h3 h4
    have hN0_1 := closed_false h1 h3 (k := 1) rfl (by decide)
    have hN0_4 := closed_false hN0_1 h3 (k := 4) rfl (by decide)
    try simp only [upd_same, updD_same, upd_ne, updD_ne, ne_eq, Nat.reduceEqDiff, not_false_eq_true, stg_t, stg_f, vAd_s, vCap_s, blk_p, List.cons_append, List.nil_append, b2n_t, b2n_f, hN0_1, hN0_4]
    exact goW
  · intro ξ v; rfl
  · intro ξ k v S h3 hn hk
    first
    | rfl
  apply YSeq.callO ((intRows ds).length)
  · intro ξ S h1 h2 h3 h4
    have hN1_4 := closed_false h1 h3 (k := 4) rfl (by decide)
    refine ⟨_, _, kC, (Evs.cons rfl Evs.nil), (by first | rfl | simp | omega), fun ad cap => ?_⟩
    simp only [upd_same, updD_same, upd_ne, updD_ne, ne_eq, Nat.reduceEqDiff, not_false_eq_true, stg_t, stg_f, vAd_s, vCap_s, blk_p, List.cons_append, List.nil_append, b2n_t, b2n_f, h1, hN1_4]
    exact goXm
  apply YSeq.w (by intro _ _ _; rfl)
  · intro ξ S h1 h2 h3 h4
    have hN2_4 := closed_false h1 h3 (k := 4) rfl (by decide)
    try simp only [upd_same, updD_same, upd_ne, updD_ne, ne_eq, Nat.reduceEqDiff, not_false_eq_true, stg_t, stg_f, vAd_s, vCap_s, blk_p, List.cons_append, List.nil_append, b2n_t, b2n_f, hN2_4]
    exact goW
  · intro ξ v; rfl
  · intro ξ k v S h3 hn hk
    first
    | rfl
  apply YSeq.w (by intro _ _ _; rfl)
  · intro ξ S h1 h2 h3 h4
    have hN3_4 := closed_false h1 h3 (k := 4) rfl (by decide)
    try simp only [upd_same, updD_same, upd_ne, updD_ne, ne_eq, Nat.reduceEqDiff, not_false_eq_true, stg_t, stg_f, vAd_s, vCap_s, blk_p, List.cons_append, List.nil_append, b2n_t, b2n_f, hN3_4]
    exact goW
  · intro ξ v; rfl
  · intro ξ k v S h3 hn hk
    first
    | rfl
  apply YSeq.callO ((intRows (ldsOf J n ds)).length)
  · intro ξ S h1 h2 h3 h4
    have hY4_1 : S 1 = true := h2 1 (by decide)
    refine ⟨_, _, kL, (Evs.cons rfl (Evs.cons rfl Evs.nil)), (by first | rfl | simp | omega), fun ad cap => ?_⟩
    simp only [upd_same, updD_same, upd_ne, updD_ne, ne_eq, Nat.reduceEqDiff, not_false_eq_true, stg_t, stg_f, vAd_s, vCap_s, blk_p, List.cons_append, List.nil_append, b2n_t, b2n_f, hY4_1, h1]
    exact goXm
  apply YSeq.w (by intro _ _ _; rfl)
  · intro ξ S h1 h2 h3 h4
    have hY5_1 : S 1 = true := h2 1 (by decide)
    have hY5_4 : S 4 = true := h2 4 (by decide)
    try simp only [upd_same, updD_same, upd_ne, updD_ne, ne_eq, Nat.reduceEqDiff, not_false_eq_true, stg_t, stg_f, vAd_s, vCap_s, blk_p, List.cons_append, List.nil_append, b2n_t, b2n_f, hY5_1, hY5_4]
    exact goW
  · intro ξ v; rfl
  · intro ξ k v S h3 hn hk
    first
    | rfl
    | skip
      have hY5_1 : S 1 = true := h3 5 _ rfl hn 1 (by decide)
      have hY5_4 : S 4 = true := h3 5 _ rfl hn 4 (by decide)
      simp only [upd_S hY5_1 hk, upd_S hY5_4 hk]
  apply YSeq.w (by intro _ _ _; rfl)
  · intro ξ S h1 h2 h3 h4
    have hY6_1 : S 1 = true := h2 1 (by decide)
    have hY6_4 : S 4 = true := h2 4 (by decide)
    try simp only [upd_same, updD_same, upd_ne, updD_ne, ne_eq, Nat.reduceEqDiff, not_false_eq_true, stg_t, stg_f, vAd_s, vCap_s, blk_p, List.cons_append, List.nil_append, b2n_t, b2n_f, hY6_1, hY6_4]
    exact goW
  · intro ξ v; rfl
  · intro ξ k v S h3 hn hk
    first
    | rfl
    | skip
      have hY6_1 : S 1 = true := h3 6 _ rfl hn 1 (by decide)
      have hY6_4 : S 4 = true := h3 6 _ rfl hn 4 (by decide)
      simp only [upd_S hY6_1 hk, upd_S hY6_4 hk]
  refine YSeq.nil fun ξ hf => ?_
  refine ⟨[(2, _), (3, _), (10, _), (11, _)], _, Ent.trans (Ent.eqc rfl (by simp only [upd_same, updD_same, upd_ne, updD_ne, ne_eq, Nat.reduceEqDiff, not_false_eq_true, stg_t, stg_f, vAd_s, vCap_s, blk_p, List.cons_append, List.nil_append, b2n_t, b2n_f, ownV, slV, ptV] <;> rfl)) (Ent.sub goSub), ?_⟩
  clear hf
  generalize vAd (ξ 1) = ad28
  generalize vCap (ξ 1) = cap28
  generalize vAd (ξ 4) = ad31
  generalize vCap (ξ 4) = cap31
  refine Then.norm ?_
  rw [hll, hdr, hdl]
  repeat' (first | refine goH ?_ | refine goV ?_ | refine goB (fun b => ?_) | refine goG ?_ | (refine Ops.k_guard ?_; first | (refine Ops.guard_dec rfl rfl (fun hc => ?_) (fun hc => ?_) <;> try (exfalso; omega)) | refine Ops.guard_split rfl rfl (fun hc => ?_) (fun hc => ?_)) | refine goI ?_ | (refine Cw.k_cond ?_; first | (refine Cw.cond_dec rfl (fun hc => ?_) (fun hc => ?_) <;> try (exfalso; omega)) | refine Cw.cond_bool rfl (fun hc => ?_) (fun hc => ?_)) | refine goR ?_ | refine goP ?_ | apply PSeq.cons | apply PSeq.yes rfl rfl rfl | exact goW | fail)
  refine Cw.loopI [(3, _), (10, _), (11, _), (32, _)] _ (fun z e cc => ∃ (k : Nat) (now : List Int), z = q - k ∧ (k ≤ q ∧ T = movM J n (q - k) now ∧ now.length = J.length ∧ ∀ x ∈ now, 0 ≤ x ∧ x < (n : Int)) ∧ e = [(33, .int k)] ∧ cc = [Chunk.own ad28 cap28 1 3 (intRows now), Chunk.own ad31 cap31 1 3 (intRows (ldsOf J n now))])
    ⟨_, _, _, (Ent.mkP goSub goPm), 0, ds, rfl, ⟨by omega, by rw [Nat.sub_zero]; exact hT, hdl, hdd⟩, rfl, rfl⟩ ?_
  clear hdl hdd hdr hll hT kL kC k1 kO he he0 hw hlo
  rintro _ _ _ ⟨k, now, rfl, ⟨hk, hV, hnl, hnb⟩, rfl, rfl⟩
  have hnr := (intRows_len now).trans hnl
  have hLl := ldsOf_len J n now
  have hLr := (intRows_len (ldsOf J n now)).trans hLl
  have hLb := lds_bd (D := n) (ds := now) hJ (by omega)
  have kM := maxO_fn (ad := ad31) (cap := cap31) (n := n) (ldsOf J n now) hLr.symm (by omega)
  by_cases hkq : k < q
  rotate_left
  · rw [movM_end hkq] at hV
    rw [hV]
    clear hV hLb hJ hnb
    rw [← hnr]
    repeat' (first | refine goH ?_ | refine goV ?_ | refine goB (fun b => ?_) | refine goG ?_ | (refine Ops.k_guard ?_; first | (refine Ops.guard_dec rfl rfl (fun hc => ?_) (fun hc => ?_) <;> try (exfalso; omega)) | refine Ops.guard_split rfl rfl (fun hc => ?_) (fun hc => ?_)) | refine goI ?_ | (refine Cw.k_cond ?_; first | (refine Cw.cond_dec rfl (fun hc => ?_) (fun hc => ?_) <;> try (exfalso; omega)) | refine Cw.cond_bool rfl (fun hc => ?_) (fun hc => ?_)) | (refine Ops.k_calla ?_; first | (refine Ops.k_callf 40 ?_; (refine Ops.call kM (Evs.cons rfl Evs.nil) goPm rfl ?_; rintro y cs' ⟨rfl, rfl⟩))) | refine goR ?_ | refine goP ?_ | apply PSeq.cons | apply PSeq.yes rfl rfl rfl | exact goW | fail)
    refine Fin.ret (Ent.trans (Ent.settle (s := 6) rfl goPk rfl) (Ent.take goTk)) (Outs.many rfl (OutL.cons goOe (OutL.cons goOe (OutL.cons goOe OutL.nil))) rfl) ⟨rfl, rfl⟩
  rw [movM_step hkq] at hV
  obtain ⟨S, hS⟩ : ∃ S, S = selM J n now := ⟨_, rfl⟩
  rw [← hS] at hV
  unfold selM at hS
  obtain ⟨L, hLe⟩ : ∃ L, L = ldsOf J n now := ⟨_, rfl⟩
  have hin : ∀ (i : Nat) (x o : Int) (s : MSt), J[i]? = some x → now[i]? = some o → innM J n now i s = forF (fun (d : Nat) (s : MSt) => stepM L i x o d s) 0 n s := by
    intro i x o s h1 h2
    unfold innM
    rw [atI_at h1, atI_at h2, ← hLe]
  have hset := fun (i o d x : _) h1 h2 => ldsOf_set (J := J) (ds := now) (D := n) (i := i) (o := o) (d := d) (x := x) h1 h2
  rw [← hLe] at hLl hLr hLb kM ⊢
  simp only [← hLe] at hset
  repeat' (first | refine goH ?_ | refine goV ?_ | refine goB (fun b => ?_) | refine goG ?_ | (refine Ops.k_guard ?_; first | (refine Ops.guard_dec rfl rfl (fun hc => ?_) (fun hc => ?_) <;> try (exfalso; omega)) | refine Ops.guard_split rfl rfl (fun hc => ?_) (fun hc => ?_)) | refine goI ?_ | (refine Cw.k_cond ?_; first | (refine Cw.cond_dec rfl (fun hc => ?_) (fun hc => ?_) <;> try (exfalso; omega)) | refine Cw.cond_bool rfl (fun hc => ?_) (fun hc => ?_)) | refine goR ?_ | refine goP ?_ | apply PSeq.cons | apply PSeq.yes rfl rfl rfl | exact goW | fail)
  refine Cw.loopI [(3, _), (10, _), (11, _), (32, _), (33, _), (36, _), (37, _)] _ (fun z e cc => ∃ (i : Nat) (s0 s1 s2 : Int), z = J.length - i ∧ (i ≤ J.length ∧ S = forF (innM J n now) i (J.length - i) (s0, s1, s2) ∧ SelOk J n now (s0, s1, s2)) ∧ e = [(12, .int s0), (13, .int s1), (14, .int s2), (38, .int i)] ∧ cc = [])
    ⟨_, _, _, (Ent.mkP goSub goPm), 0, -1, 0, 0, rfl, ⟨by omega, by rw [Nat.sub_zero]; exact hS, sel_init J n now⟩, rfl, rfl⟩ ?_
  clear hS
  rintro _ _ _ ⟨i, s0, s1, s2, rfl, ⟨hi, hVS, hs⟩, rfl, rfl⟩
  by_cases hil : i < J.length
  · rw [forF_step hil] at hVS
    obtain ⟨x, hx⟩ := at_lt hil
    obtain ⟨o, ho⟩ := at_lt (l := now) (k := i) (by omega)
    have r1 := intRows_at hx
    have r2 := intRows_at ho
    have hxb := hJ x (List.mem_of_getElem? hx)
    have hob := hnb o (List.mem_of_getElem? ho)
    rw [hin i x o (s0, s1, s2) hx ho] at hVS
    have hao := atI_at ho
    have hst := fun (d : Nat) (s : MSt) => sel_step (J := J) (D := n) (now := now) (L := L) (i := i) (d := d) (x := x) (s := s)
    rw [hao] at hst
    clear hx ho hao
    repeat' (first | refine goH ?_ | refine goV ?_ | refine goB (fun b => ?_) | refine goG ?_ | (refine Ops.k_guard ?_; first | (refine Ops.guard_dec rfl rfl (fun hc => ?_) (fun hc => ?_) <;> try (exfalso; omega)) | refine Ops.guard_split rfl rfl (fun hc => ?_) (fun hc => ?_)) | refine goI ?_ | (refine Cw.k_cond ?_; first | (refine Cw.cond_dec rfl (fun hc => ?_) (fun hc => ?_) <;> try (exfalso; omega)) | refine Cw.cond_bool rfl (fun hc => ?_) (fun hc => ?_)) | refine goR ?_ | refine goP ?_ | apply PSeq.cons | apply PSeq.yes rfl rfl rfl | exact goW | fail)
    refine Cw.loopI [(3, _), (10, _), (11, _), (15, _), (16, _), (32, _), (33, _), (36, _), (37, _), (38, _), (44, _)] _ (fun z e cc => ∃ (d : Nat) (sj sd sg : Int), z = n - d ∧ (d ≤ n ∧ forF (fun (d : Nat) (s : MSt) => stepM L i x o d s) 0 n (s0, s1, s2) = forF (fun (d : Nat) (s : MSt) => stepM L i x o d s) d (n - d) (sj, sd, sg) ∧ SelOk J n now (sj, sd, sg)) ∧ e = [(12, .int sj), (13, .int sd), (14, .int sg), (45, .int d)] ∧ cc = [])
      ⟨_, _, _, (Ent.mkP goSub goPm), 0, s0, s1, s2, rfl, ⟨by omega, by rw [Nat.sub_zero], hs⟩, rfl, rfl⟩ ?_
    clear hs
    rintro _ _ _ ⟨d, sj, sd, sg, rfl, ⟨hd, hVd, hs⟩, rfl, rfl⟩
    by_cases hdn : d < n
    · rw [forF_step hdn] at hVd
      obtain ⟨vd, hvd⟩ := at_lt (l := L) (k := d) (by omega)
      obtain ⟨vo, hvo⟩ := at_lt (l := L) (k := o.toNat) (by omega)
      have r3 := intRows_at hvd
      have r4 := intRows_at hvo
      have hmul := gain_bd hxb (hLb vo (List.mem_of_getElem? hvo)) (hLb vd (List.mem_of_getElem? hvd))
      have hb1 := hLb vo (List.mem_of_getElem? hvo)
      have hb2 := hLb vd (List.mem_of_getElem? hvd)
      have hg : gainI L x o d = 2 * x * (vo - vd - x) := by
        unfold gainI
        rw [atI_at hvd]
        unfold atI
        rw [List.getD_eq_getElem?_getD, hvo]
        rfl
      have hsk := hst d (sj, sd, sg) hs hil hdn (by rw [hg]; exact hmul.2)
      have hsge := hs.ge
      clear hvd hvo hst hin hset hs hLe kM hLb hJ hnb hV hVS
      simp only at hsge
      by_cases hc1 : (d : Int) ≠ o
      · by_cases hc2 : sg < 2 * x * (vo - vd - x)
        · rw [stepM_yes ⟨hc1, by rw [hg]; exact hc2⟩, hg] at hVd hsk
          repeat' (first | refine goH ?_ | refine goV ?_ | refine goB (fun b => ?_) | refine goG ?_ | (refine Ops.k_guard ?_; first | (refine Ops.guard_dec rfl rfl (fun hc => ?_) (fun hc => ?_) <;> try (exfalso; omega)) | refine Ops.guard_split rfl rfl (fun hc => ?_) (fun hc => ?_)) | refine goI ?_ | (refine Cw.k_cond ?_; first | (refine Cw.cond_dec rfl (fun hc => ?_) (fun hc => ?_) <;> try (exfalso; omega)) | refine Cw.cond_bool rfl (fun hc => ?_) (fun hc => ?_)) | refine goR ?_ | refine goP ?_ | apply PSeq.cons | apply PSeq.yes rfl rfl rfl | exact goW | fail)
          clear hg hc hc2 hmul hsge
          generalize 2 * x * (vo - vd - x) = g at *
          exact ⟨_, _, _, (Ent.mk goSub goTk), ⟨d + 1, _, _, _, rfl, ⟨by omega, hVd, hsk⟩, rfl, rfl⟩, by omega⟩
        · rw [stepM_no (fun h => hc2 (by rw [← hg]; exact h.2))] at hVd hsk
          repeat' (first | refine goH ?_ | refine goV ?_ | refine goB (fun b => ?_) | refine goG ?_ | (refine Ops.k_guard ?_; first | (refine Ops.guard_dec rfl rfl (fun hc => ?_) (fun hc => ?_) <;> try (exfalso; omega)) | refine Ops.guard_split rfl rfl (fun hc => ?_) (fun hc => ?_)) | refine goI ?_ | (refine Cw.k_cond ?_; first | (refine Cw.cond_dec rfl (fun hc => ?_) (fun hc => ?_) <;> try (exfalso; omega)) | refine Cw.cond_bool rfl (fun hc => ?_) (fun hc => ?_)) | refine goR ?_ | refine goP ?_ | apply PSeq.cons | apply PSeq.yes rfl rfl rfl | exact goW | fail)
          exact ⟨_, _, _, (Ent.mk goSub goTk), ⟨d + 1, _, _, _, rfl, ⟨by omega, hVd, hsk⟩, rfl, rfl⟩, by omega⟩
      · rw [stepM_no (fun h => hc1 h.1)] at hVd hsk
        repeat' (first | refine goH ?_ | refine goV ?_ | refine goB (fun b => ?_) | refine goG ?_ | (refine Ops.k_guard ?_; first | (refine Ops.guard_dec rfl rfl (fun hc => ?_) (fun hc => ?_) <;> try (exfalso; omega)) | refine Ops.guard_split rfl rfl (fun hc => ?_) (fun hc => ?_)) | refine goI ?_ | (refine Cw.k_cond ?_; first | (refine Cw.cond_dec rfl (fun hc => ?_) (fun hc => ?_) <;> try (exfalso; omega)) | refine Cw.cond_bool rfl (fun hc => ?_) (fun hc => ?_)) | refine goR ?_ | refine goP ?_ | apply PSeq.cons | apply PSeq.yes rfl rfl rfl | exact goW | fail)
        exact ⟨_, _, _, (Ent.mk goSub goTk), ⟨d + 1, _, _, _, rfl, ⟨by omega, hVd, hsk⟩, rfl, rfl⟩, by omega⟩
    · rw [forF_end hdn] at hVd
      rw [hVd] at hVS
      clear hVd hst hin hset
      repeat' (first | refine goH ?_ | refine goV ?_ | refine goB (fun b => ?_) | refine goG ?_ | (refine Ops.k_guard ?_; first | (refine Ops.guard_dec rfl rfl (fun hc => ?_) (fun hc => ?_) <;> try (exfalso; omega)) | refine Ops.guard_split rfl rfl (fun hc => ?_) (fun hc => ?_)) | refine goI ?_ | (refine Cw.k_cond ?_; first | (refine Cw.cond_dec rfl (fun hc => ?_) (fun hc => ?_) <;> try (exfalso; omega)) | refine Cw.cond_bool rfl (fun hc => ?_) (fun hc => ?_)) | refine goR ?_ | refine goP ?_ | apply PSeq.cons | apply PSeq.yes rfl rfl rfl | exact goW | fail)
      exact ⟨_, _, _, (Ent.mk goSub goTk), ⟨i + 1, _, _, _, rfl, ⟨by omega, hVS, hs⟩, rfl, rfl⟩, by omega⟩
  rw [forF_end hil] at hVS
  subst hVS
  by_cases hneg : s0 < 0
  · rw [if_pos hneg] at hV
    rw [hV, ← hLe]
    clear hV hin hset hnb hJ hLb hLe
    rw [← hnr]
    repeat' (first | refine goH ?_ | refine goV ?_ | refine goB (fun b => ?_) | refine goG ?_ | (refine Ops.k_guard ?_; first | (refine Ops.guard_dec rfl rfl (fun hc => ?_) (fun hc => ?_) <;> try (exfalso; omega)) | refine Ops.guard_split rfl rfl (fun hc => ?_) (fun hc => ?_)) | refine goI ?_ | (refine Cw.k_cond ?_; first | (refine Cw.cond_dec rfl (fun hc => ?_) (fun hc => ?_) <;> try (exfalso; omega)) | refine Cw.cond_bool rfl (fun hc => ?_) (fun hc => ?_)) | (refine Ops.k_calla ?_; first | (refine Ops.k_callf 40 ?_; (refine Ops.call kM (Evs.cons rfl Evs.nil) goPm rfl ?_; rintro y cs' ⟨rfl, rfl⟩))) | refine goR ?_ | refine goP ?_ | apply PSeq.cons | apply PSeq.yes rfl rfl rfl | exact goW | fail)
    refine Fin.ret (Ent.trans (Ent.settle (s := 6) rfl goPk rfl) (Ent.take goTk)) (Outs.many rfl (OutL.cons goOe (OutL.cons goOe (OutL.cons goOe OutL.nil))) rfl) ⟨rfl, rfl⟩
  rw [if_neg hneg] at hV
  obtain ⟨hy1, hy2, hy3, hy4⟩ := hs.yes (by omega)
  clear hs hin kM hLe
  simp only at hneg hy1 hy2 hy3 hy4 hV
  obtain ⟨j, rfl⟩ : ∃ j : Nat, s0 = j := ⟨s0.toNat, by omega⟩
  obtain ⟨d, rfl⟩ : ∃ d : Nat, s1 = d := ⟨s1.toNat, by omega⟩
  rw [Int.toNat_natCast] at hV
  obtain ⟨x, hx⟩ := at_lt (l := J) (k := j) (by omega)
  obtain ⟨o, ho⟩ := at_lt (l := now) (k := j) (by omega)
  rw [atI_at ho] at hy3
  have r1 := intRows_at hx
  have r2 := intRows_at ho
  have hxb := hJ x (List.mem_of_getElem? hx)
  have hob := hnb o (List.mem_of_getElem? ho)
  have hset2 := hset j o d x ho hx
  obtain ⟨oN, rfl⟩ : ∃ oN : Nat, o = oN := ⟨o.toNat, by omega⟩
  obtain ⟨vo, hvo⟩ := at_lt (l := L) (k := oN) (by omega)
  obtain ⟨vd, hvd⟩ := at_lt (l := L) (k := d) (by omega)
  have r3 := intRows_at hvo
  have hb1 := hLb vo (List.mem_of_getElem? hvo)
  have hb2 := hLb vd (List.mem_of_getElem? hvd)
  have e1 : L.set oN (vo - x) = bump L oN (-x) := by rw [bumpN hvo, Int.sub_eq_add_neg]
  have hvd2 : (bump L oN (-x))[d]? = some vd := by rw [bumpN hvo, List.getElem?_set, if_neg (by omega)]; exact hvd
  have r4 := intRows_at hvd2
  have e2 := bump_put (x := x) hvd2
  have hLl2 := (intRows_len (bump L oN (-x))).trans ((bump_len L oN (-x)).trans hLl)
  clear hx ho hvo hvd hvd2 hset hLb hJ
  repeat' (first | refine goH ?_ | refine goV ?_ | refine goB (fun b => ?_) | refine goG ?_ | (refine Ops.k_guard ?_; first | (refine Ops.guard_dec rfl rfl (fun hc => ?_) (fun hc => ?_) <;> try (exfalso; omega)) | refine Ops.guard_split rfl rfl (fun hc => ?_) (fun hc => ?_)) | refine goI ?_ | (refine Cw.k_cond ?_; first | (refine Cw.cond_dec rfl (fun hc => ?_) (fun hc => ?_) <;> try (exfalso; omega)) | refine Cw.cond_bool rfl (fun hc => ?_) (fun hc => ?_)) | fail)
  refine goR ?_
  repeat' (first | refine goH ?_ | refine goV ?_ | refine goB (fun b => ?_) | refine goG ?_ | (refine Ops.k_guard ?_; first | (refine Ops.guard_dec rfl rfl (fun hc => ?_) (fun hc => ?_) <;> try (exfalso; omega)) | refine Ops.guard_split rfl rfl (fun hc => ?_) (fun hc => ?_)) | refine goI ?_ | (refine Cw.k_cond ?_; first | (refine Cw.cond_dec rfl (fun hc => ?_) (fun hc => ?_) <;> try (exfalso; omega)) | refine Cw.cond_bool rfl (fun hc => ?_) (fun hc => ?_)) | refine goP ?_ | apply PSeq.cons | apply PSeq.yes rfl rfl rfl | exact goW | fail)
  erw [int_set, e1]
  repeat' (first | refine goH ?_ | refine goV ?_ | refine goB (fun b => ?_) | refine goG ?_ | (refine Ops.k_guard ?_; first | (refine Ops.guard_dec rfl rfl (fun hc => ?_) (fun hc => ?_) <;> try (exfalso; omega)) | refine Ops.guard_split rfl rfl (fun hc => ?_) (fun hc => ?_)) | refine goI ?_ | (refine Cw.k_cond ?_; first | (refine Cw.cond_dec rfl (fun hc => ?_) (fun hc => ?_) <;> try (exfalso; omega)) | refine Cw.cond_bool rfl (fun hc => ?_) (fun hc => ?_)) | refine goR ?_ | refine goP ?_ | apply PSeq.cons | apply PSeq.yes rfl rfl rfl | exact goW | fail)
  erw [int_set, int_set, e2, ← hset2]
  exact ⟨_, _, _, (Ent.mk goSub goTk), ⟨k + 1, now.set j d, rfl, ⟨by omega, hV, by rw [List.length_set]; exact hnl, fun y hy => by
    rcases List.mem_or_eq_of_mem_set hy with h | h
    · exact hnb y h
    · rw [h]; omega⟩, rfl, rfl⟩, by omega⟩
end Lg
end
section
set_option linter.all false
set_option maxRecDepth 100000
set_option maxHeartbeats 8000000
namespace Lg
open Go Go.Proofs

theorem sq_try {J now : List Int} {D i d : Nat} {x o : Int} (h1 : now[i]? = some o) (h2 : J[i]? = some x) (hd : d < D) (ho : 0 ≤ o ∧ o < D) : sqL (ldsOf J D (now.set i (d : Int))) = if (d : Int) = o then sqL (ldsOf J D now) else sqL (ldsOf J D now) - gainI (ldsOf J D now) x o d := by
  rw [ldsOf_set h1 h2]
  by_cases h : (d : Int) = o
  · rw [if_pos h, ← h, sq_same]
  · rw [if_neg h]
    obtain ⟨oN, rfl⟩ : ∃ oN : Nat, o = oN := ⟨o.toNat, by omega⟩
    exact sq_move (by rw [ldsOf_len]; omega) (by rw [ldsOf_len]; omega) (by omega)
theorem bst_same {J : List Int} {D : Nat} {now : List Int} {s : MSt} (h : SelOk J D now s) (hl : now.length = J.length) : (bstM now s = now) ↔ s.1 < 0 := by
  unfold bstM
  by_cases h1 : s.1 < 0
  · rw [if_pos h1]
    exact ⟨fun _ => h1, fun _ => rfl⟩
  · rw [if_neg h1]
    refine ⟨fun e => ?_, fun h2 => absurd h2 h1⟩
    obtain ⟨h2, h3, h4, h5⟩ := h.yes (by omega)
    exfalso
    apply h4
    obtain ⟨v, hv⟩ := at_lt (l := now) (k := s.1.toNat) (by omega)
    have e2 : (now.set s.1.toNat s.2.1)[s.1.toNat]? = some s.2.1 := by rw [List.getElem?_set, if_pos rfl, if_pos (by omega)]
    rw [e] at e2
    unfold atI
    rw [List.getD_eq_getElem?_getD, e2]
    rfl
attribute [local irreducible] intRows bump ldsOf stepM mxL movM sqL gainI bstM
theorem moveOf_fn (J ds : List Int) (D rounds : Int) (hl : J.length ≤ 15) (hl2 : ds.length ≤ 60) (hw : weekE J D = 0) (hlo : lodE J D ds = 0) (hr : -1000000 ≤ rounds ∧ rounds ≤ 1000000) : PFn Try.prog 24 [.week J D, .ints ds, .int rounds]
    (· = if rounds < 0 ∨ 100 < rounds then .tup [.sl 1 [], .int 0, .int 1] else .tup [.ints (movM J D.toNat rounds.toNat ds), .int (mxL (ldsOf J D.toNat (movM J D.toNat rounds.toNat ds))), .int 0]) := by
  by_cases ho : rounds < 0 ∨ 100 < rounds
  · rw [if_pos ho]
    refine PFn.mk (Spec.body Try.func24 rfl rfl (Try.ntmps24) rfl fun w0 own0 M => ?_)
    by_cases ho1 : rounds < 0
    all_goals
      repeat' (first | refine goH ?_ | refine goV ?_ | refine goB (fun b => ?_) | refine goG ?_ | (refine Ops.k_guard ?_; first | (refine Ops.guard_dec rfl rfl (fun hc => ?_) (fun hc => ?_) <;> try (exfalso; omega)) | refine Ops.guard_split rfl rfl (fun hc => ?_) (fun hc => ?_)) | refine goI ?_ | (refine Cw.k_cond ?_; first | (refine Cw.cond_dec rfl (fun hc => ?_) (fun hc => ?_) <;> try (exfalso; omega)) | refine Cw.cond_bool rfl (fun hc => ?_) (fun hc => ?_)) | fail)
      refine Fin.ret (Ent.trans (Ent.nilsl 1 (s := 6) rfl) (Ent.take goTk)) (Outs.many rfl (OutL.cons goOe (OutL.cons goOe (OutL.cons goOe OutL.nil))) rfl) ⟨rfl, rfl⟩
  rw [if_neg ho]
  obtain ⟨hDb, hJ⟩ := weekE_ok hw
  obtain ⟨hdl, hdd⟩ := lodE_ok hlo
  have kC := (clone_int (intRows ds) (intRows_k _) (by rw [intRows_len]; omega)).val
  have hdr := intRows_len ds
  have hJR := intRows_len J
  obtain ⟨n, hn⟩ : ∃ n : Nat, D.toNat = n := ⟨_, rfl⟩
  obtain ⟨q, hq⟩ : ∃ q : Nat, rounds.toNat = q := ⟨_, rfl⟩
  have hDn : D = n := by omega
  have hrq : rounds = q := by omega
  rw [hn, hq]
  subst hDn
  subst hrq
  obtain ⟨T, hT⟩ : ∃ T, T = movM J n q ds := ⟨_, rfl⟩
  rw [← hT]
  refine PFn.mk (Spec.body Try.func24 rfl rfl (Try.ntmps24) rfl fun w0 own0 M => ?_)
  repeat' (first | refine goH ?_ | refine goV ?_ | refine goB (fun b => ?_) | refine goG ?_ | (refine Ops.k_guard ?_; first | (refine Ops.guard_dec rfl rfl (fun hc => ?_) (fun hc => ?_) <;> try (exfalso; omega)) | refine Ops.guard_split rfl rfl (fun hc => ?_) (fun hc => ?_)) | refine goI ?_ | (refine Cw.k_cond ?_; first | (refine Cw.cond_dec rfl (fun hc => ?_) (fun hc => ?_) <;> try (exfalso; omega)) | refine Cw.cond_bool rfl (fun hc => ?_) (fun hc => ?_)) | (refine Ops.k_calla ?_; first | (refine Ops.k_callf 39 ?_; refine Ops.callV kC (Evs.cons rfl Evs.nil) rfl ?_)) | fail)
  refine Cw.loopI [(3, _), (24, _)] _ (fun z e cc => ∃ (k : Nat) (now : List Int), z = q - k ∧ (k ≤ q ∧ T = movM J n (q - k) now ∧ now.length = J.length ∧ ∀ x ∈ now, 0 ≤ x ∧ x < (n : Int)) ∧ e = [(9, .ints now), (25, .int k)] ∧ cc = [])
    ⟨_, _, _, (Ent.mkP goSub goPm), 0, ds, rfl, ⟨by omega, by rw [Nat.sub_zero]; exact hT, hdl, hdd⟩, rfl, rfl⟩ ?_
  clear hdl hdd hdr hT kC hlo
  rintro _ _ _ ⟨k, now, rfl, ⟨hk, hV, hnl, hnb⟩, rfl, rfl⟩
  have hnr := (intRows_len now).trans hnl
  have hLl := ldsOf_len J n now
  have hLr := (intRows_len (ldsOf J n now)).trans hLl
  have hLb := lds_bd (D := n) (ds := now) hJ (by omega)
  have kL := loadsOf_fn J n now (by omega) hw ⟨hnl, hnb⟩
  have kM := max_fn (ldsOf J n now) (by omega)
  by_cases hkq : k < q
  rotate_left
  · rw [movM_end hkq] at hV
    rw [hV]
    clear hV hLb hJ hnb
    repeat' (first | refine goH ?_ | refine goV ?_ | refine goB (fun b => ?_) | refine goG ?_ | (refine Ops.k_guard ?_; first | (refine Ops.guard_dec rfl rfl (fun hc => ?_) (fun hc => ?_) <;> try (exfalso; omega)) | refine Ops.guard_split rfl rfl (fun hc => ?_) (fun hc => ?_)) | refine goI ?_ | (refine Cw.k_cond ?_; first | (refine Cw.cond_dec rfl (fun hc => ?_) (fun hc => ?_) <;> try (exfalso; omega)) | refine Cw.cond_bool rfl (fun hc => ?_) (fun hc => ?_)) | (refine Ops.k_calla ?_; first | (refine Ops.k_callf 25 ?_; refine Ops.callV kL (Evs.cons rfl (Evs.cons rfl Evs.nil)) rfl ?_) | (refine Ops.k_callf 40 ?_; refine Ops.callV kM (Evs.cons rfl Evs.nil) rfl ?_)) | fail)
    refine Fin.ret (Ent.take goTk) (Outs.many rfl (OutL.cons goOe (OutL.cons goOe (OutL.cons goOe OutL.nil))) rfl) ⟨rfl, rfl⟩
  rw [movM_step hkq] at hV
  obtain ⟨S, hS⟩ : ∃ S, S = selM J n now := ⟨_, rfl⟩
  rw [← hS] at hV
  unfold selM at hS
  have hSq := squares_fn (ldsOf J n now) (by omega) (fun y hy => by have := hLb y hy; omega)
  have hin : ∀ (i : Nat) (x o : Int) (s : MSt), J[i]? = some x → now[i]? = some o → innM J n now i s = forF (fun (d : Nat) (s : MSt) => stepM (ldsOf J n now) i x o d s) 0 n s := by
    intro i x o s h1 h2
    unfold innM
    rw [atI_at h1, atI_at h2]
  have hb0 : now = bstM now (-1, 0, 0) := by unfold bstM; rfl
  have hz0 : sqL (ldsOf J n now) = sqL (ldsOf J n now) - 0 := by omega
  have hcl := clone_int (intRows now) (intRows_k _) (by rw [intRows_len]; omega)
  repeat' (first | refine goH ?_ | refine goV ?_ | refine goB (fun b => ?_) | refine goG ?_ | (refine Ops.k_guard ?_; first | (refine Ops.guard_dec rfl rfl (fun hc => ?_) (fun hc => ?_) <;> try (exfalso; omega)) | refine Ops.guard_split rfl rfl (fun hc => ?_) (fun hc => ?_)) | refine goI ?_ | (refine Cw.k_cond ?_; first | (refine Cw.cond_dec rfl (fun hc => ?_) (fun hc => ?_) <;> try (exfalso; omega)) | refine Cw.cond_bool rfl (fun hc => ?_) (fun hc => ?_)) | (refine Ops.k_calla ?_; first | (refine Ops.k_callf 25 ?_; refine Ops.callV kL (Evs.cons rfl (Evs.cons rfl Evs.nil)) rfl ?_) | (refine Ops.k_callf 49 ?_; refine Ops.callV hSq (Evs.cons rfl Evs.nil) rfl ?_)) | fail)
  refine Cw.loopI [(3, _), (9, _), (24, _), (25, _), (33, _)] _ (fun z e cc => ∃ (i : Nat) (s0 s1 s2 z0 : Int) (bst : List Int), z = J.length - i ∧ (i ≤ J.length ∧ S = forF (innM J n now) i (J.length - i) (s0, s1, s2) ∧ SelOk J n now (s0, s1, s2) ∧ z0 = sqL (ldsOf J n now) - s2 ∧ bst = bstM now (s0, s1, s2)) ∧ e = [(10, .int z0), (11, .ints bst), (34, .int i)] ∧ cc = [])
    ⟨_, _, _, (Ent.mkP goSub goPm), 0, -1, 0, 0, _, _, rfl, ⟨by omega, by rw [Nat.sub_zero]; exact hS, sel_init J n now, hz0, hb0⟩, rfl, rfl⟩ ?_
  clear hS hSq hz0 hb0
  rintro _ _ _ ⟨i, s0, s1, s2, z0, bst, rfl, ⟨hi, hVS, hs, hz0, hbst⟩, rfl, rfl⟩
  by_cases hil : i < J.length
  · rw [forF_step hil] at hVS
    obtain ⟨x, hx⟩ := at_lt hil
    obtain ⟨o, ho⟩ := at_lt (l := now) (k := i) (by omega)
    have r2 := intRows_at ho
    have hxb := hJ x (List.mem_of_getElem? hx)
    have hob := hnb o (List.mem_of_getElem? ho)
    rw [hin i x o (s0, s1, s2) hx ho] at hVS
    have hao := atI_at ho
    have hst := fun (d : Nat) (s : MSt) => sel_step (J := J) (D := n) (now := now) (L := ldsOf J n now) (i := i) (d := d) (x := x) (s := s)
    have htr := fun (d : Nat) (hd : d < n) => sq_try (J := J) (now := now) (D := n) (i := i) (d := d) ho hx hd hob
    rw [hao] at hst
    clear hx ho hao
    repeat' (first | refine goH ?_ | refine goV ?_ | refine goB (fun b => ?_) | refine goG ?_ | (refine Ops.k_guard ?_; first | (refine Ops.guard_dec rfl rfl (fun hc => ?_) (fun hc => ?_) <;> try (exfalso; omega)) | refine Ops.guard_split rfl rfl (fun hc => ?_) (fun hc => ?_)) | refine goI ?_ | (refine Cw.k_cond ?_; first | (refine Cw.cond_dec rfl (fun hc => ?_) (fun hc => ?_) <;> try (exfalso; omega)) | refine Cw.cond_bool rfl (fun hc => ?_) (fun hc => ?_)) | fail)
    refine Cw.loopI [(3, _), (9, _), (12, _), (24, _), (25, _), (33, _), (34, _), (38, _)] _ (fun z e cc => ∃ (d : Nat) (sj sd sg z1 : Int) (bst : List Int), z = n - d ∧ (d ≤ n ∧ forF (fun (d : Nat) (s : MSt) => stepM (ldsOf J n now) i x o d s) 0 n (s0, s1, s2) = forF (fun (d : Nat) (s : MSt) => stepM (ldsOf J n now) i x o d s) d (n - d) (sj, sd, sg) ∧ SelOk J n now (sj, sd, sg) ∧ z1 = sqL (ldsOf J n now) - sg ∧ bst = bstM now (sj, sd, sg)) ∧ e = [(10, .int z1), (11, .ints bst), (39, .int d)] ∧ cc = [])
      ⟨_, _, _, (Ent.mkP goSub goPm), 0, s0, s1, s2, z0, bst, rfl, ⟨by omega, by rw [Nat.sub_zero], hs, hz0, hbst⟩, rfl, rfl⟩ ?_
    clear hs hz0 hbst bst
    rintro _ _ _ ⟨d, sj, sd, sg, z1, bst, rfl, ⟨hd, hVd, hs, hz1, hbst⟩, rfl, rfl⟩
    by_cases hdn : d < n
    · rw [forF_step hdn] at hVd
      obtain ⟨g, hg⟩ : ∃ g, g = gainI (ldsOf J n now) x o d := ⟨_, rfl⟩
      obtain ⟨vd, hvd⟩ := at_lt (l := ldsOf J n now) (k := d) (by omega)
      obtain ⟨vo, hvo⟩ := at_lt (l := ldsOf J n now) (k := o.toNat) (by omega)
      have hgb : g ≤ 100000000000 := by
        rw [hg]
        unfold gainI
        rw [atI_at hvd]
        unfold atI
        rw [List.getD_eq_getElem?_getD, hvo]
        exact (gain_bd hxb (hLb vo (List.mem_of_getElem? hvo)) (hLb vd (List.mem_of_getElem? hvd))).2
      have hsk := hst d (sj, sd, sg) hs hil hdn (by rw [← hg]; exact hgb)
      have hsq := htr d hdn
      rw [← hg] at hsq
      have hsge := hs.ge
      simp only at hsge
      have hml : (now.set i (d : Int)).length = J.length := by rw [List.length_set]; exact hnl
      have hmb : ∀ y ∈ now.set i (d : Int), 0 ≤ y ∧ y < (n : Int) := fun y hy => by
        rcases List.mem_or_eq_of_mem_set hy with h | h
        · exact hnb y h
        · rw [h]; omega
      have kL2 := loadsOf_fn J n (now.set i (d : Int)) (by omega) hw ⟨hml, hmb⟩
      have kS2 := squares_fn (ldsOf J n (now.set i (d : Int))) (by rw [ldsOf_len]; omega) (fun y hy => by have := lds_bd (D := n) (ds := now.set i (d : Int)) hJ (by omega) y hy; omega)
      have hmr := (intRows_len (now.set i (d : Int))).trans hml
      have hbn : stepM (ldsOf J n now) i x o d (sj, sd, sg) = (↑i, ↑d, g) → bstM now (↑i, ↑d, g) = now.set i (d : Int) := fun _ => by
        unfold bstM
        rw [if_neg (by simp only; omega)]
        simp only [Int.toNat_natCast]
      clear hvd hvo hst hin htr hs kM kL hLb hJ hnb hV hVS hmb
      by_cases hcc : (d : Int) ≠ o ∧ sg < g
      · rw [stepM_yes ⟨hcc.1, by rw [← hg]; exact hcc.2⟩, ← hg] at hVd hsk hbn
        rw [if_neg hcc.1] at hsq
        have hlt : sqL (ldsOf J n (now.set i (d : Int))) < z1 := by omega
        have hz2 : sqL (ldsOf J n (now.set i (d : Int))) = sqL (ldsOf J n now) - g := hsq
        have hb2 := (hbn rfl).symm
        clear hbn hcc hg hsq hz1 hsge hgb hbst
        repeat' (first | refine goH ?_ | refine goV ?_ | refine goB (fun b => ?_) | refine goG ?_ | (refine Ops.k_guard ?_; first | (refine Ops.guard_dec rfl rfl (fun hc => ?_) (fun hc => ?_) <;> try (exfalso; omega)) | refine Ops.guard_split rfl rfl (fun hc => ?_) (fun hc => ?_)) | refine goI ?_ | (refine Cw.k_cond ?_; first | (refine Cw.cond_dec rfl (fun hc => ?_) (fun hc => ?_) <;> try (exfalso; omega)) | refine Cw.cond_bool rfl (fun hc => ?_) (fun hc => ?_)) | fail)
        refine Ops.k_calla ?_
        refine Ops.callO hcl (Evs.cons rfl Evs.nil) rfl (fun ad cap rows hr => ?_)
        subst hr
        repeat' (first | refine goH ?_ | ((fail_if_success refine Ops.k_load ?_); refine goV ?_) | ((fail_if_success refine Ops.k_load ?_); refine goB (fun b => ?_)) | refine goG ?_ | (refine Ops.k_guard ?_; first | (refine Ops.guard_dec rfl rfl (fun hc => ?_) (fun hc => ?_) <;> try (exfalso; omega)) | refine Ops.guard_split rfl rfl (fun hc => ?_) (fun hc => ?_)) | refine goI ?_ | (refine Cw.k_cond ?_; first | (refine Cw.cond_dec rfl (fun hc => ?_) (fun hc => ?_) <;> try (exfalso; omega)) | refine Cw.cond_bool rfl (fun hc => ?_) (fun hc => ?_)) | fail)
        erw [int_set]
        refine Ops.ent (Ent.settle (s := 14) rfl goPk (hnr.trans hmr.symm)) ?_
        repeat' (first | refine goH ?_ | refine goV ?_ | refine goB (fun b => ?_) | refine goG ?_ | (refine Ops.k_guard ?_; first | (refine Ops.guard_dec rfl rfl (fun hc => ?_) (fun hc => ?_) <;> try (exfalso; omega)) | refine Ops.guard_split rfl rfl (fun hc => ?_) (fun hc => ?_)) | refine goI ?_ | (refine Cw.k_cond ?_; first | (refine Cw.cond_dec rfl (fun hc => ?_) (fun hc => ?_) <;> try (exfalso; omega)) | refine Cw.cond_bool rfl (fun hc => ?_) (fun hc => ?_)) | (refine Ops.k_calla ?_; first | (refine Ops.k_callf 25 ?_; refine Ops.callV kL2 (Evs.cons rfl (Evs.cons rfl Evs.nil)) rfl ?_) | (refine Ops.k_callf 49 ?_; refine Ops.callV kS2 (Evs.cons rfl Evs.nil) rfl ?_)) | fail)
        exact ⟨_, _, _, (Ent.mk goSub goTk), ⟨d + 1, _, _, _, _, _, rfl, ⟨by omega, hVd, hsk, hz2, hb2⟩, rfl, rfl⟩, by omega⟩
      · rw [stepM_no (by rw [← hg]; exact hcc)] at hVd hsk
        have hge : ¬ sqL (ldsOf J n (now.set i (d : Int))) < z1 := by
          by_cases h1 : (d : Int) = o
          · rw [if_pos h1] at hsq; omega
          · rw [if_neg h1] at hsq; omega
        clear hbn hcc hg hsq hsge hgb
        repeat' (first | refine goH ?_ | refine goV ?_ | refine goB (fun b => ?_) | refine goG ?_ | (refine Ops.k_guard ?_; first | (refine Ops.guard_dec rfl rfl (fun hc => ?_) (fun hc => ?_) <;> try (exfalso; omega)) | refine Ops.guard_split rfl rfl (fun hc => ?_) (fun hc => ?_)) | refine goI ?_ | (refine Cw.k_cond ?_; first | (refine Cw.cond_dec rfl (fun hc => ?_) (fun hc => ?_) <;> try (exfalso; omega)) | refine Cw.cond_bool rfl (fun hc => ?_) (fun hc => ?_)) | fail)
        refine Ops.k_calla ?_
        refine Ops.callO hcl (Evs.cons rfl Evs.nil) rfl (fun ad cap rows hr => ?_)
        subst hr
        repeat' (first | refine goH ?_ | ((fail_if_success refine Ops.k_load ?_); refine goV ?_) | ((fail_if_success refine Ops.k_load ?_); refine goB (fun b => ?_)) | refine goG ?_ | (refine Ops.k_guard ?_; first | (refine Ops.guard_dec rfl rfl (fun hc => ?_) (fun hc => ?_) <;> try (exfalso; omega)) | refine Ops.guard_split rfl rfl (fun hc => ?_) (fun hc => ?_)) | refine goI ?_ | (refine Cw.k_cond ?_; first | (refine Cw.cond_dec rfl (fun hc => ?_) (fun hc => ?_) <;> try (exfalso; omega)) | refine Cw.cond_bool rfl (fun hc => ?_) (fun hc => ?_)) | fail)
        erw [int_set]
        refine Ops.ent (Ent.settle (s := 14) rfl goPk (hnr.trans hmr.symm)) ?_
        repeat' (first | refine goH ?_ | refine goV ?_ | refine goB (fun b => ?_) | refine goG ?_ | (refine Ops.k_guard ?_; first | (refine Ops.guard_dec rfl rfl (fun hc => ?_) (fun hc => ?_) <;> try (exfalso; omega)) | refine Ops.guard_split rfl rfl (fun hc => ?_) (fun hc => ?_)) | refine goI ?_ | (refine Cw.k_cond ?_; first | (refine Cw.cond_dec rfl (fun hc => ?_) (fun hc => ?_) <;> try (exfalso; omega)) | refine Cw.cond_bool rfl (fun hc => ?_) (fun hc => ?_)) | (refine Ops.k_calla ?_; first | (refine Ops.k_callf 25 ?_; refine Ops.callV kL2 (Evs.cons rfl (Evs.cons rfl Evs.nil)) rfl ?_) | (refine Ops.k_callf 49 ?_; refine Ops.callV kS2 (Evs.cons rfl Evs.nil) rfl ?_)) | fail)
        exact ⟨_, _, _, (Ent.mk goSub goTk), ⟨d + 1, _, _, _, _, _, rfl, ⟨by omega, hVd, hsk, hz1, hbst⟩, rfl, rfl⟩, by omega⟩
    · rw [forF_end hdn] at hVd
      rw [hVd] at hVS
      clear hVd hst hin htr kM kL hV
      repeat' (first | refine goH ?_ | refine goV ?_ | refine goB (fun b => ?_) | refine goG ?_ | (refine Ops.k_guard ?_; first | (refine Ops.guard_dec rfl rfl (fun hc => ?_) (fun hc => ?_) <;> try (exfalso; omega)) | refine Ops.guard_split rfl rfl (fun hc => ?_) (fun hc => ?_)) | refine goI ?_ | (refine Cw.k_cond ?_; first | (refine Cw.cond_dec rfl (fun hc => ?_) (fun hc => ?_) <;> try (exfalso; omega)) | refine Cw.cond_bool rfl (fun hc => ?_) (fun hc => ?_)) | fail)
      exact ⟨_, _, _, (Ent.mk goSub goTk), ⟨i + 1, _, _, _, _, _, rfl, ⟨by omega, hVS, hs, hz1, hbst⟩, rfl, rfl⟩, by omega⟩
  rw [forF_end hil] at hVS
  subst hVS
  have hbs := bst_same hs hnl
  rw [← hbst] at hbs
  have hbl : bst.length = J.length := by
    rw [hbst]
    unfold bstM
    split
    · exact hnl
    · rw [List.length_set]; exact hnl
  have kE := equalInts_fn bst now (by omega) (by omega)
  clear hin hcl
  by_cases hneg : s0 < 0
  · rw [if_pos hneg] at hV
    rw [decide_eq_true (hbs.2 hneg)] at kE
    rw [hV]
    clear hV hnb hJ hLb hbst hz0
    repeat' (first | refine goH ?_ | refine goV ?_ | refine goB (fun b => ?_) | refine goG ?_ | (refine Ops.k_guard ?_; first | (refine Ops.guard_dec rfl rfl (fun hc => ?_) (fun hc => ?_) <;> try (exfalso; omega)) | refine Ops.guard_split rfl rfl (fun hc => ?_) (fun hc => ?_)) | refine goI ?_ | (refine Cw.k_cond ?_; first | (refine Cw.cond_dec rfl (fun hc => ?_) (fun hc => ?_) <;> try (exfalso; omega)) | refine Cw.cond_bool rfl (fun hc => ?_) (fun hc => ?_)) | (refine Ops.k_calla ?_; first | (refine Ops.k_callf 18 ?_; refine Ops.callV kE (Evs.cons rfl (Evs.cons rfl Evs.nil)) rfl ?_) | (refine Ops.k_callf 25 ?_; refine Ops.callV kL (Evs.cons rfl (Evs.cons rfl Evs.nil)) rfl ?_) | (refine Ops.k_callf 40 ?_; refine Ops.callV kM (Evs.cons rfl Evs.nil) rfl ?_)) | fail)
    refine Fin.ret (Ent.take goTk) (Outs.many rfl (OutL.cons goOe (OutL.cons goOe (OutL.cons goOe OutL.nil))) rfl) ⟨rfl, rfl⟩
  rw [if_neg hneg] at hV
  obtain ⟨hy1, hy2, hy3, hy4⟩ := hs.yes (by simp only; omega)
  rw [decide_eq_false (fun h => hneg (hbs.1 h))] at kE
  have hbv : bst = now.set s0.toNat s1 := by
    rw [hbst]
    unfold bstM
    rw [if_neg (by simp only; omega)]
  simp only at hV hy2
  rw [← hbv] at hV
  have hbb : ∀ y ∈ bst, 0 ≤ y ∧ y < (n : Int) := fun y hy => by
    rw [hbv] at hy
    rcases List.mem_or_eq_of_mem_set hy with h | h
    · exact hnb y h
    · rw [h]; omega
  clear hs hLb hJ hnb hbv hbst hbs hz0
  repeat' (first | refine goH ?_ | refine goV ?_ | refine goB (fun b => ?_) | refine goG ?_ | (refine Ops.k_guard ?_; first | (refine Ops.guard_dec rfl rfl (fun hc => ?_) (fun hc => ?_) <;> try (exfalso; omega)) | refine Ops.guard_split rfl rfl (fun hc => ?_) (fun hc => ?_)) | refine goI ?_ | (refine Cw.k_cond ?_; first | (refine Cw.cond_dec rfl (fun hc => ?_) (fun hc => ?_) <;> try (exfalso; omega)) | refine Cw.cond_bool rfl (fun hc => ?_) (fun hc => ?_)) | (refine Ops.k_calla ?_; first | (refine Ops.k_callf 18 ?_; refine Ops.callV kE (Evs.cons rfl (Evs.cons rfl Evs.nil)) rfl ?_)) | fail)
  exact ⟨_, _, _, (Ent.mk goSub goTk), ⟨k + 1, bst, rfl, ⟨by omega, hV, hbl, hbb⟩, rfl, rfl⟩, by omega⟩
end Lg
end
section
set_option linter.all false
set_option maxRecDepth 100000
set_option maxHeartbeats 8000000
namespace Lg
open Go Go.Proofs

def visG : Int → List Int → Int
  | _, [] => 0
  | p, x :: l => if x < 0 ∨ 6 < x then 1 else if x ≤ p then 7 else visG x l
def visE (l : List Int) (f t : Int) : Int := if l.length > 7 then 2 else if visG (-1) l ≠ 0 then visG (-1) l else if f < 0 ∨ t < f ∨ 4001 < t then 1 else 0
def visL (l : List Int) : Int → Nat → List Int
  | _, 0 => []
  | d, n + 1 => if d % 7 ∈ l then d :: visL l (d + 1) n else visL l (d + 1) n
theorem visG_step {l : List Int} {k : Nat} {x p : Int} (h : l[k]? = some x) : visG p (l.drop k) = if x < 0 ∨ 6 < x then 1 else if x ≤ p then 7 else visG x (l.drop (k + 1)) := by rw [drop_at h, visG]
theorem visG_end {l : List Int} {k : Nat} {p : Int} (h : l.length ≤ k) : visG p (l.drop k) = 0 := by rw [List.drop_of_length_le h, visG]
theorem visL_step {l : List Int} {d t : Int} (h : d < t) : visL l d (t - d).toNat = if d % 7 ∈ l then d :: visL l (d + 1) (t - (d + 1)).toNat else visL l (d + 1) (t - (d + 1)).toNat := by
  obtain ⟨m, hm⟩ : ∃ m, (t - d).toNat = m + 1 := ⟨(t - d).toNat - 1, by omega⟩
  rw [hm, visL, show (t - (d + 1)).toNat = m by omega]
theorem visL_end {l : List Int} {d t : Int} (h : ¬ d < t) : visL l d (t - d).toNat = [] := by
  rw [show (t - d).toNat = 0 by omega, visL]
attribute [local irreducible] intRows
theorem indexN_fn (l : List Int) (v : Int) (hv : v ∉ l) (hl : l.length ≤ 1000) : PFn Try.prog 37 [.ints l, .int v] (· = .int (-1)) := by
  have hL := intRows_len l
  refine PFn.mk (Spec.body Try.func37 rfl rfl (Try.ntmps37) rfl fun w0 own0 M => ?_)
  repeat' (first | refine goH ?_ | refine goV ?_ | refine goI ?_ | (refine Cw.k_cond ?_; first | (refine Cw.cond_dec rfl (fun hc => ?_) (fun hc => ?_) <;> try (exfalso; omega)) | refine Cw.cond_bool rfl (fun hc => ?_) (fun hc => ?_)) | fail)
  refine Cw.loopI [(0, _), (1, _), (7, _)] _ (fun q e cc => ∃ (k : Nat), q = l.length - k ∧ k ≤ l.length ∧ e = [(8, .int k)] ∧ cc = []) ⟨_, _, _, (Ent.mkP goSub goPm), 0, rfl, by omega, rfl, rfl⟩ ?_
  rintro _ _ _ ⟨k, rfl, hk, rfl, rfl⟩
  by_cases hkl : k < l.length
  · obtain ⟨y, hy⟩ := at_lt hkl
    have r1 := intRows_at hy
    have hyv : v ≠ y := fun e => hv (by rw [e]; exact List.mem_of_getElem? hy)
    clear hy
    repeat' (first | refine goH ?_ | refine goV ?_ | refine goI ?_ | (refine Cw.k_cond ?_; first | (refine Cw.cond_dec rfl (fun hc => ?_) (fun hc => ?_) <;> try (exfalso; omega)) | refine Cw.cond_bool rfl (fun hc => ?_) (fun hc => ?_)) | fail)
    exact ⟨_, _, _, (Ent.mk goSub goTk), ⟨k + 1, rfl, by omega, rfl, rfl⟩, by omega⟩
  · repeat' (first | refine goH ?_ | refine goV ?_ | refine goI ?_ | (refine Cw.k_cond ?_; first | (refine Cw.cond_dec rfl (fun hc => ?_) (fun hc => ?_) <;> try (exfalso; omega)) | refine Cw.cond_bool rfl (fun hc => ?_) (fun hc => ?_)) | fail)
    exact Fin.ret (Ent.take goTk) (Outs.one rfl rfl) ⟨rfl, rfl⟩
theorem contains_fn (l : List Int) (v : Int) (hl : l.length ≤ 1000) : PFn Try.prog 44 [.ints l, .int v] (· = .bool (decide (v ∈ l))) := by
  by_cases hv : v ∈ l
  · rw [decide_eq_true hv]
    have k1 := index_fn l v hv hl
    generalize idxN l v = i at *
    refine PFn.mk (Spec.body Try.func44 rfl rfl (Try.ntmps44) rfl fun w0 own0 M => ?_)
    repeat' (first | refine goH ?_ | refine goV ?_ | refine goI ?_ | (refine Cw.k_cond ?_; first | (refine Cw.cond_dec rfl (fun hc => ?_) (fun hc => ?_) <;> try (exfalso; omega)) | refine Cw.cond_bool rfl (fun hc => ?_) (fun hc => ?_)) | (refine Ops.k_calla ?_; first | (refine Ops.k_callf 37 ?_; refine Ops.callV k1 (Evs.cons rfl (Evs.cons rfl Evs.nil)) rfl ?_)) | fail)
    exact Fin.ret (Ent.take goTk) (Outs.one rfl rfl) ⟨rfl, congrArg Tr.bool (decide_eq_true (by omega))⟩
  · rw [decide_eq_false hv]
    have k1 := indexN_fn l v hv hl
    refine PFn.mk (Spec.body Try.func44 rfl rfl (Try.ntmps44) rfl fun w0 own0 M => ?_)
    repeat' (first | refine goH ?_ | refine goV ?_ | refine goI ?_ | (refine Cw.k_cond ?_; first | (refine Cw.cond_dec rfl (fun hc => ?_) (fun hc => ?_) <;> try (exfalso; omega)) | refine Cw.cond_bool rfl (fun hc => ?_) (fun hc => ?_)) | (refine Ops.k_calla ?_; first | (refine Ops.k_callf 37 ?_; refine Ops.callV k1 (Evs.cons rfl (Evs.cons rfl Evs.nil)) rfl ?_)) | fail)
    exact Fin.ret (Ent.take goTk) (Outs.one rfl rfl) ⟨rfl, congrArg Tr.bool (decide_eq_false (by omega))⟩
theorem visOf_fn (l : List Int) (f t : Int) (hl : l.length ≤ 1000) (hf : 0 ≤ f ∧ f ≤ 1000000) (ht : f ≤ t ∧ t ≤ 1000000) : PFn Try.prog 19 [.ints l, .int f, .int t] (· = .ints (visL l f (t - f).toNat)) := by
  have hL := intRows_len l
  obtain ⟨R, hR⟩ : ∃ R, R = intRows (visL l f (t - f).toNat) := ⟨_, rfl⟩
  unfold Tr.ints
  rw [← hR]
  refine PFn.mk (Spec.body Try.func19 rfl rfl (Try.ntmps19) rfl fun w0 own0 M => ?_)
  repeat' (first | refine goH ?_ | refine goV ?_ | refine goC (fun ad cap => ?_) | refine goI ?_ | (refine Cw.k_cond ?_; first | (refine Cw.cond_dec rfl (fun hc => ?_) (fun hc => ?_) <;> try (exfalso; omega)) | refine Cw.cond_bool rfl (fun hc => ?_) (fun hc => ?_)) | fail)
  refine Cw.loopI [(0, _), (2, _)] _ (fun q e cc => ∃ (d : Int) (rows : List (List Tr)) (ad : Option Addr) (cap n : Nat), q = (t - d).toNat ∧ ((f ≤ d ∧ d ≤ t) ∧ R = rows ++ intRows (visL l d (t - d).toNat) ∧ rows.length = n ∧ (n : Int) + f ≤ d) ∧ e = [(7, Tr.raw (.slice ad n cap)), (8, .int d)] ∧ cc = [Chunk.own ad cap 1 3 rows])
    ⟨_, _, _, Ent.trans (Ent.nil 1 3) (Ent.mkP goSub goPm), f, [], none, 0, 0, rfl, ⟨by omega, by rw [List.nil_append]; exact hR, rfl, by omega⟩, rfl, rfl⟩ ?_
  clear hR
  rintro _ _ _ ⟨d, rows, ad, cap, n, rfl, ⟨hd, hV, hrl, hn⟩, rfl, rfl⟩
  by_cases hdt : d < t
  · rw [visL_step hdt] at hV
    have kC := contains_fn l (d % 7) hl
    by_cases hm : d % 7 ∈ l
    · rw [if_pos hm] at hV
      rw [decide_eq_true hm] at kC
      have hV2 : R = (rows ++ [[Tr.int d]]) ++ intRows (visL l (d + 1) (t - (d + 1)).toNat) := by rw [hV]; unfold intRows; simp
      have hrl2 : (rows ++ [[Tr.int d]]).length = n + 1 := by rw [List.length_append, hrl]; rfl
      clear hV hm
      repeat' (first | refine goH ?_ | refine goV ?_ | refine goC (fun ad cap => ?_) | refine goI ?_ | (refine Cw.k_cond ?_; first | (refine Cw.cond_dec rfl (fun hc => ?_) (fun hc => ?_) <;> try (exfalso; omega)) | refine Cw.cond_bool rfl (fun hc => ?_) (fun hc => ?_)) | (refine Ops.k_calla ?_; first | (refine Ops.k_callf 44 ?_; refine Ops.callV kC (Evs.cons rfl (Evs.cons rfl Evs.nil)) rfl ?_)) | fail)
      erw [hrl2]
      exact ⟨_, _, _, (Ent.mk goSub goTk), ⟨d + 1, _, _, _, _, rfl, ⟨by omega, hV2, hrl2, by omega⟩, rfl, rfl⟩, by omega⟩
    · rw [if_neg hm] at hV
      rw [decide_eq_false hm] at kC
      clear hm
      repeat' (first | refine goH ?_ | refine goV ?_ | refine goC (fun ad cap => ?_) | refine goI ?_ | (refine Cw.k_cond ?_; first | (refine Cw.cond_dec rfl (fun hc => ?_) (fun hc => ?_) <;> try (exfalso; omega)) | refine Cw.cond_bool rfl (fun hc => ?_) (fun hc => ?_)) | (refine Ops.k_calla ?_; first | (refine Ops.k_callf 44 ?_; refine Ops.callV kC (Evs.cons rfl (Evs.cons rfl Evs.nil)) rfl ?_)) | fail)
      exact ⟨_, _, _, (Ent.mk goSub goTk), ⟨d + 1, _, _, _, _, rfl, ⟨by omega, hV, hrl, by omega⟩, rfl, rfl⟩, by omega⟩
  · rw [visL_end hdt] at hV
    have e : R = rows := by rw [hV]; unfold intRows; simp
    rw [e]
    clear hV
    subst hrl
    repeat' (first | refine goH ?_ | refine goV ?_ | refine goC (fun ad cap => ?_) | refine goI ?_ | (refine Cw.k_cond ?_; first | (refine Cw.cond_dec rfl (fun hc => ?_) (fun hc => ?_) <;> try (exfalso; omega)) | refine Cw.cond_bool rfl (fun hc => ?_) (fun hc => ?_)) | fail)
    refine Fin.ret (Ent.trans (Ent.settle (s := 6) rfl goPk rfl) (Ent.take goTk)) (Outs.sole rfl goOe) ⟨rfl, rfl⟩
theorem visFault_fn (l : List Int) (f t : Int) (hl : l.length ≤ 1000) (hf : -1000000 ≤ f ∧ f ≤ 1000000) (ht : -1000000 ≤ t ∧ t ≤ 1000000) : PFn Try.prog 17 [.ints l, .int f, .int t] (· = .int (visE l f t)) := by
  have hL := intRows_len l
  unfold visE
  by_cases h7 : l.length > 7
  · rw [if_pos h7]
    refine PFn.mk (Spec.body Try.func17 rfl rfl (Try.ntmps17) rfl fun w0 own0 M => ?_)
    repeat' (first | refine goH ?_ | refine goV ?_ | refine goG ?_ | (refine Ops.k_guard ?_; first | (refine Ops.guard_dec rfl rfl (fun hc => ?_) (fun hc => ?_) <;> try (exfalso; omega)) | refine Ops.guard_split rfl rfl (fun hc => ?_) (fun hc => ?_)) | refine goI ?_ | (refine Cw.k_cond ?_; first | (refine Cw.cond_dec rfl (fun hc => ?_) (fun hc => ?_) <;> try (exfalso; omega)) | refine Cw.cond_bool rfl (fun hc => ?_) (fun hc => ?_)) | fail)
    exact Fin.ret (Ent.take goTk) (Outs.one rfl rfl) ⟨rfl, rfl⟩
  rw [if_neg h7]
  obtain ⟨E, hE⟩ : ∃ E, E = visG (-1) l := ⟨_, rfl⟩
  rw [← hE]
  refine PFn.mk (Spec.body Try.func17 rfl rfl (Try.ntmps17) rfl fun w0 own0 M => ?_)
  repeat' (first | refine goH ?_ | refine goV ?_ | refine goG ?_ | (refine Ops.k_guard ?_; first | (refine Ops.guard_dec rfl rfl (fun hc => ?_) (fun hc => ?_) <;> try (exfalso; omega)) | refine Ops.guard_split rfl rfl (fun hc => ?_) (fun hc => ?_)) | refine goI ?_ | (refine Cw.k_cond ?_; first | (refine Cw.cond_dec rfl (fun hc => ?_) (fun hc => ?_) <;> try (exfalso; omega)) | refine Cw.cond_bool rfl (fun hc => ?_) (fun hc => ?_)) | fail)
  refine Cw.loopI [(0, _), (1, _), (2, _), (12, _), (13, _)] _ (fun q e cc => ∃ (k : Nat) (p : Int), q = l.length - k ∧ (k ≤ l.length ∧ E = visG p (l.drop k) ∧ (k = 0 → p = -1) ∧ (0 < k → (intRows l)[((k : Int) - 1).toNat]? = some [Tr.int p])) ∧ e = [(14, .int k)] ∧ cc = [])
    ⟨_, _, _, (Ent.mkP goSub goPm), 0, -1, rfl, ⟨by omega, by rw [List.drop_zero]; exact hE, fun _ => rfl, fun h => absurd h (by omega)⟩, rfl, rfl⟩ ?_
  clear hE
  rintro _ _ _ ⟨k, p, rfl, ⟨hk, hV, hp0, hp1⟩, rfl, rfl⟩
  by_cases hkl : k < l.length
  · obtain ⟨x, hx⟩ := at_lt hkl
    have r1 := intRows_at hx

    rw [visG_step hx] at hV
    have r2 : (intRows l)[((k + 1 : Nat) : Int).toNat - 1]? = some [Tr.int x] := by
      rw [show ((k + 1 : Nat) : Int).toNat - 1 = k by omega]; exact r1
    have r3 : (intRows l)[(((k + 1 : Nat) : Int) - 1).toNat]? = some [Tr.int x] := by
      rw [show (((k + 1 : Nat) : Int) - 1).toNat = k by omega]; exact r1
    clear hx
    by_cases h1 : x < 0 ∨ 6 < x
    · rw [if_pos h1] at hV
      rw [hV]
      clear r2 r3 hp0 hp1 hV
      by_cases h2 : x < 0
      all_goals
        repeat' (first | refine goH ?_ | refine goV ?_ | refine goG ?_ | (refine Ops.k_guard ?_; first | (refine Ops.guard_dec rfl rfl (fun hc => ?_) (fun hc => ?_) <;> try (exfalso; omega)) | refine Ops.guard_split rfl rfl (fun hc => ?_) (fun hc => ?_)) | refine goI ?_ | (refine Cw.k_cond ?_; first | (refine Cw.cond_dec rfl (fun hc => ?_) (fun hc => ?_) <;> try (exfalso; omega)) | refine Cw.cond_bool rfl (fun hc => ?_) (fun hc => ?_)) | fail)
        exact Fin.ret (Ent.take goTk) (Outs.one rfl rfl) ⟨rfl, by first | rfl | exact congrArg Tr.int (by decide)⟩
    rw [if_neg h1] at hV
    by_cases hk0 : k = 0
    · have hp := hp0 hk0
      rw [if_neg (by omega)] at hV
      clear hp0 hp1
      subst hk0
      repeat' (first | refine goH ?_ | refine goV ?_ | refine goG ?_ | (refine Ops.k_guard ?_; first | (refine Ops.guard_dec rfl rfl (fun hc => ?_) (fun hc => ?_) <;> try (exfalso; omega)) | refine Ops.guard_split rfl rfl (fun hc => ?_) (fun hc => ?_)) | refine goI ?_ | (refine Cw.k_cond ?_; first | (refine Cw.cond_dec rfl (fun hc => ?_) (fun hc => ?_) <;> try (exfalso; omega)) | refine Cw.cond_bool rfl (fun hc => ?_) (fun hc => ?_)) | fail)
      exact ⟨_, _, _, (Ent.mk goSub goTk), ⟨1, _, rfl, ⟨by omega, hV, fun h => absurd h (by omega), fun _ => r3⟩, rfl, rfl⟩, by omega⟩
    have hp2 := hp1 (by omega)
    clear hp0 hp1
    by_cases h2 : x ≤ p
    · rw [if_pos h2] at hV
      rw [hV]
      clear r2 r3 hV
      repeat' (first | refine goH ?_ | refine goV ?_ | refine goG ?_ | (refine Ops.k_guard ?_; first | (refine Ops.guard_dec rfl rfl (fun hc => ?_) (fun hc => ?_) <;> try (exfalso; omega)) | refine Ops.guard_split rfl rfl (fun hc => ?_) (fun hc => ?_)) | refine goI ?_ | (refine Cw.k_cond ?_; first | (refine Cw.cond_dec rfl (fun hc => ?_) (fun hc => ?_) <;> try (exfalso; omega)) | refine Cw.cond_bool rfl (fun hc => ?_) (fun hc => ?_)) | fail)
      exact Fin.ret (Ent.take goTk) (Outs.one rfl rfl) ⟨rfl, by first | rfl | exact congrArg Tr.int (by decide)⟩
    · rw [if_neg h2] at hV
      repeat' (first | refine goH ?_ | refine goV ?_ | refine goG ?_ | (refine Ops.k_guard ?_; first | (refine Ops.guard_dec rfl rfl (fun hc => ?_) (fun hc => ?_) <;> try (exfalso; omega)) | refine Ops.guard_split rfl rfl (fun hc => ?_) (fun hc => ?_)) | refine goI ?_ | (refine Cw.k_cond ?_; first | (refine Cw.cond_dec rfl (fun hc => ?_) (fun hc => ?_) <;> try (exfalso; omega)) | refine Cw.cond_bool rfl (fun hc => ?_) (fun hc => ?_)) | fail)
      exact ⟨_, _, _, (Ent.mk goSub goTk), ⟨k + 1, _, rfl, ⟨by omega, hV, fun h => absurd h (by omega), fun _ => r3⟩, rfl, rfl⟩, by omega⟩
  · rw [visG_end (by omega)] at hV
    subst hV
    clear hp0 hp1
    rw [if_neg (by simp)]
    by_cases h1 : f < 0
    · rw [if_pos (.inl h1)]
      repeat' (first | refine goH ?_ | refine goV ?_ | refine goG ?_ | (refine Ops.k_guard ?_; first | (refine Ops.guard_dec rfl rfl (fun hc => ?_) (fun hc => ?_) <;> try (exfalso; omega)) | refine Ops.guard_split rfl rfl (fun hc => ?_) (fun hc => ?_)) | refine goI ?_ | (refine Cw.k_cond ?_; first | (refine Cw.cond_dec rfl (fun hc => ?_) (fun hc => ?_) <;> try (exfalso; omega)) | refine Cw.cond_bool rfl (fun hc => ?_) (fun hc => ?_)) | fail)
      exact Fin.ret (Ent.take goTk) (Outs.one rfl rfl) ⟨rfl, rfl⟩
    by_cases h2 : t < f
    · rw [if_pos (.inr (.inl h2))]
      repeat' (first | refine goH ?_ | refine goV ?_ | refine goG ?_ | (refine Ops.k_guard ?_; first | (refine Ops.guard_dec rfl rfl (fun hc => ?_) (fun hc => ?_) <;> try (exfalso; omega)) | refine Ops.guard_split rfl rfl (fun hc => ?_) (fun hc => ?_)) | refine goI ?_ | (refine Cw.k_cond ?_; first | (refine Cw.cond_dec rfl (fun hc => ?_) (fun hc => ?_) <;> try (exfalso; omega)) | refine Cw.cond_bool rfl (fun hc => ?_) (fun hc => ?_)) | fail)
      exact Fin.ret (Ent.take goTk) (Outs.one rfl rfl) ⟨rfl, rfl⟩
    by_cases h3 : 4001 < t
    · rw [if_pos (.inr (.inr h3))]
      repeat' (first | refine goH ?_ | refine goV ?_ | refine goG ?_ | (refine Ops.k_guard ?_; first | (refine Ops.guard_dec rfl rfl (fun hc => ?_) (fun hc => ?_) <;> try (exfalso; omega)) | refine Ops.guard_split rfl rfl (fun hc => ?_) (fun hc => ?_)) | refine goI ?_ | (refine Cw.k_cond ?_; first | (refine Cw.cond_dec rfl (fun hc => ?_) (fun hc => ?_) <;> try (exfalso; omega)) | refine Cw.cond_bool rfl (fun hc => ?_) (fun hc => ?_)) | fail)
      exact Fin.ret (Ent.take goTk) (Outs.one rfl rfl) ⟨rfl, rfl⟩
    rw [if_neg (by omega)]
    repeat' (first | refine goH ?_ | refine goV ?_ | refine goG ?_ | (refine Ops.k_guard ?_; first | (refine Ops.guard_dec rfl rfl (fun hc => ?_) (fun hc => ?_) <;> try (exfalso; omega)) | refine Ops.guard_split rfl rfl (fun hc => ?_) (fun hc => ?_)) | refine goI ?_ | (refine Cw.k_cond ?_; first | (refine Cw.cond_dec rfl (fun hc => ?_) (fun hc => ?_) <;> try (exfalso; omega)) | refine Cw.cond_bool rfl (fun hc => ?_) (fun hc => ?_)) | fail)
    exact Fin.ret (Ent.take goTk) (Outs.one rfl rfl) ⟨rfl, rfl⟩
end Lg
end
