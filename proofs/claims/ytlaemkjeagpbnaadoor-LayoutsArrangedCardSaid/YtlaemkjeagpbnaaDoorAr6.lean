/- A part of the proof of a law of this seat: it adds no condition. By an AI agent. -/
import Derived.Test.YtlaemkjeagpbnaaDoorAr5
import Derived.Test.YtlaemkjeagpbnaaDoorLay7
set_option linter.all false
set_option maxRecDepth 100000
set_option maxHeartbeats 8000000
namespace Lg
open Go Go.Proofs

/-- a copy of its own -/
theorem clone_int (rows : List (List Tr)) (hk : ∀ r ∈ rows, r.length = 1) (hl : rows.length ≤ 1000000) : PFnO Tryd.prog 48 [.sl 1 rows] 1 3 (· = rows) := by
  unfold PFnO
  refine Spec.body Tryd.func48 rfl rfl (Tryd.ntmps48) rfl fun w0 own0 M => ?_
  repeat' (first | refine goH ?_ | ((fail_if_success refine Ops.k_b_eql ?_); (fail_if_success refine Ops.k_buildSlice ?_); refine goV ?_) | ((fail_if_success refine Ops.k_b_eql ?_); (fail_if_success refine Ops.k_buildSlice ?_); refine goC (fun ad cap => ?_)) | refine goI ?_ | (refine Cw.k_cond ?_; first | (refine Cw.cond_dec rfl (fun hc => ?_) (fun hc => ?_) <;> try (exfalso; omega)) | refine Cw.cond_bool rfl (fun hc => ?_) (fun hc => ?_)) | fail)
  refine Ops.eql_nilS rfl rfl (fun b hb => ?_)
  cases b
  · repeat' (first | refine goH ?_ | ((fail_if_success refine Ops.k_buildSlice ?_); refine goV ?_) | ((fail_if_success refine Ops.k_buildSlice ?_); refine goC (fun ad cap => ?_)) | refine goI ?_ | (refine Cw.k_cond ?_; first | (refine Cw.cond_dec rfl (fun hc => ?_) (fun hc => ?_) <;> try (exfalso; omega)) | refine Cw.cond_bool rfl (fun hc => ?_) (fun hc => ?_)) | fail)
    refine Ops.buildSlice_own (by exact Parts.nil) rfl rfl rfl (fun ad cap => ?_)
    repeat' (first | refine goH ?_ | refine goV ?_ | refine goC (fun ad cap => ?_) | refine goI ?_ | (refine Cw.k_cond ?_; first | (refine Cw.cond_dec rfl (fun hc => ?_) (fun hc => ?_) <;> try (exfalso; omega)) | refine Cw.cond_bool rfl (fun hc => ?_) (fun hc => ?_)) | fail)
    exact Fin.ret (Ent.take goTk) (Outs.one rfl rfl) ⟨_, _, _, rfl, rfl, rfl⟩
  · have hr := hb rfl
    subst hr
    repeat' (first | refine goH ?_ | refine goV ?_ | refine goC (fun ad cap => ?_) | refine goI ?_ | (refine Cw.k_cond ?_; first | (refine Cw.cond_dec rfl (fun hc => ?_) (fun hc => ?_) <;> try (exfalso; omega)) | refine Cw.cond_bool rfl (fun hc => ?_) (fun hc => ?_)) | fail)
    exact Fin.ret (Ent.trans (Ent.nil 1 3) (Ent.take goTk)) (Outs.one rfl rfl) ⟨none, 0, [], rfl, rfl, rfl⟩

theorem intRows_k (l : List Int) : ∀ r ∈ intRows l, r.length = 1 := by
  intro r hr
  unfold intRows at hr
  obtain ⟨x, _, rfl⟩ := List.mem_map.1 hr
  rfl
theorem total_fn (t : List Int) (hl : t.length ≤ 1000) (hb' : ∀ n ∈ t, -1000000 ≤ n ∧ n ≤ 1000000) : PFn Tryd.prog 47 [.ints t] (· = .int (sumL t)) := by
  have hTL := intRows_len t
  refine PFn.mk (Spec.body Tryd.func47 rfl rfl (Tryd.ntmps47) rfl fun w0 own0 M => ?_)
  repeat' (first | refine goH ?_ | refine goV ?_ | refine goI ?_ | (refine Cw.k_cond ?_; first | (refine Cw.cond_dec rfl (fun hc => ?_) (fun hc => ?_) <;> try (exfalso; omega)) | refine Cw.cond_bool rfl (fun hc => ?_) (fun hc => ?_)) | fail)
  refine Cw.loopI [(6, _), (7, _)] _ (fun q e cc => ∃ (k : Nat) (s : Int), q = t.length - k ∧ (k ≤ t.length ∧ s + sumL (t.drop k) = sumL t ∧ -(1000000 * (k : Int)) ≤ s ∧ s ≤ 1000000 * (k : Int)) ∧ e = [(3, .int s), (8, .int k)] ∧ cc = []) ⟨_, _, _, (Ent.mkP goSub goPm), 0, 0, rfl, ⟨by omega, by simp, by omega, by omega⟩, rfl, rfl⟩ ?_
  rintro _ _ _ ⟨k, s, rfl, ⟨hk, hV, b1, b2⟩, rfl, rfl⟩
  by_cases hkl : k < t.length
  · obtain ⟨x, hx⟩ := at_lt hkl
    have hrow := intRows_at hx
    have hxb := hb' x (List.mem_of_getElem? hx)
    rw [drop_at hx, sumL, sumF_cons, ← sumL] at hV
    repeat' (first | refine goH ?_ | refine goV ?_ | refine goI ?_ | (refine Cw.k_cond ?_; first | (refine Cw.cond_dec rfl (fun hc => ?_) (fun hc => ?_) <;> try (exfalso; omega)) | refine Cw.cond_bool rfl (fun hc => ?_) (fun hc => ?_)) | fail)
    exact ⟨_, _, _, (Ent.mk goSub goTk), ⟨k + 1, _, rfl, ⟨by omega, by omega, by omega, by omega⟩, rfl, rfl⟩, by omega⟩
  · rw [List.drop_eq_nil_of_le (by omega), sumL, sumF] at hV
    repeat' (first | refine goH ?_ | refine goV ?_ | refine goI ?_ | (refine Cw.k_cond ?_; first | (refine Cw.cond_dec rfl (fun hc => ?_) (fun hc => ?_) <;> try (exfalso; omega)) | refine Cw.cond_bool rfl (fun hc => ?_) (fun hc => ?_)) | fail)
    exact Fin.ret (Ent.take goTk) (Outs.one rfl rfl) ⟨rfl, congrArg Tr.int (by omega)⟩
theorem sumR_fn (t : List Int) (hl : t.length ≤ 1000) (hb' : ∀ n ∈ t, -1000000 ≤ n ∧ n ≤ 1000000) : PFn Tryd.prog 57 [.ints t] (· = .int (sumL t)) := by
  have hTL := intRows_len t
  refine PFn.mk (Spec.body Tryd.func57 rfl rfl (Tryd.ntmps57) rfl fun w0 own0 M => ?_)
  repeat' (first | refine goH ?_ | refine goV ?_ | refine goI ?_ | (refine Cw.k_cond ?_; first | (refine Cw.cond_dec rfl (fun hc => ?_) (fun hc => ?_) <;> try (exfalso; omega)) | refine Cw.cond_bool rfl (fun hc => ?_) (fun hc => ?_)) | fail)
  refine Cw.loopI [(6, _), (7, _)] _ (fun q e cc => ∃ (k : Nat) (s : Int), q = t.length - k ∧ (k ≤ t.length ∧ s + sumL (t.drop k) = sumL t ∧ -(1000000 * (k : Int)) ≤ s ∧ s ≤ 1000000 * (k : Int)) ∧ e = [(3, .int s), (8, .int k)] ∧ cc = []) ⟨_, _, _, (Ent.mkP goSub goPm), 0, 0, rfl, ⟨by omega, by simp, by omega, by omega⟩, rfl, rfl⟩ ?_
  rintro _ _ _ ⟨k, s, rfl, ⟨hk, hV, b1, b2⟩, rfl, rfl⟩
  by_cases hkl : k < t.length
  · obtain ⟨x, hx⟩ := at_lt hkl
    have hrow := intRows_at hx
    have hxb := hb' x (List.mem_of_getElem? hx)
    rw [drop_at hx, sumL, sumF_cons, ← sumL] at hV
    repeat' (first | refine goH ?_ | refine goV ?_ | refine goI ?_ | (refine Cw.k_cond ?_; first | (refine Cw.cond_dec rfl (fun hc => ?_) (fun hc => ?_) <;> try (exfalso; omega)) | refine Cw.cond_bool rfl (fun hc => ?_) (fun hc => ?_)) | fail)
    exact ⟨_, _, _, (Ent.mk goSub goTk), ⟨k + 1, _, rfl, ⟨by omega, by omega, by omega, by omega⟩, rfl, rfl⟩, by omega⟩
  · rw [List.drop_eq_nil_of_le (by omega), sumL, sumF] at hV
    repeat' (first | refine goH ?_ | refine goV ?_ | refine goI ?_ | (refine Cw.k_cond ?_; first | (refine Cw.cond_dec rfl (fun hc => ?_) (fun hc => ?_) <;> try (exfalso; omega)) | refine Cw.cond_bool rfl (fun hc => ?_) (fun hc => ?_)) | fail)
    exact Fin.ret (Ent.take goTk) (Outs.one rfl rfl) ⟨rfl, congrArg Tr.int (by omega)⟩
/-- right counts -/
theorem cnts_bd {l : List Offer} {c : List Int} (ho : offersE l = 0) (h : cntsE l c = 0) : c.length = l.length ∧ l.length ≤ 30 ∧ (∀ v ∈ c, 0 ≤ v ∧ v ≤ 10) := by
  obtain ⟨h1, h2⟩ := cntsE_at h
  refine ⟨h1, offersE_len ho, fun v hv => ?_⟩
  obtain ⟨k, hk, rfl⟩ := List.getElem_of_mem hv
  obtain ⟨o, hoo⟩ : ∃ o, l[k]? = some o := ⟨_, List.getElem?_eq_getElem (by omega)⟩
  have h3 := h2 k _ o (List.getElem?_eq_getElem hk) hoo
  have h4 := (prE_ok (offersE_at ho hoo).2.2).1
  omega
theorem sumL_pos {c : List Int} {b : Int} (h : ∀ v ∈ c, 0 ≤ v ∧ v ≤ b) : 0 ≤ sumL c ∧ sumL c ≤ b * c.length := by
  induction c with
  | nil => simp [sumL, sumF]
  | cons x c ih =>
    have h1 := h x (by simp)
    have h2 := ih fun n hn => h n (List.mem_cons_of_mem _ hn)
    unfold sumL at *
    rw [sumF_cons, List.length_cons]
    have : b * ((c.length + 1 : Nat) : Int) = b * (c.length : Int) + b := by rw [Int.natCast_add, Int.mul_add]; simp
    omega
/-! ### Place -/
def plS (R C : Int) (l : List Offer) (xs : List ByteArray) (c : List Int) : PS := tryP (keysL l) xs (okC R C l) xs.length [] (((xs.length : Int) - sumL c) :: c) 0 ([], -1)
def plT (st : PS) : Tr := if st.2 < 0 then .tup [.sl 1 [], .int 0, .int 8] else .tup [.strs st.1, .int st.2, .int 0]
def plE (R C : Int) (l : List Offer) (xs : List ByteArray) (c : List Int) : Tr :=
  if 8 < xs.length then .tup [.sl 1 [], .int 0, .int 2] else if cntsE l c ≠ 0 then .tup [.sl 1 [], .int 0, .int (cntsE l c)] else if (xs.length : Int) < sumL c then .tup [.sl 1 [], .int 0, .int 12] else plT (plS R C l xs c)
theorem plc_imp {R C e m : Int} {l : List Offer} {old : List ByteArray} {ad2 : Option Addr} {n2 cap2 : Nat} : ImpL [.int R, .int C, .offers l, .strs old, Tr.raw (.slice none 0 0), Tr.raw (.slice ad2 n2 cap2), .int e, Tr.raw (.slice none 0 0), .int m] [.int R, .int C, .offers l, .strs old, Tr.raw (.slice none 0 0), Tr.raw (.slice ad2 n2 cap2), .int e, .strs [], .int m] :=
  .cons Imp.refl (.cons Imp.refl (.cons Imp.refl (.cons Imp.refl (.cons Imp.refl (.cons Imp.refl (.cons Imp.refl (.cons Imp.nil (.cons Imp.refl .nil))))))))
theorem strRows_nil : strRows [] = [] := rfl
theorem lay_ok {r c : Int} {l : List Offer} {xs : List ByteArray} (h : layoutE r c l xs = 0) : rackE r c = 0 ∧ offersE l = 0 ∧ (xs.length : Int) = r * c ∧ xs.any (oddB l) = false := by
  unfold layoutE at h
  by_cases h1 : rackE r c ≠ 0
  · rw [if_pos h1] at h; exact absurd h h1
  rw [if_neg h1] at h
  by_cases h2 : offersE l ≠ 0
  · rw [if_pos h2] at h; exact absurd h h2
  rw [if_neg h2] at h
  by_cases h3 : (xs.length : Int) ≠ r * c
  · rw [if_pos h3] at h; exact absurd h (by decide)
  rw [if_neg h3] at h
  by_cases h4 : xs.any (oddB l) = true
  · rw [if_pos h4] at h; exact absurd h (by decide)
  exact ⟨by omega, by omega, by omega, by simpa using h4⟩
attribute [local irreducible] intRows strRows filP hatedB badC tryP plS sumL
theorem place_fn (r c : Int) (l : List Offer) (hl : OBd l) (xs : List ByteArray) (hx : xs.length ≤ 1000) (n : List Int) (hn : n.length ≤ 1000) : PFn Tryd.prog 23 [.agg [.int r, .int c], .offers l, .strs xs, .ints n] (· = if layoutE r c l xs ≠ 0 then .tup [.sl 1 [], .int 0, .int (layoutE r c l xs)] else plE r c l xs n) := by
  have k1 := checkLayout_fn r c l hl xs hx
  have k2 := countsFault_fn l hl n hn
  have hoR := strRows_len xs
  by_cases h1 : layoutE r c l xs ≠ 0
  · rw [if_pos h1]
    generalize layoutE r c l xs = E at *
    refine PFn.mk (Spec.body Tryd.func23 rfl rfl (Tryd.ntmps23) rfl fun w0 own0 M => ?_)
    repeat' (first | refine goH ?_ | refine goV ?_ | refine goB (fun b => ?_) | refine goI ?_ | (refine Cw.k_cond ?_; first | (refine Cw.cond_dec rfl (fun hc => ?_) (fun hc => ?_) <;> try (exfalso; omega)) | refine Cw.cond_bool rfl (fun hc => ?_) (fun hc => ?_)) | (refine Ops.k_calla ?_; first | (refine Ops.k_callf 50 ?_; refine Ops.callV k1 (Evs.cons rfl (Evs.cons rfl (Evs.cons rfl Evs.nil))) rfl ?_)) | (apply OpW.k_call; first | (apply OpW.k_callf 50; exact OpW.callV k1 (Evs.cons rfl (Evs.cons rfl (Evs.cons rfl Evs.nil))))) | refine goR ?_ | refine goP ?_ | apply PSeq.cons | apply PSeq.yes rfl rfl rfl | exact goW | fail)
    refine Fin.ret (Ent.trans (Ent.nilsl 1 (s := 8) rfl) (Ent.take goTk)) (Outs.many rfl (OutL.cons goOe (OutL.cons goOe (OutL.cons goOe OutL.nil))) rfl) ⟨rfl, rfl⟩
  rw [if_neg h1]
  have h10 : layoutE r c l xs = 0 := by omega
  rw [h10] at k1
  obtain ⟨hr, ho, hrc, hodd⟩ := lay_ok h10
  obtain ⟨hrb, hcb, _⟩ := rackE_bd hr
  unfold plE
  by_cases h2 : 8 < xs.length
  · rw [if_pos h2]
    refine PFn.mk (Spec.body Tryd.func23 rfl rfl (Tryd.ntmps23) rfl fun w0 own0 M => ?_)
    repeat' (first | refine goH ?_ | refine goV ?_ | refine goB (fun b => ?_) | refine goI ?_ | (refine Cw.k_cond ?_; first | (refine Cw.cond_dec rfl (fun hc => ?_) (fun hc => ?_) <;> try (exfalso; omega)) | refine Cw.cond_bool rfl (fun hc => ?_) (fun hc => ?_)) | (refine Ops.k_calla ?_; first | (refine Ops.k_callf 50 ?_; refine Ops.callV k1 (Evs.cons rfl (Evs.cons rfl (Evs.cons rfl Evs.nil))) rfl ?_)) | (apply OpW.k_call; first | (apply OpW.k_callf 50; exact OpW.callV k1 (Evs.cons rfl (Evs.cons rfl (Evs.cons rfl Evs.nil))))) | refine goR ?_ | refine goP ?_ | apply PSeq.cons | apply PSeq.yes rfl rfl rfl | exact goW | fail)
    refine Fin.ret (Ent.trans (Ent.nilsl 1 (s := 8) rfl) (Ent.take goTk)) (Outs.many rfl (OutL.cons goOe (OutL.cons goOe (OutL.cons goOe OutL.nil))) rfl) ⟨rfl, rfl⟩
  rw [if_neg h2]
  by_cases h3 : cntsE l n ≠ 0
  · rw [if_pos h3]
    generalize cntsE l n = E at *
    refine PFn.mk (Spec.body Tryd.func23 rfl rfl (Tryd.ntmps23) rfl fun w0 own0 M => ?_)
    repeat' (first | refine goH ?_ | refine goV ?_ | refine goB (fun b => ?_) | refine goI ?_ | (refine Cw.k_cond ?_; first | (refine Cw.cond_dec rfl (fun hc => ?_) (fun hc => ?_) <;> try (exfalso; omega)) | refine Cw.cond_bool rfl (fun hc => ?_) (fun hc => ?_)) | (refine Ops.k_calla ?_; first | (refine Ops.k_callf 50 ?_; refine Ops.callV k1 (Evs.cons rfl (Evs.cons rfl (Evs.cons rfl Evs.nil))) rfl ?_) | (refine Ops.k_callf 46 ?_; refine Ops.callV k2 (Evs.cons rfl (Evs.cons rfl Evs.nil)) rfl ?_)) | (apply OpW.k_call; first | (apply OpW.k_callf 50; exact OpW.callV k1 (Evs.cons rfl (Evs.cons rfl (Evs.cons rfl Evs.nil)))) | (apply OpW.k_callf 46; exact OpW.callV k2 (Evs.cons rfl (Evs.cons rfl Evs.nil)))) | refine goR ?_ | refine goP ?_ | apply PSeq.cons | apply PSeq.yes rfl rfl rfl | exact goW | fail)
    refine Fin.ret (Ent.trans (Ent.nilsl 1 (s := 8) rfl) (Ent.take goTk)) (Outs.many rfl (OutL.cons goOe (OutL.cons goOe (OutL.cons goOe OutL.nil))) rfl) ⟨rfl, rfl⟩
  rw [if_neg h3]
  have h30 : cntsE l n = 0 := by omega
  rw [h30] at k2
  obtain ⟨hnl, hl30, hnb⟩ := cnts_bd ho h30
  have hsb := sumL_pos hnb
  have k3 := total_fn n hn (fun v hv => by have := hnb v hv; omega)
  by_cases h4 : (xs.length : Int) < sumL n
  · rw [if_pos h4]
    generalize sumL n = s at *
    refine PFn.mk (Spec.body Tryd.func23 rfl rfl (Tryd.ntmps23) rfl fun w0 own0 M => ?_)
    repeat' (first | refine goH ?_ | refine goV ?_ | refine goB (fun b => ?_) | refine goI ?_ | (refine Cw.k_cond ?_; first | (refine Cw.cond_dec rfl (fun hc => ?_) (fun hc => ?_) <;> try (exfalso; omega)) | refine Cw.cond_bool rfl (fun hc => ?_) (fun hc => ?_)) | (refine Ops.k_calla ?_; first | (refine Ops.k_callf 50 ?_; refine Ops.callV k1 (Evs.cons rfl (Evs.cons rfl (Evs.cons rfl Evs.nil))) rfl ?_) | (refine Ops.k_callf 46 ?_; refine Ops.callV k2 (Evs.cons rfl (Evs.cons rfl Evs.nil)) rfl ?_) | (refine Ops.k_callf 47 ?_; refine Ops.callV k3 (Evs.cons rfl Evs.nil) rfl ?_)) | (apply OpW.k_call; first | (apply OpW.k_callf 50; exact OpW.callV k1 (Evs.cons rfl (Evs.cons rfl (Evs.cons rfl Evs.nil)))) | (apply OpW.k_callf 46; exact OpW.callV k2 (Evs.cons rfl (Evs.cons rfl Evs.nil))) | (apply OpW.k_callf 47; exact OpW.callV k3 (Evs.cons rfl Evs.nil))) | refine goR ?_ | refine goP ?_ | apply PSeq.cons | apply PSeq.yes rfl rfl rfl | exact goW | fail)
    refine Fin.ret (Ent.trans (Ent.nilsl 1 (s := 8) rfl) (Ent.take goTk)) (Outs.many rfl (OutL.cons goOe (OutL.cons goOe (OutL.cons goOe OutL.nil))) rfl) ⟨rfl, rfl⟩
  rw [if_neg h4]
  obtain ⟨R, rfl⟩ : ∃ R : Nat, r = R := ⟨r.toNat, by omega⟩
  obtain ⟨C, rfl⟩ : ∃ C : Nat, c = C := ⟨c.toNat, by omega⟩
  have hRC : xs.length = R * C := by
    have : ((R * C : Nat) : Int) = (R : Int) * (C : Int) := Int.natCast_mul _ _
    omega
  have kF := fun (bp : Nat) (ad2 : Option Addr) (cap2 : Nat) => fill_fn bp R C (by omega) l hl xs (by omega) ad2 cap2 xs.length [] n ((xs.length : Int) - sumL n) 0 [] (-1) none 0 (by simp) hnl (fun v hv => by have := hnb v hv; omega) (by omega) (by simp)
  have hS : filP (keysL l) xs (badC l C) xs.length [] (((xs.length : Int) - sumL n) :: n) 0 ([], -1) = plS R C l xs n := by
    unfold plS
    exact fil_try (fun ys hy => clashX_nil (by omega) (by rw [hy]; exact hRC)) _ _ _ _ _ (by simp) goodP_nil (.inl (by decide))
  obtain ⟨B, m, hBm⟩ : ∃ B m, plS R C l xs n = (B, m) := ⟨_, _, rfl⟩
  simp only [hS, hBm, plC, strRows_nil, List.length_nil] at kF
  rw [hBm]
  unfold plT
  simp only
  clear hS hBm
  generalize sumL n = s at *
  have kC := clone_int (intRows n) (intRows_k n) (by rw [intRows_len]; omega)
  have hnR := intRows_len n
  refine PFn.mk (Spec.body Tryd.func23 rfl rfl (Tryd.ntmps23) rfl fun w0 own0 M => ?_)
  repeat' (first | refine goH ?_ | refine goV ?_ | refine goB (fun b => ?_) | refine goI ?_ | (refine Cw.k_cond ?_; first | (refine Cw.cond_dec rfl (fun hc => ?_) (fun hc => ?_) <;> try (exfalso; omega)) | refine Cw.cond_bool rfl (fun hc => ?_) (fun hc => ?_)) | (refine Ops.k_calla ?_; first | (refine Ops.k_callf 50 ?_; refine Ops.callV k1 (Evs.cons rfl (Evs.cons rfl (Evs.cons rfl Evs.nil))) rfl ?_) | (refine Ops.k_callf 46 ?_; refine Ops.callV k2 (Evs.cons rfl (Evs.cons rfl Evs.nil)) rfl ?_) | (refine Ops.k_callf 47 ?_; refine Ops.callV k3 (Evs.cons rfl Evs.nil) rfl ?_)) | (apply OpW.k_call; first | (apply OpW.k_callf 50; exact OpW.callV k1 (Evs.cons rfl (Evs.cons rfl (Evs.cons rfl Evs.nil)))) | (apply OpW.k_callf 46; exact OpW.callV k2 (Evs.cons rfl (Evs.cons rfl Evs.nil))) | (apply OpW.k_callf 47; exact OpW.callV k3 (Evs.cons rfl Evs.nil))) | fail)
  first | refine Cw.region_YP (fun ξ S => Chunk.box b 47 [.int R, .int C] :: (stg (S 4) [] [ownV (ξ 4) 1 3 (intRows n)] ++ (stg (S 11) [] [Chunk.box (blk (ξ 11)) 91 [.int R, .int C, .offers l, .strs xs, Tr.raw (.slice none 0 0), slV (ξ 4) (intRows n).length, .int ((strRows xs).length - s), Tr.raw (.slice none 0 0), .int (-1)]] ++ []))) rfl (by decide +kernel) rfl ((fun (ξ : Nat → Value) (S : Nat → Bool) => Chunk.box b 47 [.int R, .int C] :: (stg (S 4) [] [ownV (ξ 4) 1 3 (intRows n)] ++ (stg (S 11) [] [Chunk.box (blk (ξ 11)) 91 [.int R, .int C, .offers l, .strs xs, Tr.raw (.slice none 0 0), slV (ξ 4) (intRows n).length, .int ((strRows xs).length - s), Tr.raw (.slice none 0 0), .int (-1)]] ++ []))) (fun _ => undef) (fun _ => false)) (by simp only [upd_same, updD_same, upd_ne, updD_ne, ne_eq, Nat.reduceEqDiff, not_false_eq_true, stg_t, stg_f, vAd_s, vCap_s, blk_p, List.cons_append, List.nil_append, b2n_t, b2n_f]; exact goXm) (fun _ => rfl) ?_ | fail
  apply YSeq.w (by intro _ _ _; rfl)
  · intro ξ S h1 h2 h3 h4
    have hN0_10 := closed_false h1 h3 (k := 10) rfl (by decide)
    have hN0_11 := closed_false hN0_10 h3 (k := 11) rfl (by decide)
    try simp only [upd_same, updD_same, upd_ne, updD_ne, ne_eq, Nat.reduceEqDiff, not_false_eq_true, stg_t, stg_f, vAd_s, vCap_s, blk_p, List.cons_append, List.nil_append, b2n_t, b2n_f, hN0_11]
    exact goW
  · intro ξ v; rfl
  · intro ξ k v S h3 hn hk
    first
    | rfl
  apply YSeq.w (by intro _ _ _; rfl)
  · intro ξ S h1 h2 h3 h4
    have hN1_10 := closed_false h1 h3 (k := 10) rfl (by decide)
    have hN1_11 := closed_false hN1_10 h3 (k := 11) rfl (by decide)
    try simp only [upd_same, updD_same, upd_ne, updD_ne, ne_eq, Nat.reduceEqDiff, not_false_eq_true, stg_t, stg_f, vAd_s, vCap_s, blk_p, List.cons_append, List.nil_append, b2n_t, b2n_f, hN1_11]
    exact goW
  · intro ξ v; rfl
  · intro ξ k v S h3 hn hk
    first
    | rfl
  apply YSeq.w (by intro _ _ _; rfl)
  · intro ξ S h1 h2 h3 h4
    have hN2_10 := closed_false h1 h3 (k := 10) rfl (by decide)
    have hN2_11 := closed_false hN2_10 h3 (k := 11) rfl (by decide)
    try simp only [upd_same, updD_same, upd_ne, updD_ne, ne_eq, Nat.reduceEqDiff, not_false_eq_true, stg_t, stg_f, vAd_s, vCap_s, blk_p, List.cons_append, List.nil_append, b2n_t, b2n_f, hN2_11]
    exact goW
  · intro ξ v; rfl
  · intro ξ k v S h3 hn hk
    first
    | rfl
  apply YSeq.w (by intro _ _ _; rfl)
  · intro ξ S h1 h2 h3 h4
    have hN3_4 := closed_false h1 h3 (k := 4) rfl (by decide)
    have hN3_10 := closed_false hN3_4 h3 (k := 10) rfl (by decide)
    have hN3_11 := closed_false hN3_10 h3 (k := 11) rfl (by decide)
    try simp only [upd_same, updD_same, upd_ne, updD_ne, ne_eq, Nat.reduceEqDiff, not_false_eq_true, stg_t, stg_f, vAd_s, vCap_s, blk_p, List.cons_append, List.nil_append, b2n_t, b2n_f, hN3_4, hN3_11]
    exact goW
  · intro ξ v; rfl
  · intro ξ k v S h3 hn hk
    first
    | rfl
  apply YSeq.callO ((intRows n).length)
  · intro ξ S h1 h2 h3 h4
    have hN4_10 := closed_false h1 h3 (k := 10) rfl (by decide)
    have hN4_11 := closed_false hN4_10 h3 (k := 11) rfl (by decide)
    refine ⟨_, _, kC, (Evs.cons rfl Evs.nil), (by first | rfl | simp | omega), fun ad cap => ?_⟩
    simp only [upd_same, updD_same, upd_ne, updD_ne, ne_eq, Nat.reduceEqDiff, not_false_eq_true, stg_t, stg_f, vAd_s, vCap_s, blk_p, List.cons_append, List.nil_append, b2n_t, b2n_f, h1, hN4_11]
    exact goXm
  apply YSeq.w (by intro _ _ _; rfl)
  · intro ξ S h1 h2 h3 h4
    have hN5_6 := closed_false h1 h3 (k := 6) rfl (by decide)
    have hN5_9 := closed_false hN5_6 h3 (k := 9) rfl (by decide)
    have hN5_10 := closed_false hN5_9 h3 (k := 10) rfl (by decide)
    have hN5_11 := closed_false hN5_10 h3 (k := 11) rfl (by decide)
    try simp only [upd_same, updD_same, upd_ne, updD_ne, ne_eq, Nat.reduceEqDiff, not_false_eq_true, stg_t, stg_f, vAd_s, vCap_s, blk_p, List.cons_append, List.nil_append, b2n_t, b2n_f, hN5_11]
    exact goW
  · intro ξ v; rfl
  · intro ξ k v S h3 hn hk
    first
    | rfl
  apply YSeq.w (by intro _ _ _; rfl)
  · intro ξ S h1 h2 h3 h4
    have hN6_9 := closed_false h1 h3 (k := 9) rfl (by decide)
    have hN6_10 := closed_false hN6_9 h3 (k := 10) rfl (by decide)
    have hN6_11 := closed_false hN6_10 h3 (k := 11) rfl (by decide)
    try simp only [upd_same, updD_same, upd_ne, updD_ne, ne_eq, Nat.reduceEqDiff, not_false_eq_true, stg_t, stg_f, vAd_s, vCap_s, blk_p, List.cons_append, List.nil_append, b2n_t, b2n_f, hN6_11]
    exact goW
  · intro ξ v; rfl
  · intro ξ k v S h3 hn hk
    first
    | rfl
  apply YSeq.w (by intro _ _ _; rfl)
  · intro ξ S h1 h2 h3 h4
    have hN7_8 := closed_false h1 h3 (k := 8) rfl (by decide)
    have hN7_9 := closed_false hN7_8 h3 (k := 9) rfl (by decide)
    have hN7_10 := closed_false hN7_9 h3 (k := 10) rfl (by decide)
    have hN7_11 := closed_false hN7_10 h3 (k := 11) rfl (by decide)
    try simp only [upd_same, updD_same, upd_ne, updD_ne, ne_eq, Nat.reduceEqDiff, not_false_eq_true, stg_t, stg_f, vAd_s, vCap_s, blk_p, List.cons_append, List.nil_append, b2n_t, b2n_f, hN7_11]
    exact goW
  · intro ξ v; rfl
  · intro ξ k v S h3 hn hk
    first
    | rfl
  apply YSeq.callV (by intro _ _ _; rfl)
  · intro ξ S h1 h2 h3 h4
    have hY8_4 : S 4 = true := h2 4 (by decide)
    have hN8_9 := closed_false h1 h3 (k := 9) rfl (by decide)
    have hN8_10 := closed_false hN8_9 h3 (k := 10) rfl (by decide)
    have hN8_11 := closed_false hN8_10 h3 (k := 11) rfl (by decide)
    try simp only [upd_same, updD_same, upd_ne, updD_ne, ne_eq, Nat.reduceEqDiff, not_false_eq_true, stg_t, stg_f, vAd_s, vCap_s, blk_p, List.cons_append, List.nil_append, b2n_t, b2n_f, hY8_4, hN8_11]
    exact ⟨_, (Evs.cons rfl Evs.nil), k3⟩
  · intro ξ v; rfl
  · intro ξ k v S h3 hn hk
    first
    | rfl
    | skip
      have hY8_4 : S 4 = true := h3 8 _ rfl hn 4 (by decide)
      simp only [upd_S hY8_4 hk]
  apply YSeq.w (by intro _ _ _; rfl)
  · intro ξ S h1 h2 h3 h4
    have hY9_8 : S 8 = true := h2 8 (by decide)
    have hY9_4 : S 4 = true := h3 8 _ rfl hY9_8 4 (by decide)
    have hN9_10 := closed_false h1 h3 (k := 10) rfl (by decide)
    have hN9_11 := closed_false hN9_10 h3 (k := 11) rfl (by decide)
    try simp only [upd_same, updD_same, upd_ne, updD_ne, ne_eq, Nat.reduceEqDiff, not_false_eq_true, stg_t, stg_f, vAd_s, vCap_s, blk_p, List.cons_append, List.nil_append, b2n_t, b2n_f, hY9_4, hN9_11]
    exact goW
  · intro ξ v; rfl
  · intro ξ k v S h3 hn hk
    first
    | rfl
    | skip
      have hY9_8 : S 8 = true := h3 9 _ rfl hn 8 (by decide)
      have hY9_4 : S 4 = true := h3 8 _ rfl hY9_8 4 (by decide)
      simp only [upd_S hY9_4 hk]
  apply YSeq.w (by intro _ _ _; rfl)
  · intro ξ S h1 h2 h3 h4
    have hY10_4 : S 4 = true := h2 4 (by decide)
    have hN10_11 := closed_false h1 h3 (k := 11) rfl (by decide)
    try simp only [upd_same, updD_same, upd_ne, updD_ne, ne_eq, Nat.reduceEqDiff, not_false_eq_true, stg_t, stg_f, vAd_s, vCap_s, blk_p, List.cons_append, List.nil_append, b2n_t, b2n_f, hY10_4, hN10_11]
    exact goW
  · intro ξ v; rfl
  · intro ξ k v S h3 hn hk
    first
    | rfl
    | skip
      have hY10_4 : S 4 = true := h3 10 _ rfl hn 4 (by decide)
      simp only [upd_S hY10_4 hk]
  apply YSeq.box
  · intro ξ S h1 h2 h3 h4
    have hY11_10 : S 10 = true := h2 10 (by decide)
    have hY11_4 : S 4 = true := h3 10 _ rfl hY11_10 4 (by decide)
    simp only [upd_same, updD_same, upd_ne, updD_ne, ne_eq, Nat.reduceEqDiff, not_false_eq_true, stg_t, stg_f, vAd_s, vCap_s, blk_p, List.cons_append, List.nil_append, b2n_t, b2n_f, hY11_4, h1]
    refine ⟨_, _, rfl, inferInstance, fun b => ?_⟩
    try simp only [upd_same, updD_same, upd_ne, updD_ne, ne_eq, Nat.reduceEqDiff, not_false_eq_true, stg_t, stg_f, vAd_s, vCap_s, blk_p, List.cons_append, List.nil_append, b2n_t, b2n_f, hY11_4, h1]
    exact goXm
  apply YSeq.w (by intro _ _ _; rfl)
  · intro ξ S h1 h2 h3 h4
    have hY12_4 : S 4 = true := h2 4 (by decide)
    have hY12_11 : S 11 = true := h2 11 (by decide)
    try simp only [upd_same, updD_same, upd_ne, updD_ne, ne_eq, Nat.reduceEqDiff, not_false_eq_true, stg_t, stg_f, vAd_s, vCap_s, blk_p, List.cons_append, List.nil_append, b2n_t, b2n_f, hY12_4, hY12_11]
    exact goW
  · intro ξ v; rfl
  · intro ξ k v S h3 hn hk
    first
    | rfl
    | skip
      have hY12_4 : S 4 = true := h3 12 _ rfl hn 4 (by decide)
      have hY12_11 : S 11 = true := h3 12 _ rfl hn 11 (by decide)
      simp only [upd_S hY12_4 hk, upd_S hY12_11 hk]
  refine YSeq.nil fun ξ hf => ?_
  refine ⟨[(8, _), (9, _), (10, _), (13, _)], _, Ent.trans (Ent.eqc rfl (by first | (simp only [upd_same, updD_same, upd_ne, updD_ne, ne_eq, Nat.reduceEqDiff, not_false_eq_true, stg_t, stg_f, vAd_s, vCap_s, blk_p, List.cons_append, List.nil_append, b2n_t, b2n_f, ownV, slV, ptV] <;> rfl) | rfl)) (Ent.sub goSub), ?_⟩
  clear hf
  generalize vAd (ξ 4) = ad39
  generalize vCap (ξ 4) = cap39
  generalize blk (ξ 11) = b46
  refine Then.norm ?_
  rw [hnR, hnl, hoR]
  refine Cw.ent (Ent.trans (Ent.imp_box (b := b46) goPk plc_imp) (Ent.nil 1 9)) ?_
  by_cases hm : m < 0
  · rw [if_pos hm]
    repeat' (first | refine goH ?_ | refine goV ?_ | refine goB (fun b => ?_) | refine goI ?_ | (refine Cw.k_cond ?_; first | (refine Cw.cond_dec rfl (fun hc => ?_) (fun hc => ?_) <;> try (exfalso; omega)) | refine Cw.cond_bool rfl (fun hc => ?_) (fun hc => ?_)) | (refine Ops.k_calla ?_; first | (refine Ops.call (kF _ _ _) (Evs.cons rfl (Evs.cons rfl Evs.nil)) goPm rfl ?_; rintro y cs' ⟨rfl, ad', cap', rfl⟩)) | refine goR ?_ | refine goP ?_ | apply PSeq.cons | apply PSeq.yes rfl rfl rfl | exact goW | fail)
    refine Fin.ret (Ent.trans (Ent.nilsl 1 (s := 8) rfl) (Ent.take goTk)) (Outs.many rfl (OutL.cons goOe (OutL.cons goOe (OutL.cons goOe OutL.nil))) rfl) ⟨rfl, rfl⟩
  · rw [if_neg hm]
    repeat' (first | refine goH ?_ | refine goV ?_ | refine goB (fun b => ?_) | refine goI ?_ | (refine Cw.k_cond ?_; first | (refine Cw.cond_dec rfl (fun hc => ?_) (fun hc => ?_) <;> try (exfalso; omega)) | refine Cw.cond_bool rfl (fun hc => ?_) (fun hc => ?_)) | (refine Ops.k_calla ?_; first | (refine Ops.call (kF _ _ _) (Evs.cons rfl (Evs.cons rfl Evs.nil)) goPm rfl ?_; rintro y cs' ⟨rfl, ad', cap', rfl⟩)) | refine goR ?_ | refine goP ?_ | apply PSeq.cons | apply PSeq.yes rfl rfl rfl | exact goW | fail)
    refine Fin.ret (Ent.take goTk) (Outs.many rfl (OutL.cons goOe (OutL.cons goOe (OutL.cons goOe OutL.nil))) rfl) ⟨rfl, rfl⟩
end Lg
