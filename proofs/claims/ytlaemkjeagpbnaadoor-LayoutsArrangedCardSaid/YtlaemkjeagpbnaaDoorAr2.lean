/- A part of the proof of a law of this seat: it adds no condition. By an AI agent. -/
import Derived.Test.YtlaemkjeagpbnaaDoorLgFree
import Derived.Test.YtlaemkjeagpbnaaDoorAr1
set_option linter.all false
set_option maxRecDepth 100000
set_option maxHeartbeats 8000000
namespace Lg
open Go Go.Proofs

/-- a copy of an owned slice: one of its own, or a settled one -/
theorem cloneOO_str {ad : Option Addr} {n cap : Nat} (rows : List (List Tr)) (hn : n = rows.length) (hl : rows.length ≤ 1000000) : Spec Tryd.prog 32 [Tr.raw (.slice ad n cap)] [Chunk.own ad cap 1 9 rows] (fun r cs => ∃ ad2 cap2, r = Tr.raw (.slice ad2 n cap2) ∧ cs = Chunk.own ad2 cap2 1 9 rows :: [Chunk.own ad cap 1 9 rows]) := by
  refine Spec.body Tryd.func32 rfl rfl (Tryd.ntmps32) rfl fun w0 own0 M => ?_
  cases ad with
  | none =>
    refine Cw.own_none (List.Perm.refl _) fun h1 h2 => ?_
    subst h1
    subst h2
    subst hn
    refine Cw.ent (Ent.nil 1 9) ?_
    repeat' (first | refine goH ?_ | (refine Ops.k_b_eql ?_; first | (refine Ops.eql_nilR rfl rfl ?_)) | refine goV ?_ | refine goC (fun ad cap => ?_) | refine goI ?_ | (refine Cw.k_cond ?_; first | (refine Cw.cond_dec rfl (fun hc => ?_) (fun hc => ?_) <;> try (exfalso; omega)) | refine Cw.cond_bool rfl (fun hc => ?_) (fun hc => ?_)) | fail)
    exact Fin.ret Ent.refl (Outs.one rfl rfl) ⟨_, _, rfl, rfl⟩
  | some a =>
    repeat' (first | refine goH ?_ | (refine Ops.k_b_eql ?_; first | (refine Ops.eql_nilR rfl rfl ?_)) | ((fail_if_success refine Ops.k_buildSlice ?_); refine goV ?_) | ((fail_if_success refine Ops.k_buildSlice ?_); refine goC (fun ad cap => ?_)) | refine goI ?_ | (refine Cw.k_cond ?_; first | (refine Cw.cond_dec rfl (fun hc => ?_) (fun hc => ?_) <;> try (exfalso; omega)) | refine Cw.cond_bool rfl (fun hc => ?_) (fun hc => ?_)) | fail)
    refine Ops.buildSlice_own (by exact Parts.nil) rfl rfl rfl (fun ad2 cap2 => ?_)
    repeat' (first | refine goH ?_ | ((fail_if_success refine Ops.k_c_append ?_); refine goV ?_) | ((fail_if_success refine Ops.k_c_append ?_); refine goC (fun ad cap => ?_)) | refine goI ?_ | (refine Cw.k_cond ?_; first | (refine Cw.cond_dec rfl (fun hc => ?_) (fun hc => ?_) <;> try (exfalso; omega)) | refine Cw.cond_bool rfl (fun hc => ?_) (fun hc => ?_)) | fail)
    refine Ops.append_ownR rfl rfl (List.Perm.refl _) rfl hn (by simp; omega) (by simp; omega) rfl (fun ad3 cap3 => ?_)
    rw [show ∀ z : List (List Tr), z = [] → z ++ rows = rows from fun z h => by rw [h]; rfl]
    rotate_left
    · rfl
    repeat' (first | refine goH ?_ | refine goV ?_ | refine goC (fun ad cap => ?_) | refine goI ?_ | (refine Cw.k_cond ?_; first | (refine Cw.cond_dec rfl (fun hc => ?_) (fun hc => ?_) <;> try (exfalso; omega)) | refine Cw.cond_bool rfl (fun hc => ?_) (fun hc => ?_)) | fail)
    rw [hn]
    exact Fin.ret Ent.refl (Outs.one rfl rfl) ⟨_, _, rfl, rfl⟩
theorem cloneS_str {ad : Option Addr} {n cap : Nat} (rows : List (List Tr)) (hn : n = rows.length) (hl : rows.length ≤ 1000000) : Spec Tryd.prog 32 [Tr.raw (.slice ad n cap)] [Chunk.own ad cap 1 9 rows] (fun r cs => r = .sl 1 rows ∧ cs = [Chunk.own ad cap 1 9 rows]) := by
  refine Spec.body Tryd.func32 rfl rfl (Tryd.ntmps32) rfl fun w0 own0 M => ?_
  cases ad with
  | none =>
    refine Cw.own_none (List.Perm.refl _) fun h1 h2 => ?_
    subst h1
    subst h2
    subst hn
    repeat' (first | refine goH ?_ | (refine Ops.k_b_eql ?_; first | (refine Ops.eql_nilR rfl rfl ?_)) | refine goV ?_ | refine goC (fun ad cap => ?_) | refine goI ?_ | (refine Cw.k_cond ?_; first | (refine Cw.cond_dec rfl (fun hc => ?_) (fun hc => ?_) <;> try (exfalso; omega)) | refine Cw.cond_bool rfl (fun hc => ?_) (fun hc => ?_)) | fail)
    exact Fin.ret (Ent.nilsl 1 (s := 2) rfl) (Outs.one rfl rfl) ⟨rfl, rfl⟩
  | some a =>
    repeat' (first | refine goH ?_ | (refine Ops.k_b_eql ?_; first | (refine Ops.eql_nilR rfl rfl ?_)) | ((fail_if_success refine Ops.k_buildSlice ?_); refine goV ?_) | ((fail_if_success refine Ops.k_buildSlice ?_); refine goC (fun ad cap => ?_)) | refine goI ?_ | (refine Cw.k_cond ?_; first | (refine Cw.cond_dec rfl (fun hc => ?_) (fun hc => ?_) <;> try (exfalso; omega)) | refine Cw.cond_bool rfl (fun hc => ?_) (fun hc => ?_)) | fail)
    refine Ops.buildSlice_own (by exact Parts.nil) rfl rfl rfl (fun ad2 cap2 => ?_)
    repeat' (first | refine goH ?_ | ((fail_if_success refine Ops.k_c_append ?_); refine goV ?_) | ((fail_if_success refine Ops.k_c_append ?_); refine goC (fun ad cap => ?_)) | refine goI ?_ | (refine Cw.k_cond ?_; first | (refine Cw.cond_dec rfl (fun hc => ?_) (fun hc => ?_) <;> try (exfalso; omega)) | refine Cw.cond_bool rfl (fun hc => ?_) (fun hc => ?_)) | fail)
    refine Ops.append_ownR rfl rfl (List.Perm.refl _) rfl hn (by simp; omega) (by simp; omega) rfl (fun ad3 cap3 => ?_)
    rw [show ∀ z : List (List Tr), z = [] → z ++ rows = rows from fun z h => by rw [h]; rfl]
    rotate_left
    · rfl
    repeat' (first | refine goH ?_ | refine goV ?_ | refine goC (fun ad cap => ?_) | refine goI ?_ | (refine Cw.k_cond ?_; first | (refine Cw.cond_dec rfl (fun hc => ?_) (fun hc => ?_) <;> try (exfalso; omega)) | refine Cw.cond_bool rfl (fun hc => ?_) (fun hc => ?_)) | fail)
    exact Fin.ret (Ent.settle (s := 2) (ad := ad3) (cap := cap3) (cf := [Chunk.own (some a) cap 1 9 rows]) rfl (List.Perm.refl _) rfl) (Outs.one rfl rfl) ⟨rfl, rfl⟩

abbrev plC (bp : Nat) (R C : Int) (l : List Offer) (old : List ByteArray) (ad : Option Addr) (cap : Nat) (ad2 : Option Addr) (cap2 : Nat) (pre : List ByteArray) (L : List Int) (e : Int) (B : List ByteArray) (m : Int) : List Chunk :=
  [Chunk.box bp 91 [.int R, .int C, .offers l, .strs old, Tr.raw (.slice ad pre.length cap), Tr.raw (.slice ad2 l.length cap2), .int e, .strs B, .int m], Chunk.own ad cap 1 9 (strRows pre), Chunk.own ad2 cap2 1 3 (intRows L)]
abbrev keysL (l : List Offer) : List ByteArray := eS :: l.map Offer.key
def FillS (bp : Nat) (R C : Nat) (l : List Offer) (old : List ByteArray) (ad2 : Option Addr) (cap2 : Nat) (n : Nat) : Prop :=
  ∀ (pre : List ByteArray) (L : List Int) (e d : Int) (B : List ByteArray) (m : Int) (ad : Option Addr) (cap : Nat), pre.length + n = old.length → L.length = l.length → (∀ v ∈ L, 0 ≤ v ∧ v ≤ 1000) → (0 ≤ e ∧ e ≤ 1000) → (0 ≤ d ∧ d ≤ pre.length) →
    Spec Tryd.prog 51 [Tr.raw (.pointer (some ⟨bp, 0, none⟩)), .int d] (plC bp R C l old ad cap ad2 cap2 pre L e B m)
      (fun r cs => r = .tup [] ∧ ∃ ad' cap', cs = plC bp R C l old ad' cap' ad2 cap2 pre L e (filP (keysL l) old (badC l C) n pre (e :: L) d (B, m)).1 (filP (keysL l) old (badC l C) n pre (e :: L) d (B, m)).2)
def putR (l : List Offer) (old : List ByteArray) (C n : Nat) (pre : List ByteArray) (key : ByteArray) (left : List Int) (d : Int) (st : PS) : PS :=
  if (0 ≤ st.2 ∧ st.2 ≤ d + dif1 old pre.length key) ∨ badC l C pre key = true then st else filP (keysL l) old (badC l C) n (pre ++ [key]) left (d + dif1 old pre.length key) st
attribute [local irreducible] intRows strRows filP hatedB
theorem put_bad (bp : Nat) (R C : Nat) (hC : 1 ≤ C ∧ C ≤ 10) (l : List Offer) (hl : OBd l) (old : List ByteArray) (ho : old.length ≤ 100) (ad2 : Option Addr) (cap2 : Nat) (n : Nat) (pre : List ByteArray) (key : ByteArray) (L : List Int) (e d : Int) (B : List ByteArray) (m : Int) (ad : Option Addr) (cap : Nat) (hn : pre.length + (n + 1) = old.length) (hL : L.length = l.length) (hLb : ∀ v ∈ L, 0 ≤ v ∧ v ≤ 1000) (he : 0 ≤ e ∧ e ≤ 1000) (hd : 0 ≤ d ∧ d ≤ pre.length)
    (hb : (0 ≤ m ∧ m ≤ d + dif1 old pre.length key) ∨ badC l C pre key = true) :
    Spec Tryd.prog 77 [Tr.raw (.pointer (some ⟨bp, 0, none⟩)), .str key, .int d] (plC bp R C l old ad cap ad2 cap2 pre L e B m)
      (fun r cs => r = .tup [] ∧ ∃ ad' cap', cs = plC bp R C l old ad' cap' ad2 cap2 pre L e B m) := by
  have hpl := strRows_len pre
  have hoR := strRows_len old
  obtain ⟨o, hold⟩ := at_lt (l := old) (k := pre.length) (by omega)
  have r1 := strRows_at hold
  have hdv : dif1 old pre.length key = if key = o then 0 else 1 := by
    unfold dif1
    rw [List.getD_eq_getElem?_getD, hold]
    rfl
  obtain ⟨q, hq⟩ : ∃ q : Int, q = d + (if key = o then 0 else 1) := ⟨_, rfl⟩
  have hqb : 0 ≤ q ∧ q ≤ pre.length + 1 := by
    rw [hq]
    split <;> omega
  rw [hdv, ← hq] at hb
  clear hdv hold
  by_cases hcut : 0 ≤ m ∧ m ≤ q
  · clear hb
    refine Spec.body Tryd.func77 rfl rfl (Tryd.ntmps77) rfl fun w0 own0 M => ?_
    by_cases hk : key = o
    · rw [if_pos hk] at hq
      repeat' (first | refine goH ?_ | (refine Ops.k_b_neq ?_; first | (refine Ops.val' rfl (OpV.neqS_f rfl rfl hk) ?_)) | refine goV ?_ | refine goC (fun ad cap => ?_) | refine goG ?_ | (refine Ops.k_guard ?_; first | (refine Ops.guard_dec rfl rfl (fun hc => ?_) (fun hc => ?_) <;> try (exfalso; omega)) | refine Ops.guard_split rfl rfl (fun hc => ?_) (fun hc => ?_)) | refine goI ?_ | (refine Cw.k_cond ?_; first | (refine Cw.cond_dec rfl (fun hc => ?_) (fun hc => ?_) <;> try (exfalso; omega)) | refine Cw.cond_bool rfl (fun hc => ?_) (fun hc => ?_)) | refine goR ?_ | refine goP ?_ | apply PSeq.cons | apply PSeq.yes rfl rfl rfl | exact goW | fail)
      exact Fin.ret (Ent.take goTk) (Outs.zero rfl) ⟨rfl, ad, cap, rfl⟩
    · rw [if_neg hk] at hq
      repeat' (first | refine goH ?_ | (refine Ops.k_b_neq ?_; first | (refine Ops.val' rfl (OpV.neqS_t rfl rfl hk) ?_)) | refine goV ?_ | refine goC (fun ad cap => ?_) | refine goG ?_ | (refine Ops.k_guard ?_; first | (refine Ops.guard_dec rfl rfl (fun hc => ?_) (fun hc => ?_) <;> try (exfalso; omega)) | refine Ops.guard_split rfl rfl (fun hc => ?_) (fun hc => ?_)) | refine goI ?_ | (refine Cw.k_cond ?_; first | (refine Cw.cond_dec rfl (fun hc => ?_) (fun hc => ?_) <;> try (exfalso; omega)) | refine Cw.cond_bool rfl (fun hc => ?_) (fun hc => ?_)) | refine goR ?_ | refine goP ?_ | apply PSeq.cons | apply PSeq.yes rfl rfl rfl | exact goW | fail)
      exact Fin.ret (Ent.take goTk) (Outs.zero rfl) ⟨rfl, ad, cap, rfl⟩
  have hb := hb.resolve_left hcut
  have hsp := fun (j : Nat) (hj : j < pre.length) => strRows_at (l := pre) (j := j) (x := pre.getD j eS) (by rw [List.getD_eq_getElem?_getD, List.getElem?_eq_getElem hj]; rfl)
  have hr2 : C ≤ pre.length → (strRows pre)[((pre.length : Int) - (C : Int)).toNat]? = some [.str (pre.getD (pre.length - C) eS)] := by
    intro h
    rw [show ((pre.length : Int) - (C : Int)).toNat = pre.length - C by omega]
    exact hsp _ (by omega)
  have hmod : ((pre.length % C : Nat) : Int) = (pre.length : Int) % (C : Int) := Int.natCast_emod _ _
  have hmp : 0 < pre.length % C → 0 < pre.length := by
    intro h
    rcases Nat.eq_zero_or_pos pre.length with e | e
    · rw [e, Nat.zero_mod] at h; omega
    · exact e
  have hr3 : 0 < pre.length % C → (strRows pre)[((pre.length : Int) - 1).toNat]? = some [.str (pre.getD (pre.length - 1) eS)] := by
    intro h
    have := hmp h
    rw [show ((pre.length : Int) - 1).toNat = pre.length - 1 by omega]
    exact hsp _ (by omega)
  have hK1 := hated_fn l hl (pre.getD (pre.length - C) eS) key
  have hK2 := hated_fn l hl (pre.getD (pre.length - 1) eS) key
  have hbd : badC l C pre key = ((decide (C ≤ pre.length) && hatedB l (pre.getD (pre.length - C) eS) key) || (decide (0 < pre.length % C) && hatedB l (pre.getD (pre.length - 1) eS) key)) := rfl
  rw [hbd] at hb
  clear hbd hsp
  generalize pre.getD (pre.length - C) eS = u at *
  generalize pre.getD (pre.length - 1) eS = u2 at *
  obtain ⟨z, hz⟩ : ∃ z : Int, z = (pre.length : Int) % (C : Int) := ⟨_, rfl⟩
  have hS : (0 < pre.length % C ∧ 0 < z) ∨ (¬ 0 < pre.length % C ∧ z = 0) := by omega
  by_cases hb1 : C ≤ pre.length ∧ hatedB l u key = true
  · obtain ⟨hA, hb1⟩ := hb1
    have r2 := hr2 hA
    rw [hb1] at hK1
    clear hS hz hr3 hK2 hr2 hb
    refine Spec.body Tryd.func77 rfl rfl (Tryd.ntmps77) rfl fun w0 own0 M => ?_
    by_cases hk : key = o
    · rw [if_pos hk] at hq
      repeat' (first | refine goH ?_ | (refine Ops.k_b_neq ?_; first | (refine Ops.val' rfl (OpV.neqS_f rfl rfl hk) ?_)) | refine goV ?_ | refine goC (fun ad cap => ?_) | refine goG ?_ | (refine Ops.k_guard ?_; first | (refine Ops.guard_dec rfl rfl (fun hc => ?_) (fun hc => ?_) <;> try (exfalso; omega)) | refine Ops.guard_split rfl rfl (fun hc => ?_) (fun hc => ?_)) | refine goI ?_ | (refine Cw.k_cond ?_; first | (refine Cw.cond_dec rfl (fun hc => ?_) (fun hc => ?_) <;> try (exfalso; omega)) | refine Cw.cond_bool rfl (fun hc => ?_) (fun hc => ?_)) | exact OpW.callV hK1 (Evs.cons rfl (Evs.cons rfl (Evs.cons rfl Evs.nil))) | refine goR ?_ | refine goP ?_ | apply PSeq.cons | apply PSeq.yes rfl rfl rfl | exact goW | fail)
      all_goals exact Fin.ret (Ent.take goTk) (Outs.zero rfl) ⟨rfl, ad, cap, rfl⟩
    · rw [if_neg hk] at hq
      repeat' (first | refine goH ?_ | (refine Ops.k_b_neq ?_; first | (refine Ops.val' rfl (OpV.neqS_t rfl rfl hk) ?_)) | refine goV ?_ | refine goC (fun ad cap => ?_) | refine goG ?_ | (refine Ops.k_guard ?_; first | (refine Ops.guard_dec rfl rfl (fun hc => ?_) (fun hc => ?_) <;> try (exfalso; omega)) | refine Ops.guard_split rfl rfl (fun hc => ?_) (fun hc => ?_)) | refine goI ?_ | (refine Cw.k_cond ?_; first | (refine Cw.cond_dec rfl (fun hc => ?_) (fun hc => ?_) <;> try (exfalso; omega)) | refine Cw.cond_bool rfl (fun hc => ?_) (fun hc => ?_)) | exact OpW.callV hK1 (Evs.cons rfl (Evs.cons rfl (Evs.cons rfl Evs.nil))) | refine goR ?_ | refine goP ?_ | apply PSeq.cons | apply PSeq.yes rfl rfl rfl | exact goW | fail)
      all_goals exact Fin.ret (Ent.take goTk) (Outs.zero rfl) ⟨rfl, ad, cap, rfl⟩
  have hb2 : 0 < pre.length % C ∧ hatedB l u2 key = true := by
    rw [Bool.or_eq_true, Bool.and_eq_true, Bool.and_eq_true, decide_eq_true_iff, decide_eq_true_iff] at hb
    exact hb.resolve_left hb1
  obtain ⟨hS0, hb2⟩ := hb2
  have r3 := hr3 hS0
  have hz0 : 0 < z := by omega
  have hp0 := hmp hS0
  rw [hb2] at hK2
  clear hS hb hr3 hmp
  refine Spec.body Tryd.func77 rfl rfl (Tryd.ntmps77) rfl fun w0 own0 M => ?_
  by_cases hA : C ≤ pre.length
  · have r2 := hr2 hA
    have hb1 : hatedB l u key = false := by simpa using fun h => hb1 ⟨hA, h⟩
    rw [hb1] at hK1
    clear hr2
    by_cases hk : key = o
    · rw [if_pos hk] at hq
      repeat' (first | refine goH ?_ | (refine Ops.k_b_neq ?_; first | (refine Ops.val' rfl (OpV.neqS_f rfl rfl hk) ?_)) | refine goV ?_ | refine goC (fun ad cap => ?_) | refine goG ?_ | (refine Ops.k_guard ?_; first | (refine Ops.guard_dec rfl rfl (fun hc => ?_) (fun hc => ?_) <;> try (exfalso; omega)) | refine Ops.guard_split rfl rfl (fun hc => ?_) (fun hc => ?_)) | refine goI ?_ | (refine Cw.k_cond ?_; first | (refine Cw.cond_dec rfl (fun hc => ?_) (fun hc => ?_) <;> try (exfalso; omega)) | refine Cw.cond_bool rfl (fun hc => ?_) (fun hc => ?_)) | exact OpW.callV hK1 (Evs.cons rfl (Evs.cons rfl (Evs.cons rfl Evs.nil))) | exact OpW.callV hK2 (Evs.cons rfl (Evs.cons rfl (Evs.cons rfl Evs.nil))) | refine goR ?_ | refine goP ?_ | apply PSeq.cons | apply PSeq.yes rfl rfl rfl | exact goW | fail)
      all_goals exact Fin.ret (Ent.take goTk) (Outs.zero rfl) ⟨rfl, ad, cap, rfl⟩
    · rw [if_neg hk] at hq
      repeat' (first | refine goH ?_ | (refine Ops.k_b_neq ?_; first | (refine Ops.val' rfl (OpV.neqS_t rfl rfl hk) ?_)) | refine goV ?_ | refine goC (fun ad cap => ?_) | refine goG ?_ | (refine Ops.k_guard ?_; first | (refine Ops.guard_dec rfl rfl (fun hc => ?_) (fun hc => ?_) <;> try (exfalso; omega)) | refine Ops.guard_split rfl rfl (fun hc => ?_) (fun hc => ?_)) | refine goI ?_ | (refine Cw.k_cond ?_; first | (refine Cw.cond_dec rfl (fun hc => ?_) (fun hc => ?_) <;> try (exfalso; omega)) | refine Cw.cond_bool rfl (fun hc => ?_) (fun hc => ?_)) | exact OpW.callV hK1 (Evs.cons rfl (Evs.cons rfl (Evs.cons rfl Evs.nil))) | exact OpW.callV hK2 (Evs.cons rfl (Evs.cons rfl (Evs.cons rfl Evs.nil))) | refine goR ?_ | refine goP ?_ | apply PSeq.cons | apply PSeq.yes rfl rfl rfl | exact goW | fail)
      all_goals exact Fin.ret (Ent.take goTk) (Outs.zero rfl) ⟨rfl, ad, cap, rfl⟩
  · clear hK1 hr2
    by_cases hk : key = o
    · rw [if_pos hk] at hq
      repeat' (first | refine goH ?_ | (refine Ops.k_b_neq ?_; first | (refine Ops.val' rfl (OpV.neqS_f rfl rfl hk) ?_)) | refine goV ?_ | refine goC (fun ad cap => ?_) | refine goG ?_ | (refine Ops.k_guard ?_; first | (refine Ops.guard_dec rfl rfl (fun hc => ?_) (fun hc => ?_) <;> try (exfalso; omega)) | refine Ops.guard_split rfl rfl (fun hc => ?_) (fun hc => ?_)) | refine goI ?_ | (refine Cw.k_cond ?_; first | (refine Cw.cond_dec rfl (fun hc => ?_) (fun hc => ?_) <;> try (exfalso; omega)) | refine Cw.cond_bool rfl (fun hc => ?_) (fun hc => ?_)) | exact OpW.callV hK2 (Evs.cons rfl (Evs.cons rfl (Evs.cons rfl Evs.nil))) | refine goR ?_ | refine goP ?_ | apply PSeq.cons | apply PSeq.yes rfl rfl rfl | exact goW | fail)
      all_goals exact Fin.ret (Ent.take goTk) (Outs.zero rfl) ⟨rfl, ad, cap, rfl⟩
    · rw [if_neg hk] at hq
      repeat' (first | refine goH ?_ | (refine Ops.k_b_neq ?_; first | (refine Ops.val' rfl (OpV.neqS_t rfl rfl hk) ?_)) | refine goV ?_ | refine goC (fun ad cap => ?_) | refine goG ?_ | (refine Ops.k_guard ?_; first | (refine Ops.guard_dec rfl rfl (fun hc => ?_) (fun hc => ?_) <;> try (exfalso; omega)) | refine Ops.guard_split rfl rfl (fun hc => ?_) (fun hc => ?_)) | refine goI ?_ | (refine Cw.k_cond ?_; first | (refine Cw.cond_dec rfl (fun hc => ?_) (fun hc => ?_) <;> try (exfalso; omega)) | refine Cw.cond_bool rfl (fun hc => ?_) (fun hc => ?_)) | exact OpW.callV hK2 (Evs.cons rfl (Evs.cons rfl (Evs.cons rfl Evs.nil))) | refine goR ?_ | refine goP ?_ | apply PSeq.cons | apply PSeq.yes rfl rfl rfl | exact goW | fail)
      all_goals exact Fin.ret (Ent.take goTk) (Outs.zero rfl) ⟨rfl, ad, cap, rfl⟩
end Lg
