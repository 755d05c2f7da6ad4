/- A part of the proof of a law of this seat: it adds no condition. By an AI agent. -/
import Derived.Test.YtagccjlmpljahaaDoorLay2
set_option linter.all false
set_option maxRecDepth 100000
set_option maxHeartbeats 4000000
namespace Lg
open Go Go.Proofs

structure Touch where
  a : Int
  b : Int
def Touch.row (x : Touch) : List Tr := [.int x.a, .int x.b]
abbrev Tr.touches (l : List Touch) : Tr := Tr.sl 2 (l.map Touch.row)
def clA (h : Nat → Nat → Bool) (T : List Nat) (a : Nat) : List Touch := (T.filter (h a)).map fun b : Nat => Touch.mk (a : Int) (b : Int)
def clAll (h : Nat → Nat → Bool) (c n k : Nat) : List Touch := (List.range k).flatMap fun a => clA h (touchN c n a) a
theorem clAll_succ (h : Nat → Nat → Bool) (c n k : Nat) : clAll h c n (k + 1) = clAll h c n k ++ clA h (touchN c n k) k := by
  unfold clAll
  rw [List.range_succ, List.flatMap_append]
  simp
theorem touchN_len (c n a : Nat) : (touchN c n a).length ≤ 2 := by
  unfold touchN
  split <;> split <;> simp
theorem clA_len (h : Nat → Nat → Bool) (T : List Nat) (a : Nat) : (clA h T a).length ≤ T.length := by
  unfold clA
  rw [List.length_map]
  exact List.length_filter_le _ _
theorem clAll_len (h : Nat → Nat → Bool) (c n : Nat) : ∀ k, (clAll h c n k).length ≤ 2 * k
  | 0 => by simp [clAll]
  | k + 1 => by
    have := clAll_len h c n k
    have := touchN_len c n k
    have := clA_len h (touchN c n k) k
    rw [clAll_succ, List.length_append]
    omega
theorem clA_app (h : Nat → Nat → Bool) (a b : List Nat) (k : Nat) : clA h (a ++ b) k = clA h a k ++ clA h b k := by simp [clA]
theorem touchN_lt {c n a b : Nat} (hc : 0 < c) (r : Nat) (hn : n = r * c) (ha : a < n) (h : b ∈ touchN c n a) : b < n := by
  subst hn
  rw [← beside_touch hc ha] at h
  have := (List.mem_filter.1 h).1
  rw [List.mem_range'] at this
  omega
def hX (l : List Offer) (xs : List ByteArray) (a b : Nat) : Bool := hatedB l (xs.getD a ⟨#[]⟩) (xs.getD b ⟨#[]⟩)
def clashX (r c : Int) (l : List Offer) (xs : List ByteArray) : List Touch := clAll (hX l xs) c.toNat xs.length xs.length
theorem natI_at {l : List Nat} {i b : Nat} (h : l[i]? = some b) : (intRows (natI l))[i]? = some [Tr.int (b : Int)] := by
  have : (natI l)[i]? = some (b : Int) := by unfold natI; rw [List.getElem?_map, h]; rfl
  exact intRows_at this
theorem natI_len (l : List Nat) : (natI l).length = l.length := List.length_map _

theorem clashes_fn (r c : Int) (l : List Offer) (hl : OBd l) (xs : List ByteArray) (hx : xs.length ≤ 1000) : PFn Tryd.prog 27 [.agg [.int r, .int c], .offers l, .strs xs] (· = .tup [.touches (if layoutE r c l xs ≠ 0 then [] else clashX r c l xs), .int (layoutE r c l xs)]) := by
  have k1 := checkLayout_fn r c l hl xs hx
  have hL := strRows_len xs
  refine PFn.mk (Spec.body Tryd.func27 rfl rfl (Tryd.ntmps27) rfl fun w0 own0 M => ?_)
  by_cases h1 : layoutE r c l xs ≠ 0
  · rw [if_pos h1]
    generalize layoutE r c l xs = le at *
    repeat' (first | refine goH ?_ | refine goV ?_ | refine goB (fun b => ?_) | refine goC (fun ad cap => ?_) | refine goI ?_ | (refine Cw.k_cond ?_; first | (refine Cw.cond_dec rfl (fun hc => ?_) (fun hc => ?_) <;> try (exfalso; omega)) | refine Cw.cond_bool rfl (fun hc => ?_) (fun hc => ?_)) | (refine Ops.k_calla ?_; first | (refine Ops.k_callf 26 ?_; refine Ops.callV k1 (Evs.cons rfl (Evs.cons rfl (Evs.cons rfl Evs.nil))) rfl ?_)) | (apply OpW.k_call; first | (apply OpW.k_callf 26; exact OpW.callV k1 (Evs.cons rfl (Evs.cons rfl (Evs.cons rfl Evs.nil))))) | refine goR ?_ | refine goP ?_ | apply PSeq.cons | apply PSeq.yes rfl rfl rfl | exact goW | fail)
    refine Fin.ret (Ent.trans (Ent.nilsl 2 (s := 6) rfl) (Ent.take (by repeat' (first | exact Take.nil | refine Take.cons (by first | exact pick0 | exact pickS pick0 | exact pickS (pickS pick0) | exact pickS (pickS (pickS pick0)) | exact pickS (pickS (pickS (pickS pick0)))) ?_)))) (Outs.many rfl (OutL.cons (by first | exact OutE.tmp rfl | exact OutE.agg inferInstance rfl rfl | exact OutE.one inferInstance rfl) (OutL.cons (by first | exact OutE.tmp rfl | exact OutE.agg inferInstance rfl rfl | exact OutE.one inferInstance rfl) OutL.nil)) rfl) ⟨rfl, rfl⟩
  rw [if_neg h1]
  have h0 : layoutE r c l xs = 0 := by omega
  have hle := h0
  unfold layoutE at hle
  by_cases q1 : rackE r c ≠ 0
  · rw [if_pos q1] at hle; exact absurd hle q1
  have hbd := rackE_bd (show rackE r c = 0 by omega)
  rw [if_neg q1] at hle
  by_cases q2 : offersE l ≠ 0
  · rw [if_pos q2] at hle; exact absurd hle q2
  rw [if_neg q2] at hle
  by_cases q3 : (xs.length : Int) ≠ r * c
  · rw [if_pos q3] at hle; omega
  rw [h0] at k1 ⊢
  clear hle q1 q2 h1 h0
  obtain ⟨R, rfl⟩ := Int.eq_ofNat_of_zero_le (show 0 ≤ r by omega)
  obtain ⟨C, rfl⟩ := Int.eq_ofNat_of_zero_le (show 0 ≤ c by omega)
  have hn : xs.length = R * C := by have : ((xs.length : Nat) : Int) = ((R * C : Nat) : Int) := by rw [Int.natCast_mul]; omega
                                    omega
  have hres : clashX (R : Int) (C : Int) l xs = clAll (hX l xs) C xs.length xs.length := by unfold clashX; rw [Int.toNat_natCast]
  rw [hres]
  repeat' (first | refine goH ?_ | refine goV ?_ | refine goB (fun b => ?_) | refine goC (fun ad cap => ?_) | refine goI ?_ | (refine Cw.k_cond ?_; first | (refine Cw.cond_dec rfl (fun hc => ?_) (fun hc => ?_) <;> try (exfalso; omega)) | refine Cw.cond_bool rfl (fun hc => ?_) (fun hc => ?_)) | (refine Ops.k_calla ?_; first | (refine Ops.k_callf 26 ?_; refine Ops.callV k1 (Evs.cons rfl (Evs.cons rfl (Evs.cons rfl Evs.nil))) rfl ?_)) | (apply OpW.k_call; first | (apply OpW.k_callf 26; exact OpW.callV k1 (Evs.cons rfl (Evs.cons rfl (Evs.cons rfl Evs.nil))))) | refine goR ?_ | refine goP ?_ | apply PSeq.cons | apply PSeq.yes rfl rfl rfl | exact goW | fail)
  refine Cw.loopI [(1, _), (2, _), (3, _), (21, _)] _ (fun n e cc => ∃ (a : Nat) (ad : Option Addr) (cap : Nat) (rows : List (List Tr)), n = xs.length - a ∧ (a ≤ xs.length ∧ rows = (clAll (hX l xs) C xs.length a).map Touch.row ∧ rows.length ≤ 2 * a) ∧ e = [(9, Tr.raw (.slice ad rows.length cap)), (22, .int a)] ∧ cc = [Chunk.own ad cap 2 59 rows])
    ⟨_, _, _, Ent.trans (Ent.nil 2 59) (Ent.mkP (by repeat' (first | exact Sub.nil | refine Sub.cons rfl ?_)) (by repeat' (first | exact List.Perm.refl _ | refine Perm.cons' (by first | exact pick0 | exact pickS pick0 | exact pickS (pickS pick0) | exact pickS (pickS (pickS pick0)) | exact pickS (pickS (pickS (pickS pick0)))) ?_))), 0, none, 0, [], rfl, ⟨by omega, rfl, by simp⟩, rfl, rfl⟩ ?_
  rintro _ _ _ ⟨a, ad, cap, rows, rfl, ⟨ha, hrows, hrl⟩, rfl, rfl⟩
  by_cases hal : a < xs.length
  · obtain ⟨x, hx1⟩ := at_lt hal
    have hrow : (strRows xs)[((a : Nat) : Int).toNat]? = some [.str x] := strRows_at hx1
    have k2 := touching_fn R C a (by omega) (by omega) (by omega)
    have hT := touchN_len C (R * C) a
    rw [← hn] at k2 hT
    have htl : ∀ b ∈ touchN C xs.length a, b < xs.length := fun b hb => touchN_lt (by omega) R hn hal hb
    generalize hTT : touchN C xs.length a = T at *
    have hTL : (intRows (natI T)).length = T.length := by rw [intRows_len, natI_len]
    repeat' (first | refine goH ?_ | refine goV ?_ | refine goB (fun b => ?_) | refine goC (fun ad cap => ?_) | refine goI ?_ | (refine Cw.k_cond ?_; first | (refine Cw.cond_dec rfl (fun hc => ?_) (fun hc => ?_) <;> try (exfalso; omega)) | refine Cw.cond_bool rfl (fun hc => ?_) (fun hc => ?_)) | (refine Ops.k_calla ?_; first | (refine Ops.k_callf 77 ?_; refine Ops.callV k2 (Evs.cons rfl (Evs.cons rfl Evs.nil)) rfl ?_)) | (apply OpW.k_call; first | (apply OpW.k_callf 77; exact OpW.callV k2 (Evs.cons rfl (Evs.cons rfl Evs.nil)))) | refine goR ?_ | refine goP ?_ | apply PSeq.cons | apply PSeq.yes rfl rfl rfl | exact goW | fail)
    refine Cw.loopI [(1, _), (2, _), (3, _), (10, _), (21, _), (22, _), (27, _), (28, _)] _ (fun n e cc => ∃ (i : Nat) (ad : Option Addr) (cap : Nat) (rows : List (List Tr)), n = T.length - i ∧ (i ≤ T.length ∧ rows = (clAll (hX l xs) C xs.length a ++ clA (hX l xs) (T.take i) a).map Touch.row ∧ rows.length ≤ 2 * a + i) ∧ e = [(9, Tr.raw (.slice ad rows.length cap)), (29, .int i)] ∧ cc = [Chunk.own ad cap 2 59 rows])
      ⟨_, _, _, (Ent.mkP (by repeat' (first | exact Sub.nil | refine Sub.cons rfl ?_)) (by repeat' (first | exact List.Perm.refl _ | refine Perm.cons' (by first | exact pick0 | exact pickS pick0 | exact pickS (pickS pick0) | exact pickS (pickS (pickS pick0)) | exact pickS (pickS (pickS (pickS pick0)))) ?_))), 0, ad, cap, rows, rfl, ⟨by omega, by rw [hrows]; simp [clA], by omega⟩, rfl, rfl⟩ ?_
    clear hrows hrl
    rintro _ _ _ ⟨i, ad, cap, rows, rfl, ⟨hi, hrows, hrl⟩, rfl, rfl⟩
    by_cases hil : i < T.length
    · obtain ⟨b, hb⟩ := at_lt hil
      have hbl := htl b (List.mem_of_getElem? hb)
      have hrb : (intRows (natI T))[((i : Nat) : Int).toNat]? = some [.int b] := natI_at hb
      obtain ⟨y, hy⟩ := at_lt hbl
      have hrow2 : (strRows xs)[((b : Nat) : Int).toNat]? = some [.str y] := strRows_at hy
      have k3 := hated_fn l hl x y
      have hh : hatedB l x y = hX l xs a b := by unfold hX; rw [List.getD_eq_getElem?_getD, List.getD_eq_getElem?_getD, hx1, hy]; rfl
      rw [hh] at k3
      have hst : clA (hX l xs) (T.take (i + 1)) a = clA (hX l xs) (T.take i) a ++ (if hX l xs a b then [Touch.mk (a : Int) (b : Int)] else []) := by
        rw [take_at hb, clA_app]
        congr 1
        unfold clA
        rw [List.filter_cons, List.filter_nil]
        cases hX l xs a b <;> rfl
      cases hv : hX l xs a b
      · rw [hv] at k3 hst
        repeat' (first | refine goH ?_ | refine goV ?_ | refine goB (fun b => ?_) | refine goC (fun ad cap => ?_) | refine goI ?_ | (refine Cw.k_cond ?_; first | (refine Cw.cond_dec rfl (fun hc => ?_) (fun hc => ?_) <;> try (exfalso; omega)) | refine Cw.cond_bool rfl (fun hc => ?_) (fun hc => ?_)) | (refine Ops.k_calla ?_; first | (refine Ops.k_callf 78 ?_; refine Ops.callV k3 (Evs.cons rfl (Evs.cons rfl (Evs.cons rfl Evs.nil))) rfl ?_)) | (apply OpW.k_call; first | (apply OpW.k_callf 78; exact OpW.callV k3 (Evs.cons rfl (Evs.cons rfl (Evs.cons rfl Evs.nil))))) | refine goR ?_ | refine goP ?_ | apply PSeq.cons | apply PSeq.yes rfl rfl rfl | exact goW | fail)
        exact ⟨_, _, _, (Ent.mk (by repeat' (first | exact Sub.nil | refine Sub.cons rfl ?_)) (by repeat' (first | exact Take.nil | refine Take.cons (by first | exact pick0 | exact pickS pick0 | exact pickS (pickS pick0) | exact pickS (pickS (pickS pick0)) | exact pickS (pickS (pickS (pickS pick0)))) ?_))), ⟨i + 1, _, _, _, rfl, ⟨by omega, by rw [hrows, hst]; simp, by omega⟩, rfl, rfl⟩, by omega⟩
      · rw [hv] at k3 hst
        have key : rows ++ [[Tr.int a, Tr.int b]] = (clAll (hX l xs) C xs.length a ++ clA (hX l xs) (T.take (i + 1)) a).map Touch.row := by rw [hst, hrows]; simp [Touch.row]
        repeat' (first | refine goH ?_ | refine goV ?_ | refine goB (fun b => ?_) | refine goC (fun ad cap => ?_) | refine goI ?_ | (refine Cw.k_cond ?_; first | (refine Cw.cond_dec rfl (fun hc => ?_) (fun hc => ?_) <;> try (exfalso; omega)) | refine Cw.cond_bool rfl (fun hc => ?_) (fun hc => ?_)) | (refine Ops.k_calla ?_; first | (refine Ops.k_callf 78 ?_; refine Ops.callV k3 (Evs.cons rfl (Evs.cons rfl (Evs.cons rfl Evs.nil))) rfl ?_)) | (apply OpW.k_call; first | (apply OpW.k_callf 78; exact OpW.callV k3 (Evs.cons rfl (Evs.cons rfl (Evs.cons rfl Evs.nil))))) | refine goR ?_ | refine goP ?_ | apply PSeq.cons | apply PSeq.yes rfl rfl rfl | exact goW | fail)
        exact ⟨_, _, _, (Ent.mk (by repeat' (first | exact Sub.nil | refine Sub.cons rfl ?_)) (by repeat' (first | exact Take.nil | refine Take.cons (by first | exact pick0 | exact pickS pick0 | exact pickS (pickS pick0) | exact pickS (pickS (pickS pick0)) | exact pickS (pickS (pickS (pickS pick0)))) ?_))), ⟨i + 1, _, _, _, rfl, ⟨by omega, key, by simp only [List.length_append, List.length_cons, List.length_nil]; omega⟩, rfl, rfl⟩, by omega⟩
    · rw [List.take_of_length_le (by omega)] at hrows
      have key : rows = (clAll (hX l xs) C xs.length (a + 1)).map Touch.row := by rw [hrows, clAll_succ, hTT]
      repeat' (first | refine goH ?_ | refine goV ?_ | refine goB (fun b => ?_) | refine goC (fun ad cap => ?_) | refine goI ?_ | (refine Cw.k_cond ?_; first | (refine Cw.cond_dec rfl (fun hc => ?_) (fun hc => ?_) <;> try (exfalso; omega)) | refine Cw.cond_bool rfl (fun hc => ?_) (fun hc => ?_)) | refine goR ?_ | refine goP ?_ | apply PSeq.cons | apply PSeq.yes rfl rfl rfl | exact goW | fail)
      exact ⟨_, _, _, (Ent.mk (by repeat' (first | exact Sub.nil | refine Sub.cons rfl ?_)) (by repeat' (first | exact Take.nil | refine Take.cons (by first | exact pick0 | exact pickS pick0 | exact pickS (pickS pick0) | exact pickS (pickS (pickS pick0)) | exact pickS (pickS (pickS (pickS pick0)))) ?_))), ⟨a + 1, _, _, _, rfl, ⟨by omega, key, by omega⟩, rfl, rfl⟩, by omega⟩
  · have : a = xs.length := by omega
    subst this
    subst hrows
    repeat' (first | refine goH ?_ | refine goV ?_ | refine goB (fun b => ?_) | refine goC (fun ad cap => ?_) | refine goI ?_ | (refine Cw.k_cond ?_; first | (refine Cw.cond_dec rfl (fun hc => ?_) (fun hc => ?_) <;> try (exfalso; omega)) | refine Cw.cond_bool rfl (fun hc => ?_) (fun hc => ?_)) | refine goR ?_ | refine goP ?_ | apply PSeq.cons | apply PSeq.yes rfl rfl rfl | exact goW | fail)
    refine Fin.ret (Ent.trans (Ent.settle (s := 6) rfl (by first | exact pick0 | exact pickS pick0 | exact pickS (pickS pick0) | exact pickS (pickS (pickS pick0)) | exact pickS (pickS (pickS (pickS pick0)))) rfl) (Ent.take (by repeat' (first | exact Take.nil | refine Take.cons (by first | exact pick0 | exact pickS pick0 | exact pickS (pickS pick0) | exact pickS (pickS (pickS pick0)) | exact pickS (pickS (pickS (pickS pick0)))) ?_)))) (Outs.many rfl (OutL.cons (by first | exact OutE.tmp rfl | exact OutE.agg inferInstance rfl rfl | exact OutE.one inferInstance rfl) (OutL.cons (by first | exact OutE.tmp rfl | exact OutE.agg inferInstance rfl rfl | exact OutE.one inferInstance rfl) OutL.nil)) rfl) ⟨rfl, rfl⟩
end Lg
