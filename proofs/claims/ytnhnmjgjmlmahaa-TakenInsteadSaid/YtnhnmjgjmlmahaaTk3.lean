/- A part of the proof of a law of this seat: it adds no condition. By an AI agent. -/
import Derived.Test.YtnhnmjgjmlmahaaSm1
import Derived.Test.YtnhnmjgjmlmahaaTk2
set_option linter.all false
set_option maxRecDepth 100000
set_option maxHeartbeats 8000000
namespace Lg
open Go Go.Proofs

/-- a copy of its own -/
theorem clone_int (rows : List (List Tr)) (hk : ∀ r ∈ rows, r.length = 1) (hl : rows.length ≤ 1000000) : PFnO Try.prog 92 [.sl 1 rows] 1 3 (· = rows) := by
  unfold PFnO
  refine Spec.body Try.func92 rfl rfl (Try.ntmps92) rfl fun w0 own0 M => ?_
  repeat' (first | refine goH ?_ | ((fail_if_success refine Ops.k_b_eql ?_); (fail_if_success refine Ops.k_buildSlice ?_); refine goV ?_) | ((fail_if_success refine Ops.k_b_eql ?_); (fail_if_success refine Ops.k_buildSlice ?_); refine goC (fun ad cap => ?_)) | refine goI ?_ | (refine Cw.k_cond ?_; first | (refine Cw.cond_dec rfl (fun hc => ?_) (fun hc => ?_) <;> try (exfalso; omega)) | refine Cw.cond_bool rfl (fun hc => ?_) (fun hc => ?_)) | fail)
  refine Ops.eql_nilS rfl rfl (fun b hb => ?_)
  cases b
  · repeat' (first | refine goH ?_ | ((fail_if_success refine Ops.k_buildSlice ?_); refine goV ?_) | ((fail_if_success refine Ops.k_buildSlice ?_); refine goC (fun ad cap => ?_)) | refine goI ?_ | (refine Cw.k_cond ?_; first | (refine Cw.cond_dec rfl (fun hc => ?_) (fun hc => ?_) <;> try (exfalso; omega)) | refine Cw.cond_bool rfl (fun hc => ?_) (fun hc => ?_)) | fail)
    refine Ops.buildSlice_own (by exact Parts.nil) rfl rfl rfl (fun ad cap => ?_)
    repeat' (first | refine goH ?_ | refine goV ?_ | refine goC (fun ad cap => ?_) | refine goI ?_ | (refine Cw.k_cond ?_; first | (refine Cw.cond_dec rfl (fun hc => ?_) (fun hc => ?_) <;> try (exfalso; omega)) | refine Cw.cond_bool rfl (fun hc => ?_) (fun hc => ?_)) | fail)
    exact Fin.ret (Ent.take (by repeat' (first | exact Take.nil | refine Take.cons (by first | exact pick0 | exact pickS pick0 | exact pickS (pickS pick0) | exact pickS (pickS (pickS pick0)) | exact pickS (pickS (pickS (pickS pick0)))) ?_))) (Outs.one rfl rfl) ⟨_, _, _, rfl, rfl, rfl⟩
  · have hr := hb rfl
    subst hr
    repeat' (first | refine goH ?_ | refine goV ?_ | refine goC (fun ad cap => ?_) | refine goI ?_ | (refine Cw.k_cond ?_; first | (refine Cw.cond_dec rfl (fun hc => ?_) (fun hc => ?_) <;> try (exfalso; omega)) | refine Cw.cond_bool rfl (fun hc => ?_) (fun hc => ?_)) | fail)
    exact Fin.ret (Ent.trans (Ent.nil 1 3) (Ent.take (by repeat' (first | exact Take.nil | refine Take.cons (by first | exact pick0 | exact pickS pick0 | exact pickS (pickS pick0) | exact pickS (pickS (pickS pick0)) | exact pickS (pickS (pickS (pickS pick0)))) ?_)))) (Outs.one rfl rfl) ⟨none, 0, [], rfl, rfl, rfl⟩

theorem setI (l : List Int) (i : Nat) (old v : Int) : (intRows l).set ((i : Nat) : Int).toNat ([Tr.int old].set 0 (Tr.int v)) = intRows (l.set i v) := by
  rw [Int.toNat_natCast]
  exact intRows_set l i v
def vAd : Value → Option Addr
  | .slice a _ _ => a
  | _ => none
def vCap : Value → Nat
  | .slice _ _ c => c
  | _ => 0
def mkZ (s : Bool) (v : Value) (m : Nat) (E : TypeId) : List Chunk := match s with
  | false => []
  | true => [Chunk.own (vAd v) (vCap v) 1 E (List.replicate m [Tr.raw (.int .i64 0)])]
theorem zeroRows (n : Nat) : List.replicate n [Tr.raw (.int .i64 0)] = intRows (List.replicate n 0) := by unfold intRows; rw [List.map_replicate]
theorem one1 {l : List Int} : ∀ r ∈ intRows l, r.length = 1 := by
  intro r hr
  simp only [intRows, List.mem_map] at hr
  obtain ⟨x, _, rfl⟩ := hr
  rfl
theorem share_bd {f sh : Int} (hf : 0 ≤ f ∧ f ≤ 1000000) (hs : 0 ≤ sh ∧ sh ≤ 100) : (-9223372036854775808 ≤ f * sh ∧ f * sh ≤ 9223372036854775807) ∧ 0 ≤ f * sh ∧ 0 ≤ f * sh / 100 ∧ f * sh / 100 ≤ 1000000 := by
  have := prod_bd hf.1 hs.1 hf.2 hs.2
  omega
theorem insE_ok {L : List (List Int)} {w s : List Int} (h : insE L w s = 0) : tableE L = 0 ∧ w.length = L.length ∧ s.length = L.length ∧ w.any b6 = false ∧ s.any b6 = false := by
  unfold insE at h
  split at h
  · omega
  split at h
  · omega
  split at h
  · omega
  · rename_i h3
    simp only [Bool.or_eq_true, not_or, Bool.not_eq_true] at h3
    exact ⟨by omega, by omega, by omega, h3.1, h3.2⟩
theorem BD.mono {n : Nat} {m m' : Int} {i j : Int} {st : St3} (h : BD n m i j st) (hm : m ≤ m') : BD n m' i j st :=
  ⟨h.l1, h.l2, h.l3, fun x hx => by have := h.s x hx; omega, h.f, h.o⟩
theorem BD.start0 {n : Nat} {m : Int} {i : Int} {st : St3} (h : BD n m i 0 st) : BD n (m + (0 : Nat)) i (0 : Nat) st := by
  have e : m + ((0 : Nat) : Int) = m := by omega
  rw [e]
  exact h
theorem z1_len {w s : List Int} (h : w.length = s.length) : (z1 w s).length = w.length := z_len h
theorem z2_len {w s : List Int} (h : w.length = s.length) : (z2 w s).length = w.length := z_len h
theorem z3_len {w s : List Int} (h : w.length = s.length) : (z3 w s).length = w.length := z_len h
theorem z1_at {w s : List Int} {i : Nat} {a b : Int} (ha : w[i]? = some a) (hb : s[i]? = some b) : (z1 w s)[i]? = some (min a b) := z_at (g := fun a b => min a b) ha hb
theorem z2_at {w s : List Int} {i : Nat} {a b : Int} (ha : w[i]? = some a) (hb : s[i]? = some b) : (z2 w s)[i]? = some (b - min a b) := z_at (g := fun a b => b - min a b) ha hb
theorem z3_at {w s : List Int} {i : Nat} {a b : Int} (ha : w[i]? = some a) (hb : s[i]? = some b) : (z3 w s)[i]? = some (a - min a b) := z_at (g := fun a b => a - min a b) ha hb
theorem tabF_cons (st : St3) (i : Nat) (l : List Int) (L : List (List Int)) : tabF st i (l :: L) = tabF (rowF (st.2.2.getD i 0) i st 0 l) (i + 1) L := rfl
theorem tabF_nil (st : St3) (i : Nat) : tabF st i [] = st := rfl
theorem rowF_cons (f : Int) (i : Nat) (st : St3) (j : Nat) (x : Int) (l : List Int) : rowF f i st j (x :: l) = rowF f i (stepJ f i st j x) (j + 1) l := rfl
theorem rowF_nil (f : Int) (i : Nat) (st : St3) (j : Nat) : rowF f i st j [] = st := rfl
theorem insF_eq (L : List (List Int)) (w s : List Int) : tabF (z1 w s, z2 w s, z3 w s) 0 (L.drop 0) = insF L w s := rfl
theorem intRows_snoc (l : List Int) (x : Int) : intRows (l ++ [x]) = intRows l ++ [[Tr.int x]] := by rw [intRows_app]; rfl
theorem take0_rows (l : List Int) : [] = intRows (l.take 0) := rfl
theorem take0_drop (l m : List Int) : intRows m = intRows (l.take 0 ++ m.drop 0) := rfl
theorem tab_in {L : List (List Int)} {i : Nat} {l : List Int} {st : St3} {f : Int} (hl : L[i]? = some l) (hf : st.2.2[i]? = some f) {Z : St3} (h : tabF st i (L.drop i) = Z) : tabF (rowF f i st 0 (l.drop 0)) (i + 1) (L.drop (i + 1)) = Z := by
  rw [← h, drop_at hl, tabF_cons, List.getD_eq_getElem?_getD, hf]
  rfl
theorem row_in {l : List Int} {j : Nat} {x f : Int} {i : Nat} {st : St3} (hx : l[j]? = some x) {D : List (List Int)} {Z : St3} (h : tabF (rowF f i st j (l.drop j)) (i + 1) D = Z) : tabF (rowF f i (stepJ f i st j x) (j + 1) (l.drop (j + 1))) (i + 1) D = Z := by
  rw [← h, drop_at hx, rowF_cons]
theorem row_out {l : List Int} {f : Int} {i : Nat} {st : St3} {D : List (List Int)} {Z : St3} (h : tabF (rowF f i st l.length (l.drop l.length)) (i + 1) D = Z) : tabF st (i + 1) D = Z := by
  rw [← h, List.drop_eq_nil_of_le (Nat.le_refl _), rowF_nil]
attribute [local irreducible] intRows intsR stepJ tabF rowF insF z1 z2 z3
theorem insteadOf_fn (L : List (List Int)) (hB : LBd L) (w s : List Int) (h0 : insE L w s = 0) : PFn Try.prog 48 [.table L, .ints w, .ints s] (· = .tup [.ints (insF L w s).1, .ints (insF L w s).2.2]) := by
  obtain ⟨t0, hwl, hsl, hw6, hs6⟩ := insE_ok h0
  obtain ⟨hn, hsh⟩ := shares_ok t0
  have hwb := b6_ok hw6
  have hsb := b6_ok hs6
  have hL := intsR_len L
  have hW := intRows_len w
  have hS := intRows_len s
  have hz1 : (z1 w s).length = w.length := z1_len (by omega)
  have hz2 : (z2 w s).length = w.length := z2_len (by omega)
  have hz3 : (z3 w s).length = w.length := z3_len (by omega)
  refine PFn.mk (Spec.body Try.func48 rfl rfl (Try.ntmps48) rfl fun w0 own0 M => ?_)
  repeat' (first | refine goH ?_ | refine goV ?_ | refine goB (fun b => ?_) | refine goC (fun ad cap => ?_) | refine goI ?_ | (refine Cw.k_cond ?_; first | (refine Cw.cond_dec rfl (fun hc => ?_) (fun hc => ?_) <;> try (exfalso; omega)) | refine Cw.cond_bool rfl (fun hc => ?_) (fun hc => ?_)) | (refine Ops.k_calla ?_; first | (refine Ops.k_callf 92 ?_; (refine Ops.callO (clone_int (intRows s) one1 (by omega)) (Evs.cons rfl Evs.nil) rfl (fun ad cap rows hr => ?_); subst hr; rw [hS]))) | fail)
  refine Cw.loopI [(3, _), (8, _), (19, _), (20, _)] _ (fun q e cc => ∃ (i : Nat) (a6 : Option Addr) (c6 : Nat) (a7 : Option Addr) (c7 : Nat) (r6 r7 r8 : List (List Tr)), q = w.length - i ∧ (i ≤ w.length ∧ r6 = intRows ((z1 w s).take i) ∧ r7 = intRows ((z3 w s).take i) ∧ r8 = intRows ((z2 w s).take i ++ s.drop i) ∧ r6.length = i ∧ r7.length = i ∧ r8.length = w.length) ∧ e = [(6, Tr.raw (.slice a6 r6.length c6)), (7, Tr.raw (.slice a7 r7.length c7)), (21, .int i)] ∧ cc = [Chunk.own a6 c6 1 3 r6, Chunk.own a7 c7 1 3 r7, Chunk.own ad cap 1 3 r8])
    ⟨_, _, _, Ent.trans (Ent.nil 1 3) (Ent.trans (Ent.nil 1 3) (Ent.mkP (by repeat' (first | exact Sub.nil | refine Sub.cons rfl ?_)) (by repeat' (first | exact List.Perm.refl _ | refine Perm.cons' (by first | exact pick0 | exact pickS pick0 | exact pickS (pickS pick0) | exact pickS (pickS (pickS pick0)) | exact pickS (pickS (pickS (pickS pick0)))) ?_)))), 0, none, 0, none, 0, [], [], intRows s, rfl, ⟨by omega, take0_rows _, take0_rows _, take0_drop _ _, rfl, rfl, by omega⟩, rfl, rfl⟩ ?_
  rintro _ _ _ ⟨i, a6, c6, a7, c7, r6, r7, r8, rfl, ⟨hi, h6, h7, h8, q6, q7, q8⟩, rfl, rfl⟩
  by_cases hil : i < w.length
  · obtain ⟨a, ha⟩ := at_lt hil
    obtain ⟨b, hb⟩ := at_lt (l := s) (k := i) (by omega)
    have hab := hwb a (List.mem_of_getElem? ha)
    have hbb := hsb b (List.mem_of_getElem? hb)
    have hra := intRows_at ha
    have hrb : r8[((i : Nat) : Int).toNat]? = some [.int b] := by rw [h8]; exact intRows_at (mix_at (by omega) hb)
    have y1 : (z1 w s)[i]? = some (min a b) := z1_at ha hb
    have y2 : (z2 w s)[i]? = some (b - min a b) := z2_at ha hb
    have y3 : (z3 w s)[i]? = some (a - min a b) := z3_at ha hb
    have e1 : r6 ++ [[Tr.int (min a b)]] = intRows ((z1 w s).take (i + 1)) := by rw [take_at y1, h6, intRows_snoc]
    have e3 : r7 ++ [[Tr.int (a - min a b)]] = intRows ((z3 w s).take (i + 1)) := by rw [take_at y3, h7, intRows_snoc]
    have e2 : r8.set ((i : Nat) : Int).toNat ([Tr.int b].set 0 (Tr.int (b - min a b))) = intRows ((z2 w s).take (i + 1) ++ s.drop (i + 1)) := by
      rw [h8, setI, mix_set (hz2.trans (hwl.trans hsl.symm)) y2]
    clear y1 y2 y3
    obtain ⟨mn, hmn⟩ : ∃ mn, mn = min a b := ⟨_, rfl⟩
    rw [← hmn] at e1 e2 e3
    have hmb : 0 ≤ mn ∧ mn ≤ a ∧ mn ≤ b := by omega
    clear h6 h7 h8
    repeat' (first | refine goH ?_ | (refine Ops.k_c_min ?_; first | (refine Ops.min2 rfl rfl rfl ?_; rw [← hmn])) | refine goV ?_ | refine goB (fun b => ?_) | refine goC (fun ad cap => ?_) | refine goI ?_ | (refine Cw.k_cond ?_; first | (refine Cw.cond_dec rfl (fun hc => ?_) (fun hc => ?_) <;> try (exfalso; omega)) | refine Cw.cond_bool rfl (fun hc => ?_) (fun hc => ?_)) | fail)
    exact ⟨_, _, _, (Ent.mk (by repeat' (first | exact Sub.nil | refine Sub.cons rfl ?_)) (by repeat' (first | exact Take.nil | refine Take.cons (by first | exact pick0 | exact pickS pick0 | exact pickS (pickS pick0) | exact pickS (pickS (pickS pick0)) | exact pickS (pickS (pickS (pickS pick0)))) ?_))), ⟨i + 1, _, _, _, _, _, _, _, rfl, ⟨by omega, e1, e3, e2, by simp only [List.length_append, List.length_cons, List.length_nil]; omega, by simp only [List.length_append, List.length_cons, List.length_nil]; omega, by rw [List.length_set]; exact q8⟩, rfl, rfl⟩, by omega⟩
  have hii : i = w.length := by omega
  subst hii
  rw [List.take_of_length_le (by omega)] at h6 h7 h8
  rw [List.drop_eq_nil_of_le (by omega), List.append_nil] at h8
  have hBD0 : BD w.length (1 + 31 * (0 : Nat)) (0 : Nat) 0 (z1 w s, z2 w s, z3 w s) := (BD.start (w := w) (s := s) (by omega) hwb hsb).mono (by omega)
  have hT0 : tabF (z1 w s, z2 w s, z3 w s) 0 (L.drop 0) = insF L w s := insF_eq L w s
  repeat' (first | refine goH ?_ | refine goV ?_ | refine goB (fun b => ?_) | refine goC (fun ad cap => ?_) | refine goI ?_ | (refine Cw.k_cond ?_; first | (refine Cw.cond_dec rfl (fun hc => ?_) (fun hc => ?_) <;> try (exfalso; omega)) | refine Cw.cond_bool rfl (fun hc => ?_) (fun hc => ?_)) | fail)
  refine Cw.loopI [(3, _), (6, _), (7, _), (8, _), (51, _)] _ (fun q e cc => ∃ (i : Nat) (st : St3) (r6 r7 r8 : List (List Tr)), q = w.length - i ∧ (i ≤ w.length ∧ r6 = intRows st.1 ∧ r7 = intRows st.2.2 ∧ r8 = intRows st.2.1 ∧ r6.length = w.length ∧ r7.length = w.length ∧ r8.length = w.length ∧ tabF st i (L.drop i) = insF L w s ∧ BD w.length (1 + 31 * i) i 0 st) ∧ e = [(52, .int i)] ∧ cc = [Chunk.own a6 c6 1 3 r6, Chunk.own a7 c7 1 3 r7, Chunk.own ad cap 1 3 r8])
    ⟨_, _, _, (Ent.mkP (by repeat' (first | exact Sub.nil | refine Sub.cons rfl ?_)) (by repeat' (first | exact List.Perm.refl _ | refine Perm.cons' (by first | exact pick0 | exact pickS pick0 | exact pickS (pickS pick0) | exact pickS (pickS (pickS pick0)) | exact pickS (pickS (pickS (pickS pick0)))) ?_))), 0, (z1 w s, z2 w s, z3 w s), r6, r7, r8, rfl, ⟨by omega, h6, h7, h8, q6, q7, q8, hT0, hBD0⟩, rfl, rfl⟩ ?_
  clear h6 h7 h8 hBD0 hT0 hz1 hz2 hz3 hwb hsb hw6 hs6 h0 t0 hW hS hc
  rintro _ _ _ ⟨i, st, s6, s7, s8, rfl, ⟨hi, h6, h7, h8, p6, p7, p8, hT, hD⟩, rfl, rfl⟩
  obtain ⟨A, B, C⟩ := st
  replace h6 : s6 = intRows A := h6
  replace h7 : s7 = intRows C := h7
  replace h8 : s8 = intRows B := h8
  have dl1 : A.length = w.length := hD.l1
  have dl2 : B.length = w.length := hD.l2
  have dl3 : C.length = w.length := hD.l3
  by_cases hil : i < w.length
  · obtain ⟨l, hl⟩ := at_lt (l := L) (k := i) (by omega)
    obtain ⟨hll, hlb⟩ := hsh i l hl
    have hrl := intsR_at hl
    have hlr := intRows_len l
    obtain ⟨f, hf⟩ := at_lt (l := C) (k := i) (by omega)
    have hfo := hD.o i f hf
    have hf0 : 0 ≤ f ∧ f ≤ 1000000 := ⟨by have := hfo.2.2.1 rfl; omega, hfo.1⟩
    have hrf : s7[((i : Nat) : Int).toNat]? = some [.int f] := by rw [h7]; exact intRows_at hf
    have hT2 := tab_in (st := (A, B, C)) hl hf hT
    clear hT hf hfo
    repeat' (first | refine goH ?_ | refine goV ?_ | refine goB (fun b => ?_) | refine goC (fun ad cap => ?_) | refine goI ?_ | (refine Cw.k_cond ?_; first | (refine Cw.cond_dec rfl (fun hc => ?_) (fun hc => ?_) <;> try (exfalso; omega)) | refine Cw.cond_bool rfl (fun hc => ?_) (fun hc => ?_)) | fail)
    refine Cw.loopI [(3, _), (6, _), (7, _), (8, _), (12, _), (13, _), (51, _), (52, _), (63, _), (64, _)] _ (fun q e cc => ∃ (j : Nat) (st : St3) (r6 r7 r8 : List (List Tr)), q = l.length - j ∧ (j ≤ l.length ∧ r6 = intRows st.1 ∧ r7 = intRows st.2.2 ∧ r8 = intRows st.2.1 ∧ r6.length = w.length ∧ r7.length = w.length ∧ r8.length = w.length ∧ tabF (rowF f i st j (l.drop j)) (i + 1) (L.drop (i + 1)) = insF L w s ∧ BD w.length (1 + 31 * i + j) i j st) ∧ e = [(65, .int j)] ∧ cc = [Chunk.own a6 c6 1 3 r6, Chunk.own a7 c7 1 3 r7, Chunk.own ad cap 1 3 r8])
      ⟨_, _, _, (Ent.mkP (by repeat' (first | exact Sub.nil | refine Sub.cons rfl ?_)) (by repeat' (first | exact List.Perm.refl _ | refine Perm.cons' (by first | exact pick0 | exact pickS pick0 | exact pickS (pickS pick0) | exact pickS (pickS (pickS pick0)) | exact pickS (pickS (pickS (pickS pick0)))) ?_))), 0, (A, B, C), s6, s7, s8, rfl, ⟨by omega, h6, h7, h8, p6, p7, p8, hT2, hD.start0⟩, rfl, rfl⟩ ?_
    clear h6 h7 h8 p6 p7 p8 hT2 hD dl1 dl2 dl3 hL hrf
    rintro _ _ _ ⟨j, st, s6, s7, s8, rfl, ⟨hj, h6, h7, h8, p6, p7, p8, hT, hD⟩, rfl, rfl⟩
    obtain ⟨A, B, C⟩ := st
    replace h6 : s6 = intRows A := h6
    replace h7 : s7 = intRows C := h7
    replace h8 : s8 = intRows B := h8
    have dl1 : A.length = w.length := hD.l1
    have dl2 : B.length = w.length := hD.l2
    have dl3 : C.length = w.length := hD.l3
    by_cases hjl : j < l.length
    · obtain ⟨sh, hsx⟩ := at_lt hjl
      have hrx := intRows_at hsx
      have hs0 := hlb sh (List.mem_of_getElem? hsx)
      obtain ⟨a, ha⟩ := at_lt (l := A) (k := j) (by omega)
      obtain ⟨b, hb⟩ := at_lt (l := B) (k := j) (by omega)
      obtain ⟨c, hc⟩ := at_lt (l := C) (k := i) (by omega)
      have hab := hD.s a (List.mem_of_getElem? ha)
      have hbb := hD.f b (List.mem_of_getElem? hb)
      obtain ⟨hc1, hc2, _, _⟩ := hD.o i c hc
      obtain ⟨hp1, hp2, hp3, hp4⟩ := share_bd hf0 hs0
      have hD2 := BD.step hD (by omega) (by omega) (sh := sh) ha hb hc hp3 hp4
      have hT2 := row_in hsx hT
      have hra : s6[((j : Nat) : Int).toNat]? = some [.int a] := by rw [h6]; exact intRows_at ha
      have hrb : s8[((j : Nat) : Int).toNat]? = some [.int b] := by rw [h8]; exact intRows_at hb
      have hrc : s7[((i : Nat) : Int).toNat]? = some [.int c] := by rw [h7]; exact intRows_at hc
      have e1 : s6.set ((j : Nat) : Int).toNat ([Tr.int a].set 0 (Tr.int (a + min (f * sh / 100) b))) = intRows (stepJ f i (A, B, C) j sh).1 := by rw [h6, setI, stepJ_eq (st := (A, B, C)) ha hb hc]
      have e2 : s8.set ((j : Nat) : Int).toNat ([Tr.int b].set 0 (Tr.int (b - min (f * sh / 100) b))) = intRows (stepJ f i (A, B, C) j sh).2.1 := by rw [h8, setI, stepJ_eq (st := (A, B, C)) ha hb hc]
      have e3 : s7.set ((i : Nat) : Int).toNat ([Tr.int c].set 0 (Tr.int (c - min (f * sh / 100) b))) = intRows (stepJ f i (A, B, C) j sh).2.2 := by rw [h7, setI, stepJ_eq (st := (A, B, C)) ha hb hc]
      have hcast : ((1 + 31 * i + (j + 1 : Nat) : Int)) = 1 + 31 * i + j + 1 := by omega
      rw [← hcast] at hD2
      clear hcast
      obtain ⟨mn, hmn⟩ : ∃ mn, mn = min (f * sh / 100) b := ⟨_, rfl⟩
      rw [← hmn] at e1 e2 e3
      have hmb : 0 ≤ mn ∧ mn ≤ 1000000 := by omega
      have hmu : Unit → min (f * sh / 100) b = mn := fun _ => hmn.symm
      clear h6 h7 h8 hT hD ha hb hc hmn
      repeat' (first | refine goH ?_ | (refine Ops.k_c_min ?_; first | (refine Ops.min2 rfl rfl rfl ?_; rw [hmu ()])) | refine goV ?_ | refine goB (fun b => ?_) | refine goC (fun ad cap => ?_) | refine goI ?_ | (refine Cw.k_cond ?_; first | (refine Cw.cond_dec rfl (fun hc => ?_) (fun hc => ?_) <;> try (exfalso; omega)) | refine Cw.cond_bool rfl (fun hc => ?_) (fun hc => ?_)) | fail)
      exact ⟨_, _, _, (Ent.mk (by repeat' (first | exact Sub.nil | refine Sub.cons rfl ?_)) (by repeat' (first | exact Take.nil | refine Take.cons (by first | exact pick0 | exact pickS pick0 | exact pickS (pickS pick0) | exact pickS (pickS (pickS pick0)) | exact pickS (pickS (pickS (pickS pick0)))) ?_))), ⟨j + 1, stepJ f i (A, B, C) j sh, _, _, _, rfl, ⟨by omega, e1, e3, e2, by rw [List.length_set]; exact p6, by rw [List.length_set]; exact p7, by rw [List.length_set]; exact p8, hT2, hD2⟩, rfl, rfl⟩, by omega⟩
    · have hjj : j = l.length := by omega
      subst hjj
      have hT2 := row_out hT
      have hD2 : BD w.length (1 + 31 * (i + 1 : Nat)) (i + 1 : Nat) 0 (A, B, C) := (hD.mono (by omega)).next
      clear hT hD
      repeat' (first | refine goH ?_ | refine goV ?_ | refine goB (fun b => ?_) | refine goC (fun ad cap => ?_) | refine goI ?_ | (refine Cw.k_cond ?_; first | (refine Cw.cond_dec rfl (fun hc => ?_) (fun hc => ?_) <;> try (exfalso; omega)) | refine Cw.cond_bool rfl (fun hc => ?_) (fun hc => ?_)) | fail)
      exact ⟨_, _, _, (Ent.mk (by repeat' (first | exact Sub.nil | refine Sub.cons rfl ?_)) (by repeat' (first | exact Take.nil | refine Take.cons (by first | exact pick0 | exact pickS pick0 | exact pickS (pickS pick0) | exact pickS (pickS (pickS pick0)) | exact pickS (pickS (pickS (pickS pick0)))) ?_))), ⟨i + 1, (A, B, C), _, _, _, rfl, ⟨by omega, h6, h7, h8, p6, p7, p8, hT2, hD2⟩, rfl, rfl⟩, by omega⟩
  have hii : i = w.length := by omega
  subst hii
  rw [List.drop_eq_nil_of_le (by omega)] at hT
  rw [tabF_nil] at hT
  have hst : (A, B, C) = insF L w s := hT
  rw [← hst]
  clear hT hst hD
  repeat' (first | refine goH ?_ | refine goV ?_ | refine goB (fun b => ?_) | refine goC (fun ad cap => ?_) | refine goI ?_ | (refine Cw.k_cond ?_; first | (refine Cw.cond_dec rfl (fun hc => ?_) (fun hc => ?_) <;> try (exfalso; omega)) | refine Cw.cond_bool rfl (fun hc => ?_) (fun hc => ?_)) | fail)
  have u6 : r6.length = s6.length := q6.trans p6.symm
  have u7 : r7.length = s7.length := q7.trans p7.symm
  rw [u6, u7]
  clear u6 u7 q6 q7 p6 p7
  subst h6 h7 h8
  refine Fin.ret (Ent.trans (Ent.settle (s := 6) rfl (by first | exact pick0 | exact pickS pick0 | exact pickS (pickS pick0) | exact pickS (pickS (pickS pick0)) | exact pickS (pickS (pickS (pickS pick0)))) rfl) (Ent.trans (Ent.settle (s := 7) rfl (by first | exact pick0 | exact pickS pick0 | exact pickS (pickS pick0) | exact pickS (pickS (pickS pick0)) | exact pickS (pickS (pickS (pickS pick0)))) rfl) (Ent.take (by repeat' (first | exact Take.nil | refine Take.cons (by first | exact pick0 | exact pickS pick0 | exact pickS (pickS pick0) | exact pickS (pickS (pickS pick0)) | exact pickS (pickS (pickS (pickS pick0)))) ?_))))) (Outs.many rfl (OutL.cons (by first | exact OutE.tmp rfl | exact OutE.agg inferInstance rfl rfl | exact OutE.one inferInstance rfl) (OutL.cons (by first | exact OutE.tmp rfl | exact OutE.agg inferInstance rfl rfl | exact OutE.one inferInstance rfl) OutL.nil)) rfl) ⟨rfl, rfl⟩
end Lg
