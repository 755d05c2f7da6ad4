/- A part of the proof of a law of this seat: it adds no condition. By an AI agent. -/
import Derived.Lib.AtoiAll
import Derived.Lib.ItoaNum
import Derived.Lib.ItoaMem
import Derived.Lib.Bytealg
import Derived.Test.YtaoclkglimibeaaGreatDoorLgMap
section
set_option linter.all false
namespace Lg
open Go

/-! ### numerals: how a number is written and read (plain) -/
def isDig (c : UInt8) : Bool := decide (48 ≤ c.toNat ∧ c.toNat ≤ 57)
def dval (acc : Nat) (l : List UInt8) : Nat := l.foldl (fun a c => a * 10 + (c.toNat - 48)) acc
theorem dval_nil (acc : Nat) : dval acc [] = acc := rfl
theorem dval_cons (acc : Nat) (c : UInt8) (r : List UInt8) : dval acc (c :: r) = dval (acc * 10 + (c.toNat - 48)) r := by
  unfold dval
  rw [List.foldl_cons]
/-- without one '-' ahead -/
def trimM : List UInt8 → List UInt8
  | [] => []
  | c :: r => if c = 45 then r else c :: r
def negM (l : List UInt8) : Bool := decide (l.head? = some 45)
def okNum (n : Nat) (l : List UInt8) : Bool :=
  decide (trimM l ≠ [] ∧ (trimM l).length ≤ n ∧ ¬ ((trimM l).head? = some 48 ∧ (1 < (trimM l).length ∨ (trimM l).length < l.length))) && (trimM l).all isDig
def valNum (l : List UInt8) : Int := if negM l = true then -(dval 0 (trimM l) : Int) else (dval 0 (trimM l) : Int)

theorem dval_snoc (c : UInt8) (l : List UInt8) (acc : Nat) : dval acc (l ++ [c]) = dval acc l * 10 + (c.toNat - 48) := by
  unfold dval
  rw [List.foldl_append]
  rfl
theorem isDig_bd {c : UInt8} (h : isDig c = true) : 48 ≤ c.toNat ∧ c.toNat ≤ 57 := of_decide_eq_true h
theorem dval_lt : ∀ (l : List UInt8) (acc : Nat), l.all isDig = true → dval acc l < (acc + 1) * 10 ^ l.length
  | [], acc, _ => by rw [dval_nil]; simp
  | c :: l, acc, h => by
    rw [List.all_cons, Bool.and_eq_true] at h
    have hc := isDig_bd h.1
    have ih := dval_lt l (acc * 10 + (c.toNat - 48)) h.2
    rw [dval_cons, List.length_cons]
    refine Nat.lt_of_lt_of_le ih ?_
    rw [show 10 ^ (l.length + 1) = 10 * 10 ^ l.length by rw [Nat.pow_succ, Nat.mul_comm], ← Nat.mul_assoc]
    refine Nat.mul_le_mul_right _ ?_
    omega
theorem dval_ge : ∀ (l : List UInt8) (acc : Nat), acc ≤ dval acc l
  | [], acc => Nat.le_refl _
  | c :: l, acc => by
    rw [dval_cons]
    have := dval_ge l (acc * 10 + (c.toNat - 48))
    omega
theorem parse_ok : ∀ (l : List UInt8) (acc : Nat), l.all isDig = true → dval acc l < 1000000000000000000 → Lib.parseUint10 acc l = .ok (dval acc l)
  | [], acc, _, _ => by rw [Lib.parseUint10, dval_nil]
  | c :: l, acc, h, hb => by
    rw [List.all_cons, Bool.and_eq_true] at h
    have hc := isDig_bd h.1
    have hg := dval_ge l (acc * 10 + (c.toNat - 48))
    rw [dval_cons] at hb ⊢
    rw [Lib.parseUint10, if_pos hc, if_neg (by omega), if_neg (by omega)]
    exact parse_ok l _ h.2 hb
theorem dval_18 {l : List UInt8} (h : l.all isDig = true) (hl : l.length ≤ 18) : dval 0 l < 1000000000000000000 := by
  have h1 := dval_lt l 0 h
  have h2 : 10 ^ l.length ≤ 10 ^ 18 := Nat.pow_le_pow_right (by omega) hl
  have h3 : (10 : Nat) ^ 18 = 1000000000000000000 := by decide
  omega
theorem trimM_cons (c : UInt8) (r : List UInt8) : trimM (c :: r) = if c = 45 then r else c :: r := rfl
theorem okNum_iff {n : Nat} {l : List UInt8} : okNum n l = true ↔ (trimM l ≠ [] ∧ (trimM l).length ≤ n ∧ ¬ ((trimM l).head? = some 48 ∧ (1 < (trimM l).length ∨ (trimM l).length < l.length))) ∧ (trimM l).all isDig = true := by
  unfold okNum
  rw [Bool.and_eq_true, decide_eq_true_iff]
theorem okNum_atoi {n : Nat} {l : List UInt8} (hn : n ≤ 18) (h : okNum n l = true) : Lib.atoiAll l = .ok (valNum l) := by
  obtain ⟨⟨h1, h2, _⟩, h4⟩ := okNum_iff.1 h
  have hv := dval_18 h4 (by omega)
  cases l with
  | nil => exact absurd rfl h1
  | cons c r =>
    rw [trimM_cons] at h1 h2 h4 hv
    unfold valNum negM
    rw [trimM_cons, List.head?_cons]
    unfold Lib.atoiAll
    by_cases hc : c = 45
    · subst hc
      rw [if_pos rfl] at h1 h2 h4 hv ⊢
      simp only
      rw [if_pos (by right; rfl)]
      unfold Lib.parseMag
      rw [if_neg h1, parse_ok r 0 h4 hv]
      simp only
      rw [if_neg (by intro h; exact h.1 rfl), if_neg (by intro h; omega), if_pos (by rfl), if_pos (by simp)]
    · rw [if_neg hc] at h1 h2 h4 hv ⊢
      have hd := isDig_bd (by rw [List.all_cons, Bool.and_eq_true] at h4; exact h4.1 : isDig c = true)
      simp only
      rw [if_neg (by omega)]
      unfold Lib.parseMag
      rw [if_neg h1, parse_ok (c :: r) 0 h4 hv]
      simp only
      rw [if_neg (by intro h; omega), if_neg (by intro h; omega), if_neg (by omega), if_neg (by simpa using hc)]
/-! the digits of a number -/
theorem dec_all : ∀ (u : Nat), (Lib.decDigits u).all isDig = true ∧ Lib.decDigits u ≠ [] ∧ ((Lib.decDigits u).head? = some 48 → u = 0) ∧ dval 0 (Lib.decDigits u) = u := by
  intro u
  induction u using Nat.strongRecOn with
  | _ u ih =>
    by_cases h : u < 10
    · rw [Lib.decDigits_one h]
      have e : (UInt8.ofNat (48 + u)).toNat = 48 + u := by rw [UInt8.toNat_ofNat']; omega
      refine ⟨?_, by simp, ?_, ?_⟩
      · simp [isDig, e]; omega
      · intro h2
        have h3 : UInt8.ofNat (48 + u) = 48 := by simpa using h2
        have h4 := congrArg UInt8.toNat h3
        rw [e] at h4
        have : (48 : UInt8).toNat = 48 := rfl
        omega
      · show 0 * 10 + ((UInt8.ofNat (48 + u)).toNat - 48) = u
        rw [e]; omega
    · obtain ⟨i1, i2, i3, i4⟩ := ih (u / 10) (by omega)
      rw [Lib.decDigits, dif_neg h]
      have e : (UInt8.ofNat (48 + u % 10)).toNat = 48 + u % 10 := by rw [UInt8.toNat_ofNat']; omega
      refine ⟨?_, by simp, ?_, ?_⟩
      · rw [List.all_append, i1]
        simp [isDig, e]; omega
      · intro h2
        have h3 : (Lib.decDigits (u / 10)).head? = some 48 := by
          cases hd : Lib.decDigits (u / 10) with
          | nil => exact absurd hd i2
          | cons a b => rw [hd] at h2; simpa using h2
        have := i3 h3
        omega
      · rw [dval_snoc, i4, e]
        omega
theorem dval_pos : ∀ (l : List UInt8) (acc : Nat), 0 < acc → 0 < dval acc l
  | [], acc, h => h
  | c :: l, acc, h => by
    rw [dval_cons]
    exact dval_pos l (acc * 10 + (c.toNat - 48)) (by omega)
theorem ofNat_dig {c : UInt8} (h : isDig c = true) : UInt8.ofNat (48 + (c.toNat - 48)) = c := by
  have := isDig_bd h
  rw [show 48 + (c.toNat - 48) = c.toNat by omega]
  exact UInt8.ofNat_toNat
theorem dec_dval (l : List UInt8) (h : l.all isDig = true) (h0 : l ≠ []) (hz : ¬ (l.head? = some 48 ∧ 1 < l.length)) : Lib.decDigits (dval 0 l) = l := by
  obtain ⟨m, hm⟩ : ∃ m, l.length = m + 1 := ⟨l.length - 1, by have := List.length_pos_iff.2 h0; omega⟩
  induction m generalizing l with
  | zero =>
    obtain ⟨c, rfl⟩ := List.length_eq_one_iff.1 hm
    have hc : isDig c = true := by simpa using h
    have hb := isDig_bd hc
    show Lib.decDigits (0 * 10 + (c.toNat - 48)) = [c]
    rw [Nat.zero_mul, Nat.zero_add, Lib.decDigits_one (by omega), ofNat_dig hc]
  | succ m ih =>
    obtain ⟨p, c, rfl⟩ : ∃ p c, l = p ++ [c] := ⟨l.dropLast, l.getLast h0, (List.dropLast_concat_getLast h0).symm⟩
    rw [List.length_append, List.length_singleton] at hm
    have hp0 : p ≠ [] := fun h => by subst h; simp at hm
    rw [List.all_append, Bool.and_eq_true] at h
    have hc : isDig c = true := by simpa using h.2
    have hb := isDig_bd hc
    have hhead : (p ++ [c]).head? = p.head? := by
      cases p with
      | nil => exact absurd rfl hp0
      | cons a b => rfl
    rw [hhead, List.length_append, List.length_singleton] at hz
    have hz2 : ¬ p.head? = some 48 := fun h2 => hz ⟨h2, by omega⟩
    have ih2 := ih p h.1 hp0 (fun h2 => hz2 h2.1) (by omega)
    have hpos : 0 < dval 0 p := by
      cases p with
      | nil => exact absurd rfl hp0
      | cons a b =>
        rw [dval_cons]
        refine dval_pos b _ ?_
        have h3 : isDig a = true := by have := h.1; rw [List.all_cons, Bool.and_eq_true] at this; exact this.1
        have h4 := isDig_bd h3
        have h5 : a ≠ 48 := fun h => hz2 (by rw [h]; rfl)
        have h6 : a.toNat ≠ 48 := fun h => h5 (UInt8.toNat_inj.1 h)
        omega
    rw [dval_snoc, Lib.decDigits, dif_neg (by omega), show (dval 0 p * 10 + (c.toNat - 48)) / 10 = dval 0 p by omega, show (dval 0 p * 10 + (c.toNat - 48)) % 10 = c.toNat - 48 by omega, ih2, ofNat_dig hc]
theorem okNum_itoa {n : Nat} {l : List UInt8} (h : okNum n l = true) : Lib.itoa (valNum l) = l := by
  obtain ⟨⟨h1, h2, h3⟩, h4⟩ := okNum_iff.1 h
  cases l with
  | nil => exact absurd rfl h1
  | cons c r =>
    unfold valNum negM
    rw [List.head?_cons]
    rw [trimM_cons] at h1 h2 h3 h4 ⊢
    by_cases hc : c = 45
    · subst hc
      rw [if_pos rfl] at h1 h2 h3 h4 ⊢
      rw [if_pos (by simp)]
      have hd := dec_dval r h4 h1 (fun h => h3 ⟨h.1, .inl h.2⟩)
      have hz : r.head? ≠ some 48 := fun h => h3 ⟨h, .inr (by simp)⟩
      have hpos : 1 ≤ dval 0 r := by
        rcases Nat.eq_zero_or_pos (dval 0 r) with h0 | h0
        · rw [h0, Lib.decDigits_one (by omega)] at hd
          rw [← hd] at hz
          exact absurd rfl hz
        · exact h0
      rw [Lib.itoa_neg _ hpos, hd]
    · rw [if_neg hc] at h1 h2 h3 h4 ⊢
      rw [if_neg (by simpa using hc), Lib.itoa_nonneg]
      exact dec_dval (c :: r) h4 h1 (fun h => h3 ⟨h.1, .inl h.2⟩)
theorem itoa_okNum {n : Nat} {v : Int} {l : List UInt8} (h : Lib.itoa v = l) (hl : (trimM l).length ≤ n) : okNum n l = true := by
  subst h
  rw [okNum_iff]
  unfold Lib.itoa at hl ⊢
  by_cases hv : v < 0
  · rw [if_pos hv] at hl ⊢
    obtain ⟨a1, a2, a3, _⟩ := dec_all v.natAbs
    rw [trimM_cons, if_pos rfl] at hl ⊢
    refine ⟨⟨a2, hl, fun h => ?_⟩, a1⟩
    have := a3 h.1
    omega
  · rw [if_neg hv] at hl ⊢
    obtain ⟨a1, a2, a3, _⟩ := dec_all v.toNat
    have ht : trimM (Lib.decDigits v.toNat) = Lib.decDigits v.toNat := by
      cases hd : Lib.decDigits v.toNat with
      | nil => rfl
      | cons c r =>
        rw [hd, List.all_cons, Bool.and_eq_true] at a1
        have := isDig_bd a1.1
        rw [trimM_cons, if_neg (fun h => by subst h; have : (45 : UInt8).toNat = 45 := rfl; omega)]
    rw [ht] at hl ⊢
    refine ⟨⟨a2, hl, fun h => ?_⟩, a1⟩
    have h0 := a3 h.1
    rw [h0, Lib.decDigits_one (by omega)] at h
    simp at h
/-- how a number is read by strconv.Atoi, and whether that is right -/
theorem num_agree {n : Nat} (hn : n ≤ 18) (l : List UInt8) : okNum n l = true ↔ ∃ v, Lib.atoiAll l = .ok v ∧ Lib.itoa v = l ∧ (trimM l).length ≤ n := by
  constructor
  · intro h
    exact ⟨_, okNum_atoi hn h, okNum_itoa h, (okNum_iff.1 h).1.2.1⟩
  · rintro ⟨v, _, h2, h3⟩
    exact itoa_okNum h2 h3
end Lg
end
section
set_option linter.all false
set_option maxRecDepth 100000
namespace Lg
open Go Go.RowKit

/-! ### strings as lists of bytes, and their parts -/
def mkB (l : List UInt8) : ByteArray := ⟨⟨l⟩⟩
theorem mkB_size (l : List UInt8) : (mkB l).size = l.length := rfl
theorem mkB_eta (s : ByteArray) : mkB s.data.toList = s := rfl
theorem mkB_list (l : List UInt8) : (mkB l).data.toList = l := rfl
theorem mkB_inj {a b : List UInt8} (h : mkB a = mkB b) : a = b := by
  have := congrArg (fun s => s.data.toList) h
  exact this
theorem mkB_ext (l : List UInt8) (a b : Nat) : (mkB l).extract a b = mkB ((l.drop a).take (b - a)) := by
  have h := ByteArray.extract_mk l a b
  unfold mkB
  simpa using h
theorem str_list (s : ByteArray) : s.size = s.data.toList.length := rfl

section strs
variable {P : Program} {Γ : Ctx} {env env' : Env} {cs cs' cf : List Chunk} {Q : Post} {R : Array Oper}
variable {i : Tmp} {ty : TypeId} {pos : String} {af : Array Edge} {rest : List Oper}
variable {x y z : Operand} {T T2 : TypeId} {k : IntKind} {p q : Int} {s u : ByteArray}
theorem OpV.sliceS_l (hT : P.underlying T = some .string) (hx : ev env x = some (.str s)) (hz : ev env z = some (.raw (.int k q))) (h : 0 ≤ q ∧ q ≤ s.size) : OpV P Γ (.slice T x (some z) none none) ty env cs (.str (s.extract q.toNat s.size)) :=
  by unfold OpV; exact (fun a w d => ⟨.string (s.extract q.toNat s.size), by
    have h1 : a.eval x = .string s := rd_raw (d.ev hx)
    have h2 : a.eval z = .int k q := rd_raw (d.ev hz)
    simp [execOp, h1, h2, Instr.sliceAt, Instr.slice, Instr.sliceBounds, Instr.sliceBound, asIntOf, run_underlying hT, h], raw_self _⟩)
theorem Ops.sliceS_l (hT : P.underlying T = some .string) (hx : ev env x = some (.str s)) (hz : ev env z = some (.raw (.int k q))) (h : 0 ≤ q ∧ q ≤ s.size) (hi : Nat.blt i Γ.n = true)
    (kk : Ops P Γ R rest ((i, .str (s.extract q.toNat s.size)) :: env) cs Q) : Ops P Γ R (⟨some i, .slice T x (some z) none none, ty, pos, af, none⟩ :: rest) env cs Q := Ops.val' hi (OpV.sliceS_l hT hx hz h) kk
theorem OpV.catB (hx : ev env x = some (.str s)) (hy : ev env y = some (.str u)) (hz : s.size + u.size ≤ 1000000000000) : OpV P Γ (.binOp .add T x y T2) ty env cs (.str (s ++ u)) :=
  OpV.binS hx hy (by simp only [Op.stringOp]; rw [if_neg (by have : IntKind.i64.max = 9223372036854775807 := rfl; omega)])
theorem Ops.catB (hx : ev env x = some (.str s)) (hy : ev env y = some (.str u)) (hz : s.size + u.size ≤ 1000000000000) (hi : Nat.blt i Γ.n = true)
    (kk : Ops P Γ R rest ((i, .str (s ++ u)) :: env) cs Q) : Ops P Γ R (⟨some i, .binOp .add T x y T2, ty, pos, af, none⟩ :: rest) env cs Q := Ops.val' hi (OpV.catB hx hy hz) kk
end strs

/-! ### cut at a byte -/
def splL (c : UInt8) : List UInt8 → List (List UInt8)
  | [] => [[]]
  | x :: l => if x = c then [] :: splL c l else match splL c l with
    | [] => [[x]]
    | h :: t => (x :: h) :: t
theorem splL_ne (c : UInt8) (l : List UInt8) : splL c l ≠ [] := by
  cases l with
  | nil => simp [splL]
  | cons x l =>
    rw [splL]
    split
    · simp
    · split <;> simp
theorem splL_none {c : UInt8} : ∀ {l : List UInt8}, Lib.indexByte l c = -1 → splL c l = [l]
  | [], _ => rfl
  | x :: l, h => by
    rw [Lib.indexByte] at h
    split at h
    · omega
    · rename_i hx
      split at h
      · rename_i h2
        have h3 : Lib.indexByte l c = -1 := by simpa using h2
        have ih := splL_none h3
        have hx' : ¬ x = c := by simpa using hx
        rw [splL, if_neg hx', ih]
      · rename_i h2
        have := Lib.indexByte_ge l c
        omega
theorem splL_some {c : UInt8} : ∀ {l : List UInt8} {m : Nat}, Lib.indexByte l c = (m : Int) → splL c l = l.take m :: splL c (l.drop (m + 1)) ∧ m < l.length
  | [], m, h => by
    rw [Lib.indexByte] at h
    omega
  | x :: l, m, h => by
    rw [Lib.indexByte] at h
    split at h
    · rename_i hx
      have hm : m = 0 := by omega
      subst hm
      have hx' : x = c := by simpa using hx
      rw [splL, if_pos hx']
      exact ⟨rfl, by simp⟩
    · rename_i hx
      have hx' : ¬ x = c := by simpa using hx
      split at h
      · omega
      · rename_i h2
        have hge := Lib.indexByte_ge l c
        have h4 : ¬ Lib.indexByte l c = -1 := by simpa using h2
        obtain ⟨j, rfl⟩ : ∃ j, m = j + 1 := ⟨m - 1, by omega⟩
        have h3 : Lib.indexByte l c = (j : Int) := by omega
        obtain ⟨ih1, ih2⟩ := splL_some h3
        rw [splL, if_neg hx', ih1]
        exact ⟨rfl, by simp; omega⟩
theorem splL_len (c : UInt8) : ∀ l : List UInt8, (splL c l).length = Lib.countByte l c + 1
  | [] => rfl
  | x :: l => by
    have ih := splL_len c l
    unfold Lib.countByte at ih ⊢
    rw [splL, List.count_cons]
    by_cases h : x = c
    · rw [if_pos h, if_pos (by simpa using h), List.length_cons, ih]
    · rw [if_neg h, if_neg (by simpa using h)]
      cases h2 : splL c l with
      | nil => exact absurd h2 (splL_ne c l)
      | cons a b => rw [h2] at ih; simpa using ih
theorem countByte_le (l : List UInt8) (c : UInt8) : Lib.countByte l c ≤ l.length := List.count_le_length
/-- the texts between the bytes c of a string -/
def splS (c : UInt8) (s : ByteArray) : List ByteArray := (splL c s.data.toList).map mkB
theorem splS_none {c : UInt8} {s : ByteArray} (h : Lib.indexByte s.data.toList c = -1) : splS c s = [s] := by
  unfold splS
  rw [splL_none h]
  rfl
theorem splS_some {c : UInt8} {s : ByteArray} {m : Nat} (h : Lib.indexByte s.data.toList c = (m : Int)) : splS c s = s.extract 0 m :: splS c (s.extract (m + 1) s.size) ∧ m < s.size := by
  obtain ⟨h1, h2⟩ := splL_some h
  refine ⟨?_, h2⟩
  unfold splS
  rw [h1, List.map_cons]
  have e1 : s.extract 0 m = mkB (s.data.toList.take m) := by
    conv => lhs; rw [← mkB_eta s]
    rw [mkB_ext]
    simp
  have e2 : (s.extract (m + 1) s.size).data.toList = s.data.toList.drop (m + 1) := by
    conv => lhs; rw [← mkB_eta s]
    rw [mkB_ext, mkB_list]
    rw [List.take_of_length_le (by rw [List.length_drop, mkB_size]; exact Nat.le_refl _)]
  rw [e1, e2]
theorem splS_len (c : UInt8) (s : ByteArray) : (splS c s).length = Lib.countByte s.data.toList c + 1 := by
  unfold splS
  rw [List.length_map, splL_len]
theorem splL_sizes (c : UInt8) : ∀ (l : List UInt8), ∀ w ∈ splL c l, w.length ≤ l.length
  | [], w, h => by
    rw [splL, List.mem_singleton] at h
    subst h
    exact Nat.le_refl _
  | x :: l, w, h => by
    have ih := splL_sizes c l
    rw [splL] at h
    split at h
    · rcases List.mem_cons.1 h with rfl | h
      · simp
      · have := ih w h
        simp; omega
    · cases h2 : splL c l with
      | nil => exact absurd h2 (splL_ne c l)
      | cons a b =>
        rw [h2] at h ih
        rcases List.mem_cons.1 h with rfl | h
        · have := ih a (by simp)
          simp; omega
        · have := ih w (by simp [h])
          simp; omega
theorem splS_size {c : UInt8} {s w : ByteArray} (h : w ∈ splS c s) : w.size ≤ s.size := by
  unfold splS at h
  obtain ⟨l, hl, rfl⟩ := List.mem_map.1 h
  exact splL_sizes c _ l hl
/-- cut once -/
def cutS (c : UInt8) (s : ByteArray) : ByteArray × ByteArray × Bool :=
  if Lib.indexByte s.data.toList c < 0 then (s, ⟨#[]⟩, false) else (s.extract 0 (Lib.indexByte s.data.toList c).toNat, s.extract ((Lib.indexByte s.data.toList c).toNat + 1) s.size, true)
theorem cutS_none {c : UInt8} {s : ByteArray} (h : Lib.indexByte s.data.toList c = -1) : cutS c s = (s, ⟨#[]⟩, false) := by unfold cutS; rw [if_pos (by omega)]
theorem cutS_some {c : UInt8} {s : ByteArray} {m : Nat} (h : Lib.indexByte s.data.toList c = (m : Int)) : cutS c s = (s.extract 0 m, s.extract (m + 1) s.size, true) := by
  unfold cutS
  rw [if_neg (by omega), h, Int.toNat_natCast]
theorem idx_cases (l : List UInt8) (c : UInt8) : Lib.indexByte l c = -1 ∨ ∃ m : Nat, Lib.indexByte l c = (m : Int) := by
  have := Lib.indexByte_ge l c
  by_cases h : Lib.indexByte l c = -1
  · exact .inl h
  · exact .inr ⟨(Lib.indexByte l c).toNat, by omega⟩
end Lg
end
section
set_option linter.all false
namespace Lg
open Go Go.ChangeMaps

section mapy
variable {α : Type} [DecidableEq α] {enc : α → Value}
variable {P : Program} {Γ : Ctx} {env env' : Env} {cs cs' cf : List Chunk} {Q : Post} {R : Array Oper}
variable {i d : Tmp} {ty : TypeId} {pos : String} {af : Array Edge} {rest l : List Oper} {x y z : Operand} {T : TypeId}
variable {H : (Nat → Value) → (Nat → Bool) → List Chunk} {L : List Oper} {K' : Env → List Chunk → Prop} {n : Nat} {acc : (Nat → Value) → Env} {Pf : Nat → (Nat → Value) → Prop}
theorem mapUpdate_core {K E : TypeId} {zv : Value} [hT : TyMap P T K E zv] [hK : KeyTy P K enc] {b : Nat} {a : α} {t : Tr} {kv : List (α × Tr)} {ac : Act} {w : World} (d0 : Den Γ env (Chunk.mp enc b kv :: cf) ac w) (hv : ac.eval x = .map (some b)) (hk : ac.eval y = enc a)
    (ht : t.rd w (av Γ.M (Chunk.mp enc b kv :: cf)) (ac.eval z)) :
    ∃ w', (execOp ac.eval ⟨none, .mapUpdate T x y z, ty, pos, af, none⟩).run P w = .ok .skip w' ∧ ∀ env2, Den Γ env2 (Chunk.mp enc b kv :: cf) ac w → Den Γ env2 (Chunk.mp enc b (mset a t kv) :: cf) ac w' := by
  obtain ⟨es, clock, hb, hr, h1, h2⟩ := d0.has (List.Perm.refl _)
  have hchk := hK.chk false a w
  have hset : ∀ o : Obj, (setObj b o).run P w = .ok () (setBlock w b o) := fun o => MapKept.run_setObj_map o hb
  have hlt : b < w.heap.size := (Array.getElem?_eq_some_iff.1 hb).1
  have hturn : ∀ (es' : Array MapEntry) (c' : Nat), EsR w (av Γ.M (Chunk.mp enc b kv :: cf)) enc (mset a t kv) es'.toList → (borns es'.toList).Pairwise (· < ·) → (∀ e ∈ es'.toList, e.born < c') → ∀ env2, Den Γ env2 (Chunk.mp enc b kv :: cf) ac w → Den Γ env2 (Chunk.mp enc b (mset a t kv) :: cf) ac (setBlock w b (.map es' c')) := by
    intro es' c' hr' hb1 hb2 env2 d
    refine d.turn rfl (fun q hq hn => ?_) (by simp [setBlock]) rfl rfl rfl ?_
    · exact ChangeMaps.heap_setBlock_other hb _ (by simpa [Chunk.mp] using hn)
    · intro hs _
      exact ⟨es', c', ChangeMaps.heap_setBlock_same hb _, hr'.mono hs, hb1, hb2⟩
  rcases run_findKey (P := P) (K := K) hr a with ⟨g1, g2, g3⟩ | ⟨t0, v, j, e, g1, g2, g3, g4, g5, g6⟩
  · refine ⟨_, by simp [execOp, hv, hk, Instr.mapUpdate, run_underlying hT.hT, run_getMap hb, hchk, g2, hset] <;> rfl, hturn _ _ ?_ ?_ ?_⟩
    · rw [Array.toList_push]
      exact g3 t _ clock (enc a) ht
    · rw [Array.toList_push]
      simp only [borns, List.map_append, List.map_cons, List.map_nil]
      rw [List.pairwise_append]
      exact ⟨h1, by simp, fun p hp q hq => by
        rw [List.mem_singleton.1 hq]
        exact mem_borns.1 h2 p hp⟩
    · intro e he
      rw [Array.toList_push] at he
      rcases List.mem_append.1 he with h | h
      · have := h2 e h; omega
      · rw [List.mem_singleton.1 h]; simp
  · have hej : es[j]? = some e := by rw [← Array.getElem?_toList]; exact g4
    refine ⟨_, by simp [execOp, hv, hk, Instr.mapUpdate, run_underlying hT.hT, run_getMap hb, hchk, g2, hej, g5, run_stays (P := P) (K := K), hset] <;> rfl, hturn _ _ ?_ ?_ ?_⟩
    · rw [Array.toList_modify]
      exact g6 t _ ht
    · rw [Array.toList_modify]
      rw [borns_modify]
      exact h1
    · rw [Array.toList_modify, mem_borns, borns_modify]
      exact mem_borns.1 h2
/-- m[k] = v in a drawn region -/
theorem YSeq.mapUpdate {K E : TypeId} {zv : Value} [hT : TyMap P T K E zv] [hK : KeyTy P K enc]
    (h : ∀ (ξ : Nat → Value) (S : Nat → Bool), S n = false → (∀ j ∈ preds af, S j = true) → Clo L S → (∀ k, S k = true → Pf k ξ) →
      ∃ (b : Nat) (a : α) (t : Tr) (kv : List (α × Tr)) (cf : List Chunk), ev (rst (slotsOf (.mapUpdate T x y z)) (acc ξ)) x = some (.raw (.map (some b))) ∧ ev (rst (slotsOf (.mapUpdate T x y z)) (acc ξ)) y = some (.raw (enc a)) ∧ ev (rst (slotsOf (.mapUpdate T x y z)) (acc ξ)) z = some t ∧
        (H ξ S).Perm (Chunk.mp enc b kv :: cf) ∧ (H (upd ξ n undef) (updD S n)).Perm (Chunk.mp enc b (mset a t kv) :: cf))
    (k : YSeq P Γ H L K' (n + 1) acc (pfY n (fun _ => True) Pf) l) : YSeq P Γ H L K' n acc Pf (⟨none, .mapUpdate T x y z, ty, pos, af, none⟩ :: l) := by
  refine YSeq.cons PvOkY.triv (TOk.const (t := Tr.any)) ?_ k
  unfold YStep
  intro ξ S h1 h2 h3 h4 a w dd next F hk
  obtain ⟨b, ky, t, kv, cf, hx, hy, hz, hp, hq⟩ := h ξ S h1 h2 h3 h4
  have hv := rd_raw (dd.ev hx)
  have hv2 := rd_raw (dd.ev hy)
  have ht := dd.ev hz
  rw [av_perm hp] at ht
  obtain ⟨w', hrun, hd⟩ := mapUpdate_core (P := P) (T := T) (ty := ty) (pos := pos) (af := af) (dd.perm hp) hv hv2 ht
  refine opIn_of_run hrun ⟨(by intro d h; cases h), (by intro x y h; cases h)⟩ ?_
  exact hk _ _ trivial tr_any_self fun env2 d2 => (hd env2 (d2.perm hp)).perm hq.symm
end mapy
end Lg
end
