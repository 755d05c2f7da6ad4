/- A part of the proof of a law of this seat: it adds no condition. By an AI agent. -/
import Derived.Lib.Bytealg
import Derived.Test.YtjonpkaojmpmiaaDoorLgRng
section
set_option linter.all false
set_option maxRecDepth 100000
namespace Lg
open Go Go.RowKit

/-! ### strings as lists of bytes, and their parts -/
def mkB (l : List UInt8) : ByteArray := ⟨⟨l⟩⟩
theorem mkB_size (l : List UInt8) : (mkB l).size = l.length := rfl
theorem mkB_eta (s : ByteArray) : mkB s.data.toList = s := rfl
theorem mkB_list (l : List UInt8) : (mkB l).data.toList = l := rfl
theorem mkB_ext (l : List UInt8) (a b : Nat) : (mkB l).extract a b = mkB ((l.drop a).take (b - a)) := by
  have h := ByteArray.extract_mk l a b
  unfold mkB
  simpa using h
theorem str_list (s : ByteArray) : s.size = s.data.toList.length := rfl

section strs
variable {P : Program} {Γ : Ctx} {env env' : Env} {cs cs' cf : List Chunk} {Q : Post} {R : Array Oper}
variable {i : Tmp} {ty : TypeId} {pos : String} {af : Array Edge} {rest : List Oper}
variable {x y z : Operand} {T T2 : TypeId} {k : IntKind} {p q : Int} {s u : ByteArray}
theorem OpV.sliceS_l (hT : P.underlying T = some .string) (hx : ev env x = some (.str s)) (hz : ev env z = some (.raw (.int k q))) (h : 0 ≤ q ∧ q ≤ s.size) : OpV P Γ (.slice T x (some z) none none) ty env cs (.str (s.extract q.toNat s.size)) :=
  by unfold OpV; exact (fun a w d => ⟨.string (s.extract q.toNat s.size), by
    have h1 : a.eval x = .string s := rd_raw (d.ev hx)
    have h2 : a.eval z = .int k q := rd_raw (d.ev hz)
    simp [execOp, h1, h2, Instr.sliceAt, Instr.slice, Instr.sliceBounds, Instr.sliceBound, asIntOf, run_underlying hT, h], raw_self _⟩)
theorem Ops.sliceS_l (hT : P.underlying T = some .string) (hx : ev env x = some (.str s)) (hz : ev env z = some (.raw (.int k q))) (h : 0 ≤ q ∧ q ≤ s.size) (hi : Nat.blt i Γ.n = true)
    (kk : Ops P Γ R rest ((i, .str (s.extract q.toNat s.size)) :: env) cs Q) : Ops P Γ R (⟨some i, .slice T x (some z) none none, ty, pos, af, none⟩ :: rest) env cs Q := Ops.val' hi (OpV.sliceS_l hT hx hz h) kk
theorem OpV.catB (hx : ev env x = some (.str s)) (hy : ev env y = some (.str u)) (hz : s.size + u.size ≤ 1000000000000) : OpV P Γ (.binOp .add T x y T2) ty env cs (.str (s ++ u)) :=
  OpV.binS hx hy (by simp only [Op.stringOp]; rw [if_neg (by have : IntKind.i64.max = 9223372036854775807 := rfl; omega)])
theorem Ops.catB (hx : ev env x = some (.str s)) (hy : ev env y = some (.str u)) (hz : s.size + u.size ≤ 1000000000000) (hi : Nat.blt i Γ.n = true)
    (kk : Ops P Γ R rest ((i, .str (s ++ u)) :: env) cs Q) : Ops P Γ R (⟨some i, .binOp .add T x y T2, ty, pos, af, none⟩ :: rest) env cs Q := Ops.val' hi (OpV.catB hx hy hz) kk
end strs

/-! ### cut at a byte -/
def splL (c : UInt8) : List UInt8 → List (List UInt8)
  | [] => [[]]
  | x :: l => if x = c then [] :: splL c l else match splL c l with
    | [] => [[x]]
    | h :: t => (x :: h) :: t
theorem splL_ne (c : UInt8) (l : List UInt8) : splL c l ≠ [] := by
  cases l with
  | nil => simp [splL]
  | cons x l =>
    rw [splL]
    split
    · simp
    · split <;> simp
theorem splL_none {c : UInt8} : ∀ {l : List UInt8}, Lib.indexByte l c = -1 → splL c l = [l]
  | [], _ => rfl
  | x :: l, h => by
    rw [Lib.indexByte] at h
    split at h
    · omega
    · rename_i hx
      split at h
      · rename_i h2
        have h3 : Lib.indexByte l c = -1 := by simpa using h2
        have ih := splL_none h3
        have hx' : ¬ x = c := by simpa using hx
        rw [splL, if_neg hx', ih]
      · rename_i h2
        have := Lib.indexByte_ge l c
        omega
theorem splL_some {c : UInt8} : ∀ {l : List UInt8} {m : Nat}, Lib.indexByte l c = (m : Int) → splL c l = l.take m :: splL c (l.drop (m + 1)) ∧ m < l.length
  | [], m, h => by
    rw [Lib.indexByte] at h
    omega
  | x :: l, m, h => by
    rw [Lib.indexByte] at h
    split at h
    · rename_i hx
      have hm : m = 0 := by omega
      subst hm
      have hx' : x = c := by simpa using hx
      rw [splL, if_pos hx']
      exact ⟨rfl, by simp⟩
    · rename_i hx
      have hx' : ¬ x = c := by simpa using hx
      split at h
      · omega
      · rename_i h2
        have hge := Lib.indexByte_ge l c
        have h4 : ¬ Lib.indexByte l c = -1 := by simpa using h2
        obtain ⟨j, rfl⟩ : ∃ j, m = j + 1 := ⟨m - 1, by omega⟩
        have h3 : Lib.indexByte l c = (j : Int) := by omega
        obtain ⟨ih1, ih2⟩ := splL_some h3
        rw [splL, if_neg hx', ih1]
        exact ⟨rfl, by simp; omega⟩
theorem splL_len (c : UInt8) : ∀ l : List UInt8, (splL c l).length = Lib.countByte l c + 1
  | [] => rfl
  | x :: l => by
    have ih := splL_len c l
    unfold Lib.countByte at ih ⊢
    rw [splL, List.count_cons]
    by_cases h : x = c
    · rw [if_pos h, if_pos (by simpa using h), List.length_cons, ih]
    · rw [if_neg h, if_neg (by simpa using h)]
      cases h2 : splL c l with
      | nil => exact absurd h2 (splL_ne c l)
      | cons a b => rw [h2] at ih; simpa using ih
theorem countByte_le (l : List UInt8) (c : UInt8) : Lib.countByte l c ≤ l.length := List.count_le_length
/-- the texts between the bytes c of a string -/
def splS (c : UInt8) (s : ByteArray) : List ByteArray := (splL c s.data.toList).map mkB
theorem splS_none {c : UInt8} {s : ByteArray} (h : Lib.indexByte s.data.toList c = -1) : splS c s = [s] := by
  unfold splS
  rw [splL_none h]
  rfl
theorem splS_some {c : UInt8} {s : ByteArray} {m : Nat} (h : Lib.indexByte s.data.toList c = (m : Int)) : splS c s = s.extract 0 m :: splS c (s.extract (m + 1) s.size) ∧ m < s.size := by
  obtain ⟨h1, h2⟩ := splL_some h
  refine ⟨?_, h2⟩
  unfold splS
  rw [h1, List.map_cons]
  have e1 : s.extract 0 m = mkB (s.data.toList.take m) := by
    conv => lhs; rw [← mkB_eta s]
    rw [mkB_ext]
    simp
  have e2 : (s.extract (m + 1) s.size).data.toList = s.data.toList.drop (m + 1) := by
    conv => lhs; rw [← mkB_eta s]
    rw [mkB_ext, mkB_list]
    rw [List.take_of_length_le (by rw [List.length_drop, mkB_size]; exact Nat.le_refl _)]
  rw [e1, e2]
theorem splS_len (c : UInt8) (s : ByteArray) : (splS c s).length = Lib.countByte s.data.toList c + 1 := by
  unfold splS
  rw [List.length_map, splL_len]
theorem splL_sizes (c : UInt8) : ∀ (l : List UInt8), ∀ w ∈ splL c l, w.length ≤ l.length
  | [], w, h => by
    rw [splL, List.mem_singleton] at h
    subst h
    exact Nat.le_refl _
  | x :: l, w, h => by
    have ih := splL_sizes c l
    rw [splL] at h
    split at h
    · rcases List.mem_cons.1 h with rfl | h
      · simp
      · have := ih w h
        simp; omega
    · cases h2 : splL c l with
      | nil => exact absurd h2 (splL_ne c l)
      | cons a b =>
        rw [h2] at h ih
        rcases List.mem_cons.1 h with rfl | h
        · have := ih a (by simp)
          simp; omega
        · have := ih w (by simp [h])
          simp; omega
theorem splS_size {c : UInt8} {s w : ByteArray} (h : w ∈ splS c s) : w.size ≤ s.size := by
  unfold splS at h
  obtain ⟨l, hl, rfl⟩ := List.mem_map.1 h
  exact splL_sizes c _ l hl
/-- cut once -/
def cutS (c : UInt8) (s : ByteArray) : ByteArray × ByteArray × Bool :=
  if Lib.indexByte s.data.toList c < 0 then (s, ⟨#[]⟩, false) else (s.extract 0 (Lib.indexByte s.data.toList c).toNat, s.extract ((Lib.indexByte s.data.toList c).toNat + 1) s.size, true)
theorem cutS_none {c : UInt8} {s : ByteArray} (h : Lib.indexByte s.data.toList c = -1) : cutS c s = (s, ⟨#[]⟩, false) := by unfold cutS; rw [if_pos (by omega)]
theorem cutS_some {c : UInt8} {s : ByteArray} {m : Nat} (h : Lib.indexByte s.data.toList c = (m : Int)) : cutS c s = (s.extract 0 m, s.extract (m + 1) s.size, true) := by
  unfold cutS
  rw [if_neg (by omega), h, Int.toNat_natCast]
theorem idx_cases (l : List UInt8) (c : UInt8) : Lib.indexByte l c = -1 ∨ ∃ m : Nat, Lib.indexByte l c = (m : Int) := by
  have := Lib.indexByte_ge l c
  by_cases h : Lib.indexByte l c = -1
  · exact .inl h
  · exact .inr ⟨(Lib.indexByte l c).toNat, by omega⟩
end Lg
end
section
set_option linter.all false
set_option maxRecDepth 100000
namespace Lg
open Go Go.RowKit

/-! ### s[l:h:h] of a settled slice -/
section
variable {P : Program} {Γ : Ctx} {env env' : Env} {cs cs' cf : List Chunk} {Q : Post} {R : Array Oper}
variable {i : Tmp} {ty : TypeId} {pos : String} {af : Array Edge} {rest : List Oper}
variable {x y z z2 : Operand} {T : TypeId} {k : IntKind} {p q : Int}
theorem bounds_lhm {len cap : Nat} {k : IntKind} {l h : Int} {w : World} (h0 : 0 ≤ l) (h1 : l ≤ h) (h2 : h ≤ cap) :
    (Instr.sliceBounds true len cap (some (.int k l)) (some (.int k h)) (some (.int k h))).run P w = .ok (l.toNat, h.toNat, h.toNat) w := by
  have e : h ≤ (h.toNat : Int) := by omega
  have e2 : l ≤ (h.toNat : Int) := by omega
  simp [Instr.sliceBounds, run_sliceBound (P := P) w k h cap .slice3Acap (by omega) h2, run_sliceBound (P := P) w k h h.toNat .slice3B (by omega) e, run_sliceBound (P := P) w k l h.toNat .slice3C h0 e2]
theorem sl_capL {w : World} {A : Nat → Prop} {kk : Nat} {rows : List (List Tr)} {ad : Option Addr} {n cap cap2 : Nat} (hv : (Tr.sl kk rows).rd w A (.slice ad n cap)) (h0 : rows ≠ []) (h1 : rows.length ≤ cap2) (h2 : cap2 ≤ cap) : (Tr.sl kk rows).rd w A (.slice ad n cap2) := by
  unfold Tr.sl at hv ⊢
  obtain ⟨hk, hm, ad', cap', he, h3, h4, h5, h6⟩ := hv
  simp only [Value.slice.injEq] at he
  obtain ⟨rfl, rfl, rfl⟩ := he
  exact ⟨hk, hm, _, _, rfl, h1, by omega, fun hn => absurd (h5 hn).1 h0, h6⟩
theorem OpV.slice_lhm {E kk bb zs} [hS : TySl P T E kk bb zs] {rows : List (List Tr)} (hx : ev env x = some (.sl kk rows)) (hy : ev env y = some (.raw (.int k p))) (hz : ev env z = some (.raw (.int k q))) (hz2 : ev env z2 = some (.raw (.int k q))) (h0 : 0 ≤ p ∧ p < q ∧ q ≤ rows.length) : OpV P Γ (.slice T x (some y) (some z) (some z2)) ty env cs (.sl kk ((rows.take q.toNat).drop p.toNat)) := by
  unfold OpV
  intro a w d
  have hv := d.ev hx
  have hp := rd_raw (d.ev hy)
  have hq := rd_raw (d.ev hz)
  have hq2 := rd_raw (d.ev hz2)
  have hv2 := hv
  unfold Tr.sl at hv2
  obtain ⟨hk, hm, ad, cap, he, h1, h2, h3, h4⟩ := hv2
  obtain ⟨ti, zv, e1, e2, e3, e4, _⟩ := hS.hE
  have hb := bounds_lhm (P := P) (k := k) (len := rows.length) (cap := cap) (l := p) (h := q) (w := w) (by omega) (by omega) (by omega)
  have hne : ¬ q.toNat = p.toNat := by omega
  have hrun : (Instr.sliceAt T (.slice ad rows.length cap) (some (.int k p)) (some (.int k q)) (some (.int k q))).run P w = .ok (.slice (ad.map (·.add (p.toNat * kk))) (q.toNat - p.toNat) (q.toNat - p.toNat)) w := by
    simp [Instr.sliceAt, Instr.slice, run_underlying hS.hT, hb, Go.sizeOf, typeInfo, e1, e4, hne]
  refine ⟨_, by simp [execOp, he, hp, hq, hq2, hrun] <;> rfl, ?_⟩
  rw [he] at hv
  have hs := sl_sub (l := p.toNat) (h := q.toNat) hv (by omega) (by omega)
  have hlen : ((rows.take q.toNat).drop p.toNat).length = q.toNat - p.toNat := by simp; omega
  rw [if_neg (by omega)] at hs
  exact sl_capL hs (fun h => by rw [h] at hlen; simp at hlen; omega) (by omega) (by omega)
theorem Ops.slice_lhm {E kk bb zs} [hS : TySl P T E kk bb zs] {rows : List (List Tr)} (hx : ev env x = some (.sl kk rows)) (hy : ev env y = some (.raw (.int k p))) (hz : ev env z = some (.raw (.int k q))) (hz2 : ev env z2 = some (.raw (.int k q))) (h0 : 0 ≤ p ∧ p < q ∧ q ≤ rows.length) (hi : Nat.blt i Γ.n = true)
    (kont : Ops P Γ R rest ((i, .sl kk ((rows.take q.toNat).drop p.toNat)) :: env) cs Q) : Ops P Γ R (⟨some i, .slice T x (some y) (some z) (some z2), ty, pos, af, none⟩ :: rest) env cs Q :=
  Ops.val' hi (OpV.slice_lhm hx hy hz hz2 h0) kont
end
end Lg
end
section
set_option linter.all false
namespace Lg
open Go

/-! ### an argument that is 'some value with ..' -/
theorem RdL.exS {ι : Type} {w : World} {A : Nat → Prop} {p : ι → Prop} {f : ι → Tr} {post : List Tr} : ∀ {pre : List Tr} {vs : List Value}, RdL w A (pre ++ Tr.exS p f :: post) vs → ∃ x, p x ∧ RdL w A (pre ++ f x :: post) vs
  | [], vs, h => by
    obtain ⟨v, rest, rfl, h1, h2⟩ := h
    obtain ⟨x, hx, h3⟩ := open_exS w A v h1
    exact ⟨x, hx, v, rest, rfl, h3, h2⟩
  | t :: pre, vs, h => by
    obtain ⟨v, rest, rfl, h1, h2⟩ := h
    obtain ⟨x, hx, h3⟩ := RdL.exS h2
    exact ⟨x, hx, v, rest, rfl, h1, h3⟩
theorem Spec.exS {ι : Type} {P : Program} {f : FuncId} {pre post : List Tr} {p : ι → Prop} {g : ι → Tr} {cin : List Chunk} {Q : Tr → List Chunk → Prop} {x0 : ι} (h0 : p x0) (h : ∀ x, p x → Spec P f (pre ++ g x :: post) cin Q) : Spec P f (pre ++ Tr.exS p g :: post) cin Q := by
  have hx0 := h x0 h0
  unfold Spec at h hx0 ⊢
  refine ⟨hx0.1, fun M w vs hv h1 h2 h3 h4 => ?_⟩
  obtain ⟨x, hx, hv2⟩ := RdL.exS hv
  exact (h x hx).2 M w vs hv2 h1 h2 h3 h4
theorem Gen.exS {ι : Type} {P : Program} {st f : Nat} {pre post : List Tr} {p : ι → Prop} {g : ι → Tr} {c : Nat} {Q : Tr → Prop} {x0 : ι} (h0 : p x0) (h : ∀ x, p x → Gen P st f (pre ++ g x :: post) c Q) : Gen P st f (pre ++ Tr.exS p g :: post) c Q := by
  unfold Gen at h ⊢
  intro b xs N hN
  exact Spec.exS (pre := Tr.ptr b :: pre) h0 fun x hx => h x hx b xs N hN
end Lg
end
