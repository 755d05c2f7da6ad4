/- A part of the proof of a law of this seat: it adds no condition. By an AI agent. -/
import Derived.Lib.Builder
import Derived.Lib.AppendStr
import Derived.Lib.UnsafeStr
import Derived.Lib.ConvBytes
import Derived.Laws.IdiomStrings
import Derived.Test.YtacfkfehoemnfaaGreatDoorLgClr
section
set_option linter.all false
namespace Lg
open Go

/-! ### strings.Builder: bytes in an owned slice -/
def bytR (s : ByteArray) : List (List Tr) := s.data.toList.map fun b => [Tr.raw (.int .u8 b.toNat)]
theorem bytR_len (s : ByteArray) : (bytR s).length = s.size := by
  unfold bytR
  rw [List.length_map, Array.length_toList]
  rfl
section bld
variable {P : Program} {Γ : Ctx} {env env' : Env} {cs cs' cf : List Chunk} {Q : Post} {R : Array Oper}
variable {i : Tmp} {ty : TypeId} {pos : String} {af : Array Edge} {rest : List Oper}
variable {x y : Operand} {T T2 E : TypeId}

theorem equalIn_ptr_none {w : World} {tp te : TypeId} {j : TypeInfo} (p : Option Addr) (hp : P.underlying tp = some (.pointer te)) (hte : P.info? te = some j) (hj : j.size ≠ 0) (n : Nat) :
    (Op.equalIn (n + 1) tp (.pointer p) (.pointer none)).run P w = .ok (decide (p = none)) w := by
  cases p with
  | none => simp [Op.equalIn, run_underlying hp, Go.sizeOf, typeInfo, hte]
  | some a => simp [Op.equalIn, run_underlying hp, Go.sizeOf, typeInfo, hte, hj]
theorem eqGuard_ptr (op : BinOp) (t : TypeId) (x y : Operand) (a b : Option Addr) (w : World) : (eqGuard op t x y (.pointer a) (.pointer b)).run P w = .ok () w := by
  unfold eqGuard
  split <;> simp_all
theorem OpV.eql_pn {p : Option Addr} {b : Bool} (hb : decide (p = none) = b) (hp : P.underlying T = some (.pointer E)) (h3 : ∃ j, P.info? E = some j ∧ j.size ≠ 0) (hx : ev env x = some (.raw (.pointer p))) (hy : ev env y = some (.raw (.pointer none))) :
    OpV P Γ (.binOp .eql T x y T2) ty env cs (.bool b) := by
  unfold OpV
  intro a w d
  have hv := rd_raw (d.ev hx)
  have hv2 := rd_raw (d.ev hy)
  obtain ⟨j, hj, hj0⟩ := h3
  have := equalIn_ptr_none (w := w) p hp hj hj0 9999
  refine ⟨.bool b, ?_, raw_self _⟩
  simp only [execOp, hv, hv2, binOp]
  simp [eqGuard_ptr, Op.equal, Op.maxDepth, this, hb]
end bld
end Lg
end
section
set_option linter.all false
set_option maxRecDepth 100000
namespace Lg
open Go Go.RowKit

/-! ### bytes: conversions between strings and slices of bytes; bits -/
section
variable {P : Program} {Γ : Ctx} {env env' : Env} {cs cs' cf : List Chunk} {Q : Post} {R : Array Oper}
variable {i : Tmp} {ty : TypeId} {pos : String} {af : Array Edge} {rest : List Oper}
variable {x y z : Operand} {T T2 : TypeId} {k : IntKind} {p q : Int} {s u : ByteArray}
theorem rdc_bytes {w : World} {A : Nat → Prop} : ∀ l : List UInt8, RdC w A (l.map fun b => Tr.raw (.int .u8 b.toNat)) (l.map fun b => Value.int .u8 b.toNat)
  | [] => rfl
  | b :: l => rdc_rawv rfl (rdc_bytes l)
theorem bytR_flat (s : ByteArray) : (bytR s).flatten = s.data.toList.map fun b => Tr.raw (.int .u8 b.toNat) := by
  unfold bytR
  induction s.data.toList with
  | nil => rfl
  | cons b l ih => rw [List.map_cons, List.flatten_cons, ih]; rfl
theorem Ops.convSB {E : TypeId} {d1 : TypeDesc} (hT : P.underlying T = some d1) (h2 : P.underlying T2 = some (.slice E)) (hE : P.underlying E = some (.int .u8)) (hx : ev env x = some (.str s)) (hs : s.size ≤ 1000000000) (hi : Nat.blt i Γ.n = true)
    (kk : Ops P Γ R rest ((i, .sl 1 (bytR s)) :: env) cs Q) : Ops P Γ R (⟨some i, .convert T T2 x, ty, pos, af, none⟩ :: rest) env cs Q :=
  Ops.of fun a w d => by
    have hv := rd_raw (d.ev hx)
    have hrun := Lib.run_convert_string_bytes (P := P) w T T2 E s hT h2 hE
    have hnot : w.heap.size ∉ fps cs := fun h => Nat.lt_irrefl _ (d.fresh _ h).1
    have hM : ¬ Γ.M w.heap.size := fun h => Nat.lt_irrefl _ (Nat.lt_of_lt_of_le (d.below _ h) d.frame.size)
    have hsame : SameOn w (Lib.bytesWorld w E s) (av Γ.M cs) (av Γ.M cs) := fun b hb h => ⟨h, Lib.bytesWorld_at_old w E s b hb⟩
    have d2 : Den Γ env cs a (Lib.bytesWorld w E s) := d.world hsame (fun c hc => c.mono (fun b _ hlt => Lib.bytesWorld_at_old w E s b hlt) hsame (d.chunks c hc)) d.nodup
      (fun b hb => by
        obtain ⟨h1, h2, h3⟩ := d.fresh b hb
        exact ⟨by rw [Lib.bytesWorld_size]; omega, h2, h3⟩)
      ⟨rfl, rfl, rfl, by rw [Lib.bytesWorld_size]; omega, fun b hb _ => Lib.bytesWorld_at_old w E s b hb, fun _ => Nat.le_succ _⟩
    refine ⟨_, _, .value _, _, by simp [execOp, hv, hrun] <;> rfl, .inl ⟨_, rfl, Den.put d2 hi ?_⟩, kk⟩
    unfold Tr.sl
    have hl := bytR_len s
    refine ⟨fun r hr => by unfold bytR at hr; obtain ⟨b, _, rfl⟩ := List.mem_map.1 hr; rfl, by rw [hl]; unfold maxLen; omega, _, _, by rw [hl], by rw [hl]; exact grownCap_ge w s.size 0 E, grownCap_le_maxLen w s.size 0 E (by unfold maxLen; omega), fun h => absurd h (by simp), .inr ⟨_, 0, rfl, ⟨hM, hnot⟩, _, _, _, Lib.bytesWorld_at_new w E s, ?_⟩⟩
    rw [bytR_flat, List.length_map, List.drop_zero]
    unfold Lib.bytesCells
    rw [Array.toList_append, List.take_append_of_le_length (by simp), List.take_of_length_le (by simp), Array.toList_map]
    exact rdc_bytes _
theorem OpV.binG {op : BinOp} {a b r : Value} (hx : ev env x = some (.raw a)) (hy : ev env y = some (.raw b)) (h1 : op ≠ .eql) (h2 : op ≠ .neq) (hb : binOp op T a b = pure r) : OpV P Γ (.binOp op T x y T2) ty env cs (.raw r) := by
  unfold OpV
  intro ac w d
  have e1 := rd_raw (d.ev hx)
  have e2 := rd_raw (d.ev hy)
  have h4 : (eqGuard op T x y a b).run P w = .ok () w := by
    unfold eqGuard
    cases op <;> first | (exact absurd rfl h1) | (exact absurd rfl h2) | simp
  exact ⟨r, by simp [execOp, e1, e2, h4, hb], raw_self _⟩
theorem OpV.shr4 (hx : ev env x = some (.raw (.int .u8 p))) (hy : ev env y = some (.raw (.int .u64 4))) (h : 0 ≤ p ∧ p ≤ 255) : OpV P Γ (.binOp .shr T x y T2) ty env cs (.raw (.int .u8 (p / 16))) :=
  OpV.binG hx hy (by decide) (by decide) (by
    rw [binOp_shr]
    have e : p.fdiv 16 = p / 16 := Int.fdiv_eq_ediv_of_nonneg p (by omega)
    simp [Op.shift, IntKind.bits, e])
end
end Lg
end
section
set_option linter.all false
set_option maxRecDepth 100000
namespace Lg
open Go

/-! ### bits of whole numbers of any kind -/
section
variable {P : Program} {Γ : Ctx} {env env' : Env} {cs cs' cf : List Chunk} {Q : Post} {R : Array Oper}
variable {x y : Operand} {T T2 ty : TypeId} {k : IntKind} {p q : Int}
theorem OpV.bAnd (hx : ev env x = some (.raw (.int k p))) (hy : ev env y = some (.raw (.int k q))) : OpV P Γ (.binOp .and T x y T2) ty env cs (.raw (.int k (bits .and k p q))) :=
  OpV.binG hx hy (by decide) (by decide) (by rw [binOp_and, intBits_and])
theorem OpV.bOr (hx : ev env x = some (.raw (.int k p))) (hy : ev env y = some (.raw (.int k q))) : OpV P Γ (.binOp .or T x y T2) ty env cs (.raw (.int k (bits .or k p q))) :=
  OpV.binG hx hy (by decide) (by decide) (by rw [binOp_or, intBits_or])
theorem OpV.bShl {k2 : IntKind} (hx : ev env x = some (.raw (.int k p))) (hy : ev env y = some (.raw (.int k2 q))) (h : 0 ≤ q ∧ q ≤ k.bits) : OpV P Γ (.binOp .shl T x y T2) ty env cs (.raw (.int k (k.wrap (p * 2 ^ q.toNat)))) :=
  OpV.binG hx hy (by decide) (by decide) (by rw [binOp_shl, shift_shl k k2 p q h.1 h.2])
end
end Lg
end
