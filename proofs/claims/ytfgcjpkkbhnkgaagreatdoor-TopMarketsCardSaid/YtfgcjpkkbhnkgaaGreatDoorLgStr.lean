/- A part of the proof of a law of this seat: it adds no condition. By an AI agent. -/
import Derived.Calls
import Derived.RunT
import Derived.Lone
import Derived.Laws.Strings2
import Derived.Below
import Derived.Test.YtfgcjpkkbhnkgaaGreatDoorCore
section
set_option linter.all false
namespace Lg
open Go

/-! ### regions whose order is open, in which calls take numbers off the stream: the memory's state is one of a row of states that say less and less -/
section drawH
variable {P : Program} {Γ : Ctx} {env env' base : Env} {cs cs' cf : List Chunk} {Q : Post} {H : Nat → List Chunk} {C B : Nat}

theorem tr_any_self {w : World} {A : Nat → Prop} {v : Value} : Tr.any.rd w A v := by unfold Tr.any; trivial
/-- a row of states -/
structure Row (Γ : Ctx) (H : Nat → List Chunk) : Prop where
 av : ∀ k, av Γ.M (H k) = av Γ.M (H 0)
 mono : ∀ k k', k ≤ k' → ∀ env a w, Den Γ env (H k) a w → Den Γ env (H k') a w

section prun
variable {L : List Oper} {K : Env → Prop} {n : Nat} {done : List (Nat × POp)} {acc : Env} {d : Nat} {op : Op} {ty : TypeId} {pos : String} {af : Array Edge} {l : List Oper} {t : Tr}
end prun

section pseq
variable {K : Env → Prop} {n : Nat} {done : List (Nat × POp)} {acc : Env} {d : Nat} {op : Op} {ty : TypeId} {pos : String} {af : Array Edge} {l : List Oper} {t : Tr}
end pseq

end drawH
end Lg
end
section
set_option linter.all false
set_option maxRecDepth 100000
set_option maxHeartbeats 8000000
namespace Lg
open Go

/-! ### no step of a machine takes a draw back -/
def GLe (n : Nat) : GStep → Prop
 | .go _ w _ => n ≤ w.drawn
 | .comm _ _ _ _ w _ => n ≤ w.drawn
 | .spawn _ _ w _ => n ≤ w.drawn
 | .count _ w _ => n ≤ w.drawn
 | .timer _ _ w _ => n ≤ w.drawn
 | .alone _ _ w _ => n ≤ w.drawn
 | .newcoro _ _ _ w _ => n ≤ w.drawn
 | .coroswitch _ _ _ w _ => n ≤ w.drawn
 | .collect _ w _ => n ≤ w.drawn
 | .watch _ w _ => n ≤ w.drawn
 | .ended _ _ _ => True
theorem GLe.after {n : Nat} {es : Array Event} {s : GStep} (h : GLe n s) : GLe n (GStep.after es s) := by cases s <;> exact h
section
variable {n : Nat} {p : Program} {w : World}
end
end Lg
end
section
set_option linter.all false
namespace Lg
open Go Go.RowKit

section strs
variable {P : Program} {Γ : Ctx} {env env' : Env} {cs cs' cf : List Chunk} {Q : Post} {R : Array Oper}
variable {i : Tmp} {ty : TypeId} {pos : String} {af : Array Edge} {rest : List Oper}
variable {x y z : Operand} {T T2 : TypeId} {k : IntKind} {p q : Int} {s u : ByteArray}

/-- strings in order -/
def strLt (a b : ByteArray) : Bool := Op.bytesLess a.toList b.toList
/-- a string's byte -/
def sby (s : ByteArray) (j : Nat) : Int := ((s.data.toList.getD j 0).toNat : Int)

theorem raw_self {w : World} {A : Nat → Prop} (v : Value) : (Tr.raw v).rd w A v := by unfold Tr.raw; rfl
theorem binOp_str (op : BinOp) (t : TypeId) (a b : ByteArray) : binOp op t (.string a) (.string b) = Op.stringOp op a b := by cases op <;> rfl
theorem eqGuard_str (op : BinOp) (t : TypeId) (x y : Operand) (a b : ByteArray) (w : World) : (eqGuard op t x y (.string a) (.string b)).run P w = .ok () w := by
 unfold eqGuard
 cases op <;> simp

theorem str_beq (a b : ByteArray) : (a.toList == b.toList) = decide (a = b) := by
 rw [ByteArray.toList_eq, ByteArray.toList_eq, Bool.eq_iff_iff, beq_iff_eq, decide_eq_true_iff]
 constructor
 ·intro h
  exact ByteArray.ext (Array.ext' h)
 ·rintro rfl; rfl

theorem OpV.binS {op : BinOp} {v : Value} (hx : ev env x = some (.str s)) (hy : ev env y = some (.str u)) (hb : Op.stringOp op s u = pure v) : OpV P Γ (.binOp op T x y T2) ty env cs (.raw v) :=
 by unfold OpV; exact (fun a w d => ⟨v, by
  have h1 : a.eval x = .string s := rd_raw (d.ev hx)
  have h2 : a.eval y = .string u := rd_raw (d.ev hy)
  simp [execOp, h1, h2, eqGuard_str, binOp_str, hb], raw_self _⟩)

theorem OpV.eqlS (hx : ev env x = some (.str s)) (hy : ev env y = some (.str u)) : OpV P Γ (.binOp .eql T x y T2) ty env cs (.bool (decide (s = u))) :=
 OpV.binS hx hy (by simp [Op.stringOp, ← str_beq])
theorem OpV.neqS (hx : ev env x = some (.str s)) (hy : ev env y = some (.str u)) : OpV P Γ (.binOp .neq T x y T2) ty env cs (.bool (decide (s ≠ u))) :=
 OpV.binS hx hy (by simp [Op.stringOp, str_beq])
theorem OpV.leqS (hx : ev env x = some (.str s)) (hy : ev env y = some (.str u)) : OpV P Γ (.binOp .leq T x y T2) ty env cs (.bool (strLt s u || decide (s = u))) :=
 OpV.binS hx hy (by simp [Op.stringOp, strLt, str_beq])
theorem OpV.eqlS_t (hx : ev env x = some (.str s)) (hy : ev env y = some (.str u)) (h : s = u) : OpV P Γ (.binOp .eql T x y T2) ty env cs (.bool true) := by
 have := OpV.eqlS (P := P) (Γ := Γ) (ty := ty) (cs := cs) (T := T) (T2 := T2) hx hy
 rwa [decide_eq_true h] at this
theorem OpV.eqlS_f (hx : ev env x = some (.str s)) (hy : ev env y = some (.str u)) (h : ¬ s = u) : OpV P Γ (.binOp .eql T x y T2) ty env cs (.bool false) := by
 have := OpV.eqlS (P := P) (Γ := Γ) (ty := ty) (cs := cs) (T := T) (T2 := T2) hx hy
 rwa [decide_eq_false h] at this
theorem Ops.eqlS_t (hx : ev env x = some (.str s)) (hy : ev env y = some (.str u)) (h : s = u) (hi : Nat.blt i Γ.n = true)
  (kk : Ops P Γ R rest ((i, .bool true) :: env) cs Q) : Ops P Γ R (⟨some i, .binOp .eql T x y T2, ty, pos, af, none⟩ :: rest) env cs Q := Ops.val' hi (OpV.eqlS_t hx hy h) kk
theorem Ops.eqlS_f (hx : ev env x = some (.str s)) (hy : ev env y = some (.str u)) (h : ¬ s = u) (hi : Nat.blt i Γ.n = true)
  (kk : Ops P Γ R rest ((i, .bool false) :: env) cs Q) : Ops P Γ R (⟨some i, .binOp .eql T x y T2, ty, pos, af, none⟩ :: rest) env cs Q := Ops.val' hi (OpV.eqlS_f hx hy h) kk
theorem Ops.eqlS (hx : ev env x = some (.str s)) (hy : ev env y = some (.str u)) (hi : Nat.blt i Γ.n = true)
  (kk : Ops P Γ R rest ((i, .bool (decide (s = u))) :: env) cs Q) : Ops P Γ R (⟨some i, .binOp .eql T x y T2, ty, pos, af, none⟩ :: rest) env cs Q := Ops.val' hi (OpV.eqlS hx hy) kk
theorem Ops.leqS (hx : ev env x = some (.str s)) (hy : ev env y = some (.str u)) (hi : Nat.blt i Γ.n = true)
  (kk : Ops P Γ R rest ((i, .bool (strLt s u || decide (s = u))) :: env) cs Q) : Ops P Γ R (⟨some i, .binOp .leq T x y T2, ty, pos, af, none⟩ :: rest) env cs Q := Ops.val' hi (OpV.leqS hx hy) kk
theorem sby_get {j : Nat} (h : j < s.size) : sby s j = ((s[j]'h).toNat : Int) := by
 have h' : j < s.data.toList.length := by simpa using h
 unfold sby
 rw [List.getD_eq_getElem?_getD, List.getElem?_eq_getElem h']
 rfl

theorem OpV.indexS (hT : P.underlying T = some .string) (hx : ev env x = some (.str s)) (hy : ev env y = some (.raw (.int k p))) (h : 0 ≤ p ∧ p < s.size) : OpV P Γ (.index T x y) ty env cs (.raw (.int .u8 (sby s p.toNat))) :=
 by unfold OpV; exact (fun a w d => ⟨.int .u8 (sby s p.toNat), by
  have h1 : a.eval x = .string s := rd_raw (d.ev hx)
  have h2 : a.eval y = .int k p := rd_raw (d.ev hy)
  have h3 := run_index_string (P := P) w T s k p hT
  rw [dif_pos h] at h3
  simp only [execOp, h1, h2]
  rw [sby_get (show p.toNat < s.size by omega)]
  simp [h3], raw_self _⟩)
theorem OpV.indexS_n {j : Nat} (hT : P.underlying T = some .string) (hx : ev env x = some (.str s)) (hy : ev env y = some (.raw (.int k p))) (hj : p = Int.ofNat j) (h : j < s.size) : OpV P Γ (.index T x y) ty env cs (.raw (.int .u8 (sby s j))) := by
 subst hj
 have h2 : Int.ofNat j < (s.size : Int) := Int.ofNat_lt.2 h
 exact OpV.indexS hT hx hy ⟨Int.natCast_nonneg j, h2⟩
theorem Ops.indexS_n {j : Nat} (hT : P.underlying T = some .string) (hx : ev env x = some (.str s)) (hy : ev env y = some (.raw (.int k p))) (hj : p = Int.ofNat j) (h : j < s.size) (hi : Nat.blt i Γ.n = true)
  (kk : Ops P Γ R rest ((i, .raw (.int .u8 (sby s j))) :: env) cs Q) : Ops P Γ R (⟨some i, .index T x y, ty, pos, af, none⟩ :: rest) env cs Q := Ops.val' hi (OpV.indexS_n hT hx hy hj h) kk

theorem OpV.indexS_0 (hT : P.underlying T = some .string) (hx : ev env x = some (.str s)) (hy : ev env y = some (.raw (.int k p))) (hj : p = 0) (h : 0 < s.size) : OpV P Γ (.index T x y) ty env cs (.raw (.int .u8 (sby s 0))) := by
 subst hj
 exact OpV.indexS hT hx hy ⟨Int.le_refl _, by omega⟩
theorem Ops.indexS_0 (hT : P.underlying T = some .string) (hx : ev env x = some (.str s)) (hy : ev env y = some (.raw (.int k p))) (hj : p = 0) (h : 0 < s.size) (hi : Nat.blt i Γ.n = true)
  (kk : Ops P Γ R rest ((i, .raw (.int .u8 (sby s 0))) :: env) cs Q) : Ops P Γ R (⟨some i, .index T x y, ty, pos, af, none⟩ :: rest) env cs Q := Ops.val' hi (OpV.indexS_0 hT hx hy hj h) kk

theorem OpV.sliceS_h (hT : P.underlying T = some .string) (hx : ev env x = some (.str s)) (hz : ev env z = some (.raw (.int k q))) (h : 0 ≤ q ∧ q ≤ s.size) : OpV P Γ (.slice T x none (some z) none) ty env cs (.str (s.extract 0 q.toNat)) :=
 by unfold OpV; exact (fun a w d => ⟨.string (s.extract 0 q.toNat), by
  have h1 : a.eval x = .string s := rd_raw (d.ev hx)
  have h2 : a.eval z = .int k q := rd_raw (d.ev hz)
  simp [execOp, h1, h2, Instr.sliceAt, Instr.slice, Instr.sliceBounds, Instr.sliceBound, asIntOf, run_underlying hT, h], raw_self _⟩)
theorem Ops.sliceS_h (hT : P.underlying T = some .string) (hx : ev env x = some (.str s)) (hz : ev env z = some (.raw (.int k q))) (h : 0 ≤ q ∧ q ≤ s.size) (hi : Nat.blt i Γ.n = true)
  (kk : Ops P Γ R rest ((i, .str (s.extract 0 q.toNat)) :: env) cs Q) : Ops P Γ R (⟨some i, .slice T x none (some z) none, ty, pos, af, none⟩ :: rest) env cs Q := Ops.val' hi (OpV.sliceS_h hT hx hz h) kk

end strs

/-- a contract of the library's own: it turns no old block -/
theorem PFn.of_calls {P : Program} {f : FuncId} {args : List Value} {v : Value} (he : ∀ (vs : Array Value) (w : World), (callFunc f vs).run P w = .ok (.enter f vs) w)
  (h : ∀ w, Calls P f args.toArray w fun e w' => e = .returned v ∧ Below w.heap.size w w' ∧ (Strict → w.drawn ≤ w'.drawn)) : PFn P f (args.map Tr.raw) (· = .raw v) := by
 refine PFn.mk ?_
 unfold Spec
 refine ⟨he, fun M w vs hv _ _ _ hM => ?_⟩
 have : ∀ (as vs : List Value), RdL w (av M []) (as.map Tr.raw) vs → vs = as := by
  intro as
  induction as with
  |nil => intro vs h; exact h
  |cons a as ih =>
   rintro vs ⟨u, rest, rfl, h1, h2⟩
   rw [ih rest h2, rd_raw h1]
 rw [this args vs hv]
 refine (h w).mono ?_
 rintro e w' ⟨rfl, hb, hd⟩
 refine ⟨v, .raw v, [], rfl, ⟨rfl, rfl⟩, raw_self _, by simp, by simp [fps], by simp [fps], hb.os, hb.tape, hb.output, hb.size, fun b h1 _ => hb.block b h1, hd⟩
attribute [irreducible] strLt sby
end Lg
end
