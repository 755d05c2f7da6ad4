/- A part of the proof of a law of this seat: it adds no condition. By an AI agent. -/
import Derived.Laws.Small
import Derived.Lib.Overlaps
import Derived.Lib.AppendZerosOnto
import Derived.Test.YtmncgklajohcbaaGreatDoorLgY2
section
set_option linter.all false
namespace Lg
open Go Go.RowKit
/-! ### equal truth values -/
section eqb
variable {P : Program} {Γ : Ctx} {env env' : Env} {cs cs' cf : List Chunk} {Q : Post} {R : Array Oper}
variable {i : Tmp} {ty : TypeId} {pos : String} {af : Array Edge} {rest : List Oper}
variable {x y z : Operand} {T T2 : TypeId} {p q : Bool}
theorem eqGuard_bool (op : BinOp) (t : TypeId) (x y : Operand) (a b : Bool) (w : World) : (eqGuard op t x y (.bool a) (.bool b)).run P w = .ok () w := by
  unfold eqGuard
  cases op <;> simp
theorem OpV.eqlB (hT : P.underlying T = some .bool) (hx : ev env x = some (.bool p)) (hy : ev env y = some (.bool q)) : OpV P Γ (.binOp .eql T x y T2) ty env cs (.bool (p == q)) :=
  by unfold OpV; exact (fun a w d => ⟨.bool (p == q), by
    have h1 : a.eval x = .bool p := rd_raw (d.ev hx)
    have h2 : a.eval y = .bool q := rd_raw (d.ev hy)
    simp [execOp, h1, h2, eqGuard_bool, run_eql_bool w T p q hT], raw_self _⟩)
theorem Ops.eqlB (hT : P.underlying T = some .bool) (hx : ev env x = some (.bool p)) (hy : ev env y = some (.bool q)) (hi : Nat.blt i Γ.n = true)
    (kk : Ops P Γ R rest ((i, .bool (p == q)) :: env) cs Q) : Ops P Γ R (⟨some i, .binOp .eql T x y T2, ty, pos, af, none⟩ :: rest) env cs Q := Ops.val' hi (OpV.eqlB hT hx hy) kk
end eqb
section more
variable {P : Program} {Γ : Ctx} {env env' : Env} {cs cs' cf : List Chunk} {Q : Post} {R : Array Oper}
variable {i : Tmp} {ty : TypeId} {pos : String} {af : Array Edge} {rest : List Oper} {x : Operand}
variable {H : (Nat → Value) → (Nat → Bool) → List Chunk} {L : List Oper} {K : Env → List Chunk → Prop} {n : Nat} {l : List Oper} {Pf : Nat → (Nat → Value) → Prop} {d : Nat} {op : Op} {acc : (Nat → Value) → Env}
end more
/-! ### numbers of other widths -/
section wid
variable {P : Program} {Γ : Ctx} {env env' : Env} {cs cs' cf : List Chunk} {Q : Post} {R : Array Oper}
variable {i : Tmp} {ty : TypeId} {pos : String} {af : Array Edge} {rest : List Oper} {x y : Operand} {T T2 : TypeId} {k k2 : IntKind} {p q : Int} {s : ByteArray}
theorem wrap_u64 {n : Int} (h : 0 ≤ n ∧ n ≤ 18446744073709551615) : IntKind.u64.wrap n = n := by
  have : IntKind.u64.wrap n = n % 18446744073709551616 := rfl
  rw [this]
  exact Int.emod_eq_of_lt (by omega) (by omega)
theorem wrap_u8 {n : Int} (h : 0 ≤ n ∧ n ≤ 255) : IntKind.u8.wrap n = n := by
  have : IntKind.u8.wrap n = n % 256 := rfl
  rw [this]
  exact Int.emod_eq_of_lt (by omega) (by omega)
theorem wrap_i64 {n : Int} (h : 0 ≤ n ∧ n ≤ 9223372036854775807) : IntKind.i64.wrap n = n := by
  have : IntKind.i64.wrap n = if (decide (n % 18446744073709551616 ≥ 9223372036854775808)) = true then n % 18446744073709551616 - 18446744073709551616 else n % 18446744073709551616 := rfl
  rw [this, Int.emod_eq_of_lt (by omega) (by omega), if_neg (by simp; omega)]
theorem sby_bd (s : ByteArray) (j : Nat) : 0 ≤ sby s j ∧ sby s j ≤ 255 := by
  unfold sby
  have := UInt8.toNat_lt (s.data.toList.getD j 0)
  omega
theorem Ops.convN {d1 : TypeDesc} (h1 : P.underlying T = some d1) (h2 : P.underlying T2 = some (.int k2)) (hx : ev env x = some (.raw (.int k p))) (hw : k2.wrap p = q) (hi : Nat.blt i Γ.n = true)
    (kk : Ops P Γ R rest ((i, .raw (.int k2 q)) :: env) cs Q) : Ops P Γ R (⟨some i, .convert T T2 x, ty, pos, af, none⟩ :: rest) env cs Q := by
  subst hw
  exact Ops.val' hi (OpV.convI h1 h2 hx) kk
theorem Ops.indexS_any (hT : P.underlying T = some .string) (hx : ev env x = some (.str s)) (hy : ev env y = some (.raw (.int k p))) (h : 0 ≤ p ∧ p < s.size) (hi : Nat.blt i Γ.n = true)
    (kk : ∀ v : Int, 0 ≤ v ∧ v ≤ 255 → Ops P Γ R rest ((i, .raw (.int .u8 v)) :: env) cs Q) : Ops P Γ R (⟨some i, .index T x y, ty, pos, af, none⟩ :: rest) env cs Q :=
  Ops.val' hi (OpV.indexS hT hx hy h) (kk _ (sby_bd _ _))
end wid
end Lg
end
section
set_option linter.all false
namespace Lg
open Go

/-! ### copies into owned slices; an element is put into an owned slice -/
section ins
variable {P : Program} {Γ : Ctx} {env env' : Env} {cs cs' cf : List Chunk} {Q : Post} {R : Array Oper} {a : Act} {w : World}
variable {i : Tmp} {ty : TypeId} {pos : String} {af : Array Edge} {rest : List Oper} {x y z : Operand} {T T2 : TypeId} {k : IntKind} {p q : Int}

/-- a slice with elements has an address, and room for them -/
theorem Cw.own_form {c : Code} {ad : Option Addr} {cap kk E : Nat} {rows : List (List Tr)} (hp : cs.Perm (Chunk.own ad cap kk E rows :: cf)) (hne : 0 < rows.length)
    (h : ∀ g, ad = some ⟨g, 0, none⟩ → rows.length ≤ cap → cap ≤ maxLen → Cw P Γ c env cs Q) : Cw P Γ c env cs Q := by
  unfold Cw at h ⊢
  intro a w d
  have hh := (d.perm hp).has (List.Perm.refl _)
  generalize av Γ.M (Chunk.own ad cap kk E rows :: cf) = A at hh
  unfold Chunk.own at hh
  obtain ⟨_, xs, hown, _⟩ := hh
  rcases hown.2 with ⟨e, h0⟩ | ⟨g, c2, cur, e, _, _, h1, h2, _⟩
  · omega
  · simp only [Value.slice.injEq] at e
    obtain ⟨rfl, _, rfl⟩ := e
    exact h g rfl h1 h2 a w d
theorem Ops.own_form {l : List Oper} {ad : Option Addr} {cap kk E : Nat} {rows : List (List Tr)} (hp : cs.Perm (Chunk.own ad cap kk E rows :: cf)) (hne : 0 < rows.length)
    (h : ∀ g, ad = some ⟨g, 0, none⟩ → rows.length ≤ cap → cap ≤ maxLen → Ops P Γ R l env cs Q) : Ops P Γ R l env cs Q := by
  unfold Ops at h ⊢
  intro a w d
  have hh := (d.perm hp).has (List.Perm.refl _)
  generalize av Γ.M (Chunk.own ad cap kk E rows :: cf) = A at hh
  unfold Chunk.own at hh
  obtain ⟨_, xs, hown, _⟩ := hh
  rcases hown.2 with ⟨e, h0⟩ | ⟨g, c2, cur, e, _, _, h1, h2, _⟩
  · omega
  · simp only [Value.slice.injEq] at e
    obtain ⟨rfl, _, rfl⟩ := e
    exact h g rfl h1 h2 a w d
/-! slices of a slice's value: nobody's memory changes -/
theorem OpV.sliceR_l {E kk bb zs} [hS : TySl P T E kk bb zs] {g o n cap : Nat} (hx : ev env x = some (.raw (.slice (some ⟨g, o, none⟩) n cap))) (hy : ev env y = some (.raw (.int k p))) (h0 : 0 ≤ p ∧ p ≤ n) (hc : p < cap) : OpV P Γ (.slice T x (some y) none none) ty env cs (.raw (.slice (some ⟨g, o + p.toNat * kk, none⟩) (n - p.toNat) (cap - p.toNat))) := by
  unfold OpV
  intro a w d
  have hv := rd_raw (d.ev hx)
  have hq := rd_raw (d.ev hy)
  have hrun := run_slice_parts (P := P) (t := T) (kk := kk) (a := some ⟨g, o, none⟩) (bounds_l (P := P) (k := k) (w := w) (len := n) (cap := cap) h0.1 h0.2)
  rw [if_neg (show ¬ cap = p.toNat by omega)] at hrun
  simp only [Option.map_some, add_plain] at hrun
  exact ⟨_, by simp [execOp, hv, hq, hrun] <;> rfl, raw_self _⟩
theorem Ops.sliceR_l {E kk bb zs} [hS : TySl P T E kk bb zs] {g o n cap : Nat} (hx : ev env x = some (.raw (.slice (some ⟨g, o, none⟩) n cap))) (hy : ev env y = some (.raw (.int k p))) (h0 : 0 ≤ p ∧ p ≤ n) (hc : p < cap) (hi : Nat.blt i Γ.n = true)
    (kont : Ops P Γ R rest ((i, .raw (.slice (some ⟨g, o + p.toNat * kk, none⟩) (n - p.toNat) (cap - p.toNat))) :: env) cs Q) : Ops P Γ R (⟨some i, .slice T x (some y) none none, ty, pos, af, none⟩ :: rest) env cs Q :=
  Ops.val' hi (OpV.sliceR_l hx hy h0 hc) kont
/-- elements are laid into the block of an owned slice, from the p-th on; it may grow into its spare room -/
theorem Den.lay {g cap kk E pn : Nat} {rows new : List (List Tr)} {vs : List Value} (d : Den Γ env (Chunk.own (some ⟨g, 0, none⟩) cap kk E rows :: cf) a w)
    (hp : pn ≤ rows.length) (hc : pn + new.length ≤ cap) (hk : ∀ r ∈ new, r.length = kk) (hr : RdC w (av Γ.M (Chunk.own (some ⟨g, 0, none⟩) cap kk E rows :: cf)) new.flatten vs) :
    ∃ cur, w.heap[g]? = some (.cells cur E (0, 0)) ∧ pn * kk + vs.length ≤ cur.size ∧ vs.length = new.length * kk ∧
      Den Γ env (Chunk.own (some ⟨g, 0, none⟩) cap kk E (rows.take pn ++ new ++ rows.drop (pn + new.length)) :: cf) a (w.setRow g (cur.toList.take (pn * kk) ++ vs ++ cur.toList.drop (pn * kk + vs.length)).toArray) := by
  have hh := d.has (List.Perm.refl _)
  have hvl : vs.length = new.length * kk := by rw [hr.length, flat_len hk]
  have hh2 := hh
  generalize hA : av Γ.M (Chunk.own (some ⟨g, 0, none⟩) cap kk E rows :: cf) = A at hh2
  unfold Chunk.own at hh2
  obtain ⟨hkr, xs, hown, hrd⟩ := hh2
  rcases hown.2 with ⟨e, h0⟩ | ⟨g', c2, cur, e, h1, hg, h2, h3, h4, h5⟩
  · simp at e
  simp only [Value.slice.injEq, Option.some.injEq, Addr.mk.injEq] at e
  obtain ⟨⟨rfl, _⟩, _, rfl⟩ := e
  have hle : pn * kk + vs.length ≤ cap * kk := by rw [hvl, ← Nat.add_mul]; exact Nat.mul_le_mul_right _ hc
  have hfpE : ∀ rs, (Chunk.own (some ⟨g, 0, none⟩) cap kk E rs).fp = [g] := fun rs => by unfold Chunk.own; rfl
  refine ⟨cur, hg, by omega, hvl, ?_⟩
  refine d.turn (by rw [hfpE, hfpE]) (fun b hb hn => ?_) (setRow_size _ _ _) (setRow_os _ _ _) (setRow_tape _ _ _) (setRow_output _ _ _) fun hs _ => ?_
  · rw [hfpE] at hn
    exact setRow_other _ _ _ _ (by simpa using hn)
  have hrn := hrd
  rw [← hA] at hrn
  generalize hA2 : av Γ.M (Chunk.own (some ⟨g, 0, none⟩) cap kk E (rows.take pn ++ new ++ rows.drop (pn + new.length)) :: cf) = A2 at hs
  unfold Chunk.own
  have hlen : (rows.take pn ++ new ++ rows.drop (pn + new.length)).length = pn + new.length + (rows.length - (pn + new.length)) := by
    simp only [List.length_append, List.length_take, List.length_drop]
    omega
  have hl2 : pn + new.length + (rows.length - (pn + new.length)) ≤ cap := by omega
  refine ⟨?_, xs.take (pn * kk) ++ vs ++ xs.drop ((pn + new.length) * kk), ?_, ?_⟩
  · intro r hr
    simp only [List.mem_append] at hr
    rcases hr with (h | h) | h
    · exact hkr r (List.mem_of_mem_take h)
    · exact hk r h
    · exact hkr r (List.mem_of_mem_drop h)
  · have hxl := hown.1
    have hpk : pn * kk ≤ rows.length * kk := Nat.mul_le_mul_right _ hp
    have hdrop : xs.drop ((pn + new.length) * kk) = (cur.toList.drop (pn * kk + vs.length)).take ((rows.length - (pn + new.length)) * kk) := by
      rw [← h5, List.drop_take, hvl, ← Nat.add_mul, Nat.sub_mul]
    have htake : xs.take (pn * kk) = cur.toList.take (pn * kk) := by rw [← h5, List.take_take, Nat.min_eq_left hpk]
    have hcl : cur.toList.length = cap * kk := by rw [Array.length_toList]; exact h4
    have htl : (cur.toList.take (pn * kk)).length = pn * kk := by rw [List.length_take, hcl]; omega
    refine ⟨?_, .inr ⟨g, cap, _, by rw [hlen], Nat.zero_le _, setRow_heap w g cur _ E (0, 0) hg, by rw [hlen]; exact hl2, h3, ?_, ?_⟩⟩
    · rw [hlen]
      simp only [List.length_append, List.length_take, List.length_drop, hxl, hvl, Nat.add_mul, Nat.sub_mul]
      omega
    · simp only [List.size_toArray, List.length_append, htl, List.length_drop, hcl]
      omega
    · rw [hlen, htake, hdrop, List.toList_toArray, List.append_assoc, List.append_assoc, List.take_append, htl, List.take_append]
      have e1 : (pn + new.length + (rows.length - (pn + new.length))) * kk - pn * kk = vs.length + (rows.length - (pn + new.length)) * kk := by
        rw [hvl, Nat.add_mul, Nat.add_mul]; omega
      rw [e1, List.take_of_length_le (l := cur.toList.take (pn * kk)) (by rw [htl, Nat.add_mul, Nat.add_mul]; omega), List.take_of_length_le (l := vs) (by omega), Nat.add_sub_cancel_left]
  · rw [List.flatten_append, List.flatten_append, flatten_take hkr, flatten_drop hkr]
    exact ((hrn.take _).mono hs).app (hr.mono hs) |>.app ((hrn.drop _).mono hs)

theorem raw_free {v0 : Value} : ∀ (w : World) (A : Nat → Prop) (w' : World) (A' : Nat → Prop) (v : Value), (Tr.raw v0).rd w A v → (Tr.raw v0).rd w' A' v := fun _ _ _ _ _ h => by
  have := rd_raw h
  subst this
  exact raw_self _

variable {H : (Nat → Value) → (Nat → Bool) → List Chunk} {L : List Oper} {K : Env → List Chunk → Prop} {n : Nat} {l : List Oper} {Pf : Nat → (Nat → Value) → Prop} {d : Nat} {op : Op} {acc : (Nat → Value) → Env}
/-- a variable of its own is made of a value -/
theorem YSeq.box {T : TypeId} {x : Operand}
    (h : ∀ (ξ : Nat → Value) (S : Nat → Bool), S n = false → (∀ j ∈ preds af, S j = true) → Clo L S → (∀ k, S k = true → Pf k ξ) →
      ∃ (us : List Tr) (t : Tr), ev (rst (slotsOf (.box T x)) (acc ξ)) x = some t ∧ RowT t us ∧ ∀ b, (H (upd ξ n (.pointer (some ⟨b, 0, none⟩))) (updD S n)).Perm (Chunk.box b T us :: H ξ S))
    (k : YSeq P Γ H L K (n + 1) (fun ξ => (d, Tr.raw (.pointer (some ⟨blk (ξ n), 0, none⟩))) :: acc ξ) (pfY n (fun _ => True) Pf) l) : YSeq P Γ H L K n acc Pf (⟨some d, .box T x, ty, pos, af, none⟩ :: l) := by
  refine YSeq.cons PvOkY.triv (TOk.own (T := fun v => Tr.raw (.pointer (some ⟨blk v, 0, none⟩)))) ?_ k
  unfold YStep
  intro ξ S h1 h2 h3 h4 a w dd next F hk
  obtain ⟨us, t, hx, hr, hp⟩ := h ξ S h1 h2 h3 h4
  have hrun : (execOp a.eval ⟨some d, .box T x, ty, pos, af, none⟩).run P w = .ok (.value (.pointer (some ⟨w.heap.size, 0, none⟩))) (w.alloc (.cells (a.eval x).cells T)) := by
    simp [execOp, Instr.box, newVar, newRow] <;> rfl
  refine opIn_of_run hrun ⟨(by intro d h; cases h), (by intro x y h; cases h)⟩ ?_
  refine hk _ _ trivial ?_ fun env2 d2 => ?_
  · simp only [upd_same, blk]
    exact raw_self _
  have hd := d2.newblock (a.eval x).cells T (ts := us) (hr.h _ _ _ (dd.ev hx))
  exact hd.perm (hp _).symm
end ins
end Lg
end
section
set_option linter.all false
namespace Lg
open Go

/-! ### a part of an owned slice: it is read and written through the whole one -/
section sub
variable {P : Program} {Γ : Ctx} {env env' : Env} {cs cs' cf : List Chunk} {Q : Post} {R : Array Oper}
variable {i : Tmp} {ty : TypeId} {pos : String} {af : Array Edge} {rest : List Oper}
variable {x y z : Operand} {T : TypeId} {k : IntKind} {p q : Int}

theorem OpV.indexAddr_sub {E kk bb z} [h : TySl P T E kk bb z] {ad : Option Addr} {o n cap cap2 : Nat} {e : TypeId} {rows : List (List Tr)} (hx : ev env x = some (.qsl ad o kk n cap2)) (hy : ev env y = some (.raw (.int k p)))
    (hp : cs.Perm (Chunk.own ad cap kk e rows :: cf)) (hn : o + n ≤ rows.length) (h0 : 0 ≤ p) (h1 : p < n) : OpV P Γ (.indexAddr T x y) ty env cs (.eptr ad kk (o + p.toNat) 0) :=
  (by
    unfold OpV
    intro a w d
    unfold Tr.qsl at hx
    unfold Tr.eptr
    have hv := rd_raw (d.ev hx)
    have hp' := rd_raw (d.ev hy)
    have hch := d.has hp
    obtain ⟨g, cur, rfl, _⟩ := own_some hch (fun e => by subst e; simp at hn; omega)
    simp only [Option.map_some] at hv
    exact ⟨_, by simp [execOp, hv, hp', run_indexAt (T := T) h0 h1] <;> rfl, g, rfl, by simp [Nat.add_mul]⟩)
theorem Ops.indexAddr_sub {E kk bb z} [h : TySl P T E kk bb z] {ad : Option Addr} {o n cap cap2 : Nat} {e : TypeId} {rows : List (List Tr)} (hx : ev env x = some (.qsl ad o kk n cap2)) (hy : ev env y = some (.raw (.int k p)))
    (hp : cs.Perm (Chunk.own ad cap kk e rows :: cf)) (hn : o + n ≤ rows.length) (h0 : 0 ≤ p) (h1 : p < n) (hi : Nat.blt i Γ.n = true)
    (kont : Ops P Γ R rest ((i, .eptr ad kk (o + p.toNat) 0) :: env) cs Q) : Ops P Γ R (⟨some i, .indexAddr T x y, ty, pos, af, none⟩ :: rest) env cs Q :=
  Ops.val' hi (OpV.indexAddr_sub hx hy hp hn h0 h1) kont
end sub
end Lg
end
