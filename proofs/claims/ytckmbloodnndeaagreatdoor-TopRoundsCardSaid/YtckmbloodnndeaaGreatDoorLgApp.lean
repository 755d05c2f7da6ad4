/- A part of the proof of a law of this seat: it adds no condition. By an AI agent. -/
import Derived.Laws.Small
import Derived.Lib.Overlaps
import Derived.Lib.AppendZerosOnto
import Derived.Test.YtckmbloodnndeaaGreatDoorLgY2
section
set_option linter.all false
namespace Lg
open Go Go.RowKit
/-! ### equal truth values -/
section eqb
variable {P : Program} {Γ : Ctx} {env env' : Env} {cs cs' cf : List Chunk} {Q : Post} {R : Array Oper}
variable {i : Tmp} {ty : TypeId} {pos : String} {af : Array Edge} {rest : List Oper}
variable {x y z : Operand} {T T2 : TypeId} {p q : Bool}
end eqb
section more
variable {P : Program} {Γ : Ctx} {env env' : Env} {cs cs' cf : List Chunk} {Q : Post} {R : Array Oper}
variable {i : Tmp} {ty : TypeId} {pos : String} {af : Array Edge} {rest : List Oper} {x : Operand}
variable {H : (Nat → Value) → (Nat → Bool) → List Chunk} {L : List Oper} {K : Env → List Chunk → Prop} {n : Nat} {l : List Oper} {Pf : Nat → (Nat → Value) → Prop} {d : Nat} {op : Op} {acc : (Nat → Value) → Env}
/-- a call that turns one owned piece -/
theorem YSeq.callC {f : FuncId} {ol : List Operand} {ts : Array TypeId} {t : (Nat → Value) → Tr}
    (h : ∀ (ξ : Nat → Value) (S : Nat → Bool), S n = false → (∀ j ∈ preds af, S j = true) → Clo L S → (∀ k, S k = true → Pf k ξ) →
      ∃ (args : List Tr) (c c' : Chunk) (cf : List Chunk), Spec P f args [c] (fun r cs => r = t ξ ∧ cs = [c']) ∧ Evs (rst (slotsOf (.call ⟨.value (.func f), ol.toArray, ts⟩)) (acc ξ)) ol args ∧ (H ξ S).Perm (c :: cf) ∧ ∀ v, (H (upd ξ n v) (updD S n)).Perm (c' :: cf))
    (ht : ∀ ξ v, t (upd ξ n v) = t ξ) (hT : TOk L n t)
    (k : YSeq P Γ H L K (n + 1) (fun ξ => (d, t ξ) :: acc ξ) (pfY n (fun _ => True) Pf) l) : YSeq P Γ H L K n acc Pf (⟨some d, .call ⟨.value (.func f), ol.toArray, ts⟩, ty, pos, af, none⟩ :: l) := by
  refine YSeq.call PvOkY.triv hT ?_ k
  intro ξ S h1 h2 h3 h4
  obtain ⟨args, c, c', cf, hs, ha, hp, hq⟩ := h ξ S h1 h2 h3 h4
  refine ⟨args, [c], cf, _, hs, ha, hp, ?_⟩
  rintro r cs' ⟨rfl, rfl⟩ w A v hr
  exact ⟨by rw [ht]; exact hr, trivial, hq v⟩
end more
/-! ### numbers of other widths -/
section wid
variable {P : Program} {Γ : Ctx} {env env' : Env} {cs cs' cf : List Chunk} {Q : Post} {R : Array Oper}
variable {i : Tmp} {ty : TypeId} {pos : String} {af : Array Edge} {rest : List Oper} {x y : Operand} {T T2 : TypeId} {k k2 : IntKind} {p q : Int} {s : ByteArray}
end wid
end Lg
end
section
set_option linter.all false
namespace Lg
open Go

/-! ### copies into owned slices; an element is put into an owned slice -/
section ins
variable {P : Program} {Γ : Ctx} {env env' : Env} {cs cs' cf : List Chunk} {Q : Post} {R : Array Oper} {a : Act} {w : World}
variable {i : Tmp} {ty : TypeId} {pos : String} {af : Array Edge} {rest : List Oper} {x y z : Operand} {T T2 : TypeId} {k : IntKind} {p q : Int}

/-- a slice with elements has an address, and room for them -/
theorem Cw.own_form {c : Code} {ad : Option Addr} {cap kk E : Nat} {rows : List (List Tr)} (hp : cs.Perm (Chunk.own ad cap kk E rows :: cf)) (hne : 0 < rows.length)
    (h : ∀ g, ad = some ⟨g, 0, none⟩ → rows.length ≤ cap → cap ≤ maxLen → Cw P Γ c env cs Q) : Cw P Γ c env cs Q := by
  unfold Cw at h ⊢
  intro a w d
  have hh := (d.perm hp).has (List.Perm.refl _)
  generalize av Γ.M (Chunk.own ad cap kk E rows :: cf) = A at hh
  unfold Chunk.own at hh
  obtain ⟨_, xs, hown, _⟩ := hh
  rcases hown.2 with ⟨e, h0⟩ | ⟨g, c2, cur, e, _, _, h1, h2, _⟩
  · omega
  · simp only [Value.slice.injEq] at e
    obtain ⟨rfl, _, rfl⟩ := e
    exact h g rfl h1 h2 a w d
/-! slices of a slice's value: nobody's memory changes -/
/-- elements are laid into the block of an owned slice, from the p-th on; it may grow into its spare room -/
theorem Den.lay {g cap kk E pn : Nat} {rows new : List (List Tr)} {vs : List Value} (d : Den Γ env (Chunk.own (some ⟨g, 0, none⟩) cap kk E rows :: cf) a w)
    (hp : pn ≤ rows.length) (hc : pn + new.length ≤ cap) (hk : ∀ r ∈ new, r.length = kk) (hr : RdC w (av Γ.M (Chunk.own (some ⟨g, 0, none⟩) cap kk E rows :: cf)) new.flatten vs) :
    ∃ cur, w.heap[g]? = some (.cells cur E (0, 0)) ∧ pn * kk + vs.length ≤ cur.size ∧ vs.length = new.length * kk ∧
      Den Γ env (Chunk.own (some ⟨g, 0, none⟩) cap kk E (rows.take pn ++ new ++ rows.drop (pn + new.length)) :: cf) a (w.setRow g (cur.toList.take (pn * kk) ++ vs ++ cur.toList.drop (pn * kk + vs.length)).toArray) := by
  have hh := d.has (List.Perm.refl _)
  have hvl : vs.length = new.length * kk := by rw [hr.length, flat_len hk]
  have hh2 := hh
  generalize hA : av Γ.M (Chunk.own (some ⟨g, 0, none⟩) cap kk E rows :: cf) = A at hh2
  unfold Chunk.own at hh2
  obtain ⟨hkr, xs, hown, hrd⟩ := hh2
  rcases hown.2 with ⟨e, h0⟩ | ⟨g', c2, cur, e, h1, hg, h2, h3, h4, h5⟩
  · simp at e
  simp only [Value.slice.injEq, Option.some.injEq, Addr.mk.injEq] at e
  obtain ⟨⟨rfl, _⟩, _, rfl⟩ := e
  have hle : pn * kk + vs.length ≤ cap * kk := by rw [hvl, ← Nat.add_mul]; exact Nat.mul_le_mul_right _ hc
  have hfpE : ∀ rs, (Chunk.own (some ⟨g, 0, none⟩) cap kk E rs).fp = [g] := fun rs => by unfold Chunk.own; rfl
  refine ⟨cur, hg, by omega, hvl, ?_⟩
  refine d.turn (by rw [hfpE, hfpE]) (fun b hb hn => ?_) (setRow_size _ _ _) (setRow_os _ _ _) (setRow_tape _ _ _) (setRow_output _ _ _) fun hs _ => ?_
  · rw [hfpE] at hn
    exact setRow_other _ _ _ _ (by simpa using hn)
  have hrn := hrd
  rw [← hA] at hrn
  generalize hA2 : av Γ.M (Chunk.own (some ⟨g, 0, none⟩) cap kk E (rows.take pn ++ new ++ rows.drop (pn + new.length)) :: cf) = A2 at hs
  unfold Chunk.own
  have hlen : (rows.take pn ++ new ++ rows.drop (pn + new.length)).length = pn + new.length + (rows.length - (pn + new.length)) := by
    simp only [List.length_append, List.length_take, List.length_drop]
    omega
  have hl2 : pn + new.length + (rows.length - (pn + new.length)) ≤ cap := by omega
  refine ⟨?_, xs.take (pn * kk) ++ vs ++ xs.drop ((pn + new.length) * kk), ?_, ?_⟩
  · intro r hr
    simp only [List.mem_append] at hr
    rcases hr with (h | h) | h
    · exact hkr r (List.mem_of_mem_take h)
    · exact hk r h
    · exact hkr r (List.mem_of_mem_drop h)
  · have hxl := hown.1
    have hpk : pn * kk ≤ rows.length * kk := Nat.mul_le_mul_right _ hp
    have hdrop : xs.drop ((pn + new.length) * kk) = (cur.toList.drop (pn * kk + vs.length)).take ((rows.length - (pn + new.length)) * kk) := by
      rw [← h5, List.drop_take, hvl, ← Nat.add_mul, Nat.sub_mul]
    have htake : xs.take (pn * kk) = cur.toList.take (pn * kk) := by rw [← h5, List.take_take, Nat.min_eq_left hpk]
    have hcl : cur.toList.length = cap * kk := by rw [Array.length_toList]; exact h4
    have htl : (cur.toList.take (pn * kk)).length = pn * kk := by rw [List.length_take, hcl]; omega
    refine ⟨?_, .inr ⟨g, cap, _, by rw [hlen], Nat.zero_le _, setRow_heap w g cur _ E (0, 0) hg, by rw [hlen]; exact hl2, h3, ?_, ?_⟩⟩
    · rw [hlen]
      simp only [List.length_append, List.length_take, List.length_drop, hxl, hvl, Nat.add_mul, Nat.sub_mul]
      omega
    · simp only [List.size_toArray, List.length_append, htl, List.length_drop, hcl]
      omega
    · rw [hlen, htake, hdrop, List.toList_toArray, List.append_assoc, List.append_assoc, List.take_append, htl, List.take_append]
      have e1 : (pn + new.length + (rows.length - (pn + new.length))) * kk - pn * kk = vs.length + (rows.length - (pn + new.length)) * kk := by
        rw [hvl, Nat.add_mul, Nat.add_mul]; omega
      rw [e1, List.take_of_length_le (l := cur.toList.take (pn * kk)) (by rw [htl, Nat.add_mul, Nat.add_mul]; omega), List.take_of_length_le (l := vs) (by omega), Nat.add_sub_cancel_left]
  · rw [List.flatten_append, List.flatten_append, flatten_take hkr, flatten_drop hkr]
    exact ((hrn.take _).mono hs).app (hr.mono hs) |>.app ((hrn.drop _).mono hs)

/-- an owned slice is lent to a function that writes nothing, and whose result holds nothing of memory -/
theorem PFn.lendO {f : FuncId} {pre suf : List Tr} {t : Tr} {kk E n cap : Nat} {ad : Option Addr} {rows : List (List Tr)} (h : PFn P f (pre ++ .sl kk rows :: suf) (· = t)) (hn : n = rows.length) (ht : ∀ w A w' A' v, t.rd w A v → t.rd w' A' v) :
    Spec P f (pre ++ Tr.raw (.slice ad n cap) :: suf) [Chunk.own ad cap kk E rows] (fun r cs => r = t ∧ cs = [Chunk.own ad cap kk E rows]) := by
  subst hn
  unfold PFn Spec at h
  obtain ⟨h1, h2⟩ := h
  unfold Spec
  refine ⟨h1, fun M w vs hr hch hnd hlt hM => ?_⟩
  have hfp : fps [Chunk.own ad cap kk E rows] = (Value.ownBlock (.slice ad rows.length cap)).toList := by unfold Chunk.own; simp [fps]
  have hs : SameOn w w (av M [Chunk.own ad cap kk E rows]) (av M []) := fun b _ ⟨h1, _⟩ => ⟨⟨h1, by simp [fps]⟩, rfl⟩
  have hown0 := hch _ (List.mem_singleton.2 rfl)
  have hown := hown0
  unfold Chunk.own at hown
  obtain ⟨hk, xs, ho, hrx⟩ := hown
  have hsl : (Tr.sl kk rows).rd w (av M []) (.slice ad rows.length cap) := by
    unfold Tr.sl
    rcases ho.2 with ⟨e1, e2⟩ | ⟨g, cp, cur, hv, hg, hb, q1, q2, q3, q4⟩
    · simp only [Value.slice.injEq] at e1
      obtain ⟨rfl, _, rfl⟩ := e1
      exact ⟨hk, by simp [e2], none, 0, rfl, by omega, by simp, fun _ => ⟨List.eq_nil_of_length_eq_zero e2, rfl⟩, .inl (List.eq_nil_of_length_eq_zero e2)⟩
    · simp only [Value.slice.injEq] at hv
      obtain ⟨rfl, _, rfl⟩ := hv
      have hfr := hlt g (by rw [hfp]; simp [Value.ownBlock])
      refine ⟨hk, by omega, _, cap, rfl, q1, q2, fun h => absurd h (by simp), .inr ⟨g, 0, rfl, ⟨hfr.2, by simp [fps]⟩, cur, E, _, hb, ?_⟩⟩
      rw [List.drop_zero, flat_len hk, q4]
      have hs2 : SameOn w w (av M [Chunk.own (some ⟨g, 0, none⟩) cap kk E rows]) (av M []) := hs
      unfold Chunk.own at hs2
      exact hrx.mono hs2
  have hargs : ∀ (pre : List Tr) (vs : List Value), RdL w (av M [Chunk.own ad cap kk E rows]) (pre ++ Tr.raw (.slice ad rows.length cap) :: suf) vs → RdL w (av M []) (pre ++ .sl kk rows :: suf) vs := by
    intro pre
    induction pre with
    | nil =>
      intro vs hr
      obtain ⟨v, rest, rfl, hv, hr⟩ := hr
      have := rd_raw hv
      subst this
      exact ⟨_, _, rfl, hsl, hr.mono hs⟩
    | cons p pre ih =>
      intro vs hr
      obtain ⟨v, rest, rfl, hv, hr⟩ := hr
      exact ⟨v, rest, rfl, p.mono hs hv, ih rest hr⟩
  refine (h2 M w vs (hargs pre vs hr) (by simp) (by simp [fps]) (by simp [fps]) hM).mono ?_
  rintro e w' ⟨v, r, cs', rfl, ⟨rfl, rfl⟩, hrd, _, _, _, hfm⟩
  have hold : ∀ b, b < w.heap.size → w'.heap[b]? = w.heap[b]? := fun b hb => hfm.block b hb (by simp [fps])
  refine ⟨v, _, _, rfl, ⟨rfl, rfl⟩, ht _ _ _ _ _ hrd, ?_, hnd, ?_, ⟨hfm.os, hfm.tape, hfm.output, hfm.size, fun b hb _ => hold b hb, hfm.drawn⟩⟩
  · intro c hc
    rw [List.mem_singleton] at hc
    subst hc
    exact Chunk.mono _ (fun b _ hb => hold b hb) (fun b hb hA => ⟨hA, hold b hb⟩) hown0
  · intro b hb
    obtain ⟨q1, q2⟩ := hlt b hb
    exact ⟨Nat.lt_of_lt_of_le q1 hfm.size, q2, .inl hb⟩
theorem raw_free {v0 : Value} : ∀ (w : World) (A : Nat → Prop) (w' : World) (A' : Nat → Prop) (v : Value), (Tr.raw v0).rd w A v → (Tr.raw v0).rd w' A' v := fun _ _ _ _ _ h => by
  have := rd_raw h
  subst this
  exact raw_self _

variable {H : (Nat → Value) → (Nat → Bool) → List Chunk} {L : List Oper} {K : Env → List Chunk → Prop} {n : Nat} {l : List Oper} {Pf : Nat → (Nat → Value) → Prop} {d : Nat} {op : Op} {acc : (Nat → Value) → Env}
/-- a drawn region whose first m operations compute, and whose others wait for all before them -/
theorem Cw.region_seqM {id : Nat} {l : List Oper} {env : Env} (m : Nat) (hm : P.follows .mixedOrders = true) (hb : (backOk l && (nodupB (dsts (l.take m)) && (ssaFrom l 0 (l.take m) && (tailOk l m && Nat.ble m l.length)))) = true) (hlt : (dsts (l.take m)).all (Nat.blt · Γ.n) = true)
    (h : PSeq P Γ cs (fun acc => Ops P Γ l.toArray (l.drop m) acc cs Q) 0 [] env (l.take m)) : Cw P Γ (.region id l.toArray true) env cs Q := by
  simp only [Bool.and_eq_true] at hb
  exact Cw.region_at (Nat.le_of_ble_eq_true hb.2.2.2.2) hm hb.1 hb.2.1 hlt hb.2.2.2.1 (PSeq.run hb.1 hb.2.1 hb.2.2.1 Seq.start (fun j => by rw [Nat.zero_add]) h)
/-- a variable of its own is made of a value -/
theorem YSeq.box {T : TypeId} {x : Operand}
    (h : ∀ (ξ : Nat → Value) (S : Nat → Bool), S n = false → (∀ j ∈ preds af, S j = true) → Clo L S → (∀ k, S k = true → Pf k ξ) →
      ∃ (us : List Tr) (t : Tr), ev (rst (slotsOf (.box T x)) (acc ξ)) x = some t ∧ RowT t us ∧ ∀ b, (H (upd ξ n (.pointer (some ⟨b, 0, none⟩))) (updD S n)).Perm (Chunk.box b T us :: H ξ S))
    (k : YSeq P Γ H L K (n + 1) (fun ξ => (d, Tr.raw (.pointer (some ⟨blk (ξ n), 0, none⟩))) :: acc ξ) (pfY n (fun _ => True) Pf) l) : YSeq P Γ H L K n acc Pf (⟨some d, .box T x, ty, pos, af, none⟩ :: l) := by
  refine YSeq.cons PvOkY.triv (TOk.own (T := fun v => Tr.raw (.pointer (some ⟨blk v, 0, none⟩)))) ?_ k
  unfold YStep
  intro ξ S h1 h2 h3 h4 a w dd next F hk
  obtain ⟨us, t, hx, hr, hp⟩ := h ξ S h1 h2 h3 h4
  have hrun : (execOp a.eval ⟨some d, .box T x, ty, pos, af, none⟩).run P w = .ok (.value (.pointer (some ⟨w.heap.size, 0, none⟩))) (w.alloc (.cells (a.eval x).cells T)) := by
    simp [execOp, Instr.box, newVar, newRow] <;> rfl
  refine opIn_of_run hrun ⟨(by intro d h; cases h), (by intro x y h; cases h)⟩ ?_
  refine hk _ _ trivial ?_ fun env2 d2 => ?_
  · simp only [upd_same, blk]
    exact raw_self _
  have hd := d2.newblock (a.eval x).cells T (ts := us) (hr.h _ _ _ (dd.ev hx))
  exact hd.perm (hp _).symm
/-- a slice of one's own, and nil -/
theorem Ops.eql_nilR {E kk bb z} [hS : TySl P T E kk bb z] {ad : Option Addr} {m cap : Nat} {i : Tmp} (hx : ev env x = some (.raw (.slice ad m cap))) (hi : Nat.blt i Γ.n = true)
    (kont : Ops P Γ R rest ((i, .bool ad.isNone) :: env) cs Q) : Ops P Γ R (⟨some i, .binOp .eql T x (.const (.slice none 0 0)) T2, ty, pos, af, none⟩ :: rest) env cs Q :=
  Ops.of fun a w d => by
    have hv := rd_raw (d.ev hx)
    have he : ∀ m', (Op.equalIn (m' + 1) T (.slice ad m cap) (.slice none 0 0)).run P w = .ok ad.isNone w := by
      intro m'
      cases ad with
      | none => simp [Op.equalIn, run_underlying hS.hT]
      | some _ => simp [Op.equalIn, run_underlying hS.hT]
    have hc : a.eval (.const (.slice none 0 0)) = .slice none 0 0 := rfl
    refine ⟨_, _, .value (.bool ad.isNone), w, ?_, .inl ⟨_, rfl, Den.put d hi (raw_self _)⟩, kont⟩
    simp [execOp, hv, hc, eqGuard, binOp, Op.equal]
    rw [show Op.maxDepth = 9999 + 1 from rfl, he]
    rfl
theorem Cw.own_none {c : Code} {cap kk E : Nat} {rows : List (List Tr)} (hp : cs.Perm (Chunk.own none cap kk E rows :: cf)) (h : rows = [] → cap = 0 → Cw P Γ c env cs Q) : Cw P Γ c env cs Q := by
  unfold Cw at h ⊢
  intro a w d
  have hh := (d.perm hp).has (List.Perm.refl _)
  generalize av Γ.M (Chunk.own none cap kk E rows :: cf) = A at hh
  unfold Chunk.own at hh
  obtain ⟨_, xs, hown, _⟩ := hh
  rcases hown.2 with ⟨e, h0⟩ | ⟨g, c2, cur, e, _⟩
  · simp only [Value.slice.injEq] at e
    exact h (List.eq_nil_of_length_eq_zero h0) e.2.2 a w d
  · simp at e
end ins
end Lg
end
section
set_option linter.all false
namespace Lg
open Go
section appo
variable {P : Program} {Γ : Ctx} {env env' : Env} {cs cs' cf : List Chunk} {Q : Post} {R : Array Oper}
variable {i : Tmp} {ty : TypeId} {pos : String} {af : Array Edge} {rest : List Oper} {x y : Operand} {T T2 : TypeId}
/-- an owned slice is put behind another one, and stays -/
theorem Ops.append_ownR {E kk bb z} [hS : TySl P T E kk bb z] {ad ad2 : Option Addr} {n cap n2 cap2 : Nat} {rows rows2 : List (List Tr)} (hx : ev env x = some (.raw (.slice ad n cap))) (hy : ev env y = some (.raw (.slice ad2 n2 cap2)))
    (hp : cs.Perm (Chunk.own ad cap kk E rows :: Chunk.own ad2 cap2 kk E rows2 :: cf)) (hn : n = rows.length) (hn2 : n2 = rows2.length) (hb : (rows.length + rows2.length) * bb ≤ 140737488355328) (hm : rows.length + rows2.length ≤ 9223372036854775807) (hi : Nat.blt i Γ.n = true)
    (kont : ∀ ad' cap', Ops P Γ R rest ((i, .raw (.slice ad' (rows ++ rows2).length cap')) :: env) (Chunk.own ad' cap' kk E (rows ++ rows2) :: Chunk.own ad2 cap2 kk E rows2 :: cf) Q) :
    Ops P Γ R (⟨some i, .call ⟨.builtin .append, #[x, y], #[T, T]⟩, ty, pos, af, none⟩ :: rest) env cs Q :=
  Ops.of fun a w d => by
    subst hn
    subst hn2
    have hv := rd_raw (d.ev hx)
    have hv2 := rd_raw (d.ev hy)
    have d' := d.perm hp
    have hh := d'.has (List.Perm.refl _)
    have hh2 := d'.has (List.Perm.swap _ _ _)
    generalize hA : av Γ.M (Chunk.own ad cap kk E rows :: Chunk.own ad2 cap2 kk E rows2 :: cf) = A at hh hh2
    unfold Chunk.own at hh hh2
    obtain ⟨hk, xs, hown, hrd⟩ := hh
    obtain ⟨hk2, xs2, hown2, hrd2⟩ := hh2
    subst hA
    obtain ⟨ti, zv, hi1, hi2, hi3, hi4, hi5, hi6⟩ := hS.hE
    have hzs : zv.cells.size = kk := hS.hz _ _ hi1 hi2
    have hm' : rows.length + rows2.length ≤ maxLen := by simp only [maxLen]; omega
    have key : ∃ v' w', (Builtin.append_ #[T, T] ty #[.slice ad rows.length cap, .slice ad2 rows2.length cap2]).run P w = .ok v' w' ∧
        w'.ownsRow 0 E kk v' (rows.length + rows2.length) (xs ++ xs2) ∧ w.grownBy w' (Value.ownBlock (.slice ad rows.length cap)) ∧ (∀ b, v'.ownBlock = some b → (Value.ownBlock (.slice ad rows.length cap)) = some b ∨ w.heap.size ≤ b) := by
      rcases hown2.2 with ⟨e, h0⟩ | ⟨g, c, cur, e, _⟩
      · simp only [Value.slice.injEq] at e
        obtain ⟨rfl, e2, rfl⟩ := e
        have hxs : xs2 = [] := by
          have := hrd2.length
          rw [flat_len hk2, h0] at this
          exact List.eq_nil_of_length_eq_zero (by omega)
        subst hxs
        rw [h0]
        exact ⟨_, w, run_append_owned_none (P := P) w 0 T ty E ti kk hS.hT hi1 _ _ xs hown, by simpa using hown, ⟨rfl, rfl, rfl, Nat.le_refl _, fun _ _ _ => rfl⟩, fun b hb => .inl hb⟩
      · simp only [Value.slice.injEq] at e
        obtain ⟨rfl, _, rfl⟩ := e
        exact append_run (P := P) (ty := ty) (a := ⟨g, 0, none⟩) (m := rows2.length) (c := cap2) (news := xs2) hS.hT hi1 hi2 hi4 hi5 hzs hi6 hown (by rw [hrd2.length]; exact flat_len hk2) (hown2.cells (g := g) rfl) hrd2.one hm' hb
    obtain ⟨v', w', hrun, hown', hgr, hfresh⟩ := key
    have hform : ∃ ad' cap', v' = .slice ad' (rows ++ rows2).length cap' := by
      rcases hown'.2 with ⟨e, h0⟩ | ⟨g, c, cur, e, _⟩
      · exact ⟨none, 0, by rw [e, List.length_append, h0]⟩
      · exact ⟨_, c, by rw [e, List.length_append]⟩
    obtain ⟨ad', cap', rfl⟩ := hform
    refine ⟨_, _, .value _, w', by simp [execOp, resolve, invoke, builtin, hv, hv2, hrun] <;> rfl, .inl ⟨_, rfl, Den.put ?_ hi (raw_self _)⟩, kont ad' cap'⟩
    refine d'.turnF (c' := Chunk.own ad' cap' kk E (rows ++ rows2)) ?_ ?_ ?_ ?_
    · intro b hb
      have hb' : Value.ownBlock (.slice ad' (rows ++ rows2).length cap') = some b := by unfold Chunk.own at hb; simpa using hb
      rcases hfresh b hb' with h | h
      · exact .inl (by unfold Chunk.own; simpa using h)
      · exact .inr ⟨h, (hown'.lt b hb').2⟩
    · have : (Chunk.own ad' cap' kk E (rows ++ rows2)).fp = (Value.ownBlock (.slice ad' (rows ++ rows2).length cap')).toList := by unfold Chunk.own; rfl
      rw [this]
      cases Value.ownBlock (.slice ad' (rows ++ rows2).length cap') <;> simp
    · exact ⟨hgr.os, hgr.tape, hgr.output, hgr.size, fun b hb hn => hgr.block b hb fun e => hn (by unfold Chunk.own; simp [← e]), fun _ => run_drawn hrun⟩
    · intro hs _
      generalize av Γ.M (Chunk.own ad' cap' kk E (rows ++ rows2) :: Chunk.own ad2 cap2 kk E rows2 :: cf) = A' at hs ⊢
      unfold Chunk.own
      refine ⟨?_, _, by simpa using hown', ?_⟩
      · intro r hr
        rcases List.mem_append.1 hr with h | h
        · exact hk r h
        · exact hk2 r h
      · rw [List.flatten_append]
        exact (hrd.mono hs).app (hrd2.mono hs)
end appo
end Lg
end
