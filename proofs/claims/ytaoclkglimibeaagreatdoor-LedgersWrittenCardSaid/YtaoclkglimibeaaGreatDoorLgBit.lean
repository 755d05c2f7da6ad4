/- A part of the proof of a law of this seat: it adds no condition. By an AI agent. -/
import Derived.Lib.Builder
import Derived.Lib.AppendStr
import Derived.Lib.UnsafeStr
import Derived.Lib.ConvBytes
import Derived.Laws.IdiomStrings
import Derived.Test.YtaoclkglimibeaaGreatDoorLgClr
section
set_option linter.all false
namespace Lg
open Go

/-! ### strings.Builder: bytes in an owned slice -/
def bytR (s : ByteArray) : List (List Tr) := s.data.toList.map fun b => [Tr.raw (.int .u8 b.toNat)]
theorem bytR_len (s : ByteArray) : (bytR s).length = s.size := by
  unfold bytR
  rw [List.length_map, Array.length_toList]
  rfl
theorem bytR_read {w : World} {A : Nat → Prop} {s : ByteArray} {xs : List Value} (h : RdC w A (bytR s).flatten xs) : xs = Lib.strCells s := by
  unfold bytR at h
  unfold Lib.strCells
  generalize s.data.toList = l at *
  induction l generalizing xs with
  | nil => exact h
  | cons b l ih =>
    obtain ⟨v, rest, rfl, h1, _, h2⟩ := h
    rw [ih h2, rd_raw h1]
    rfl
theorem bytR_rdc {w : World} {A : Nat → Prop} (s : ByteArray) : RdC w A (bytR s).flatten (Lib.strCells s) := by
  unfold bytR Lib.strCells
  generalize s.data.toList = l
  induction l with
  | nil => rfl
  | cons b l ih => exact ⟨_, _, rfl, raw_self _, rfl, ih⟩

section bld
variable {P : Program} {Γ : Ctx} {env env' : Env} {cs cs' cf : List Chunk} {Q : Post} {R : Array Oper}
variable {i : Tmp} {ty : TypeId} {pos : String} {af : Array Edge} {rest : List Oper}
variable {x y : Operand} {T T2 E : TypeId}

theorem Den.box_at {a : Act} {w : World} {b : Nat} {ts : List Tr} (d : Den Γ env cs a w) (hp : cs.Perm (Chunk.box b E ts :: cf)) : ∃ c : Array Value, w.heap[b]? = some (.cells c E (0, 0)) ∧ c.size = ts.length := by
  have h := (d.perm hp).has (List.Perm.refl _)
  generalize av Γ.M (Chunk.box b E ts :: cf) = A at h
  unfold Chunk.box at h
  obtain ⟨c, h1, h2⟩ := h
  exact ⟨c, h1, by rw [← Array.length_toList]; exact h2.length⟩
theorem OpV.toUns {b : Nat} {ts : List Tr} (h1 : P.underlying T = some (.pointer E)) (h2 : P.underlying T2 = some .unsafePointer) (h3 : ∃ j, P.info? E = some j ∧ j.size ≠ 0)
    (hx : ev env x = some (Tr.ptr b)) (hp : cs.Perm (Chunk.box b E ts :: cf)) (hl : 0 < ts.length) : OpV P Γ (.convert T T2 x) ty env cs (Tr.ptr b) := by
  unfold OpV
  intro a w d
  have hv := rd_raw (d.ev hx)
  obtain ⟨c, hb, hc⟩ := d.box_at hp
  obtain ⟨j, hj, hj0⟩ := h3
  have := Lib.run_to_unsafe (P := P) w (e := E) (cells := c.size) ⟨b, 0, none⟩ h1 h2 hj hj0 (by simp [World.shape?, hb]) (by simp; omega)
  exact ⟨_, by simp [execOp, hv, this], raw_self _⟩
theorem OpV.frUns {b n : Nat} {ts : List Tr} (h1 : P.underlying T = some .unsafePointer) (h2 : P.underlying T2 = some (.pointer E)) (h3 : ∃ j, P.info? E = some j)
    (hx : ev env x = some (Tr.ptr b)) (hp : cs.Perm (Chunk.box b E ts :: cf)) (hl : liesAt P P.depth E (n / P.cellsOf E) 0 E 1 = true) (hn : ts.length = n) : OpV P Γ (.convert T T2 x) ty env cs (Tr.ptr b) := by
  unfold OpV
  intro a w d
  have hv := rd_raw (d.ev hx)
  obtain ⟨c, hb, hc⟩ := d.box_at hp
  obtain ⟨j, hj⟩ := h3
  have := Lib.run_from_unsafe (P := P) w (e := E) (cells := c.size) ⟨b, 0, none⟩ h1 h2 hj (by simp [World.shape?, hb]) (by rw [hc, hn]; exact hl)
  exact ⟨_, by simp [execOp, hv, this], raw_self _⟩
theorem OpV.ext1 {f : FuncId} {ts : Array TypeId} {a r : Value} (hx : ev env x = some (.raw a))
    (h : ∀ w, (callFunc f #[a]).run P w = .ok (.value r) w) : OpV P Γ (.call ⟨.value (.func f), #[x], ts⟩) ty env cs (.raw r) := by
  unfold OpV
  intro ac w d
  have h1 := rd_raw (d.ev hx)
  exact ⟨r, by have hf : ac.eval (.func f) = .func (.func f) #[] #[] := rfl; simp [execOp, resolve, invoke, Deferred.ofValue, hf, h1, h w], raw_self _⟩

theorem Ops.ext1 {f : FuncId} {ts : Array TypeId} {a r : Value} (h : ∀ w, (callFunc f #[a]).run P w = .ok (.value r) w) (hx : ev env x = some (.raw a)) (hi : Nat.blt i Γ.n = true) (kk : Ops P Γ R rest ((i, .raw r) :: env) cs Q) :
    Ops P Γ R (⟨some i, .call ⟨.value (.func f), #[x], ts⟩, ty, pos, af, none⟩ :: rest) env cs Q := Ops.val' hi (OpV.ext1 hx h) kk

theorem equalIn_ptr_none {w : World} {tp te : TypeId} {j : TypeInfo} (p : Option Addr) (hp : P.underlying tp = some (.pointer te)) (hte : P.info? te = some j) (hj : j.size ≠ 0) (n : Nat) :
    (Op.equalIn (n + 1) tp (.pointer p) (.pointer none)).run P w = .ok (decide (p = none)) w := by
  cases p with
  | none => simp [Op.equalIn, run_underlying hp, Go.sizeOf, typeInfo, hte]
  | some a => simp [Op.equalIn, run_underlying hp, Go.sizeOf, typeInfo, hte, hj]
theorem eqGuard_ptr (op : BinOp) (t : TypeId) (x y : Operand) (a b : Option Addr) (w : World) : (eqGuard op t x y (.pointer a) (.pointer b)).run P w = .ok () w := by
  unfold eqGuard
  split <;> simp_all
theorem OpV.eql_pn {p : Option Addr} {b : Bool} (hb : decide (p = none) = b) (hp : P.underlying T = some (.pointer E)) (h3 : ∃ j, P.info? E = some j ∧ j.size ≠ 0) (hx : ev env x = some (.raw (.pointer p))) (hy : ev env y = some (.raw (.pointer none))) :
    OpV P Γ (.binOp .eql T x y T2) ty env cs (.bool b) := by
  unfold OpV
  intro a w d
  have hv := rd_raw (d.ev hx)
  have hv2 := rd_raw (d.ev hy)
  obtain ⟨j, hj, hj0⟩ := h3
  have := equalIn_ptr_none (w := w) p hp hj hj0 9999
  refine ⟨.bool b, ?_, raw_self _⟩
  simp only [execOp, hv, hv2, binOp]
  simp [eqGuard_ptr, Op.equal, Op.maxDepth, this, hb]
theorem OpV.neq_pp {b : Nat} (hp : P.underlying T = some (.pointer E)) (h3 : ∃ j, P.info? E = some j ∧ j.size ≠ 0) (hx : ev env x = some (Tr.ptr b)) (hy : ev env y = some (Tr.ptr b)) :
    OpV P Γ (.binOp .neq T x y T2) ty env cs (.bool false) := by
  unfold OpV
  intro a w d
  have hv := rd_raw (d.ev hx)
  have hv2 := rd_raw (d.ev hy)
  obtain ⟨j, hj, hj0⟩ := h3
  have := Lib.run_neq_ptr_same (P := P) w (te := E) ⟨b, 0, none⟩ hp hj
  refine ⟨.bool false, ?_, raw_self _⟩
  simp only [execOp, hv, hv2]
  simp [eqGuard_ptr, this]

theorem OpV.sdata_some {g n cap : Nat} {ts : Array TypeId} (hx : ev env x = some (.raw (.slice (some ⟨g, 0, none⟩) n cap))) (hc : cap ≠ 0) : OpV P Γ (.call ⟨.builtin .unsafeSliceData, #[x], ts⟩) ty env cs (Tr.ptr g) := by
  unfold OpV
  intro a w d
  have hv := rd_raw (d.ev hx)
  have := Lib.run_unsafeSliceData_row (P := P) w ts ty ⟨g, 0, none⟩ n cap hc
  exact ⟨_, by simp [execOp, resolve, invoke, builtin, hv, this], raw_self _⟩
theorem OpV.sdata_none {n cap : Nat} {ts : Array TypeId} (hx : ev env x = some (.raw (.slice none n cap))) : OpV P Γ (.call ⟨.builtin .unsafeSliceData, #[x], ts⟩) ty env cs (.raw (.pointer none)) := by
  unfold OpV
  intro a w d
  have hv := rd_raw (d.ev hx)
  have := Lib.run_unsafeSliceData_nil (P := P) w ts ty n cap
  exact ⟨_, by simp [execOp, resolve, invoke, builtin, hv, this], raw_self _⟩
theorem Ops.ustr_none {p : Option Addr} (hx : ev env x = some (.raw (.pointer p))) (hy : ev env y = some (.int 0)) (hi : Nat.blt i Γ.n = true) (kk : Ops P Γ R rest ((i, .str ⟨#[]⟩) :: env) cs Q) :
    Ops P Γ R (⟨some i, .call ⟨.builtin .unsafeString, #[x, y], #[T, T2]⟩, ty, pos, af, none⟩ :: rest) env cs Q :=
  Ops.val' hi (by
    unfold OpV
    intro a w d
    have hv := rd_raw (d.ev hx)
    have hv2 := rd_raw (d.ev hy)
    have := Lib.run_unsafeString_none (P := P) w T T2 ty p
    exact ⟨.string .empty, by simp [execOp, resolve, invoke, builtin, hv, hv2, this], raw_self _⟩) kk
theorem Ops.ustr {g cap : Nat} {s : ByteArray} {n : Int} (hT : P.underlying T = some (.pointer E)) (hE : P.cellsOf E = 1) (hx : ev env x = some (Tr.ptr g)) (hy : ev env y = some (.int n)) (hn : n = s.size) (h0 : s.size ≠ 0)
    (hp : cs.Perm (Chunk.own (some ⟨g, 0, none⟩) cap 1 E (bytR s) :: cf)) (hi : Nat.blt i Γ.n = true) (kk : Ops P Γ R rest ((i, .str s) :: env) cf Q) :
    Ops P Γ R (⟨some i, .call ⟨.builtin .unsafeString, #[x, y], #[T, T2]⟩, ty, pos, af, none⟩ :: rest) env cs Q :=
  Ops.of fun a w d => by
    subst hn
    have hv := rd_raw (d.ev hx)
    have hv2 := rd_raw (d.ev hy)
    have d' := d.perm hp
    have hh := d'.has (List.Perm.refl _)
    generalize hA : av Γ.M (_ :: cf) = A at hh
    unfold Chunk.own at hh
    obtain ⟨hk, xs, hown, hrd⟩ := hh
    clear hA
    have hxs := bytR_read hrd
    subst hxs
    have hl : s.data.toList.length = s.size := Array.length_toList
    rcases hown.2 with ⟨e, _⟩ | ⟨g', cap', cur, e, hbg, hg, hnc, hcm, hcs, htake⟩
    · cases e
    simp only [Value.slice.injEq, Option.some.injEq, Addr.mk.injEq] at e
    obtain ⟨⟨rfl, _⟩, _, rfl⟩ := e
    rw [bytR_len] at hnc
    have hcells := hown.cells (g := g) rfl
    have key := Lib.run_unsafeString_row (P := P) w T T2 ty E hT hE g cur.size (by simp [World.shape?, hg]) s.data.toList (fun e => h0 (by rw [← hl, e]; rfl)) (by rw [hl, hcs]; omega) (by rw [hl]; unfold maxLen at hcm; omega)
      (fun j u hj => by
        have := hcells j (.int .u8 u.toNat) (by unfold Lib.strCells; rw [List.getElem?_map, hj]; rfl)
        simpa using this)
    rw [hl] at key
    refine ⟨_, _, .value (.string s), w.freeze ⟨g, 0, none⟩ s.size, by simp [execOp, resolve, invoke, builtin, hv, hv2, key], .inl ⟨_, rfl, Den.put (Den.dropc (d'.turnF (w' := w.freeze ⟨g, 0, none⟩ s.size) (c' := ⟨[], fun _ _ => True, fun _ _ _ => trivial⟩) (by simp) (by simp) ?_ (fun _ _ => trivial))) hi (raw_self _)⟩, kk⟩
    unfold World.freeze
    split
    · exact Frm.refl _ _
    refine ⟨rfl, rfl, rfl, by simp, fun b hb hn => ?_, fun _ => Nat.le_refl _⟩
    have hne : g ≠ b := fun e => hn (by simp [Chunk.own, Value.ownBlock, e])
    simp [Array.getElem?_modify, hne]

theorem Ops.append_str {u : TypeId} {zs : List Value} [hS : TySl P T E 1 1 zs] (hz : (P.info? E).map (·.zero) = some (some (.int .u8 0))) {ad : Option Addr} {n cap : Nat} {t s : ByteArray} (hu : P.underlying u = some .string) (hx : ev env x = some (.raw (.slice ad n cap))) (hy : ev env y = some (.str s))
    (hp : cs.Perm (Chunk.own ad cap 1 E (bytR t) :: cf)) (hn : n = t.size) (hb : t.size + s.size ≤ 140737488355328) (hi : Nat.blt i Γ.n = true)
    (kont : ∀ ad' cap', (ad = none → t.size + s.size = 0 → ad' = none ∧ cap' = 0) → Ops P Γ R rest ((i, .raw (.slice ad' (t ++ s).size cap')) :: env) (Chunk.own ad' cap' 1 E (bytR (t ++ s)) :: cf) Q) :
    Ops P Γ R (⟨some i, .call ⟨.builtin .append, #[x, y], #[T, u]⟩, ty, pos, af, none⟩ :: rest) env cs Q :=
  Ops.of fun a w d => by
    subst hn
    have hv := rd_raw (d.ev hx)
    have hv2 := rd_raw (d.ev hy)
    have d' := d.perm hp
    have hh := d'.has (List.Perm.refl _)
    generalize hA : av Γ.M (_ :: cf) = A at hh
    unfold Chunk.own at hh
    obtain ⟨hk, xs, hown, hrd⟩ := hh
    clear hA
    have hxs := bytR_read hrd
    subst hxs
    obtain ⟨ti, zv, hi1, hi2, hi3, hi4, hi5, hi6⟩ := hS.hE
    rw [hi1] at hz
    simp only [Option.map_some, Option.some.injEq] at hz
    rw [hi2] at hz
    simp only [Option.some.injEq] at hz
    subst hz
    rw [bytR_len] at hown
    have hlim : t.size + s.size ≤ maxLen := by unfold maxLen; omega
    have hsz : (t ++ s).size = t.size + s.size := ByteArray.size_append
    have hcat : Lib.strCells t ++ Lib.strCells s = Lib.strCells (t ++ s) := by
      unfold Lib.strCells
      rw [ByteArray.data_append, Array.toList_append, List.map_append]
    have key : ∃ v' w', (Builtin.append_ #[T, u] ty #[.slice ad t.size cap, .string s]).run P w = .ok v' w' ∧ w'.ownsRow 0 E 1 v' (t.size + s.size) (Lib.strCells t ++ Lib.strCells s) ∧ w.grownBy w' (Value.ownBlock (.slice ad t.size cap)) ∧
        (∀ b, v'.ownBlock = some b → (Value.ownBlock (.slice ad t.size cap)) = some b ∨ w.heap.size ≤ b) ∧ (ad = none → t.size + s.size = 0 → v' = .slice none 0 0) := by
      rcases hown.2 with ⟨e, h0⟩ | ⟨g, cap', cur, e, hbg, hg, hnc, hcm, hcs, htake⟩
      · simp only [Value.slice.injEq] at e
        obtain ⟨rfl, _, rfl⟩ := e
        have hown' : w.ownsRow w.heap.size E 1 (.slice none t.size 0) t.size (Lib.strCells t) := ⟨hown.1, .inl ⟨by rw [h0], h0⟩⟩
        obtain ⟨v', w', hr, h2, h3, h4⟩ := Lib.run_append_own_string (P := P) w w.heap.size T u ty E ti hS.hT hu hi1 hi2 hi4 hi5 _ _ _ hown' s hlim hb (Nat.le_refl _)
        exact ⟨v', w', hr, ownsRow_base h2, h3, fun b hb => .inr (h2.lt b hb).1, fun _ h => h4.2 ⟨by rw [h0], by omega⟩⟩
      · simp only [Value.slice.injEq] at e
        obtain ⟨rfl, _, rfl⟩ := e
        obtain ⟨v', w', hr, h2, h3, h4⟩ := Lib.run_append_own_string (P := P) w 0 T u ty E ti hS.hT hu hi1 hi2 hi4 hi5 _ _ _ hown s hlim hb (Nat.zero_le _)
        refine ⟨v', w', hr, h2, h3, ?_, by simp⟩
        by_cases hroom : t.size + s.size ≤ cap
        · have hr2 := Lib.run_append_room_string (P := P) w T u ty E ti hS.hT hu hi1 hi4 g t.size cap cur hg s hroom (by omega)
          rw [hr] at hr2
          simp only [Result.ok.injEq] at hr2
          obtain ⟨rfl, _⟩ := hr2
          intro b hb
          exact .inl (by simpa [Value.ownBlock] using hb)
        · have hr2 := Lib.run_append_grow_string (P := P) w T u ty E ti (.int .u8 0) hS.hT hu hi1 hi2 ⟨g, 0, none⟩ t.size cap (Lib.strCells t) (by rw [hi4, Lib.strCells_length]; omega) (hown.cells (g := g) rfl) s (by omega) (by omega) (by rw [hi5]; exact growslice_fits (by omega) (by omega))
          rw [hr] at hr2
          simp only [Result.ok.injEq] at hr2
          obtain ⟨rfl, _⟩ := hr2
          intro b hb
          refine .inr ?_
          simp [Value.ownBlock] at hb
          omega
    obtain ⟨v', w', hrun, hown', hgr, hfresh, hnil⟩ := key
    rw [hcat, ← hsz] at hown'
    have hform : ∃ ad' cap', v' = .slice ad' (t ++ s).size cap' := by
      rcases hown'.2 with ⟨e, h0⟩ | ⟨g, c, cur, e, _⟩
      · exact ⟨none, 0, by rw [e, h0]⟩
      · exact ⟨_, c, by rw [e]⟩
    obtain ⟨ad', cap', rfl⟩ := hform
    refine ⟨_, _, .value _, w', by simp [execOp, resolve, invoke, builtin, hv, hv2, hrun], .inl ⟨_, rfl, Den.put ?_ hi (raw_self _)⟩, kont ad' cap' (fun h1 h2 => by have := hnil h1 h2; simp only [Value.slice.injEq] at this; exact ⟨this.1, this.2.2⟩)⟩
    refine d'.turnF (c' := Chunk.own ad' cap' 1 E (bytR (t ++ s))) ?_ ?_ ?_ ?_
    · intro b hb
      have hb' : Value.ownBlock (.slice ad' (t ++ s).size cap') = some b := by simpa [Chunk.own, bytR_len] using hb
      rcases hfresh b hb' with h | h
      · exact .inl (by simpa [Chunk.own, bytR_len] using h)
      · exact .inr ⟨h, (hown'.lt b hb').2⟩
    · simp only [Chunk.own]
      cases Value.ownBlock (.slice ad' (bytR (t ++ s)).length cap') <;> simp
    · exact ⟨hgr.os, hgr.tape, hgr.output, hgr.size, fun b hb hn => hgr.block b hb fun e => hn (by simp [Chunk.own, bytR_len, ← e]), fun _ => run_drawn hrun⟩
    · intro hs _
      unfold Chunk.own
      refine ⟨?_, _, by rw [bytR_len]; exact hown', bytR_rdc _⟩
      intro r hr
      unfold bytR at hr
      obtain ⟨_, _, rfl⟩ := List.mem_map.1 hr
      rfl
end bld
end Lg
end
section
set_option linter.all false
set_option maxRecDepth 100000
namespace Lg
open Go Go.RowKit

/-! ### bytes: conversions between strings and slices of bytes; bits -/
section
variable {P : Program} {Γ : Ctx} {env env' : Env} {cs cs' cf : List Chunk} {Q : Post} {R : Array Oper}
variable {i : Tmp} {ty : TypeId} {pos : String} {af : Array Edge} {rest : List Oper}
variable {x y z : Operand} {T T2 : TypeId} {k : IntKind} {p q : Int} {s u : ByteArray}
theorem rdc_bytes {w : World} {A : Nat → Prop} : ∀ l : List UInt8, RdC w A (l.map fun b => Tr.raw (.int .u8 b.toNat)) (l.map fun b => Value.int .u8 b.toNat)
  | [] => rfl
  | b :: l => rdc_rawv rfl (rdc_bytes l)
theorem bytR_flat (s : ByteArray) : (bytR s).flatten = s.data.toList.map fun b => Tr.raw (.int .u8 b.toNat) := by
  unfold bytR
  induction s.data.toList with
  | nil => rfl
  | cons b l ih => rw [List.map_cons, List.flatten_cons, ih]; rfl
theorem Ops.convSB {E : TypeId} {d1 : TypeDesc} (hT : P.underlying T = some d1) (h2 : P.underlying T2 = some (.slice E)) (hE : P.underlying E = some (.int .u8)) (hx : ev env x = some (.str s)) (hs : s.size ≤ 1000000000) (hi : Nat.blt i Γ.n = true)
    (kk : Ops P Γ R rest ((i, .sl 1 (bytR s)) :: env) cs Q) : Ops P Γ R (⟨some i, .convert T T2 x, ty, pos, af, none⟩ :: rest) env cs Q :=
  Ops.of fun a w d => by
    have hv := rd_raw (d.ev hx)
    have hrun := Lib.run_convert_string_bytes (P := P) w T T2 E s hT h2 hE
    have hnot : w.heap.size ∉ fps cs := fun h => Nat.lt_irrefl _ (d.fresh _ h).1
    have hM : ¬ Γ.M w.heap.size := fun h => Nat.lt_irrefl _ (Nat.lt_of_lt_of_le (d.below _ h) d.frame.size)
    have hsame : SameOn w (Lib.bytesWorld w E s) (av Γ.M cs) (av Γ.M cs) := fun b hb h => ⟨h, Lib.bytesWorld_at_old w E s b hb⟩
    have d2 : Den Γ env cs a (Lib.bytesWorld w E s) := d.world hsame (fun c hc => c.mono (fun b _ hlt => Lib.bytesWorld_at_old w E s b hlt) hsame (d.chunks c hc)) d.nodup
      (fun b hb => by
        obtain ⟨h1, h2, h3⟩ := d.fresh b hb
        exact ⟨by rw [Lib.bytesWorld_size]; omega, h2, h3⟩)
      ⟨rfl, rfl, rfl, by rw [Lib.bytesWorld_size]; omega, fun b hb _ => Lib.bytesWorld_at_old w E s b hb, fun _ => Nat.le_succ _⟩
    refine ⟨_, _, .value _, _, by simp [execOp, hv, hrun] <;> rfl, .inl ⟨_, rfl, Den.put d2 hi ?_⟩, kk⟩
    unfold Tr.sl
    have hl := bytR_len s
    refine ⟨fun r hr => by unfold bytR at hr; obtain ⟨b, _, rfl⟩ := List.mem_map.1 hr; rfl, by rw [hl]; unfold maxLen; omega, _, _, by rw [hl], by rw [hl]; exact grownCap_ge w s.size 0 E, grownCap_le_maxLen w s.size 0 E (by unfold maxLen; omega), fun h => absurd h (by simp), .inr ⟨_, 0, rfl, ⟨hM, hnot⟩, _, _, _, Lib.bytesWorld_at_new w E s, ?_⟩⟩
    rw [bytR_flat, List.length_map, List.drop_zero]
    unfold Lib.bytesCells
    rw [Array.toList_append, List.take_append_of_le_length (by simp), List.take_of_length_le (by simp), Array.toList_map]
    exact rdc_bytes _
theorem OpV.binG {op : BinOp} {a b r : Value} (hx : ev env x = some (.raw a)) (hy : ev env y = some (.raw b)) (h1 : op ≠ .eql) (h2 : op ≠ .neq) (hb : binOp op T a b = pure r) : OpV P Γ (.binOp op T x y T2) ty env cs (.raw r) := by
  unfold OpV
  intro ac w d
  have e1 := rd_raw (d.ev hx)
  have e2 := rd_raw (d.ev hy)
  have h4 : (eqGuard op T x y a b).run P w = .ok () w := by
    unfold eqGuard
    cases op <;> first | (exact absurd rfl h1) | (exact absurd rfl h2) | simp
  exact ⟨r, by simp [execOp, e1, e2, h4, hb], raw_self _⟩
theorem OpV.shr4 (hx : ev env x = some (.raw (.int .u8 p))) (hy : ev env y = some (.raw (.int .u64 4))) (h : 0 ≤ p ∧ p ≤ 255) : OpV P Γ (.binOp .shr T x y T2) ty env cs (.raw (.int .u8 (p / 16))) :=
  OpV.binG hx hy (by decide) (by decide) (by
    rw [binOp_shr]
    have e : p.fdiv 16 = p / 16 := Int.fdiv_eq_ediv_of_nonneg p (by omega)
    simp [Op.shift, IntKind.bits, e])
end
end Lg
end
section
set_option linter.all false
set_option maxRecDepth 100000
namespace Lg
open Go

/-! ### bits of whole numbers of any kind -/
section
variable {P : Program} {Γ : Ctx} {env env' : Env} {cs cs' cf : List Chunk} {Q : Post} {R : Array Oper}
variable {x y : Operand} {T T2 ty : TypeId} {k : IntKind} {p q : Int}
theorem OpV.bAnd (hx : ev env x = some (.raw (.int k p))) (hy : ev env y = some (.raw (.int k q))) : OpV P Γ (.binOp .and T x y T2) ty env cs (.raw (.int k (bits .and k p q))) :=
  OpV.binG hx hy (by decide) (by decide) (by rw [binOp_and, intBits_and])
theorem OpV.bOr (hx : ev env x = some (.raw (.int k p))) (hy : ev env y = some (.raw (.int k q))) : OpV P Γ (.binOp .or T x y T2) ty env cs (.raw (.int k (bits .or k p q))) :=
  OpV.binG hx hy (by decide) (by decide) (by rw [binOp_or, intBits_or])
theorem OpV.bShl {k2 : IntKind} (hx : ev env x = some (.raw (.int k p))) (hy : ev env y = some (.raw (.int k2 q))) (h : 0 ≤ q ∧ q ≤ k.bits) : OpV P Γ (.binOp .shl T x y T2) ty env cs (.raw (.int k (k.wrap (p * 2 ^ q.toNat)))) :=
  OpV.binG hx hy (by decide) (by decide) (by rw [binOp_shl, shift_shl k k2 p q h.1 h.2])
end
end Lg
end
