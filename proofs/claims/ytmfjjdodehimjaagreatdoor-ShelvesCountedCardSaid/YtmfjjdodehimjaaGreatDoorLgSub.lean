/- A part of the proof of a law of this seat: it adds no condition. By an AI agent. -/
import Derived.Lib.Overlaps
import Derived.Lib.AppendZerosOnto
import Derived.Test.YtmfjjdodehimjaaGreatDoorLgB
section
set_option linter.all false
namespace Lg
open Go

/-! ### copies into owned slices; an element is put into an owned slice -/
section ins
variable {P : Program} {Γ : Ctx} {env env' : Env} {cs cs' cf : List Chunk} {Q : Post} {R : Array Oper} {a : Act} {w : World}
variable {i : Tmp} {ty : TypeId} {pos : String} {af : Array Edge} {rest : List Oper} {x y z : Operand} {T T2 : TypeId} {k : IntKind} {p q : Int}

/-- a slice with elements has an address, and room for them -/
theorem Cw.own_form {c : Code} {ad : Option Addr} {cap kk E : Nat} {rows : List (List Tr)} (hp : cs.Perm (Chunk.own ad cap kk E rows :: cf)) (hne : 0 < rows.length)
    (h : ∀ g, ad = some ⟨g, 0, none⟩ → rows.length ≤ cap → cap ≤ maxLen → Cw P Γ c env cs Q) : Cw P Γ c env cs Q := by
  unfold Cw at h ⊢
  intro a w d
  have hh := (d.perm hp).has (List.Perm.refl _)
  generalize av Γ.M (Chunk.own ad cap kk E rows :: cf) = A at hh
  unfold Chunk.own at hh
  obtain ⟨_, xs, hown, _⟩ := hh
  rcases hown.2 with ⟨e, h0⟩ | ⟨g, c2, cur, e, _, _, h1, h2, _⟩
  · omega
  · simp only [Value.slice.injEq] at e
    obtain ⟨rfl, _, rfl⟩ := e
    exact h g rfl h1 h2 a w d
theorem Ops.own_form {l : List Oper} {ad : Option Addr} {cap kk E : Nat} {rows : List (List Tr)} (hp : cs.Perm (Chunk.own ad cap kk E rows :: cf)) (hne : 0 < rows.length)
    (h : ∀ g, ad = some ⟨g, 0, none⟩ → rows.length ≤ cap → cap ≤ maxLen → Ops P Γ R l env cs Q) : Ops P Γ R l env cs Q := by
  unfold Ops at h ⊢
  intro a w d
  have hh := (d.perm hp).has (List.Perm.refl _)
  generalize av Γ.M (Chunk.own ad cap kk E rows :: cf) = A at hh
  unfold Chunk.own at hh
  obtain ⟨_, xs, hown, _⟩ := hh
  rcases hown.2 with ⟨e, h0⟩ | ⟨g, c2, cur, e, _, _, h1, h2, _⟩
  · omega
  · simp only [Value.slice.injEq] at e
    obtain ⟨rfl, _, rfl⟩ := e
    exact h g rfl h1 h2 a w d
theorem Cw.own_cap {c : Code} {ad : Option Addr} {cap kk E : Nat} {rows : List (List Tr)} (hp : cs.Perm (Chunk.own ad cap kk E rows :: cf))
    (h : rows.length ≤ cap → cap ≤ maxLen → Cw P Γ c env cs Q) : Cw P Γ c env cs Q := by
  unfold Cw at h ⊢
  intro a w d
  have hh := (d.perm hp).has (List.Perm.refl _)
  generalize av Γ.M (Chunk.own ad cap kk E rows :: cf) = A at hh
  unfold Chunk.own at hh
  obtain ⟨_, xs, hown, _⟩ := hh
  rcases hown.2 with ⟨e, h0⟩ | ⟨g, c2, cur, e, _, _, h1, h2, _⟩
  · simp only [Value.slice.injEq] at e
    exact h (by omega) (by rw [e.2.2]; exact Nat.zero_le _) a w d
  · simp only [Value.slice.injEq] at e
    obtain ⟨rfl, _, rfl⟩ := e
    exact h h1 h2 a w d

theorem OpV.shr1 (hx : ev env x = some (.raw (.int .u64 p))) (hy : ev env y = some (.raw (.int .u64 1))) : OpV P Γ (.binOp .shr T x y T2) ty env cs (.raw (.int .u64 (p / 2))) :=
  OpV.bin hx hy (by
    rw [binOp_shr]
    have e : p.fdiv 2 = p / 2 := Int.fdiv_eq_ediv_of_nonneg p (by omega)
    simp [Op.shift, IntKind.bits, e])
theorem Ops.shr1 (hx : ev env x = some (.raw (.int .u64 p))) (hy : ev env y = some (.raw (.int .u64 1))) (hi : Nat.blt i Γ.n = true)
    (kk : Ops P Γ R rest ((i, .raw (.int .u64 (p / 2))) :: env) cs Q) : Ops P Γ R (⟨some i, .binOp .shr T x y T2, ty, pos, af, none⟩ :: rest) env cs Q := Ops.val' hi (OpV.shr1 hx hy) kk

/-! slices of a slice's value: nobody's memory changes -/
theorem OpV.sliceR_l {E kk bb zs} [hS : TySl P T E kk bb zs] {g o n cap : Nat} (hx : ev env x = some (.raw (.slice (some ⟨g, o, none⟩) n cap))) (hy : ev env y = some (.raw (.int k p))) (h0 : 0 ≤ p ∧ p ≤ n) (hc : p < cap) : OpV P Γ (.slice T x (some y) none none) ty env cs (.raw (.slice (some ⟨g, o + p.toNat * kk, none⟩) (n - p.toNat) (cap - p.toNat))) := by
  unfold OpV
  intro a w d
  have hv := rd_raw (d.ev hx)
  have hq := rd_raw (d.ev hy)
  have hrun := run_slice_parts (P := P) (t := T) (kk := kk) (a := some ⟨g, o, none⟩) (bounds_l (P := P) (k := k) (w := w) (len := n) (cap := cap) h0.1 h0.2)
  rw [if_neg (show ¬ cap = p.toNat by omega)] at hrun
  simp only [Option.map_some, add_plain] at hrun
  exact ⟨_, by simp [execOp, hv, hq, hrun] <;> rfl, raw_self _⟩
theorem Ops.sliceR_l {E kk bb zs} [hS : TySl P T E kk bb zs] {g o n cap : Nat} (hx : ev env x = some (.raw (.slice (some ⟨g, o, none⟩) n cap))) (hy : ev env y = some (.raw (.int k p))) (h0 : 0 ≤ p ∧ p ≤ n) (hc : p < cap) (hi : Nat.blt i Γ.n = true)
    (kont : Ops P Γ R rest ((i, .raw (.slice (some ⟨g, o + p.toNat * kk, none⟩) (n - p.toNat) (cap - p.toNat))) :: env) cs Q) : Ops P Γ R (⟨some i, .slice T x (some y) none none, ty, pos, af, none⟩ :: rest) env cs Q :=
  Ops.val' hi (OpV.sliceR_l hx hy h0 hc) kont
theorem OpV.sliceR_h {E kk bb zs} [hS : TySl P T E kk bb zs] {g o n cap : Nat} (hx : ev env x = some (.raw (.slice (some ⟨g, o, none⟩) n cap))) (hz : ev env z = some (.raw (.int k q))) (h0 : 0 ≤ q ∧ q ≤ cap) : OpV P Γ (.slice T x none (some z) none) ty env cs (.raw (.slice (some ⟨g, o, none⟩) q.toNat cap)) := by
  unfold OpV
  intro a w d
  have hv := rd_raw (d.ev hx)
  have hq := rd_raw (d.ev hz)
  have hrun := run_slice_parts (P := P) (t := T) (kk := kk) (a := some ⟨g, o, none⟩) (bounds_h (P := P) (k := k) (w := w) (len := n) (cap := cap) h0.1 h0.2)
  have hval : (if cap = 0 then (some ⟨g, o, none⟩ : Option Addr) else (some ⟨g, o, none⟩ : Option Addr).map (·.add (0 * kk))) = some ⟨g, o, none⟩ := by
    split
    · rfl
    · simp [Addr.add]
  rw [hval] at hrun
  exact ⟨.slice (some ⟨g, o, none⟩) q.toNat cap, by simp [execOp, hv, hq, hrun], raw_self _⟩
theorem Ops.sliceR_h {E kk bb zs} [hS : TySl P T E kk bb zs] {g o n cap : Nat} (hx : ev env x = some (.raw (.slice (some ⟨g, o, none⟩) n cap))) (hz : ev env z = some (.raw (.int k q))) (h0 : 0 ≤ q ∧ q ≤ cap) (hi : Nat.blt i Γ.n = true)
    (kont : Ops P Γ R rest ((i, .raw (.slice (some ⟨g, o, none⟩) q.toNat cap)) :: env) cs Q) : Ops P Γ R (⟨some i, .slice T x none (some z) none, ty, pos, af, none⟩ :: rest) env cs Q :=
  Ops.val' hi (OpV.sliceR_h hx hz h0) kont
theorem Ops.sliceR_any {E kk bb zs} [hS : TySl P T E kk bb zs] {ad : Option Addr} {n cap : Nat} (hx : ev env x = some (.raw (.slice ad n cap))) (hy : ev env y = some (.raw (.int k p))) (h0 : 0 ≤ p ∧ p ≤ n) (hi : Nat.blt i Γ.n = true)
    (kont : Ops P Γ R rest ((i, Tr.any) :: env) cs Q) : Ops P Γ R (⟨some i, .slice T x (some y) none none, ty, pos, af, none⟩ :: rest) env cs Q :=
  Ops.of fun a w d => by
    have hv := rd_raw (d.ev hx)
    have hq := rd_raw (d.ev hy)
    have hrun := run_slice_parts (P := P) (t := T) (kk := kk) (a := ad) (bounds_l (P := P) (k := k) (w := w) (len := n) (cap := cap) h0.1 h0.2)
    exact ⟨_, _, .value _, w, by simp [execOp, hv, hq, hrun] <;> rfl, .inl ⟨_, rfl, Den.put d hi (by unfold Tr.any; trivial)⟩, kont⟩

/-- the kit's run of copy, for elements of several cells -/
theorem run_copy_rowK (w : World) (dT sT ty elem : TypeId) (kk m : Nat) (g o dLen dCap : Nat) (a : Addr) (sLen sCap : Nat) (cur : Array Value) (t : TypeId) (cs : List Value)
    (hu : P.underlying dT = some (.slice elem)) (hs : ∃ i, P.info? elem = some i ∧ i.size = kk)
    (hg : w.heap[g]? = some (.cells cur t (0, 0))) (hm : Nat.min sLen dLen = m) (hn : cs.length = m * kk)
    (hsrc : ∀ j v, cs[j]? = some v → w.cell? (a.add j) = some v) (hfit : o + cs.length ≤ cur.size) (h1 : ∀ v ∈ cs, v.oneCell' = true) :
    (Builtin.copy_ #[dT, sT] ty #[.slice (some ⟨g, o, none⟩) dLen dCap, .slice (some a) sLen sCap]).run P w =
      .ok (goInt m) (w.setRow g (cur.toList.take o ++ cs ++ cur.toList.drop (o + cs.length)).toArray) := by
  obtain ⟨i, hq, hi⟩ := hs
  have hl := run_loadCells_list (P := P) w a cs hsrc
  have hst := run_storeCells_at P g o t cs 0 cur w hg (by simpa using hfit) h1
  subst hm
  simp [Builtin.copy_, run_underlying hu, Builtin.lenOf, Builtin.firstCells, Go.sizeOf, typeInfo, hq, hi, ← hn, hl, hst]

/-- elements are laid into the block of an owned slice, from the p-th on; it may grow into its spare room -/
theorem Den.lay {g cap kk E pn : Nat} {rows new : List (List Tr)} {vs : List Value} (d : Den Γ env (Chunk.own (some ⟨g, 0, none⟩) cap kk E rows :: cf) a w)
    (hp : pn ≤ rows.length) (hc : pn + new.length ≤ cap) (hk : ∀ r ∈ new, r.length = kk) (hr : RdC w (av Γ.M (Chunk.own (some ⟨g, 0, none⟩) cap kk E rows :: cf)) new.flatten vs) :
    ∃ cur, w.heap[g]? = some (.cells cur E (0, 0)) ∧ pn * kk + vs.length ≤ cur.size ∧ vs.length = new.length * kk ∧
      Den Γ env (Chunk.own (some ⟨g, 0, none⟩) cap kk E (rows.take pn ++ new ++ rows.drop (pn + new.length)) :: cf) a (w.setRow g (cur.toList.take (pn * kk) ++ vs ++ cur.toList.drop (pn * kk + vs.length)).toArray) := by
  have hh := d.has (List.Perm.refl _)
  have hvl : vs.length = new.length * kk := by rw [hr.length, flat_len hk]
  have hh2 := hh
  generalize hA : av Γ.M (Chunk.own (some ⟨g, 0, none⟩) cap kk E rows :: cf) = A at hh2
  unfold Chunk.own at hh2
  obtain ⟨hkr, xs, hown, hrd⟩ := hh2
  rcases hown.2 with ⟨e, h0⟩ | ⟨g', c2, cur, e, h1, hg, h2, h3, h4, h5⟩
  · simp at e
  simp only [Value.slice.injEq, Option.some.injEq, Addr.mk.injEq] at e
  obtain ⟨⟨rfl, _⟩, _, rfl⟩ := e
  have hle : pn * kk + vs.length ≤ cap * kk := by rw [hvl, ← Nat.add_mul]; exact Nat.mul_le_mul_right _ hc
  have hfpE : ∀ rs, (Chunk.own (some ⟨g, 0, none⟩) cap kk E rs).fp = [g] := fun rs => by unfold Chunk.own; rfl
  refine ⟨cur, hg, by omega, hvl, ?_⟩
  refine d.turn (by rw [hfpE, hfpE]) (fun b hb hn => ?_) (setRow_size _ _ _) (setRow_os _ _ _) (setRow_tape _ _ _) (setRow_output _ _ _) fun hs _ => ?_
  · rw [hfpE] at hn
    exact setRow_other _ _ _ _ (by simpa using hn)
  have hrn := hrd
  rw [← hA] at hrn
  generalize hA2 : av Γ.M (Chunk.own (some ⟨g, 0, none⟩) cap kk E (rows.take pn ++ new ++ rows.drop (pn + new.length)) :: cf) = A2 at hs
  unfold Chunk.own
  have hlen : (rows.take pn ++ new ++ rows.drop (pn + new.length)).length = pn + new.length + (rows.length - (pn + new.length)) := by
    simp only [List.length_append, List.length_take, List.length_drop]
    omega
  have hl2 : pn + new.length + (rows.length - (pn + new.length)) ≤ cap := by omega
  refine ⟨?_, xs.take (pn * kk) ++ vs ++ xs.drop ((pn + new.length) * kk), ?_, ?_⟩
  · intro r hr
    simp only [List.mem_append] at hr
    rcases hr with (h | h) | h
    · exact hkr r (List.mem_of_mem_take h)
    · exact hk r h
    · exact hkr r (List.mem_of_mem_drop h)
  · have hxl := hown.1
    have hpk : pn * kk ≤ rows.length * kk := Nat.mul_le_mul_right _ hp
    have hdrop : xs.drop ((pn + new.length) * kk) = (cur.toList.drop (pn * kk + vs.length)).take ((rows.length - (pn + new.length)) * kk) := by
      rw [← h5, List.drop_take, hvl, ← Nat.add_mul, Nat.sub_mul]
    have htake : xs.take (pn * kk) = cur.toList.take (pn * kk) := by rw [← h5, List.take_take, Nat.min_eq_left hpk]
    have hcl : cur.toList.length = cap * kk := by rw [Array.length_toList]; exact h4
    have htl : (cur.toList.take (pn * kk)).length = pn * kk := by rw [List.length_take, hcl]; omega
    refine ⟨?_, .inr ⟨g, cap, _, by rw [hlen], Nat.zero_le _, setRow_heap w g cur _ E (0, 0) hg, by rw [hlen]; exact hl2, h3, ?_, ?_⟩⟩
    · rw [hlen]
      simp only [List.length_append, List.length_take, List.length_drop, hxl, hvl, Nat.add_mul, Nat.sub_mul]
      omega
    · simp only [List.size_toArray, List.length_append, htl, List.length_drop, hcl]
      omega
    · rw [hlen, htake, hdrop, List.toList_toArray, List.append_assoc, List.append_assoc, List.take_append, htl, List.take_append]
      have e1 : (pn + new.length + (rows.length - (pn + new.length))) * kk - pn * kk = vs.length + (rows.length - (pn + new.length)) * kk := by
        rw [hvl, Nat.add_mul, Nat.add_mul]; omega
      rw [e1, List.take_of_length_le (l := cur.toList.take (pn * kk)) (by rw [htl, Nat.add_mul, Nat.add_mul]; omega), List.take_of_length_le (l := vs) (by omega), Nat.add_sub_cancel_left]
  · rw [List.flatten_append, List.flatten_append, flatten_take hkr, flatten_drop hkr]
    exact ((hrn.take _).mono hs).app (hr.mono hs) |>.app ((hrn.drop _).mono hs)

theorem own_cells {A : Nat → Prop} {g cap kk E : Nat} {rows : List (List Tr)} (h : (Chunk.own (some ⟨g, 0, none⟩) cap kk E rows).holds w A) :
    ∃ xs, RdC w A rows.flatten xs ∧ (∀ r ∈ rows, r.length = kk) ∧ ∀ j u, xs[j]? = some u → w.cell? ⟨g, j, none⟩ = some u := by
  unfold Chunk.own at h
  obtain ⟨hkr, xs, hown, hrd⟩ := h
  refine ⟨xs, hrd, hkr, fun j u hj => ?_⟩
  have := hown.cells (g := g) rfl j u hj
  rwa [add_plain, Nat.zero_add] at this

/-- copy(s[j+1:], s[j:]): what stands from j on moves up by one -/
theorem Ops.copy_shift {E kk bb zs} [hS : TySl P T E kk bb zs] {g cap j o1 o2 dl dc sl sc : Nat} {rows : List (List Tr)}
    (hx : ev env x = some (.raw (.slice (some ⟨g, o1, none⟩) dl dc))) (hy : ev env y = some (.raw (.slice (some ⟨g, o2, none⟩) sl sc)))
    (hp : cs.Perm (Chunk.own (some ⟨g, 0, none⟩) cap kk E rows :: cf)) (ho1 : o1 = (j + 1) * kk) (ho2 : o2 = j * kk) (hj : j < rows.length) (hdl : dl = rows.length - j) (hsl : rows.length - j ≤ sl) (hcap : rows.length + 1 ≤ cap) (hi : Nat.blt i Γ.n = true)
    (kont : Ops P Γ R rest ((i, .int ((rows.length - j : Nat) : Int)) :: env) (Chunk.own (some ⟨g, 0, none⟩) cap kk E (rows.take (j + 1) ++ rows.drop j) :: cf) Q) :
    Ops P Γ R (⟨some i, .call ⟨.builtin .copy, #[x, y], #[T, T]⟩, ty, pos, af, none⟩ :: rest) env cs Q :=
  Ops.of fun a w d => by
    have hv := rd_raw (d.ev hx)
    have hv2 := rd_raw (d.ev hy)
    have d' := d.perm hp
    obtain ⟨xs, hrd, hkr, hcell⟩ := own_cells (d'.has (List.Perm.refl _))
    have hr := hrd.drop (j * kk)
    rw [← flatten_drop hkr] at hr
    obtain ⟨cur, hg, hfit, hvl, hden⟩ := d'.lay (pn := j + 1) (new := rows.drop j) (by omega) (by rw [List.length_drop]; omega) (fun r hr => hkr r (List.mem_of_mem_drop hr)) hr
    obtain ⟨ti, zv, h1, h2, h3, h4, _⟩ := hS.hE
    have hvl := hvl.trans (by rw [List.length_drop] : (rows.drop j).length * kk = (rows.length - j) * kk)
    have hrun := run_copy_rowK (P := P) w T T ty E kk (rows.length - j) g o1 dl dc ⟨g, o2, none⟩ sl sc cur E (xs.drop (j * kk)) hS.hT ⟨ti, h1, h4⟩ hg (by rw [hdl]; exact Nat.min_eq_right hsl) hvl
      (fun m u hm => by rw [List.getElem?_drop] at hm; rw [add_plain, ho2]; exact hcell _ _ hm) (by rw [ho1]; exact hfit) hr.one
    rw [ho1] at hrun hv
    rw [show rows.drop (j + 1 + (rows.drop j).length) = [] from List.drop_of_length_le (by rw [List.length_drop]; omega), List.append_nil] at hden
    exact ⟨_, _, .value _, _, by simp [execOp, resolve, invoke, builtin, hv, hv2, hrun] <;> rfl, .inl ⟨_, rfl, Den.put hden hi (raw_self _)⟩, kont⟩
/-- copy(s[j:], l) of one element -/
theorem Ops.copy_one {E kk bb zs} [hS : TySl P T E kk bb zs] {g cap j o1 dl dc : Nat} {rows : List (List Tr)} {row : List Tr}
    (hx : ev env x = some (.raw (.slice (some ⟨g, o1, none⟩) dl dc))) (hy : ev env y = some (.sl kk [row]))
    (hp : cs.Perm (Chunk.own (some ⟨g, 0, none⟩) cap kk E rows :: cf)) (ho1 : o1 = j * kk) (hj : j < rows.length) (hcap : rows.length ≤ cap) (hdl : 0 < dl) (hi : Nat.blt i Γ.n = true)
    (kont : Ops P Γ R rest ((i, .int 1) :: env) (Chunk.own (some ⟨g, 0, none⟩) cap kk E (rows.set j row) :: cf) Q) :
    Ops P Γ R (⟨some i, .call ⟨.builtin .copy, #[x, y], #[T, T]⟩, ty, pos, af, none⟩ :: rest) env cs Q :=
  Ops.of fun a w d => by
    have hv := rd_raw (d.ev hx)
    have d' := d.perm hp
    have hsl := d.ev hy
    rw [av_perm hp Γ.M] at hsl
    unfold Tr.sl at hsl
    obtain ⟨hk2, hl2, ad2, cap2, hv2, g1, g2, g3, g4⟩ := hsl
    rcases g4 with g4 | ⟨b, off, rfl, hc⟩
    · cases g4
    obtain ⟨vs, hvs, hcell⟩ := rdc_at hc
    obtain ⟨cur, hg, hfit, hvl, hden⟩ := d'.lay (pn := j) (new := [row]) (by omega) (by simp only [List.length_cons, List.length_nil]; omega) hk2 hvs
    obtain ⟨ti, zv, h1, h2, h3, h4, _⟩ := hS.hE
    have hrun := run_copy_rowK (P := P) w T T ty E kk 1 g o1 dl dc ⟨b, off, none⟩ [row].length cap2 cur E vs hS.hT ⟨ti, h1, h4⟩ hg (by simp only [List.length_cons, List.length_nil]; exact Nat.min_eq_left hdl) hvl hcell (by rw [ho1]; exact hfit) hvs.one
    rw [ho1] at hrun hv
    have hl1 : [row].length = 1 := rfl
    rw [hl1] at hrun hv2
    have e : rows.take j ++ [row] ++ rows.drop (j + [row].length) = rows.set j row := by
      rw [List.set_eq_take_append_cons_drop, if_pos hj]
      simp
    rw [e] at hden
    exact ⟨_, _, .value _, _, by simp [execOp, resolve, invoke, builtin, hv, hv2, hrun] <;> rfl, .inl ⟨_, rfl, Den.put hden hi (raw_self _)⟩, kont⟩
/-- copy(s[j:], t[l:]): the end of another owned slice -/
theorem Ops.copy_end {E kk bb zs} [hS : TySl P T E kk bb zs] {g g2 cap cap2 j l o1 o2 dl dc sl sc : Nat} {rows rows2 : List (List Tr)}
    (hx : ev env x = some (.raw (.slice (some ⟨g, o1, none⟩) dl dc))) (hy : ev env y = some (.raw (.slice (some ⟨g2, o2, none⟩) sl sc)))
    (hp : cs.Perm (Chunk.own (some ⟨g, 0, none⟩) cap kk E rows :: Chunk.own (some ⟨g2, 0, none⟩) cap2 kk E rows2 :: cf)) (ho1 : o1 = j * kk) (ho2 : o2 = l * kk) (hj : j ≤ rows.length) (hcap : rows.length ≤ cap) (hdl : dl = rows.length - j) (hsl : sl = rows2.length - l) (hjl : rows.length - j = rows2.length - l) (hi : Nat.blt i Γ.n = true)
    (kont : Ops P Γ R rest ((i, .int ((rows.length - j : Nat) : Int)) :: env) (Chunk.own (some ⟨g, 0, none⟩) cap kk E (rows.take j ++ rows2.drop l) :: Chunk.own (some ⟨g2, 0, none⟩) cap2 kk E rows2 :: cf) Q) :
    Ops P Γ R (⟨some i, .call ⟨.builtin .copy, #[x, y], #[T, T]⟩, ty, pos, af, none⟩ :: rest) env cs Q :=
  Ops.of fun a w d => by
    have hv := rd_raw (d.ev hx)
    have hv2 := rd_raw (d.ev hy)
    have d' := d.perm hp
    obtain ⟨xs, hrd, hkr, hcell⟩ := own_cells (d'.has (List.Perm.swap _ _ _))
    have hr := hrd.drop (l * kk)
    rw [← flatten_drop hkr] at hr
    obtain ⟨cur, hg, hfit, hvl, hden⟩ := d'.lay (pn := j) (new := rows2.drop l) hj (by rw [List.length_drop]; omega) (fun r hr => hkr r (List.mem_of_mem_drop hr)) hr
    obtain ⟨ti, zv, h1, h2, h3, h4, _⟩ := hS.hE
    have hvl := hvl.trans (by rw [List.length_drop, ← hjl] : (rows2.drop l).length * kk = (rows.length - j) * kk)
    have hrun := run_copy_rowK (P := P) w T T ty E kk (rows.length - j) g o1 dl dc ⟨g2, o2, none⟩ sl sc cur E (xs.drop (l * kk)) hS.hT ⟨ti, h1, h4⟩ hg (by rw [hdl, hsl, ← hjl]; exact Nat.min_self _) hvl
      (fun m u hm => by rw [List.getElem?_drop] at hm; rw [add_plain, ho2]; exact hcell _ _ hm) (by rw [ho1]; exact hfit) hr.one
    rw [ho1] at hrun hv
    rw [show rows.drop (j + (rows2.drop l).length) = [] from List.drop_of_length_le (by rw [List.length_drop]; omega), List.append_nil] at hden
    exact ⟨_, _, .value _, _, by simp [execOp, resolve, invoke, builtin, hv, hv2, hrun] <;> rfl, .inl ⟨_, rfl, Den.put hden hi (raw_self _)⟩, kont⟩
/-- append(s[:j], make(S, m)...) where there is no room: a new slice; the old one stays -/
theorem Ops.append_zeros_own {E kk bb : Nat} {zs : List Value} [hS : TySl P T E kk bb zs] {kn : IntKind} {g cap j m : Nat} {rows : List (List Tr)} {q : Int} (hT2 : P.underlying T2 = some (.int kn)) (hx : ev env x = some (.raw (.slice (some ⟨g, 0, none⟩) j cap))) (hy : ev env y = some (.int q)) (hq : q = m)
    (hp : cs.Perm (Chunk.own (some ⟨g, 0, none⟩) cap kk E rows :: cf)) (hj : j ≤ rows.length) (hg : cap < j + m) (h0 : 0 < m) (hb : (j + m) * bb ≤ 140737488355328) (hm : j + m ≤ 100000000000) (hi : Nat.blt i Γ.n = true)
    (kont : ∀ ad' cap', Ops P Γ R rest ((i, .raw (.slice ad' (j + m) cap')) :: env) (Chunk.own ad' cap' kk E (rows.take j ++ List.replicate m (zs.map Tr.raw)) :: Chunk.own (some ⟨g, 0, none⟩) cap kk E rows :: cf) Q) : Ops P Γ R (⟨some i, .call ⟨.builtin .append, #[x, y], #[T, T2]⟩, ty, pos, af, none⟩ :: rest) env cs Q :=
  Ops.of fun a w d => by
    subst hq
    have hv := rd_raw (d.ev hx)
    have hv2 := rd_raw (d.ev hy)
    have d' := d.perm hp
    obtain ⟨xs, hrd, hkr, hcell⟩ := own_cells (d'.has (List.Perm.refl _))
    obtain ⟨ti, zv, h1, h2, h3, h4, h5, h6⟩ := hS.hE
    have hzs : zv.cells.size = kk := hS.hz _ _ h1 h2
    have hxl : xs.length = rows.length * kk := by rw [hrd.length, flat_len hkr]
    have hjk : j * kk ≤ rows.length * kk := Nat.mul_le_mul_right _ hj
    have hold : (Builtin.firstCells ti.size j (.slice (some ⟨g, 0, none⟩) j cap)).run P w.drew = .ok (xs.take (j * kk)).toArray w.drew := by
      rw [h4]
      exact run_firstCells_some w.drew kk j ⟨g, 0, none⟩ j cap (xs.take (j * kk)) (by rw [List.length_take]; omega) (fun m v hm => by
        rw [add_plain, Nat.zero_add]
        rw [List.getElem?_take] at hm
        split at hm
        · exact hcell m v hm
        · cases hm)
    have hr := Lib.run_append_grow_zeros (P := P) w T T2 ty E ti zv .i64 kn hS.hT hT2 h1 h2 (some ⟨g, 0, none⟩) j cap (xs.take (j * kk)) hold m h0 (by rw [h4]; exact h6) hg (by omega)
      (by rw [h5]; have := Nat.mul_le_mul_right bb (show m ≤ j + m by omega); omega) (by rw [h5]; exact growslice_fits hg hb)
    have hge := grownCap_ge w (j + m) cap E
    have hle := grownCap_le_maxLen w (j + m) cap E (by unfold maxLen; omega)
    generalize hcap : grownCap w (j + m) cap E = cap2 at hr hge hle
    generalize hZ : (xs.take (j * kk)).toArray ++ Builtin.zeroCells zv.cells m ++ Builtin.zeroCells zv.cells (cap2 - (j + m)) = Z at hr
    refine ⟨_, _, .value (.slice (some ⟨w.heap.size, 0, none⟩) (j + m) cap2), _, by simp [execOp, resolve, invoke, builtin, hv, hv2, hr] <;> rfl, .inl ⟨_, rfl, Den.put ?_ hi (raw_self _)⟩, kont (some ⟨w.heap.size, 0, none⟩) cap2⟩
    have htl : (xs.take (j * kk)).length = j * kk := by rw [List.length_take]; omega
    have hZs : Z.size = cap2 * kk := by
      rw [← hZ]
      simp only [Array.size_append, size_zeroCells, hzs, List.size_toArray, htl]
      rw [← Nat.add_mul, ← Nat.add_mul]
      congr 1
      omega
    have hlen : (rows.take j ++ List.replicate m (zs.map Tr.raw)).length = j + m := by rw [List.length_append, List.length_take, List.length_replicate]; omega
    have hZt : Z.toList.take ((j + m) * kk) = xs.take (j * kk) ++ (madeCells zv.cells (m * zv.cells.size)).toList := by
      have e1 : ((xs.take (j * kk)).toArray ++ Builtin.zeroCells zv.cells m).toList.length = (j + m) * kk := by
        simp only [Array.length_toList, Array.size_append, List.size_toArray, htl, size_zeroCells, hzs, Nat.add_mul]
      rw [← hZ, Array.toList_append, List.take_append_of_le_length (by rw [e1]; exact Nat.le_refl _), List.take_of_length_le (by rw [e1]; exact Nat.le_refl _), Array.toList_append, zero_made]
    have hrd1 : ∀ A w', RdC w' A (zeroRow zv.cells.toList m) (madeCells zv.cells (m * zv.cells.size)).toList := fun A w' => madeCells_rd (by rw [h3]; exact hS.one) m
    refine (d'.drew.push (w' := w.drew.alloc (.cells Z E)) _ (by simp) (by unfold Chunk.own; simp [Value.ownBlock]) (by unfold Chunk.own; simp [Value.ownBlock]) (fun b hb => heap_alloc_old w.drew _ b hb) rfl rfl rfl ?_)
    intro hs
    have hrd2 := (hrd.take (j * kk))
    rw [← flatten_take hkr] at hrd2
    have hrd3 := RdC.mono (w := w) (w' := w.drew) (A' := av Γ.M (Chunk.own (some ⟨g, 0, none⟩) cap kk E rows :: cf)) (fun b hb hA => ⟨hA, rfl⟩) hrd2
    have hrd4 := hrd3.mono hs
    clear hrd3
    generalize av Γ.M (_ :: Chunk.own (some ⟨g, 0, none⟩) cap kk E rows :: cf) = A at *
    unfold Chunk.own
    refine ⟨?_, xs.take (j * kk) ++ (madeCells zv.cells (m * zv.cells.size)).toList, ?_, ?_⟩
    · intro r hr
      rcases List.mem_append.1 hr with h | h
      · exact hkr r (List.mem_of_mem_take h)
      · rw [List.eq_of_mem_replicate h]; simp [hS.hk]
    · rw [hlen]
      refine ⟨by rw [← hZt, List.length_take, Array.length_toList, hZs]; exact Nat.min_eq_left (Nat.mul_le_mul_right kk hge), .inr ⟨w.heap.size, cap2, Z, rfl, Nat.zero_le _, heap_alloc_new w.drew _, hge, hle, hZs, hZt⟩⟩
    · rw [List.flatten_append]
      refine hrd4.app ?_
      have e := zeroRow_flat zs m
      rw [e, ← h3]
      exact hrd1 _ _
/-- slices.overlaps of a settled slice of one element and a slice of one's own -/
theorem Ops.overlaps_no {E kk bb zs} [hS : TySl P T E kk bb zs] {f : FuncId} {B : TypeId} {ts : Array TypeId} {g cap o dl dc : Nat} {rows : List (List Tr)} {row : List Tr}
    (hf : ∀ (args : Array Value) (w : World), (callFunc f args).run P w = ((Extern.SlicesOverlaps.overlaps #[T, T] #[B] args).run P w).andThen fun v w' => .ok (.value v) w')
    (hx : ev env x = some (.sl kk [row])) (hy : ev env y = some (.raw (.slice (some ⟨g, o, none⟩) dl dc))) (hp : cs.Perm (Chunk.own (some ⟨g, 0, none⟩) cap kk E rows :: cf)) (hi : Nat.blt i Γ.n = true)
    (kont : Ops P Γ R rest ((i, .bool false) :: env) cs Q) : Ops P Γ R (⟨some i, .call ⟨.value (.func f), #[x, y], ts⟩, ty, pos, af, none⟩ :: rest) env cs Q :=
  Ops.of fun a w d => by
    have hv := rd_raw (d.ev hy)
    have hsl := d.ev hx
    have d' := d.perm hp
    rw [av_perm hp Γ.M] at hsl
    unfold Tr.sl at hsl
    obtain ⟨hk2, hl2, ad2, cap2, hv2, g1, g2, g3, g4⟩ := hsl
    rcases g4 with g4 | ⟨b, off, rfl, hc⟩
    · cases g4
    have hh := d'.has (List.Perm.refl _)
    unfold Cells at hc
    obtain ⟨hA, c, e, fz, hb, hr⟩ := hc
    have hfpE : (Chunk.own (some ⟨g, 0, none⟩) cap kk E rows).fp = [g] := by unfold Chunk.own; rfl
    have hne : b ≠ g := by
      rintro rfl
      refine hA.2 ?_
      unfold fps
      rw [List.flatMap_cons, hfpE]
      simp
    have hcs : 0 < c.size := by
      have := hr.length
      rw [List.flatten_cons, List.flatten_nil, List.append_nil, hk2 row (by simp)] at this
      obtain ⟨_, _, _, _, _, _, _, hk0⟩ := hS.hE
      rw [List.length_take, List.length_drop, Array.length_toList] at this
      omega
    generalize av Γ.M (Chunk.own (some ⟨g, 0, none⟩) cap kk E rows :: cf) = A at hh
    unfold Chunk.own at hh
    obtain ⟨hkr, xs, hown, hrd⟩ := hh
    rcases hown.2 with ⟨e, h0⟩ | ⟨g', c3, cur, e, h1, hg, h2, h3, h4, h5⟩
    · simp at e
    simp only [Value.slice.injEq, Option.some.injEq, Addr.mk.injEq] at e
    obtain ⟨⟨rfl, _⟩, _, rfl⟩ := e
    obtain ⟨ti, zv, i1, i2, i3, i4, _⟩ := hS.hE
    have hz : ∀ w, (Go.sizeOf E).run P w = .ok kk w := fun w => by simp [Go.sizeOf, typeInfo, i1, i4]
    have hnb : (b != g) = true := by simpa using hne
    have hnb' : (b == g) = false := by simpa using hne
    have hfg : ∀ o, w.frozen? ⟨g, o, none⟩ = false := fun o => by simp [World.frozen?, hg]
    have hsa : w.shape? b = some (e, c.size) := by simp [World.shape?, hb]
    have hsb : w.shape? g = some (E, cur.size) := by simp [World.shape?, hg]
    have hrun : (Extern.SlicesOverlaps.overlaps #[T, T] #[B] #[.slice (some ⟨b, off, none⟩) [row].length cap2, .slice (some ⟨g, o, none⟩) dl dc]).run P w = .ok (.bool false) w := by
      obtain ⟨cz, hcz⟩ : ∃ cz, c.size = cz + 1 := ⟨c.size - 1, by omega⟩
      rw [hcz] at hsa
      change Sem.run P (α := Value) (do
        let some t := (#[T, T] : Array TypeId)[0]? | stuck "slices.overlaps: no parameter types"
        let .slice elem ← underlying t | stuck "slices.overlaps: slice type expected"
        let size ← Go.sizeOf elem
        match (some ⟨b, off, none⟩ : Option Addr), (some ⟨g, o, none⟩ : Option Addr) with
        | some a, some b =>
          if [row].length = 0 ∨ dl = 0 ∨ size = 0 then pure (Value.bool false)
          else if a.block != b.block && (← frozen a) && (← frozen b) then unsupported .addressObserved
          else do
            if a.block != b.block then do
              noView a; noView b
              if ← mayBeOne a b then return Value.bool ((← choose (.extern "sameAddr.stringBytes" 2)) == 1)
            pure (Value.bool (a.block == b.block && a.off < b.off + dl * size && b.off < a.off + [row].length * size))
        | _, _ => pure (Value.bool false)) w = _
      have hk0 : kk ≠ 0 := by
        obtain ⟨_, _, _, _, _, _, _, hk0⟩ := hS.hE
        omega
      simp only [List.length_cons, List.length_nil]
      by_cases h0 : dl = 0
      · simp [run_underlying hS.hT, hz, h0]
      · cases hfa : w.frozen? ⟨b, off, none⟩ <;> cases hfe : w.frozen? { block := b, off := cz + 1 } <;> simp [run_underlying hS.hT, hz, h0, hk0, hnb, hnb', frozen, noView, viewAt, mayBeOne, stringish, shape, Sem.run, hsa, hsb, hfg, hfa, hfe]
    have hl1 : [row].length = 1 := rfl
    rw [hl1] at hrun hv2
    exact ⟨_, _, .value (.bool false), w, by simp [execOp, resolve, invoke, Deferred.ofValue, show a.eval (.func f) = .func (.func f) #[] #[] from rfl, hf, hv, hv2, hrun], .inl ⟨_, rfl, Den.put d hi (raw_self _)⟩, kont⟩
/-- an owned slice is lent to a function that writes nothing, and whose result holds nothing of memory -/
theorem PFn.lendO {f : FuncId} {pre suf : List Tr} {t : Tr} {kk E n cap : Nat} {ad : Option Addr} {rows : List (List Tr)} (h : PFn P f (pre ++ .sl kk rows :: suf) (· = t)) (hn : n = rows.length) (ht : ∀ w A w' A' v, t.rd w A v → t.rd w' A' v) :
    Spec P f (pre ++ Tr.raw (.slice ad n cap) :: suf) [Chunk.own ad cap kk E rows] (fun r cs => r = t ∧ cs = [Chunk.own ad cap kk E rows]) := by
  subst hn
  unfold PFn Spec at h
  obtain ⟨h1, h2⟩ := h
  unfold Spec
  refine ⟨h1, fun M w vs hr hch hnd hlt hM => ?_⟩
  have hfp : fps [Chunk.own ad cap kk E rows] = (Value.ownBlock (.slice ad rows.length cap)).toList := by unfold Chunk.own; simp [fps]
  have hs : SameOn w w (av M [Chunk.own ad cap kk E rows]) (av M []) := fun b _ ⟨h1, _⟩ => ⟨⟨h1, by simp [fps]⟩, rfl⟩
  have hown0 := hch _ (List.mem_singleton.2 rfl)
  have hown := hown0
  unfold Chunk.own at hown
  obtain ⟨hk, xs, ho, hrx⟩ := hown
  have hsl : (Tr.sl kk rows).rd w (av M []) (.slice ad rows.length cap) := by
    unfold Tr.sl
    rcases ho.2 with ⟨e1, e2⟩ | ⟨g, cp, cur, hv, hg, hb, q1, q2, q3, q4⟩
    · simp only [Value.slice.injEq] at e1
      obtain ⟨rfl, _, rfl⟩ := e1
      exact ⟨hk, by simp [e2], none, 0, rfl, by omega, by simp, fun _ => ⟨List.eq_nil_of_length_eq_zero e2, rfl⟩, .inl (List.eq_nil_of_length_eq_zero e2)⟩
    · simp only [Value.slice.injEq] at hv
      obtain ⟨rfl, _, rfl⟩ := hv
      have hfr := hlt g (by rw [hfp]; simp [Value.ownBlock])
      refine ⟨hk, by omega, _, cap, rfl, q1, q2, fun h => absurd h (by simp), .inr ⟨g, 0, rfl, ⟨hfr.2, by simp [fps]⟩, cur, E, _, hb, ?_⟩⟩
      rw [List.drop_zero, flat_len hk, q4]
      have hs2 : SameOn w w (av M [Chunk.own (some ⟨g, 0, none⟩) cap kk E rows]) (av M []) := hs
      unfold Chunk.own at hs2
      exact hrx.mono hs2
  have hargs : ∀ (pre : List Tr) (vs : List Value), RdL w (av M [Chunk.own ad cap kk E rows]) (pre ++ Tr.raw (.slice ad rows.length cap) :: suf) vs → RdL w (av M []) (pre ++ .sl kk rows :: suf) vs := by
    intro pre
    induction pre with
    | nil =>
      intro vs hr
      obtain ⟨v, rest, rfl, hv, hr⟩ := hr
      have := rd_raw hv
      subst this
      exact ⟨_, _, rfl, hsl, hr.mono hs⟩
    | cons p pre ih =>
      intro vs hr
      obtain ⟨v, rest, rfl, hv, hr⟩ := hr
      exact ⟨v, rest, rfl, p.mono hs hv, ih rest hr⟩
  refine (h2 M w vs (hargs pre vs hr) (by simp) (by simp [fps]) (by simp [fps]) hM).mono ?_
  rintro e w' ⟨v, r, cs', rfl, ⟨rfl, rfl⟩, hrd, _, _, _, hfm⟩
  have hold : ∀ b, b < w.heap.size → w'.heap[b]? = w.heap[b]? := fun b hb => hfm.block b hb (by simp [fps])
  refine ⟨v, _, _, rfl, ⟨rfl, rfl⟩, ht _ _ _ _ _ hrd, ?_, hnd, ?_, ⟨hfm.os, hfm.tape, hfm.output, hfm.size, fun b hb _ => hold b hb, hfm.drawn⟩⟩
  · intro c hc
    rw [List.mem_singleton] at hc
    subst hc
    exact Chunk.mono _ (fun b _ hb => hold b hb) (fun b hb hA => ⟨hA, hold b hb⟩) hown0
  · intro b hb
    obtain ⟨q1, q2⟩ := hlt b hb
    exact ⟨Nat.lt_of_lt_of_le q1 hfm.size, q2, .inl hb⟩
theorem raw_free {v0 : Value} : ∀ (w : World) (A : Nat → Prop) (w' : World) (A' : Nat → Prop) (v : Value), (Tr.raw v0).rd w A v → (Tr.raw v0).rd w' A' v := fun _ _ _ _ _ h => by
  have := rd_raw h
  subst this
  exact raw_self _

variable {H : (Nat → Value) → (Nat → Bool) → List Chunk} {L : List Oper} {K : Env → List Chunk → Prop} {n : Nat} {l : List Oper} {Pf : Nat → (Nat → Value) → Prop} {d : Nat} {op : Op} {acc : (Nat → Value) → Env}
/-- a call that takes an owned slice and hands out another one -/
theorem YSeq.callM {f : FuncId} {ol : List Operand} {ts : Array TypeId} {kk E : Nat} (m : Nat)
    (h : ∀ (ξ : Nat → Value) (S : Nat → Bool), S n = false → (∀ j ∈ preds af, S j = true) → Clo L S → (∀ k, S k = true → Pf k ξ) →
      ∃ (args : List Tr) (c : Chunk) (rows' : List (List Tr)) (cx cf : List Chunk), Spec P f args [c] (fun r cs => ∃ ad' cap', r = Tr.raw (.slice ad' m cap') ∧ cs = Chunk.own ad' cap' kk E rows' :: cx) ∧ Evs (rst (slotsOf (.call ⟨.value (.func f), ol.toArray, ts⟩)) (acc ξ)) ol args ∧ (H ξ S).Perm (c :: cf) ∧ ∀ ad cap, (H (upd ξ n (.slice ad m cap)) (updD S n)).Perm (Chunk.own ad cap kk E rows' :: (cx ++ cf)))
    (k : YSeq P Γ H L K (n + 1) (fun ξ => (d, Tr.raw (.slice (vAd (ξ n)) m (vCap (ξ n)))) :: acc ξ) (pfY n (fun _ => True) Pf) l) : YSeq P Γ H L K n acc Pf (⟨some d, .call ⟨.value (.func f), ol.toArray, ts⟩, ty, pos, af, none⟩ :: l) := by
  refine YSeq.call PvOkY.triv (TOk.own (T := fun v => Tr.raw (.slice (vAd v) m (vCap v)))) ?_ k
  intro ξ S h1 h2 h3 h4
  obtain ⟨args, c, rows', cx, cf, hs, ha, hp, hq⟩ := h ξ S h1 h2 h3 h4
  refine ⟨args, [c], cf, _, hs, ha, hp, ?_⟩
  rintro r cs' ⟨ad, cap, rfl, rfl⟩ w A v hr
  have hv := rd_raw hr
  subst hv
  refine ⟨?_, trivial, hq ad cap⟩
  simp only [upd_same, vAd, vCap]
  exact raw_self _
/-- a drawn region whose first m operations compute, and whose others wait for all before them -/
theorem Cw.region_seqM {id : Nat} {l : List Oper} {env : Env} (m : Nat) (hm : P.follows .mixedOrders = true) (hb : (backOk l && (nodupB (dsts (l.take m)) && (ssaFrom l 0 (l.take m) && (tailOk l m && Nat.ble m l.length)))) = true) (hlt : (dsts (l.take m)).all (Nat.blt · Γ.n) = true)
    (h : PSeq P Γ cs (fun acc => Ops P Γ l.toArray (l.drop m) acc cs Q) 0 [] env (l.take m)) : Cw P Γ (.region id l.toArray true) env cs Q := by
  simp only [Bool.and_eq_true] at hb
  exact Cw.region_at (Nat.le_of_ble_eq_true hb.2.2.2.2) hm hb.1 hb.2.1 hlt hb.2.2.2.1 (PSeq.run hb.1 hb.2.1 hb.2.2.1 Seq.start (fun j => by rw [Nat.zero_add]) h)
/-- a variable of its own is made of a value -/
theorem YSeq.box {T : TypeId} {x : Operand}
    (h : ∀ (ξ : Nat → Value) (S : Nat → Bool), S n = false → (∀ j ∈ preds af, S j = true) → Clo L S → (∀ k, S k = true → Pf k ξ) →
      ∃ (us : List Tr) (t : Tr), ev (rst (slotsOf (.box T x)) (acc ξ)) x = some t ∧ RowT t us ∧ ∀ b, (H (upd ξ n (.pointer (some ⟨b, 0, none⟩))) (updD S n)).Perm (Chunk.box b T us :: H ξ S))
    (k : YSeq P Γ H L K (n + 1) (fun ξ => (d, Tr.raw (.pointer (some ⟨blk (ξ n), 0, none⟩))) :: acc ξ) (pfY n (fun _ => True) Pf) l) : YSeq P Γ H L K n acc Pf (⟨some d, .box T x, ty, pos, af, none⟩ :: l) := by
  refine YSeq.cons PvOkY.triv (TOk.own (T := fun v => Tr.raw (.pointer (some ⟨blk v, 0, none⟩)))) ?_ k
  unfold YStep
  intro ξ S h1 h2 h3 h4 a w dd next F hk
  obtain ⟨us, t, hx, hr, hp⟩ := h ξ S h1 h2 h3 h4
  have hrun : (execOp a.eval ⟨some d, .box T x, ty, pos, af, none⟩).run P w = .ok (.value (.pointer (some ⟨w.heap.size, 0, none⟩))) (w.alloc (.cells (a.eval x).cells T)) := by
    simp [execOp, Instr.box, newVar, newRow] <;> rfl
  refine opIn_of_run hrun ⟨(by intro d h; cases h), (by intro x y h; cases h)⟩ ?_
  refine hk _ _ trivial ?_ fun env2 d2 => ?_
  · simp only [upd_same, blk]
    exact raw_self _
  have hd := d2.newblock (a.eval x).cells T (ts := us) (hr.h _ _ _ (dd.ev hx))
  exact hd.perm (hp _).symm
/-- a slice of one's own, and nil -/
theorem Ops.eql_nilR {E kk bb z} [hS : TySl P T E kk bb z] {ad : Option Addr} {m cap : Nat} {i : Tmp} (hx : ev env x = some (.raw (.slice ad m cap))) (hi : Nat.blt i Γ.n = true)
    (kont : Ops P Γ R rest ((i, .bool ad.isNone) :: env) cs Q) : Ops P Γ R (⟨some i, .binOp .eql T x (.const (.slice none 0 0)) T2, ty, pos, af, none⟩ :: rest) env cs Q :=
  Ops.of fun a w d => by
    have hv := rd_raw (d.ev hx)
    have he : ∀ m', (Op.equalIn (m' + 1) T (.slice ad m cap) (.slice none 0 0)).run P w = .ok ad.isNone w := by
      intro m'
      cases ad with
      | none => simp [Op.equalIn, run_underlying hS.hT]
      | some _ => simp [Op.equalIn, run_underlying hS.hT]
    have hc : a.eval (.const (.slice none 0 0)) = .slice none 0 0 := rfl
    refine ⟨_, _, .value (.bool ad.isNone), w, ?_, .inl ⟨_, rfl, Den.put d hi (raw_self _)⟩, kont⟩
    simp [execOp, hv, hc, eqGuard, binOp, Op.equal]
    rw [show Op.maxDepth = 9999 + 1 from rfl, he]
    rfl
theorem Cw.own_none {c : Code} {cap kk E : Nat} {rows : List (List Tr)} (hp : cs.Perm (Chunk.own none cap kk E rows :: cf)) (h : rows = [] → cap = 0 → Cw P Γ c env cs Q) : Cw P Γ c env cs Q := by
  unfold Cw at h ⊢
  intro a w d
  have hh := (d.perm hp).has (List.Perm.refl _)
  generalize av Γ.M (Chunk.own none cap kk E rows :: cf) = A at hh
  unfold Chunk.own at hh
  obtain ⟨_, xs, hown, _⟩ := hh
  rcases hown.2 with ⟨e, h0⟩ | ⟨g, c2, cur, e, _⟩
  · simp only [Value.slice.injEq] at e
    exact h (List.eq_nil_of_length_eq_zero h0) e.2.2 a w d
  · simp at e
/-- a call that hands out a variable -/
theorem YSeq.callP {f : FuncId} {ol : List Operand} {ts : Array TypeId} (C : Nat → Chunk)
    (h : ∀ (ξ : Nat → Value) (S : Nat → Bool), S n = false → (∀ j ∈ preds af, S j = true) → Clo L S → (∀ k, S k = true → Pf k ξ) →
      ∃ (args : List Tr), Spec P f args [] (fun r cs => ∃ b, r = Tr.raw (.pointer (some ⟨b, 0, none⟩)) ∧ cs = [C b]) ∧ Evs (rst (slotsOf (.call ⟨.value (.func f), ol.toArray, ts⟩)) (acc ξ)) ol args ∧ ∀ b, (H (upd ξ n (.pointer (some ⟨b, 0, none⟩))) (updD S n)).Perm (C b :: H ξ S))
    (k : YSeq P Γ H L K (n + 1) (fun ξ => (d, Tr.raw (.pointer (some ⟨blk (ξ n), 0, none⟩))) :: acc ξ) (pfY n (fun _ => True) Pf) l) : YSeq P Γ H L K n acc Pf (⟨some d, .call ⟨.value (.func f), ol.toArray, ts⟩, ty, pos, af, none⟩ :: l) := by
  refine YSeq.call PvOkY.triv (TOk.own (T := fun v => Tr.raw (.pointer (some ⟨blk v, 0, none⟩)))) ?_ k
  intro ξ S h1 h2 h3 h4
  obtain ⟨args, hs, ha, hp⟩ := h ξ S h1 h2 h3 h4
  refine ⟨args, [], H ξ S, _, hs, ha, List.Perm.refl _, ?_⟩
  rintro r cs' ⟨b, rfl, rfl⟩ w A v hr
  have hv := rd_raw hr
  subst hv
  refine ⟨?_, trivial, hp b⟩
  simp only [upd_same, blk]
  exact raw_self _
end ins
end Lg
end
section
set_option linter.all false
namespace Lg
open Go

/-! ### a part of an owned slice: it is read and written through the whole one -/
section sub
variable {P : Program} {Γ : Ctx} {env env' : Env} {cs cs' cf : List Chunk} {Q : Post} {R : Array Oper}
variable {i : Tmp} {ty : TypeId} {pos : String} {af : Array Edge} {rest : List Oper}
variable {x y z : Operand} {T : TypeId} {k : IntKind} {p q : Int}

theorem Ops.slice_own_lh {E kk bb zs} [hS : TySl P T E kk bb zs] {ad : Option Addr} {n cap : Nat} {e : TypeId} {rows : List (List Tr)} (hx : ev env x = some (.raw (.slice ad n cap))) (hy : ev env y = some (.raw (.int k p))) (hz : ev env z = some (.raw (.int k q)))
    (hp : cs.Perm (Chunk.own ad cap kk e rows :: cf)) (hn : n = rows.length) (h0 : 0 ≤ p ∧ p < q ∧ q ≤ rows.length) (hi : Nat.blt i Γ.n = true)
    (kont : Ops P Γ R rest ((i, .qsl ad p.toNat kk (q - p).toNat (cap - p.toNat)) :: env) cs Q) : Ops P Γ R (⟨some i, .slice T x (some y) (some z) none, ty, pos, af, none⟩ :: rest) env cs Q :=
  Ops.val' hi (by
    unfold OpV
    intro a w d
    subst hn
    have hv := rd_raw (d.ev hx)
    have hp' := rd_raw (d.ev hy)
    have hq := rd_raw (d.ev hz)
    have hch := d.has hp
    obtain ⟨g, cur, rfl, _, hc, _⟩ := own_some hch (fun e => by subst e; simp at h0; omega)
    have hrun := run_slice_parts (P := P) (t := T) (kk := kk) (a := some ⟨g, 0, none⟩) (len := rows.length) (cap := cap) (lo := some (.int k p)) (hi := some (.int k q)) (l := p.toNat) (h := q.toNat) (w := w) (by
      have := bounds_lh (k := k) (P := P) (len := rows.length) (cap := cap) (l := p) (h := q) (w := w) h0.1 (by omega) (by omega)
      simpa using this)
    rw [if_neg (by omega)] at hrun
    have e1 : q.toNat - p.toNat = (q - p).toNat := by omega
    rw [e1] at hrun
    exact ⟨_, by simp [execOp, hv, hp', hq, hrun] <;> rfl, by
      simp [Tr.qsl, Tr.raw, Addr.add, add_plain]
      try omega⟩) kont

theorem OpV.indexAddr_sub {E kk bb z} [h : TySl P T E kk bb z] {ad : Option Addr} {o n cap cap2 : Nat} {e : TypeId} {rows : List (List Tr)} (hx : ev env x = some (.qsl ad o kk n cap2)) (hy : ev env y = some (.raw (.int k p)))
    (hp : cs.Perm (Chunk.own ad cap kk e rows :: cf)) (hn : o + n ≤ rows.length) (h0 : 0 ≤ p) (h1 : p < n) : OpV P Γ (.indexAddr T x y) ty env cs (.eptr ad kk (o + p.toNat) 0) :=
  (by
    unfold OpV
    intro a w d
    unfold Tr.qsl at hx
    unfold Tr.eptr
    have hv := rd_raw (d.ev hx)
    have hp' := rd_raw (d.ev hy)
    have hch := d.has hp
    obtain ⟨g, cur, rfl, _⟩ := own_some hch (fun e => by subst e; simp at hn; omega)
    simp only [Option.map_some] at hv
    exact ⟨_, by simp [execOp, hv, hp', run_indexAt (T := T) h0 h1] <;> rfl, g, rfl, by simp [Nat.add_mul]⟩)
theorem Ops.indexAddr_sub {E kk bb z} [h : TySl P T E kk bb z] {ad : Option Addr} {o n cap cap2 : Nat} {e : TypeId} {rows : List (List Tr)} (hx : ev env x = some (.qsl ad o kk n cap2)) (hy : ev env y = some (.raw (.int k p)))
    (hp : cs.Perm (Chunk.own ad cap kk e rows :: cf)) (hn : o + n ≤ rows.length) (h0 : 0 ≤ p) (h1 : p < n) (hi : Nat.blt i Γ.n = true)
    (kont : Ops P Γ R rest ((i, .eptr ad kk (o + p.toNat) 0) :: env) cs Q) : Ops P Γ R (⟨some i, .indexAddr T x y, ty, pos, af, none⟩ :: rest) env cs Q :=
  Ops.val' hi (OpV.indexAddr_sub hx hy hp hn h0 h1) kont
theorem OpV.indexAddr_subN {E kk bb z} [h : TySl P T E kk bb z] {ad : Option Addr} {o n cap cap2 j : Nat} {e : TypeId} {rows : List (List Tr)} (hx : ev env x = some (.qsl ad o kk n cap2)) (hy : ev env y = some (.raw (.int k (j : Int))))
    (hp : cs.Perm (Chunk.own ad cap kk e rows :: cf)) (hn : o + n ≤ rows.length) (h1 : j < n) : OpV P Γ (.indexAddr T x y) ty env cs (.eptr ad kk (o + j) 0) :=
  OpV.indexAddr_sub (p := (j : Int)) hx hy hp hn (by omega) (by omega)
theorem Ops.indexAddr_subN {E kk bb z} [h : TySl P T E kk bb z] {ad : Option Addr} {o n cap cap2 j : Nat} {e : TypeId} {rows : List (List Tr)} (hx : ev env x = some (.qsl ad o kk n cap2)) (hy : ev env y = some (.raw (.int k (j : Int))))
    (hp : cs.Perm (Chunk.own ad cap kk e rows :: cf)) (hn : o + n ≤ rows.length) (h1 : j < n) (hi : Nat.blt i Γ.n = true)
    (kont : Ops P Γ R rest ((i, .eptr ad kk (o + j) 0) :: env) cs Q) : Ops P Γ R (⟨some i, .indexAddr T x y, ty, pos, af, none⟩ :: rest) env cs Q :=
  Ops.val' hi (OpV.indexAddr_subN hx hy hp hn h1) kont
end sub
end Lg
end
