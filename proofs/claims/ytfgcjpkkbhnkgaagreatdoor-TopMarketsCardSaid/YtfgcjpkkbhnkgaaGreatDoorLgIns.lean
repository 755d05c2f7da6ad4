/- A part of the proof of a law of this seat: it adds no condition. By an AI agent. -/
import Derived.Laws.Small
import Derived.Lib.Overlaps
import Derived.Lib.AppendZerosOnto
import Derived.Test.YtfgcjpkkbhnkgaaGreatDoorLgY
section
set_option linter.all false
namespace Lg
open Go
abbrev slV (v : Value) (n : Nat) : Tr := Tr.raw (.slice (vAd v) n (vCap v))
abbrev ptV (v : Value) : Tr := Tr.raw (.pointer (some ⟨blk v, 0, none⟩))
section y2
variable {P : Program} {Γ : Ctx} {env : Env} {cs cf : List Chunk} {H : (Nat → Value) → (Nat → Bool) → List Chunk} {L : List Oper} {K : Env → List Chunk → Prop} {n : Nat} {l : List Oper} {Pf : Nat → (Nat → Value) → Prop} {d : Nat} {op : Op} {ty : TypeId} {pos : String} {af : Array Edge} {acc : (Nat → Value) → Env}
theorem append_core {E kk bb z T} [hS : TySl P T E kk bb z] {ty : TypeId} {ad : Option Addr} {cap : Nat} {rows rows2 : List (List Tr)} {v2 : Value} {a : Act} {w : World} (d' : Den Γ env (Chunk.own ad cap kk E rows :: cf) a w)
  (hys : (Tr.sl kk rows2).rd w (av Γ.M (Chunk.own ad cap kk E rows :: cf)) v2) (hb : (rows.length + rows2.length) * bb ≤ 140737488355328) (hm : rows.length + rows2.length ≤ 9223372036854775807) :
  ∃ ad' cap' w', (Builtin.append_ #[T, T] ty #[.slice ad rows.length cap, v2]).run P w = .ok (.slice ad' (rows ++ rows2).length cap') w' ∧ ∀ env2, Den Γ env2 (Chunk.own ad cap kk E rows :: cf) a w → Den Γ env2 (Chunk.own ad' cap' kk E (rows ++ rows2) :: cf) a w' := by
 have hown0 := d'.has (List.Perm.refl _)
 generalize hA : av Γ.M (Chunk.own ad cap kk E rows :: cf) = A at hys hown0
 unfold Tr.sl at hys
 obtain ⟨hk2, hl2, ad2, cap2, rfl, g1, g2, g3, g4⟩ := hys
 unfold Chunk.own at hown0
 obtain ⟨hk0, xs, hown, hrd⟩ := hown0
 obtain ⟨ti, zv, hi1, hi2, hi3, hi4, hi5, hi6⟩ := hS.hE
 have hzs : zv.cells.size = kk := hS.hz _ _ hi1 hi2
 have hm' : rows.length + rows2.length ≤ maxLen := by simp only [maxLen]; omega
 have key : ∃ v' w', (Builtin.append_ #[T, T] ty #[.slice ad rows.length cap, .slice ad2 rows2.length cap2]).run P w = .ok v' w' ∧ ∃ news, RdC w A rows2.flatten news ∧
   w'.ownsRow 0 E kk v' (rows.length + rows2.length) (xs ++ news) ∧ w.grownBy w' (Value.ownBlock (.slice ad rows.length cap)) ∧ (∀ b, v'.ownBlock = some b → (Value.ownBlock (.slice ad rows.length cap)) = some b ∨ w.heap.size ≤ b) := by
  rcases g4 with g4 | ⟨b, off, rfl, hc⟩
  ·subst g4
   cases ad2 with
   |none =>
    obtain ⟨_, rfl⟩ := g3 rfl
    exact ⟨_, w, run_append_owned_none (P := P) w 0 T ty E ti kk hS.hT hi1 _ _ xs hown, [], rfl, by simpa using hown, ⟨rfl, rfl, rfl, Nat.le_refl _, fun _ _ _ => rfl⟩, fun b hb => .inl hb⟩
   |some a2 =>
    obtain ⟨v', w', h1, h2, h3, h4⟩ := append_run (P := P) (ty := ty) (a := a2) (m := 0) (c := cap2) (news := []) hS.hT hi1 hi2 hi4 hi5 hzs hi6 hown (by simp) (by simp) (by simp) (by simpa using hm') (by simpa using hb)
    exact ⟨v', w', h1, [], rfl, h2, h3, h4⟩
  ·obtain ⟨vs, hvs, hcell⟩ := rdc_at hc
   obtain ⟨v', w', h1, h2, h3, h4⟩ := append_run (P := P) (ty := ty) (a := ⟨b, off, none⟩) (m := rows2.length) (c := cap2) (news := vs) hS.hT hi1 hi2 hi4 hi5 hzs hi6 hown (by rw [hvs.length]; exact flat_len hk2) hcell hvs.one hm' hb
   exact ⟨v', w', h1, vs, hvs, h2, h3, h4⟩
 obtain ⟨v', w', hrun, news, hnews, hown', hgr, hfresh⟩ := key
 have hform : ∃ ad' cap', v' = .slice ad' (rows ++ rows2).length cap' := by
  rcases hown'.2 with ⟨e, h0⟩ | ⟨g, c, cur, e, _⟩
  ·exact ⟨none, 0, by rw [e, List.length_append, h0]⟩
  ·exact ⟨_, c, by rw [e, List.length_append]⟩
 obtain ⟨ad', cap', rfl⟩ := hform
 refine ⟨ad', cap', w', hrun, fun env2 d2 => ?_⟩
 refine d2.turnF (c' := Chunk.own ad' cap' kk E (rows ++ rows2)) ?_ ?_ ?_ ?_
 ·intro b hb
  have hb' : Value.ownBlock (.slice ad' (rows ++ rows2).length cap') = some b := by unfold Chunk.own at hb; simpa using hb
  rcases hfresh b hb' with h | h
  ·exact .inl (by unfold Chunk.own; simpa using h)
  ·exact .inr ⟨h, (hown'.lt b hb').2⟩
 ·have : (Chunk.own ad' cap' kk E (rows ++ rows2)).fp = (Value.ownBlock (.slice ad' (rows ++ rows2).length cap')).toList := by unfold Chunk.own; rfl
  rw [this]
  cases Value.ownBlock (.slice ad' (rows ++ rows2).length cap') <;> simp
 ·exact ⟨hgr.os, hgr.tape, hgr.output, hgr.size, fun b hb hn => hgr.block b hb fun e => hn (by unfold Chunk.own; simp [← e]), fun _ => run_drawn hrun⟩
 ·intro hs _
  rw [hA] at hs
  generalize av Γ.M (Chunk.own ad' cap' kk E (rows ++ rows2) :: cf) = A' at hs ⊢
  unfold Chunk.own
  refine ⟨?_, xs ++ news, by simpa using hown', ?_⟩
  ·intro r hr
   rcases List.mem_append.1 hr with h | h
   ·exact hk0 r h
   ·exact hk2 r h
  ·rw [List.flatten_append]
   exact (hrd.mono hs).app (hnews.mono hs)
/-- the same, where what is put behind is an owned slice too, and is owned no more -/
theorem YSeq.appendO {E kk bb z T} [hS : TySl P T E kk bb z] {x y : Operand} (mm : Nat)
  (h : ∀ (ξ : Nat → Value) (S : Nat → Bool), S n = false → (∀ j ∈ preds af, S j = true) → Clo L S → (∀ k, S k = true → Pf k ξ) →
   ∃ (ad : Option Addr) (m cap : Nat) (ad2 : Option Addr) (m2 cap2 : Nat) (rows rows2 : List (List Tr)) (cf0 cf : List Chunk), ev (rst (slotsOf (.call ⟨.builtin .append, #[x, y], #[T, T]⟩)) (acc ξ)) x = some (.raw (.slice ad m cap)) ∧ ev (rst (slotsOf (.call ⟨.builtin .append, #[x, y], #[T, T]⟩)) (acc ξ)) y = some (.raw (.slice ad2 m2 cap2)) ∧
    (H ξ S).Perm (Chunk.own ad2 cap2 kk E rows2 :: cf0) ∧ cf0.Perm (Chunk.own ad cap kk E rows :: cf) ∧ m = rows.length ∧ m2 = rows2.length ∧ rows.length + rows2.length = mm ∧ (rows.length + rows2.length) * bb ≤ 140737488355328 ∧ rows.length + rows2.length ≤ 9223372036854775807 ∧ ∀ ad' cap', (H (upd ξ n (.slice ad' mm cap')) (updD S n)).Perm (Chunk.own ad' cap' kk E (rows ++ rows2) :: cf))
  (k : YSeq P Γ H L K (n + 1) (fun ξ => (d, Tr.raw (.slice (vAd (ξ n)) mm (vCap (ξ n)))) :: acc ξ) (pfY n (fun _ => True) Pf) l) : YSeq P Γ H L K n acc Pf (⟨some d, .call ⟨.builtin .append, #[x, y], #[T, T]⟩, ty, pos, af, none⟩ :: l) := by
 refine YSeq.cons PvOkY.triv (TOk.own (T := fun v => Tr.raw (.slice (vAd v) mm (vCap v)))) ?_ k
 unfold YStep
 intro ξ S h1 h2 h3 h4 a w dd next F hk
 obtain ⟨ad, m, cap, ad2, m2, cap2, rows, rows2, cf0, cf, hx, hy, hp0, hp1, hn, hn2, hmm, hb, hm, hq⟩ := h ξ S h1 h2 h3 h4
 subst hn
 subst hn2
 have hv := rd_raw (dd.ev hx)
 have hv2 := rd_raw (dd.ev hy)
 have d0 := dd.perm (hp0.trans (List.Perm.cons _ hp1))
 have hys := Den.settled d0 rfl
 obtain ⟨ad', cap', w', hrun, hE⟩ := append_core (P := P) (T := T) (ty := ty) d0.dropc hys hb hm
 have hx2 : (execOp a.eval ⟨some d, .call ⟨.builtin .append, #[x, y], #[T, T]⟩, ty, pos, af, none⟩).run P w = .ok (.value (.slice ad' (rows ++ rows2).length cap')) w' := by simp [execOp, resolve, invoke, builtin, hv, hv2, hrun] <;> rfl
 refine opIn_of_run hx2 ⟨(by intro d h; cases h), (by intro x y h; cases h)⟩ ?_
 rw [List.length_append, hmm]
 refine hk _ _ trivial ?_ fun env2 d2 => (hE env2 (d2.perm (hp0.trans (List.Perm.cons _ hp1))).dropc).perm (hq ad' cap').symm
 simp only [upd_same, vAd, vCap]
 exact raw_self _
/-- a slice of zeros of one's own is made -/
theorem YSeq.mkOwn {T : TypeId} {x y : Operand} {E kk bb : Nat} {zs : List Value} [hS : TySl P T E kk bb zs] (m : Nat) (hx : ∀ ξ, ev (rst (slotsOf (.makeSlice T x y)) (acc ξ)) x = some (.int m)) (hy : ∀ ξ, ev (rst (slotsOf (.makeSlice T x y)) (acc ξ)) y = some (.int m)) (hb : bb * m ≤ 281474976710656) (hmx : m ≤ 1000000000)
  (hH : ∀ (ξ : Nat → Value) (S : Nat → Bool), S n = false → Clo L S → ∀ ad cap, (H (upd ξ n (.slice ad m cap)) (updD S n)).Perm (Chunk.own ad cap kk E (List.replicate m (zs.map Tr.raw)) :: H ξ S))
  (k : YSeq P Γ H L K (n + 1) (fun ξ => (d, Tr.raw (.slice (vAd (ξ n)) m (vCap (ξ n)))) :: acc ξ) (pfY n (fun _ => True) Pf) l) : YSeq P Γ H L K n acc Pf (⟨some d, .makeSlice T x y, ty, pos, af, none⟩ :: l) := by
 refine YSeq.cons PvOkY.triv (TOk.own (T := fun v => Tr.raw (.slice (vAd v) m (vCap v)))) ?_ k
 unfold YStep
 intro ξ S h1 h2 h3 h4 a w dd next F hk
 have hv := rd_raw (dd.ev (hx ξ))
 have hv2 := rd_raw (dd.ev (hy ξ))
 obtain ⟨ti, zv, i1, i2, i3, i4, i5, i6⟩ := hS.hE
 have hr := run_make (P := P) w T E ti zv hS.hT i1 i2 .i64 .i64 m m (by omega) (Int.le_refl _) (by rw [i5, ← Int.natCast_mul]; omega) (by omega)
 have hzs : zv.cells.size = kk := hS.hz _ _ i1 i2
 simp only [Int.toNat_natCast, i4] at hr
 have hx2 : (execOp a.eval ⟨some d, .makeSlice T x y, ty, pos, af, none⟩).run P w = .ok (.value (.slice (some ⟨w.heap.size, 0, none⟩) m m)) (w.alloc (.cells (madeCells zv.cells (m * kk)) E)) := by simp [execOp, hv, hv2, hr] <;> rfl
 refine opIn_of_run hx2 ⟨(by intro d h; cases h), (by intro x y h; cases h)⟩ ?_
 refine hk _ _ trivial ?_ fun env2 d2 => Den.perm ?_ (hH ξ S h1 h3 _ _).symm
 ·simp only [upd_same, vAd, vCap]
  exact raw_self _
 refine d2.push _ (by simp) (by unfold Chunk.own; simp [Value.ownBlock]) (by unfold Chunk.own; simp [Value.ownBlock]) (fun b hb => heap_alloc_old w _ b hb) rfl rfl rfl ?_
 intro hs
 have hmd := madeCells_rd (w := w) (A := av Γ.M (H ξ S)) (zs := zv.cells) (by rw [i3]; exact hS.one) m
 rw [hzs, i3] at hmd
 generalize av Γ.M (_ :: H ξ S) = A at *
 unfold Chunk.own
 refine ⟨fun r hr => by rw [List.eq_of_mem_replicate hr]; simp [hS.hk], (madeCells zv.cells (m * kk)).toList, ?_, ?_⟩
 ·simp only [List.length_replicate]
  exact World.ownsRow_lit w (madeCells zv.cells (m * kk)) m (Nat.zero_le _) (by simp only [maxLen]; omega) (size_madeCells _ _)
 ·have e := zeroRow_flat zs m
  rw [e]
  exact hmd.mono hs
/-- a slice literal of one's own -/
theorem YSeq.lit {T : TypeId} {E kk bb : Nat} {zs : List Value} [hS : TySl P T E kk bb zs] {m : Nat} {parts : List (Nat × Operand)}
  (h : ∀ (ξ : Nat → Value) (S : Nat → Bool), S n = false → (∀ j ∈ preds af, S j = true) → Clo L S → (∀ k, S k = true → Pf k ξ) →
   ∃ (ts : List Tr) (rows : List (List Tr)), Parts (fun i => some (i * kk, kk)) (rst (slotsOf (.buildSlice T m parts.toArray)) (acc ξ)) parts (zeroRow zs m) ts ∧ rowsOf kk m ts = rows ∧ Nat.ble (m * kk) 16777216 = true ∧ ∀ ad cap, (H (upd ξ n (.slice ad m cap)) (updD S n)).Perm (Chunk.own ad cap kk E rows :: H ξ S))
  (k : YSeq P Γ H L K (n + 1) (fun ξ => (d, Tr.raw (.slice (vAd (ξ n)) m (vCap (ξ n)))) :: acc ξ) (pfY n (fun _ => True) Pf) l) : YSeq P Γ H L K n acc Pf (⟨some d, .buildSlice T m parts.toArray, ty, pos, af, none⟩ :: l) := by
 refine YSeq.cons PvOkY.triv (TOk.own (T := fun v => Tr.raw (.slice (vAd v) m (vCap v)))) ?_ k
 unfold YStep
 intro ξ S h1 h2 h3 h4 a w dd next F hk
 obtain ⟨ts, rows, hp, hrows, hn, hH⟩ := h ξ S h1 h2 h3 h4
 have hn' : m * kk ≤ 16777216 := Nat.le_of_ble_eq_true hn
 obtain ⟨c, hrun, hr, hsz⟩ := run_buildSlice (P := P) (T := T) hn' dd hp
 have hl : ts.length = m * kk := by rw [← hr.length, Array.length_toList, hsz]
 obtain ⟨r1, r2, r3⟩ := rowsOf_flat hl
 obtain ⟨_, _, _, _, _, _, _, hk0⟩ := hS.hE
 have hmax : m ≤ maxLen := by
  have : m ≤ m * kk := Nat.le_mul_of_pos_right m hk0
  simp only [maxLen]
  omega
 subst hrows
 have hx2 : (execOp a.eval ⟨some d, .buildSlice T m parts.toArray, ty, pos, af, none⟩).run P w = .ok (.value (.slice (some ⟨w.heap.size, 0, none⟩) m m)) (w.alloc (.cells c E)) := by simp [execOp, hrun] <;> rfl
 refine opIn_of_run hx2 ⟨(by intro d h; cases h), (by intro x y h; cases h)⟩ ?_
 refine hk _ _ trivial ?_ fun env2 d2 => Den.perm ?_ (hH _ _).symm
 ·simp only [upd_same, vAd, vCap]
  exact raw_self _
 refine d2.push _ (by simp) (by unfold Chunk.own; simp [Value.ownBlock]) (by unfold Chunk.own; simp [Value.ownBlock]) (fun b hb => heap_alloc_old w _ b hb) rfl rfl rfl ?_
 intro hs
 generalize av Γ.M (H ξ S) = A0 at *
 generalize av Γ.M (_ :: H ξ S) = A at *
 unfold Chunk.own
 refine ⟨r2, c.toList, ?_, ?_⟩
 ·rw [r3]
  exact World.ownsRow_lit w c m (Nat.zero_le _) hmax hsz
 ·rw [r1]
  exact hr.mono hs
/-- a store into an owned slice -/
theorem YSeq.storeG {T : TypeId} {x y : Operand} {sz : Nat} (hT : ∃ i, P.info? T = some i ∧ i.size = sz)
  (h : ∀ (ξ : Nat → Value) (S : Nat → Bool), S n = false → (∀ j ∈ preds af, S j = true) → Clo L S → (∀ k, S k = true → Pf k ξ) →
   ∃ (ad : Option Addr) (cap kk m j : Nat) (e : TypeId) (rows : List (List Tr)) (r us : List Tr) (t : Tr) (cf : List Chunk), ev (rst (slotsOf (.store T x y)) (acc ξ)) x = some (Tr.eptr ad kk m j) ∧ ev (rst (slotsOf (.store T x y)) (acc ξ)) y = some t ∧ RowT t us ∧
    (H ξ S).Perm (Chunk.own ad cap kk e rows :: cf) ∧ rows[m]? = some r ∧ us.length = sz ∧ j + sz ≤ kk ∧ (r.length = kk → (H (upd ξ n undef) (updD S n)).Perm (Chunk.own ad cap kk e (rows.set m (r.take j ++ us ++ r.drop (j + sz))) :: cf)))
  (k : YSeq P Γ H L K (n + 1) acc (pfY n (fun _ => True) Pf) l) : YSeq P Γ H L K n acc Pf (⟨none, .store T x y, ty, pos, af, none⟩ :: l) := by
 refine YSeq.cons PvOkY.triv (TOk.const (t := Tr.any)) ?_ k
 unfold YStep
 intro ξ S h1 h2 h3 h4 a w dd next F hk
 obtain ⟨ad, cap, kk, m, j, e, rows, r, us, t, cf, hx, hy, ho, hp, hr, hu, hj, hq⟩ := h ξ S h1 h2 h3 h4
 have hptr := dd.ev hx
 unfold Tr.eptr at hptr
 obtain ⟨g, ha, hv⟩ := hptr
 have d1 := dd.perm hp
 have hrow : RdC w (av Γ.M (Chunk.own ad cap kk e rows :: cf)) us (a.eval y).cells.toList := ho.h _ _ _ (d1.ev hy)
 have hlr : r.length = kk := by
  have := d1.has (List.Perm.refl _)
  generalize av Γ.M (Chunk.own ad cap kk e rows :: cf) = A at this
  unfold Chunk.own at this
  obtain ⟨hk0, _⟩ := this
  exact hk0 r (List.mem_of_getElem? hr)
 have step : ∀ env2, Den Γ env2 (Chunk.own ad cap kk e rows :: cf) a w → ∃ w', (Instr.storeAt T (.pointer (some ⟨g, m * kk + j, none⟩)) (a.eval y)).run P w = .ok () w' ∧ Den Γ env2 (Chunk.own ad cap kk e (rows.set m (r.take j ++ us ++ r.drop (j + sz))) :: cf) a w' := by
  intro env2 d2
  exact own_store (P := P) d2 ha hr (r' := r.take j ++ us ++ r.drop (j + sz)) (vs := (a.eval y).cells.toList) (m := sz) (j := j) (by rw [hrow.length, hu]) (by omega)
   (fun A w' hs xs hx => (((hx.take j).mono hs).app (hrow.mono hs)).app ((hx.drop (j + sz)).mono hs)) (by simp [hlr, hu]; omega) T (a.eval y) hT rfl hrow.one
 obtain ⟨w', hrun, hd⟩ := step _ d1
 have hx2 : (execOp a.eval ⟨none, .store T x y, ty, pos, af, none⟩).run P w = .ok .skip w' := by simp [execOp, hv, hrun] <;> rfl
 refine opIn_of_run hx2 ⟨(by intro d h; cases h), (by intro x y h; cases h)⟩ ?_
 refine hk _ _ trivial tr_any_self fun env2 d2 => ?_
 obtain ⟨w2, hrun2, hd2⟩ := step env2 (d2.perm hp)
 rw [hrun] at hrun2
 cases hrun2
 exact hd2.perm (hq hlr).symm
/-- a store of one cell into an owned slice -/
theorem YSeq.storeO {T : TypeId} {x y : Operand} [hT : TyOne P T]
  (h : ∀ (ξ : Nat → Value) (S : Nat → Bool), S n = false → (∀ j ∈ preds af, S j = true) → Clo L S → (∀ k, S k = true → Pf k ξ) →
   ∃ (ad : Option Addr) (cap kk m j : Nat) (e : TypeId) (rows : List (List Tr)) (r : List Tr) (t : Tr) (cf : List Chunk), ev (rst (slotsOf (.store T x y)) (acc ξ)) x = some (Tr.eptr ad kk m j) ∧ ev (rst (slotsOf (.store T x y)) (acc ξ)) y = some t ∧ OneT t ∧
    (H ξ S).Perm (Chunk.own ad cap kk e rows :: cf) ∧ rows[m]? = some r ∧ j < kk ∧ (H (upd ξ n undef) (updD S n)).Perm (Chunk.own ad cap kk e (rows.set m (r.set j t)) :: cf))
  (k : YSeq P Γ H L K (n + 1) acc (pfY n (fun _ => True) Pf) l) : YSeq P Γ H L K n acc Pf (⟨none, .store T x y, ty, pos, af, none⟩ :: l) := by
 refine YSeq.storeG (sz := 1) hT.size ?_ k
 intro ξ S h1 h2 h3 h4
 obtain ⟨ad, cap, kk, m, j, e, rows, r, t, cf, g1, g2, g3, g4, g5, g6, g7⟩ := h ξ S h1 h2 h3 h4
 refine ⟨ad, cap, kk, m, j, e, rows, r, [t], t, cf, g1, g2, inferInstance, g4, g5, rfl, by omega, fun hl => ?_⟩
 have : r.take j ++ [t] ++ r.drop (j + 1) = r.set j t := by rw [List.set_eq_take_append_cons_drop, if_pos (by omega)]; simp
 rw [this]
 exact g7
theorem Cw.region_YP {Q : Post} {id : Nat} {l : List Oper} (H : (Nat → Value) → (Nat → Bool) → List Chunk) (hm : P.follows .mixedOrders = true) (hb : (backOk l && (nodupB (dsts l) && (ssaFrom l 0 l && noGuards l))) = true) (hlt : (dsts l).all (Nat.blt · Γ.n) = true)
  (cs' : List Chunk) (hp : cs.Perm cs') (hs : ∀ ξ, H ξ (fun j => Nat.ble l.length j) = cs') (h : YSeq P Γ H l (fun acc cs => ∃ env' cs', Ent Γ acc cs env' cs' ∧ Q .normal env' cs') 0 (fun _ => env) (fun _ _ => True) l) : Cw P Γ (.region id l.toArray true) env cs Q :=
 Cw.ent (Ent.perm hp) (Cw.region_Y H hm hb hlt hs h)
end y2
end Lg
end
section
set_option linter.all false
namespace Lg
open Go Go.RowKit
/-! ### equal truth values -/
section eqb
variable {P : Program} {Γ : Ctx} {env env' : Env} {cs cs' cf : List Chunk} {Q : Post} {R : Array Oper}
variable {i : Tmp} {ty : TypeId} {pos : String} {af : Array Edge} {rest : List Oper}
variable {x y z : Operand} {T T2 : TypeId} {p q : Bool}
end eqb
section more
variable {P : Program} {Γ : Ctx} {env env' : Env} {cs cs' cf : List Chunk} {Q : Post} {R : Array Oper}
variable {i : Tmp} {ty : TypeId} {pos : String} {af : Array Edge} {rest : List Oper} {x : Operand}
/-- a pointer into an owned slice is not nil -/
theorem OpV.nilCheck_eptr {ad : Option Addr} {k e j : Nat} (hx : ev env x = some (.eptr ad k e j)) : OpV P Γ (.nilCheck x) ty env cs (.eptr ad k e j) := by
 unfold OpV
 intro a w d
 have h := d.ev hx
 have h2 := h
 unfold Tr.eptr at h
 obtain ⟨g, ha, hv⟩ := h
 exact ⟨_, by simp only [execOp, hv]; rfl, by rw [← hv]; exact h2⟩
theorem Ops.nilCheck_eptr {ad : Option Addr} {k e j : Nat} (hx : ev env x = some (.eptr ad k e j)) (hi : Nat.blt i Γ.n = true)
  (kk : Ops P Γ R rest ((i, .eptr ad k e j) :: env) cs Q) : Ops P Γ R (⟨some i, .nilCheck x, ty, pos, af, none⟩ :: rest) env cs Q :=
 Ops.val' hi (OpV.nilCheck_eptr hx) kk
variable {H : (Nat → Value) → (Nat → Bool) → List Chunk} {L : List Oper} {K : Env → List Chunk → Prop} {n : Nat} {l : List Oper} {Pf : Nat → (Nat → Value) → Prop} {d : Nat} {op : Op} {acc : (Nat → Value) → Env}
/-- a call that turns one owned piece -/
theorem YSeq.callC {f : FuncId} {ol : List Operand} {ts : Array TypeId} {t : (Nat → Value) → Tr}
  (h : ∀ (ξ : Nat → Value) (S : Nat → Bool), S n = false → (∀ j ∈ preds af, S j = true) → Clo L S → (∀ k, S k = true → Pf k ξ) →
   ∃ (args : List Tr) (c c' : Chunk) (cf : List Chunk), Spec P f args [c] (fun r cs => r = t ξ ∧ cs = [c']) ∧ Evs (rst (slotsOf (.call ⟨.value (.func f), ol.toArray, ts⟩)) (acc ξ)) ol args ∧ (H ξ S).Perm (c :: cf) ∧ ∀ v, (H (upd ξ n v) (updD S n)).Perm (c' :: cf))
  (ht : ∀ ξ v, t (upd ξ n v) = t ξ) (hT : TOk L n t)
  (k : YSeq P Γ H L K (n + 1) (fun ξ => (d, t ξ) :: acc ξ) (pfY n (fun _ => True) Pf) l) : YSeq P Γ H L K n acc Pf (⟨some d, .call ⟨.value (.func f), ol.toArray, ts⟩, ty, pos, af, none⟩ :: l) := by
 refine YSeq.call PvOkY.triv hT ?_ k
 intro ξ S h1 h2 h3 h4
 obtain ⟨args, c, c', cf, hs, ha, hp, hq⟩ := h ξ S h1 h2 h3 h4
 refine ⟨args, [c], cf, _, hs, ha, hp, ?_⟩
 rintro r cs' ⟨rfl, rfl⟩ w A v hr
 exact ⟨by rw [ht]; exact hr, trivial, hq v⟩
end more
/-! ### numbers of other widths -/
section wid
variable {P : Program} {Γ : Ctx} {env env' : Env} {cs cs' cf : List Chunk} {Q : Post} {R : Array Oper}
variable {i : Tmp} {ty : TypeId} {pos : String} {af : Array Edge} {rest : List Oper} {x y : Operand} {T T2 : TypeId} {k k2 : IntKind} {p q : Int} {s : ByteArray}
theorem wrap_u64 {n : Int} (h : 0 ≤ n ∧ n ≤ 18446744073709551615) : IntKind.u64.wrap n = n := by
 have : IntKind.u64.wrap n = n % 18446744073709551616 := rfl
 rw [this]
 exact Int.emod_eq_of_lt (by omega) (by omega)
theorem wrap_u8 {n : Int} (h : 0 ≤ n ∧ n ≤ 255) : IntKind.u8.wrap n = n := by
 have : IntKind.u8.wrap n = n % 256 := rfl
 rw [this]
 exact Int.emod_eq_of_lt (by omega) (by omega)
theorem wrap_i64 {n : Int} (h : 0 ≤ n ∧ n ≤ 9223372036854775807) : IntKind.i64.wrap n = n := by
 have : IntKind.i64.wrap n = if (decide (n % 18446744073709551616 ≥ 9223372036854775808)) = true then n % 18446744073709551616 - 18446744073709551616 else n % 18446744073709551616 := rfl
 rw [this, Int.emod_eq_of_lt (by omega) (by omega), if_neg (by simp; omega)]
theorem sby_bd (s : ByteArray) (j : Nat) : 0 ≤ sby s j ∧ sby s j ≤ 255 := by
 unfold sby
 have := UInt8.toNat_lt (s.data.toList.getD j 0)
 omega
theorem Ops.convN {d1 : TypeDesc} (h1 : P.underlying T = some d1) (h2 : P.underlying T2 = some (.int k2)) (hx : ev env x = some (.raw (.int k p))) (hw : k2.wrap p = q) (hi : Nat.blt i Γ.n = true)
  (kk : Ops P Γ R rest ((i, .raw (.int k2 q)) :: env) cs Q) : Ops P Γ R (⟨some i, .convert T T2 x, ty, pos, af, none⟩ :: rest) env cs Q := by
 subst hw
 exact Ops.val' hi (OpV.convI h1 h2 hx) kk
theorem Ops.indexS_any (hT : P.underlying T = some .string) (hx : ev env x = some (.str s)) (hy : ev env y = some (.raw (.int k p))) (h : 0 ≤ p ∧ p < s.size) (hi : Nat.blt i Γ.n = true)
  (kk : ∀ v : Int, 0 ≤ v ∧ v ≤ 255 → Ops P Γ R rest ((i, .raw (.int .u8 v)) :: env) cs Q) : Ops P Γ R (⟨some i, .index T x y, ty, pos, af, none⟩ :: rest) env cs Q :=
 Ops.val' hi (OpV.indexS hT hx hy h) (kk _ (sby_bd _ _))
end wid
end Lg
end
section
set_option linter.all false
namespace Lg
open Go

/-! ### copies into owned slices; an element is put into an owned slice -/
section ins
variable {P : Program} {Γ : Ctx} {env env' : Env} {cs cs' cf : List Chunk} {Q : Post} {R : Array Oper} {a : Act} {w : World}
variable {i : Tmp} {ty : TypeId} {pos : String} {af : Array Edge} {rest : List Oper} {x y z : Operand} {T T2 : TypeId} {k : IntKind} {p q : Int}

/-- a slice with elements has an address, and room for them -/
theorem Cw.own_form {c : Code} {ad : Option Addr} {cap kk E : Nat} {rows : List (List Tr)} (hp : cs.Perm (Chunk.own ad cap kk E rows :: cf)) (hne : 0 < rows.length)
  (h : ∀ g, ad = some ⟨g, 0, none⟩ → rows.length ≤ cap → cap ≤ maxLen → Cw P Γ c env cs Q) : Cw P Γ c env cs Q := by
 unfold Cw at h ⊢
 intro a w d
 have hh := (d.perm hp).has (List.Perm.refl _)
 generalize av Γ.M (Chunk.own ad cap kk E rows :: cf) = A at hh
 unfold Chunk.own at hh
 obtain ⟨_, xs, hown, _⟩ := hh
 rcases hown.2 with ⟨e, h0⟩ | ⟨g, c2, cur, e, _, _, h1, h2, _⟩
 ·omega
 ·simp only [Value.slice.injEq] at e
  obtain ⟨rfl, _, rfl⟩ := e
  exact h g rfl h1 h2 a w d
theorem Ops.own_form {l : List Oper} {ad : Option Addr} {cap kk E : Nat} {rows : List (List Tr)} (hp : cs.Perm (Chunk.own ad cap kk E rows :: cf)) (hne : 0 < rows.length)
  (h : ∀ g, ad = some ⟨g, 0, none⟩ → rows.length ≤ cap → cap ≤ maxLen → Ops P Γ R l env cs Q) : Ops P Γ R l env cs Q := by
 unfold Ops at h ⊢
 intro a w d
 have hh := (d.perm hp).has (List.Perm.refl _)
 generalize av Γ.M (Chunk.own ad cap kk E rows :: cf) = A at hh
 unfold Chunk.own at hh
 obtain ⟨_, xs, hown, _⟩ := hh
 rcases hown.2 with ⟨e, h0⟩ | ⟨g, c2, cur, e, _, _, h1, h2, _⟩
 ·omega
 ·simp only [Value.slice.injEq] at e
  obtain ⟨rfl, _, rfl⟩ := e
  exact h g rfl h1 h2 a w d
/-! slices of a slice's value: nobody's memory changes -/
theorem OpV.sliceR_l {E kk bb zs} [hS : TySl P T E kk bb zs] {g o n cap : Nat} (hx : ev env x = some (.raw (.slice (some ⟨g, o, none⟩) n cap))) (hy : ev env y = some (.raw (.int k p))) (h0 : 0 ≤ p ∧ p ≤ n) (hc : p < cap) : OpV P Γ (.slice T x (some y) none none) ty env cs (.raw (.slice (some ⟨g, o + p.toNat * kk, none⟩) (n - p.toNat) (cap - p.toNat))) := by
 unfold OpV
 intro a w d
 have hv := rd_raw (d.ev hx)
 have hq := rd_raw (d.ev hy)
 have hrun := run_slice_parts (P := P) (t := T) (kk := kk) (a := some ⟨g, o, none⟩) (bounds_l (P := P) (k := k) (w := w) (len := n) (cap := cap) h0.1 h0.2)
 rw [if_neg (show ¬ cap = p.toNat by omega)] at hrun
 simp only [Option.map_some, add_plain] at hrun
 exact ⟨_, by simp [execOp, hv, hq, hrun] <;> rfl, raw_self _⟩
theorem Ops.sliceR_l {E kk bb zs} [hS : TySl P T E kk bb zs] {g o n cap : Nat} (hx : ev env x = some (.raw (.slice (some ⟨g, o, none⟩) n cap))) (hy : ev env y = some (.raw (.int k p))) (h0 : 0 ≤ p ∧ p ≤ n) (hc : p < cap) (hi : Nat.blt i Γ.n = true)
  (kont : Ops P Γ R rest ((i, .raw (.slice (some ⟨g, o + p.toNat * kk, none⟩) (n - p.toNat) (cap - p.toNat))) :: env) cs Q) : Ops P Γ R (⟨some i, .slice T x (some y) none none, ty, pos, af, none⟩ :: rest) env cs Q :=
 Ops.val' hi (OpV.sliceR_l hx hy h0 hc) kont
/-- the kit's run of copy, for elements of several cells -/
theorem run_copy_rowK (w : World) (dT sT ty elem : TypeId) (kk m : Nat) (g o dLen dCap : Nat) (a : Addr) (sLen sCap : Nat) (cur : Array Value) (t : TypeId) (cs : List Value)
  (hu : P.underlying dT = some (.slice elem)) (hs : ∃ i, P.info? elem = some i ∧ i.size = kk)
  (hg : w.heap[g]? = some (.cells cur t (0, 0))) (hm : Nat.min sLen dLen = m) (hn : cs.length = m * kk)
  (hsrc : ∀ j v, cs[j]? = some v → w.cell? (a.add j) = some v) (hfit : o + cs.length ≤ cur.size) (h1 : ∀ v ∈ cs, v.oneCell' = true) :
  (Builtin.copy_ #[dT, sT] ty #[.slice (some ⟨g, o, none⟩) dLen dCap, .slice (some a) sLen sCap]).run P w =
   .ok (goInt m) (w.setRow g (cur.toList.take o ++ cs ++ cur.toList.drop (o + cs.length)).toArray) := by
 obtain ⟨i, hq, hi⟩ := hs
 have hl := run_loadCells_list (P := P) w a cs hsrc
 have hst := run_storeCells_at P g o t cs 0 cur w hg (by simpa using hfit) h1
 subst hm
 simp [Builtin.copy_, run_underlying hu, Builtin.lenOf, Builtin.firstCells, Go.sizeOf, typeInfo, hq, hi, ← hn, hl, hst]

/-- elements are laid into the block of an owned slice, from the p-th on; it may grow into its spare room -/
theorem Den.lay {g cap kk E pn : Nat} {rows new : List (List Tr)} {vs : List Value} (d : Den Γ env (Chunk.own (some ⟨g, 0, none⟩) cap kk E rows :: cf) a w)
  (hp : pn ≤ rows.length) (hc : pn + new.length ≤ cap) (hk : ∀ r ∈ new, r.length = kk) (hr : RdC w (av Γ.M (Chunk.own (some ⟨g, 0, none⟩) cap kk E rows :: cf)) new.flatten vs) :
  ∃ cur, w.heap[g]? = some (.cells cur E (0, 0)) ∧ pn * kk + vs.length ≤ cur.size ∧ vs.length = new.length * kk ∧
   Den Γ env (Chunk.own (some ⟨g, 0, none⟩) cap kk E (rows.take pn ++ new ++ rows.drop (pn + new.length)) :: cf) a (w.setRow g (cur.toList.take (pn * kk) ++ vs ++ cur.toList.drop (pn * kk + vs.length)).toArray) := by
 have hh := d.has (List.Perm.refl _)
 have hvl : vs.length = new.length * kk := by rw [hr.length, flat_len hk]
 have hh2 := hh
 generalize hA : av Γ.M (Chunk.own (some ⟨g, 0, none⟩) cap kk E rows :: cf) = A at hh2
 unfold Chunk.own at hh2
 obtain ⟨hkr, xs, hown, hrd⟩ := hh2
 rcases hown.2 with ⟨e, h0⟩ | ⟨g', c2, cur, e, h1, hg, h2, h3, h4, h5⟩
 ·simp at e
 simp only [Value.slice.injEq, Option.some.injEq, Addr.mk.injEq] at e
 obtain ⟨⟨rfl, _⟩, _, rfl⟩ := e
 have hle : pn * kk + vs.length ≤ cap * kk := by rw [hvl, ← Nat.add_mul]; exact Nat.mul_le_mul_right _ hc
 have hfpE : ∀ rs, (Chunk.own (some ⟨g, 0, none⟩) cap kk E rs).fp = [g] := fun rs => by unfold Chunk.own; rfl
 refine ⟨cur, hg, by omega, hvl, ?_⟩
 refine d.turn (by rw [hfpE, hfpE]) (fun b hb hn => ?_) (setRow_size _ _ _) (setRow_os _ _ _) (setRow_tape _ _ _) (setRow_output _ _ _) fun hs _ => ?_
 ·rw [hfpE] at hn
  exact setRow_other _ _ _ _ (by simpa using hn)
 have hrn := hrd
 rw [← hA] at hrn
 generalize hA2 : av Γ.M (Chunk.own (some ⟨g, 0, none⟩) cap kk E (rows.take pn ++ new ++ rows.drop (pn + new.length)) :: cf) = A2 at hs
 unfold Chunk.own
 have hlen : (rows.take pn ++ new ++ rows.drop (pn + new.length)).length = pn + new.length + (rows.length - (pn + new.length)) := by
  simp only [List.length_append, List.length_take, List.length_drop]
  omega
 have hl2 : pn + new.length + (rows.length - (pn + new.length)) ≤ cap := by omega
 refine ⟨?_, xs.take (pn * kk) ++ vs ++ xs.drop ((pn + new.length) * kk), ?_, ?_⟩
 ·intro r hr
  simp only [List.mem_append] at hr
  rcases hr with (h | h) | h
  ·exact hkr r (List.mem_of_mem_take h)
  ·exact hk r h
  ·exact hkr r (List.mem_of_mem_drop h)
 ·have hxl := hown.1
  have hpk : pn * kk ≤ rows.length * kk := Nat.mul_le_mul_right _ hp
  have hdrop : xs.drop ((pn + new.length) * kk) = (cur.toList.drop (pn * kk + vs.length)).take ((rows.length - (pn + new.length)) * kk) := by
   rw [← h5, List.drop_take, hvl, ← Nat.add_mul, Nat.sub_mul]
  have htake : xs.take (pn * kk) = cur.toList.take (pn * kk) := by rw [← h5, List.take_take, Nat.min_eq_left hpk]
  have hcl : cur.toList.length = cap * kk := by rw [Array.length_toList]; exact h4
  have htl : (cur.toList.take (pn * kk)).length = pn * kk := by rw [List.length_take, hcl]; omega
  refine ⟨?_, .inr ⟨g, cap, _, by rw [hlen], Nat.zero_le _, setRow_heap w g cur _ E (0, 0) hg, by rw [hlen]; exact hl2, h3, ?_, ?_⟩⟩
  ·rw [hlen]
   simp only [List.length_append, List.length_take, List.length_drop, hxl, hvl, Nat.add_mul, Nat.sub_mul]
   omega
  ·simp only [List.size_toArray, List.length_append, htl, List.length_drop, hcl]
   omega
  ·rw [hlen, htake, hdrop, List.toList_toArray, List.append_assoc, List.append_assoc, List.take_append, htl, List.take_append]
   have e1 : (pn + new.length + (rows.length - (pn + new.length))) * kk - pn * kk = vs.length + (rows.length - (pn + new.length)) * kk := by
    rw [hvl, Nat.add_mul, Nat.add_mul]; omega
   rw [e1, List.take_of_length_le (l := cur.toList.take (pn * kk)) (by rw [htl, Nat.add_mul, Nat.add_mul]; omega), List.take_of_length_le (l := vs) (by omega), Nat.add_sub_cancel_left]
 ·rw [List.flatten_append, List.flatten_append, flatten_take hkr, flatten_drop hkr]
  exact ((hrn.take _).mono hs).app (hr.mono hs) |>.app ((hrn.drop _).mono hs)

theorem own_cells {A : Nat → Prop} {g cap kk E : Nat} {rows : List (List Tr)} (h : (Chunk.own (some ⟨g, 0, none⟩) cap kk E rows).holds w A) :
  ∃ xs, RdC w A rows.flatten xs ∧ (∀ r ∈ rows, r.length = kk) ∧ ∀ j u, xs[j]? = some u → w.cell? ⟨g, j, none⟩ = some u := by
 unfold Chunk.own at h
 obtain ⟨hkr, xs, hown, hrd⟩ := h
 refine ⟨xs, hrd, hkr, fun j u hj => ?_⟩
 have := hown.cells (g := g) rfl j u hj
 rwa [add_plain, Nat.zero_add] at this

/-- copy(s[j:], l) of one element -/
theorem Ops.copy_one {E kk bb zs} [hS : TySl P T E kk bb zs] {g cap j o1 dl dc : Nat} {rows : List (List Tr)} {row : List Tr}
  (hx : ev env x = some (.raw (.slice (some ⟨g, o1, none⟩) dl dc))) (hy : ev env y = some (.sl kk [row]))
  (hp : cs.Perm (Chunk.own (some ⟨g, 0, none⟩) cap kk E rows :: cf)) (ho1 : o1 = j * kk) (hj : j < rows.length) (hcap : rows.length ≤ cap) (hdl : 0 < dl) (hi : Nat.blt i Γ.n = true)
  (kont : Ops P Γ R rest ((i, .int 1) :: env) (Chunk.own (some ⟨g, 0, none⟩) cap kk E (rows.set j row) :: cf) Q) :
  Ops P Γ R (⟨some i, .call ⟨.builtin .copy, #[x, y], #[T, T]⟩, ty, pos, af, none⟩ :: rest) env cs Q :=
 Ops.of fun a w d => by
  have hv := rd_raw (d.ev hx)
  have d' := d.perm hp
  have hsl := d.ev hy
  rw [av_perm hp Γ.M] at hsl
  unfold Tr.sl at hsl
  obtain ⟨hk2, hl2, ad2, cap2, hv2, g1, g2, g3, g4⟩ := hsl
  rcases g4 with g4 | ⟨b, off, rfl, hc⟩
  ·cases g4
  obtain ⟨vs, hvs, hcell⟩ := rdc_at hc
  obtain ⟨cur, hg, hfit, hvl, hden⟩ := d'.lay (pn := j) (new := [row]) (by omega) (by simp only [List.length_cons, List.length_nil]; omega) hk2 hvs
  obtain ⟨ti, zv, h1, h2, h3, h4, _⟩ := hS.hE
  have hrun := run_copy_rowK (P := P) w T T ty E kk 1 g o1 dl dc ⟨b, off, none⟩ [row].length cap2 cur E vs hS.hT ⟨ti, h1, h4⟩ hg (by simp only [List.length_cons, List.length_nil]; exact Nat.min_eq_left hdl) hvl hcell (by rw [ho1]; exact hfit) hvs.one
  rw [ho1] at hrun hv
  have hl1 : [row].length = 1 := rfl
  rw [hl1] at hrun hv2
  have e : rows.take j ++ [row] ++ rows.drop (j + [row].length) = rows.set j row := by
   rw [List.set_eq_take_append_cons_drop, if_pos hj]
   simp
  rw [e] at hden
  exact ⟨_, _, .value _, _, by simp [execOp, resolve, invoke, builtin, hv, hv2, hrun] <;> rfl, .inl ⟨_, rfl, Den.put hden hi (raw_self _)⟩, kont⟩
theorem raw_free {v0 : Value} : ∀ (w : World) (A : Nat → Prop) (w' : World) (A' : Nat → Prop) (v : Value), (Tr.raw v0).rd w A v → (Tr.raw v0).rd w' A' v := fun _ _ _ _ _ h => by
 have := rd_raw h
 subst this
 exact raw_self _

variable {H : (Nat → Value) → (Nat → Bool) → List Chunk} {L : List Oper} {K : Env → List Chunk → Prop} {n : Nat} {l : List Oper} {Pf : Nat → (Nat → Value) → Prop} {d : Nat} {op : Op} {acc : (Nat → Value) → Env}
/-- a drawn region whose first m operations compute, and whose others wait for all before them -/
theorem Cw.region_seqM {id : Nat} {l : List Oper} {env : Env} (m : Nat) (hm : P.follows .mixedOrders = true) (hb : (backOk l && (nodupB (dsts (l.take m)) && (ssaFrom l 0 (l.take m) && (tailOk l m && Nat.ble m l.length)))) = true) (hlt : (dsts (l.take m)).all (Nat.blt · Γ.n) = true)
  (h : PSeq P Γ cs (fun acc => Ops P Γ l.toArray (l.drop m) acc cs Q) 0 [] env (l.take m)) : Cw P Γ (.region id l.toArray true) env cs Q := by
 simp only [Bool.and_eq_true] at hb
 exact Cw.region_at (Nat.le_of_ble_eq_true hb.2.2.2.2) hm hb.1 hb.2.1 hlt hb.2.2.2.1 (PSeq.run hb.1 hb.2.1 hb.2.2.1 Seq.start (fun j => by rw [Nat.zero_add]) h)
theorem Cw.own_none {c : Code} {cap kk E : Nat} {rows : List (List Tr)} (hp : cs.Perm (Chunk.own none cap kk E rows :: cf)) (h : rows = [] → cap = 0 → Cw P Γ c env cs Q) : Cw P Γ c env cs Q := by
 unfold Cw at h ⊢
 intro a w d
 have hh := (d.perm hp).has (List.Perm.refl _)
 generalize av Γ.M (Chunk.own none cap kk E rows :: cf) = A at hh
 unfold Chunk.own at hh
 obtain ⟨_, xs, hown, _⟩ := hh
 rcases hown.2 with ⟨e, h0⟩ | ⟨g, c2, cur, e, _⟩
 ·simp only [Value.slice.injEq] at e
  exact h (List.eq_nil_of_length_eq_zero h0) e.2.2 a w d
 ·simp at e
end ins
end Lg
end
