/- A part of the proof of a law of this seat: it adds no condition. By an AI agent. -/
import Derived.Lib.Bytealg
import Derived.Lib.AtoiAll
import Derived.Lib.ItoaNum
import Derived.Lib.ItoaMem
import Derived.Test.YtjknjnkkpfeahaaGreatDoorLgY
section
set_option linter.all false
namespace Lg
open Go
abbrev slV (v : Value) (n : Nat) : Tr := Tr.raw (.slice (vAd v) n (vCap v))
abbrev ptV (v : Value) : Tr := Tr.raw (.pointer (some ⟨blk v, 0, none⟩))
section y2
variable {P : Program} {Γ : Ctx} {env : Env} {cs cf : List Chunk} {H : (Nat → Value) → (Nat → Bool) → List Chunk} {L : List Oper} {K : Env → List Chunk → Prop} {n : Nat} {l : List Oper} {Pf : Nat → (Nat → Value) → Prop} {d : Nat} {op : Op} {ty : TypeId} {pos : String} {af : Array Edge} {acc : (Nat → Value) → Env}
theorem append_core {E kk bb z T} [hS : TySl P T E kk bb z] {ty : TypeId} {ad : Option Addr} {cap : Nat} {rows rows2 : List (List Tr)} {v2 : Value} {a : Act} {w : World} (d' : Den Γ env (Chunk.own ad cap kk E rows :: cf) a w)
    (hys : (Tr.sl kk rows2).rd w (av Γ.M (Chunk.own ad cap kk E rows :: cf)) v2) (hb : (rows.length + rows2.length) * bb ≤ 140737488355328) (hm : rows.length + rows2.length ≤ 9223372036854775807) :
    ∃ ad' cap' w', (Builtin.append_ #[T, T] ty #[.slice ad rows.length cap, v2]).run P w = .ok (.slice ad' (rows ++ rows2).length cap') w' ∧ ∀ env2, Den Γ env2 (Chunk.own ad cap kk E rows :: cf) a w → Den Γ env2 (Chunk.own ad' cap' kk E (rows ++ rows2) :: cf) a w' := by
  have hown0 := d'.has (List.Perm.refl _)
  generalize hA : av Γ.M (Chunk.own ad cap kk E rows :: cf) = A at hys hown0
  unfold Tr.sl at hys
  obtain ⟨hk2, hl2, ad2, cap2, rfl, g1, g2, g3, g4⟩ := hys
  unfold Chunk.own at hown0
  obtain ⟨hk0, xs, hown, hrd⟩ := hown0
  obtain ⟨ti, zv, hi1, hi2, hi3, hi4, hi5, hi6⟩ := hS.hE
  have hzs : zv.cells.size = kk := hS.hz _ _ hi1 hi2
  have hm' : rows.length + rows2.length ≤ maxLen := by simp only [maxLen]; omega
  have key : ∃ v' w', (Builtin.append_ #[T, T] ty #[.slice ad rows.length cap, .slice ad2 rows2.length cap2]).run P w = .ok v' w' ∧ ∃ news, RdC w A rows2.flatten news ∧
      w'.ownsRow 0 E kk v' (rows.length + rows2.length) (xs ++ news) ∧ w.grownBy w' (Value.ownBlock (.slice ad rows.length cap)) ∧ (∀ b, v'.ownBlock = some b → (Value.ownBlock (.slice ad rows.length cap)) = some b ∨ w.heap.size ≤ b) := by
    rcases g4 with g4 | ⟨b, off, rfl, hc⟩
    · subst g4
      cases ad2 with
      | none =>
        obtain ⟨_, rfl⟩ := g3 rfl
        exact ⟨_, w, run_append_owned_none (P := P) w 0 T ty E ti kk hS.hT hi1 _ _ xs hown, [], rfl, by simpa using hown, ⟨rfl, rfl, rfl, Nat.le_refl _, fun _ _ _ => rfl⟩, fun b hb => .inl hb⟩
      | some a2 =>
        obtain ⟨v', w', h1, h2, h3, h4⟩ := append_run (P := P) (ty := ty) (a := a2) (m := 0) (c := cap2) (news := []) hS.hT hi1 hi2 hi4 hi5 hzs hi6 hown (by simp) (by simp) (by simp) (by simpa using hm') (by simpa using hb)
        exact ⟨v', w', h1, [], rfl, h2, h3, h4⟩
    · obtain ⟨vs, hvs, hcell⟩ := rdc_at hc
      obtain ⟨v', w', h1, h2, h3, h4⟩ := append_run (P := P) (ty := ty) (a := ⟨b, off, none⟩) (m := rows2.length) (c := cap2) (news := vs) hS.hT hi1 hi2 hi4 hi5 hzs hi6 hown (by rw [hvs.length]; exact flat_len hk2) hcell hvs.one hm' hb
      exact ⟨v', w', h1, vs, hvs, h2, h3, h4⟩
  obtain ⟨v', w', hrun, news, hnews, hown', hgr, hfresh⟩ := key
  have hform : ∃ ad' cap', v' = .slice ad' (rows ++ rows2).length cap' := by
    rcases hown'.2 with ⟨e, h0⟩ | ⟨g, c, cur, e, _⟩
    · exact ⟨none, 0, by rw [e, List.length_append, h0]⟩
    · exact ⟨_, c, by rw [e, List.length_append]⟩
  obtain ⟨ad', cap', rfl⟩ := hform
  refine ⟨ad', cap', w', hrun, fun env2 d2 => ?_⟩
  refine d2.turnF (c' := Chunk.own ad' cap' kk E (rows ++ rows2)) ?_ ?_ ?_ ?_
  · intro b hb
    have hb' : Value.ownBlock (.slice ad' (rows ++ rows2).length cap') = some b := by unfold Chunk.own at hb; simpa using hb
    rcases hfresh b hb' with h | h
    · exact .inl (by unfold Chunk.own; simpa using h)
    · exact .inr ⟨h, (hown'.lt b hb').2⟩
  · have : (Chunk.own ad' cap' kk E (rows ++ rows2)).fp = (Value.ownBlock (.slice ad' (rows ++ rows2).length cap')).toList := by unfold Chunk.own; rfl
    rw [this]
    cases Value.ownBlock (.slice ad' (rows ++ rows2).length cap') <;> simp
  · exact ⟨hgr.os, hgr.tape, hgr.output, hgr.size, fun b hb hn => hgr.block b hb fun e => hn (by unfold Chunk.own; simp [← e]), fun _ => run_drawn hrun⟩
  · intro hs _
    rw [hA] at hs
    generalize av Γ.M (Chunk.own ad' cap' kk E (rows ++ rows2) :: cf) = A' at hs ⊢
    unfold Chunk.own
    refine ⟨?_, xs ++ news, by simpa using hown', ?_⟩
    · intro r hr
      rcases List.mem_append.1 hr with h | h
      · exact hk0 r h
      · exact hk2 r h
    · rw [List.flatten_append]
      exact (hrd.mono hs).app (hnews.mono hs)
/-- an owned slice grows -/
theorem YSeq.append {E kk bb z T} [hS : TySl P T E kk bb z] {x y : Operand} (mm : Nat)
    (h : ∀ (ξ : Nat → Value) (S : Nat → Bool), S n = false → (∀ j ∈ preds af, S j = true) → Clo L S → (∀ k, S k = true → Pf k ξ) →
      ∃ (ad : Option Addr) (m cap : Nat) (rows rows2 : List (List Tr)) (cf : List Chunk), ev (rst (slotsOf (.call ⟨.builtin .append, #[x, y], #[T, T]⟩)) (acc ξ)) x = some (.raw (.slice ad m cap)) ∧ ev (rst (slotsOf (.call ⟨.builtin .append, #[x, y], #[T, T]⟩)) (acc ξ)) y = some (.sl kk rows2) ∧
        (H ξ S).Perm (Chunk.own ad cap kk E rows :: cf) ∧ m = rows.length ∧ rows.length + rows2.length = mm ∧ (rows.length + rows2.length) * bb ≤ 140737488355328 ∧ rows.length + rows2.length ≤ 9223372036854775807 ∧ ∀ ad' cap', (H (upd ξ n (.slice ad' mm cap')) (updD S n)).Perm (Chunk.own ad' cap' kk E (rows ++ rows2) :: cf))
    (k : YSeq P Γ H L K (n + 1) (fun ξ => (d, Tr.raw (.slice (vAd (ξ n)) mm (vCap (ξ n)))) :: acc ξ) (pfY n (fun _ => True) Pf) l) : YSeq P Γ H L K n acc Pf (⟨some d, .call ⟨.builtin .append, #[x, y], #[T, T]⟩, ty, pos, af, none⟩ :: l) := by
  refine YSeq.cons PvOkY.triv (TOk.own (T := fun v => Tr.raw (.slice (vAd v) mm (vCap v)))) ?_ k
  unfold YStep
  intro ξ S h1 h2 h3 h4 a w dd next F hk
  obtain ⟨ad, m, cap, rows, rows2, cf, hx, hy, hp, hn, hmm, hb, hm, hq⟩ := h ξ S h1 h2 h3 h4
  subst hn
  have hv := rd_raw (dd.ev hx)
  have hys := dd.ev hy
  rw [av_perm hp Γ.M] at hys
  obtain ⟨ad', cap', w', hrun, hE⟩ := append_core (P := P) (T := T) (ty := ty) (dd.perm hp) hys hb hm
  have hx2 : (execOp a.eval ⟨some d, .call ⟨.builtin .append, #[x, y], #[T, T]⟩, ty, pos, af, none⟩).run P w = .ok (.value (.slice ad' (rows ++ rows2).length cap')) w' := by simp [execOp, resolve, invoke, builtin, hv, hrun] <;> rfl
  refine opIn_of_run hx2 ⟨(by intro d h; cases h), (by intro x y h; cases h)⟩ ?_
  rw [List.length_append, hmm]
  refine hk _ _ trivial ?_ fun env2 d2 => (hE env2 (d2.perm hp)).perm (hq ad' cap').symm
  simp only [upd_same, vAd, vCap]
  exact raw_self _
/-- the same, where what is put behind is an owned slice too, and is owned no more -/
theorem YSeq.appendO {E kk bb z T} [hS : TySl P T E kk bb z] {x y : Operand} (mm : Nat)
    (h : ∀ (ξ : Nat → Value) (S : Nat → Bool), S n = false → (∀ j ∈ preds af, S j = true) → Clo L S → (∀ k, S k = true → Pf k ξ) →
      ∃ (ad : Option Addr) (m cap : Nat) (ad2 : Option Addr) (m2 cap2 : Nat) (rows rows2 : List (List Tr)) (cf0 cf : List Chunk), ev (rst (slotsOf (.call ⟨.builtin .append, #[x, y], #[T, T]⟩)) (acc ξ)) x = some (.raw (.slice ad m cap)) ∧ ev (rst (slotsOf (.call ⟨.builtin .append, #[x, y], #[T, T]⟩)) (acc ξ)) y = some (.raw (.slice ad2 m2 cap2)) ∧
        (H ξ S).Perm (Chunk.own ad2 cap2 kk E rows2 :: cf0) ∧ cf0.Perm (Chunk.own ad cap kk E rows :: cf) ∧ m = rows.length ∧ m2 = rows2.length ∧ rows.length + rows2.length = mm ∧ (rows.length + rows2.length) * bb ≤ 140737488355328 ∧ rows.length + rows2.length ≤ 9223372036854775807 ∧ ∀ ad' cap', (H (upd ξ n (.slice ad' mm cap')) (updD S n)).Perm (Chunk.own ad' cap' kk E (rows ++ rows2) :: cf))
    (k : YSeq P Γ H L K (n + 1) (fun ξ => (d, Tr.raw (.slice (vAd (ξ n)) mm (vCap (ξ n)))) :: acc ξ) (pfY n (fun _ => True) Pf) l) : YSeq P Γ H L K n acc Pf (⟨some d, .call ⟨.builtin .append, #[x, y], #[T, T]⟩, ty, pos, af, none⟩ :: l) := by
  refine YSeq.cons PvOkY.triv (TOk.own (T := fun v => Tr.raw (.slice (vAd v) mm (vCap v)))) ?_ k
  unfold YStep
  intro ξ S h1 h2 h3 h4 a w dd next F hk
  obtain ⟨ad, m, cap, ad2, m2, cap2, rows, rows2, cf0, cf, hx, hy, hp0, hp1, hn, hn2, hmm, hb, hm, hq⟩ := h ξ S h1 h2 h3 h4
  subst hn
  subst hn2
  have hv := rd_raw (dd.ev hx)
  have hv2 := rd_raw (dd.ev hy)
  have d0 := dd.perm (hp0.trans (List.Perm.cons _ hp1))
  have hys := Den.settled d0 rfl
  obtain ⟨ad', cap', w', hrun, hE⟩ := append_core (P := P) (T := T) (ty := ty) d0.dropc hys hb hm
  have hx2 : (execOp a.eval ⟨some d, .call ⟨.builtin .append, #[x, y], #[T, T]⟩, ty, pos, af, none⟩).run P w = .ok (.value (.slice ad' (rows ++ rows2).length cap')) w' := by simp [execOp, resolve, invoke, builtin, hv, hv2, hrun] <;> rfl
  refine opIn_of_run hx2 ⟨(by intro d h; cases h), (by intro x y h; cases h)⟩ ?_
  rw [List.length_append, hmm]
  refine hk _ _ trivial ?_ fun env2 d2 => (hE env2 (d2.perm (hp0.trans (List.Perm.cons _ hp1))).dropc).perm (hq ad' cap').symm
  simp only [upd_same, vAd, vCap]
  exact raw_self _
/-- a slice of zeros of one's own is made -/
theorem YSeq.mkOwn {T : TypeId} {x y : Operand} {E kk bb : Nat} {zs : List Value} [hS : TySl P T E kk bb zs] (m : Nat) (hx : ∀ ξ, ev (rst (slotsOf (.makeSlice T x y)) (acc ξ)) x = some (.int m)) (hy : ∀ ξ, ev (rst (slotsOf (.makeSlice T x y)) (acc ξ)) y = some (.int m)) (hb : bb * m ≤ 281474976710656) (hmx : m ≤ 1000000000)
    (hH : ∀ (ξ : Nat → Value) (S : Nat → Bool), S n = false → Clo L S → ∀ ad cap, (H (upd ξ n (.slice ad m cap)) (updD S n)).Perm (Chunk.own ad cap kk E (List.replicate m (zs.map Tr.raw)) :: H ξ S))
    (k : YSeq P Γ H L K (n + 1) (fun ξ => (d, Tr.raw (.slice (vAd (ξ n)) m (vCap (ξ n)))) :: acc ξ) (pfY n (fun _ => True) Pf) l) : YSeq P Γ H L K n acc Pf (⟨some d, .makeSlice T x y, ty, pos, af, none⟩ :: l) := by
  refine YSeq.cons PvOkY.triv (TOk.own (T := fun v => Tr.raw (.slice (vAd v) m (vCap v)))) ?_ k
  unfold YStep
  intro ξ S h1 h2 h3 h4 a w dd next F hk
  have hv := rd_raw (dd.ev (hx ξ))
  have hv2 := rd_raw (dd.ev (hy ξ))
  obtain ⟨ti, zv, i1, i2, i3, i4, i5, i6⟩ := hS.hE
  have hr := run_make (P := P) w T E ti zv hS.hT i1 i2 .i64 .i64 m m (by omega) (Int.le_refl _) (by rw [i5, ← Int.natCast_mul]; omega) (by omega)
  have hzs : zv.cells.size = kk := hS.hz _ _ i1 i2
  simp only [Int.toNat_natCast, i4] at hr
  have hx2 : (execOp a.eval ⟨some d, .makeSlice T x y, ty, pos, af, none⟩).run P w = .ok (.value (.slice (some ⟨w.heap.size, 0, none⟩) m m)) (w.alloc (.cells (madeCells zv.cells (m * kk)) E)) := by simp [execOp, hv, hv2, hr] <;> rfl
  refine opIn_of_run hx2 ⟨(by intro d h; cases h), (by intro x y h; cases h)⟩ ?_
  refine hk _ _ trivial ?_ fun env2 d2 => Den.perm ?_ (hH ξ S h1 h3 _ _).symm
  · simp only [upd_same, vAd, vCap]
    exact raw_self _
  refine d2.push _ (by simp) (by unfold Chunk.own; simp [Value.ownBlock]) (by unfold Chunk.own; simp [Value.ownBlock]) (fun b hb => heap_alloc_old w _ b hb) rfl rfl rfl ?_
  intro hs
  have hmd := madeCells_rd (w := w) (A := av Γ.M (H ξ S)) (zs := zv.cells) (by rw [i3]; exact hS.one) m
  rw [hzs, i3] at hmd
  generalize av Γ.M (_ :: H ξ S) = A at *
  unfold Chunk.own
  refine ⟨fun r hr => by rw [List.eq_of_mem_replicate hr]; simp [hS.hk], (madeCells zv.cells (m * kk)).toList, ?_, ?_⟩
  · simp only [List.length_replicate]
    exact World.ownsRow_lit w (madeCells zv.cells (m * kk)) m (Nat.zero_le _) (by simp only [maxLen]; omega) (size_madeCells _ _)
  · have e := zeroRow_flat zs m
    rw [e]
    exact hmd.mono hs
/-- a slice literal of one's own -/
theorem YSeq.lit {T : TypeId} {E kk bb : Nat} {zs : List Value} [hS : TySl P T E kk bb zs] {m : Nat} {parts : List (Nat × Operand)}
    (h : ∀ (ξ : Nat → Value) (S : Nat → Bool), S n = false → (∀ j ∈ preds af, S j = true) → Clo L S → (∀ k, S k = true → Pf k ξ) →
      ∃ (ts : List Tr) (rows : List (List Tr)), Parts (fun i => some (i * kk, kk)) (rst (slotsOf (.buildSlice T m parts.toArray)) (acc ξ)) parts (zeroRow zs m) ts ∧ rowsOf kk m ts = rows ∧ Nat.ble (m * kk) 16777216 = true ∧ ∀ ad cap, (H (upd ξ n (.slice ad m cap)) (updD S n)).Perm (Chunk.own ad cap kk E rows :: H ξ S))
    (k : YSeq P Γ H L K (n + 1) (fun ξ => (d, Tr.raw (.slice (vAd (ξ n)) m (vCap (ξ n)))) :: acc ξ) (pfY n (fun _ => True) Pf) l) : YSeq P Γ H L K n acc Pf (⟨some d, .buildSlice T m parts.toArray, ty, pos, af, none⟩ :: l) := by
  refine YSeq.cons PvOkY.triv (TOk.own (T := fun v => Tr.raw (.slice (vAd v) m (vCap v)))) ?_ k
  unfold YStep
  intro ξ S h1 h2 h3 h4 a w dd next F hk
  obtain ⟨ts, rows, hp, hrows, hn, hH⟩ := h ξ S h1 h2 h3 h4
  have hn' : m * kk ≤ 16777216 := Nat.le_of_ble_eq_true hn
  obtain ⟨c, hrun, hr, hsz⟩ := run_buildSlice (P := P) (T := T) hn' dd hp
  have hl : ts.length = m * kk := by rw [← hr.length, Array.length_toList, hsz]
  obtain ⟨r1, r2, r3⟩ := rowsOf_flat hl
  obtain ⟨_, _, _, _, _, _, _, hk0⟩ := hS.hE
  have hmax : m ≤ maxLen := by
    have : m ≤ m * kk := Nat.le_mul_of_pos_right m hk0
    simp only [maxLen]
    omega
  subst hrows
  have hx2 : (execOp a.eval ⟨some d, .buildSlice T m parts.toArray, ty, pos, af, none⟩).run P w = .ok (.value (.slice (some ⟨w.heap.size, 0, none⟩) m m)) (w.alloc (.cells c E)) := by simp [execOp, hrun] <;> rfl
  refine opIn_of_run hx2 ⟨(by intro d h; cases h), (by intro x y h; cases h)⟩ ?_
  refine hk _ _ trivial ?_ fun env2 d2 => Den.perm ?_ (hH _ _).symm
  · simp only [upd_same, vAd, vCap]
    exact raw_self _
  refine d2.push _ (by simp) (by unfold Chunk.own; simp [Value.ownBlock]) (by unfold Chunk.own; simp [Value.ownBlock]) (fun b hb => heap_alloc_old w _ b hb) rfl rfl rfl ?_
  intro hs
  generalize av Γ.M (H ξ S) = A0 at *
  generalize av Γ.M (_ :: H ξ S) = A at *
  unfold Chunk.own
  refine ⟨r2, c.toList, ?_, ?_⟩
  · rw [r3]
    exact World.ownsRow_lit w c m (Nat.zero_le _) hmax hsz
  · rw [r1]
    exact hr.mono hs
/-- a store into an owned slice -/
theorem YSeq.storeG {T : TypeId} {x y : Operand} {sz : Nat} (hT : ∃ i, P.info? T = some i ∧ i.size = sz)
    (h : ∀ (ξ : Nat → Value) (S : Nat → Bool), S n = false → (∀ j ∈ preds af, S j = true) → Clo L S → (∀ k, S k = true → Pf k ξ) →
      ∃ (ad : Option Addr) (cap kk m j : Nat) (e : TypeId) (rows : List (List Tr)) (r us : List Tr) (t : Tr) (cf : List Chunk), ev (rst (slotsOf (.store T x y)) (acc ξ)) x = some (Tr.eptr ad kk m j) ∧ ev (rst (slotsOf (.store T x y)) (acc ξ)) y = some t ∧ RowT t us ∧
        (H ξ S).Perm (Chunk.own ad cap kk e rows :: cf) ∧ rows[m]? = some r ∧ us.length = sz ∧ j + sz ≤ kk ∧ (r.length = kk → (H (upd ξ n undef) (updD S n)).Perm (Chunk.own ad cap kk e (rows.set m (r.take j ++ us ++ r.drop (j + sz))) :: cf)))
    (k : YSeq P Γ H L K (n + 1) acc (pfY n (fun _ => True) Pf) l) : YSeq P Γ H L K n acc Pf (⟨none, .store T x y, ty, pos, af, none⟩ :: l) := by
  refine YSeq.cons PvOkY.triv (TOk.const (t := Tr.any)) ?_ k
  unfold YStep
  intro ξ S h1 h2 h3 h4 a w dd next F hk
  obtain ⟨ad, cap, kk, m, j, e, rows, r, us, t, cf, hx, hy, ho, hp, hr, hu, hj, hq⟩ := h ξ S h1 h2 h3 h4
  have hptr := dd.ev hx
  unfold Tr.eptr at hptr
  obtain ⟨g, ha, hv⟩ := hptr
  have d1 := dd.perm hp
  have hrow : RdC w (av Γ.M (Chunk.own ad cap kk e rows :: cf)) us (a.eval y).cells.toList := ho.h _ _ _ (d1.ev hy)
  have hlr : r.length = kk := by
    have := d1.has (List.Perm.refl _)
    generalize av Γ.M (Chunk.own ad cap kk e rows :: cf) = A at this
    unfold Chunk.own at this
    obtain ⟨hk0, _⟩ := this
    exact hk0 r (List.mem_of_getElem? hr)
  have step : ∀ env2, Den Γ env2 (Chunk.own ad cap kk e rows :: cf) a w → ∃ w', (Instr.storeAt T (.pointer (some ⟨g, m * kk + j, none⟩)) (a.eval y)).run P w = .ok () w' ∧ Den Γ env2 (Chunk.own ad cap kk e (rows.set m (r.take j ++ us ++ r.drop (j + sz))) :: cf) a w' := by
    intro env2 d2
    exact own_store (P := P) d2 ha hr (r' := r.take j ++ us ++ r.drop (j + sz)) (vs := (a.eval y).cells.toList) (m := sz) (j := j) (by rw [hrow.length, hu]) (by omega)
      (fun A w' hs xs hx => (((hx.take j).mono hs).app (hrow.mono hs)).app ((hx.drop (j + sz)).mono hs)) (by simp [hlr, hu]; omega) T (a.eval y) hT rfl hrow.one
  obtain ⟨w', hrun, hd⟩ := step _ d1
  have hx2 : (execOp a.eval ⟨none, .store T x y, ty, pos, af, none⟩).run P w = .ok .skip w' := by simp [execOp, hv, hrun] <;> rfl
  refine opIn_of_run hx2 ⟨(by intro d h; cases h), (by intro x y h; cases h)⟩ ?_
  refine hk _ _ trivial tr_any_self fun env2 d2 => ?_
  obtain ⟨w2, hrun2, hd2⟩ := step env2 (d2.perm hp)
  rw [hrun] at hrun2
  cases hrun2
  exact hd2.perm (hq hlr).symm
/-- a store of one cell into an owned slice -/
theorem YSeq.storeO {T : TypeId} {x y : Operand} [hT : TyOne P T]
    (h : ∀ (ξ : Nat → Value) (S : Nat → Bool), S n = false → (∀ j ∈ preds af, S j = true) → Clo L S → (∀ k, S k = true → Pf k ξ) →
      ∃ (ad : Option Addr) (cap kk m j : Nat) (e : TypeId) (rows : List (List Tr)) (r : List Tr) (t : Tr) (cf : List Chunk), ev (rst (slotsOf (.store T x y)) (acc ξ)) x = some (Tr.eptr ad kk m j) ∧ ev (rst (slotsOf (.store T x y)) (acc ξ)) y = some t ∧ OneT t ∧
        (H ξ S).Perm (Chunk.own ad cap kk e rows :: cf) ∧ rows[m]? = some r ∧ j < kk ∧ (H (upd ξ n undef) (updD S n)).Perm (Chunk.own ad cap kk e (rows.set m (r.set j t)) :: cf))
    (k : YSeq P Γ H L K (n + 1) acc (pfY n (fun _ => True) Pf) l) : YSeq P Γ H L K n acc Pf (⟨none, .store T x y, ty, pos, af, none⟩ :: l) := by
  refine YSeq.storeG (sz := 1) hT.size ?_ k
  intro ξ S h1 h2 h3 h4
  obtain ⟨ad, cap, kk, m, j, e, rows, r, t, cf, g1, g2, g3, g4, g5, g6, g7⟩ := h ξ S h1 h2 h3 h4
  refine ⟨ad, cap, kk, m, j, e, rows, r, [t], t, cf, g1, g2, inferInstance, g4, g5, rfl, by omega, fun hl => ?_⟩
  have : r.take j ++ [t] ++ r.drop (j + 1) = r.set j t := by rw [List.set_eq_take_append_cons_drop, if_pos (by omega)]; simp
  rw [this]
  exact g7
theorem Cw.region_YP {Q : Post} {id : Nat} {l : List Oper} (H : (Nat → Value) → (Nat → Bool) → List Chunk) (hm : P.follows .mixedOrders = true) (hb : (backOk l && (nodupB (dsts l) && (ssaFrom l 0 l && noGuards l))) = true) (hlt : (dsts l).all (Nat.blt · Γ.n) = true)
    (cs' : List Chunk) (hp : cs.Perm cs') (hs : ∀ ξ, H ξ (fun j => Nat.ble l.length j) = cs') (h : YSeq P Γ H l (fun acc cs => ∃ env' cs', Ent Γ acc cs env' cs' ∧ Q .normal env' cs') 0 (fun _ => env) (fun _ _ => True) l) : Cw P Γ (.region id l.toArray true) env cs Q :=
  Cw.ent (Ent.perm hp) (Cw.region_Y H hm hb hlt hs h)
theorem pf_int {st c : Nat} {f : FuncId} {args : List Tr} {p : Int → Prop} (hg : Gen P st f args c (fun r => ∃ x, r = .int x ∧ p x)) {X : Prop} {x : Int} (h : X) (e : X = p x := by rfl) : p x := e ▸ h
theorem pf_str {st c : Nat} {f : FuncId} {args : List Tr} {p : ByteArray → Prop} (hg : Gen P st f args c (fun r => ∃ x, r = .str x ∧ p x)) {X : Prop} {x : ByteArray} (h : X) (e : X = p x := by rfl) : p x := e ▸ h
end y2
end Lg
end
section
set_option linter.all false
set_option maxRecDepth 100000
namespace Lg
open Go Go.RowKit

/-! ### strings as lists of bytes, and their parts -/
def mkB (l : List UInt8) : ByteArray := ⟨⟨l⟩⟩
theorem mkB_size (l : List UInt8) : (mkB l).size = l.length := rfl
theorem mkB_eta (s : ByteArray) : mkB s.data.toList = s := rfl
theorem mkB_list (l : List UInt8) : (mkB l).data.toList = l := rfl
theorem mkB_app (a b : List UInt8) : mkB a ++ mkB b = mkB (a ++ b) := by
  apply ByteArray.ext
  rw [ByteArray.data_append]
  simp [mkB]
theorem mkB_ext (l : List UInt8) (a b : Nat) : (mkB l).extract a b = mkB ((l.drop a).take (b - a)) := by
  have h := ByteArray.extract_mk l a b
  unfold mkB
  simpa using h
theorem str_list (s : ByteArray) : s.size = s.data.toList.length := rfl

section strs
variable {P : Program} {Γ : Ctx} {env env' : Env} {cs cs' cf : List Chunk} {Q : Post} {R : Array Oper}
variable {i : Tmp} {ty : TypeId} {pos : String} {af : Array Edge} {rest : List Oper}
variable {x y z : Operand} {T T2 : TypeId} {k : IntKind} {p q : Int} {s u : ByteArray}
theorem OpV.sliceS_l (hT : P.underlying T = some .string) (hx : ev env x = some (.str s)) (hz : ev env z = some (.raw (.int k q))) (h : 0 ≤ q ∧ q ≤ s.size) : OpV P Γ (.slice T x (some z) none none) ty env cs (.str (s.extract q.toNat s.size)) :=
  by unfold OpV; exact (fun a w d => ⟨.string (s.extract q.toNat s.size), by
    have h1 : a.eval x = .string s := rd_raw (d.ev hx)
    have h2 : a.eval z = .int k q := rd_raw (d.ev hz)
    simp [execOp, h1, h2, Instr.sliceAt, Instr.slice, Instr.sliceBounds, Instr.sliceBound, asIntOf, run_underlying hT, h], raw_self _⟩)
theorem Ops.sliceS_l (hT : P.underlying T = some .string) (hx : ev env x = some (.str s)) (hz : ev env z = some (.raw (.int k q))) (h : 0 ≤ q ∧ q ≤ s.size) (hi : Nat.blt i Γ.n = true)
    (kk : Ops P Γ R rest ((i, .str (s.extract q.toNat s.size)) :: env) cs Q) : Ops P Γ R (⟨some i, .slice T x (some z) none none, ty, pos, af, none⟩ :: rest) env cs Q := Ops.val' hi (OpV.sliceS_l hT hx hz h) kk
theorem OpV.catB (hx : ev env x = some (.str s)) (hy : ev env y = some (.str u)) (hz : s.size + u.size ≤ 1000000000000) : OpV P Γ (.binOp .add T x y T2) ty env cs (.str (s ++ u)) :=
  OpV.binS hx hy (by simp only [Op.stringOp]; rw [if_neg (by have : IntKind.i64.max = 9223372036854775807 := rfl; omega)])
theorem Ops.catB (hx : ev env x = some (.str s)) (hy : ev env y = some (.str u)) (hz : s.size + u.size ≤ 1000000000000) (hi : Nat.blt i Γ.n = true)
    (kk : Ops P Γ R rest ((i, .str (s ++ u)) :: env) cs Q) : Ops P Γ R (⟨some i, .binOp .add T x y T2, ty, pos, af, none⟩ :: rest) env cs Q := Ops.val' hi (OpV.catB hx hy hz) kk
end strs

/-! ### cut at a byte -/
def splL (c : UInt8) : List UInt8 → List (List UInt8)
  | [] => [[]]
  | x :: l => if x = c then [] :: splL c l else match splL c l with
    | [] => [[x]]
    | h :: t => (x :: h) :: t
theorem splL_ne (c : UInt8) (l : List UInt8) : splL c l ≠ [] := by
  cases l with
  | nil => simp [splL]
  | cons x l =>
    rw [splL]
    split
    · simp
    · split <;> simp
theorem splL_none {c : UInt8} : ∀ {l : List UInt8}, Lib.indexByte l c = -1 → splL c l = [l]
  | [], _ => rfl
  | x :: l, h => by
    rw [Lib.indexByte] at h
    split at h
    · omega
    · rename_i hx
      split at h
      · rename_i h2
        have h3 : Lib.indexByte l c = -1 := by simpa using h2
        have ih := splL_none h3
        have hx' : ¬ x = c := by simpa using hx
        rw [splL, if_neg hx', ih]
      · rename_i h2
        have := Lib.indexByte_ge l c
        omega
theorem splL_some {c : UInt8} : ∀ {l : List UInt8} {m : Nat}, Lib.indexByte l c = (m : Int) → splL c l = l.take m :: splL c (l.drop (m + 1)) ∧ m < l.length
  | [], m, h => by
    rw [Lib.indexByte] at h
    omega
  | x :: l, m, h => by
    rw [Lib.indexByte] at h
    split at h
    · rename_i hx
      have hm : m = 0 := by omega
      subst hm
      have hx' : x = c := by simpa using hx
      rw [splL, if_pos hx']
      exact ⟨rfl, by simp⟩
    · rename_i hx
      have hx' : ¬ x = c := by simpa using hx
      split at h
      · omega
      · rename_i h2
        have hge := Lib.indexByte_ge l c
        have h4 : ¬ Lib.indexByte l c = -1 := by simpa using h2
        obtain ⟨j, rfl⟩ : ∃ j, m = j + 1 := ⟨m - 1, by omega⟩
        have h3 : Lib.indexByte l c = (j : Int) := by omega
        obtain ⟨ih1, ih2⟩ := splL_some h3
        rw [splL, if_neg hx', ih1]
        exact ⟨rfl, by simp; omega⟩
theorem splL_len (c : UInt8) : ∀ l : List UInt8, (splL c l).length = Lib.countByte l c + 1
  | [] => rfl
  | x :: l => by
    have ih := splL_len c l
    unfold Lib.countByte at ih ⊢
    rw [splL, List.count_cons]
    by_cases h : x = c
    · rw [if_pos h, if_pos (by simpa using h), List.length_cons, ih]
    · rw [if_neg h, if_neg (by simpa using h)]
      cases h2 : splL c l with
      | nil => exact absurd h2 (splL_ne c l)
      | cons a b => rw [h2] at ih; simpa using ih
theorem countByte_le (l : List UInt8) (c : UInt8) : Lib.countByte l c ≤ l.length := List.count_le_length
/-- the texts between the bytes c of a string -/
def splS (c : UInt8) (s : ByteArray) : List ByteArray := (splL c s.data.toList).map mkB
theorem splS_none {c : UInt8} {s : ByteArray} (h : Lib.indexByte s.data.toList c = -1) : splS c s = [s] := by
  unfold splS
  rw [splL_none h]
  rfl
theorem splS_some {c : UInt8} {s : ByteArray} {m : Nat} (h : Lib.indexByte s.data.toList c = (m : Int)) : splS c s = s.extract 0 m :: splS c (s.extract (m + 1) s.size) ∧ m < s.size := by
  obtain ⟨h1, h2⟩ := splL_some h
  refine ⟨?_, h2⟩
  unfold splS
  rw [h1, List.map_cons]
  have e1 : s.extract 0 m = mkB (s.data.toList.take m) := by
    conv => lhs; rw [← mkB_eta s]
    rw [mkB_ext]
    simp
  have e2 : (s.extract (m + 1) s.size).data.toList = s.data.toList.drop (m + 1) := by
    conv => lhs; rw [← mkB_eta s]
    rw [mkB_ext, mkB_list]
    rw [List.take_of_length_le (by rw [List.length_drop, mkB_size]; exact Nat.le_refl _)]
  rw [e1, e2]
theorem splS_len (c : UInt8) (s : ByteArray) : (splS c s).length = Lib.countByte s.data.toList c + 1 := by
  unfold splS
  rw [List.length_map, splL_len]
theorem splL_sizes (c : UInt8) : ∀ (l : List UInt8), ∀ w ∈ splL c l, w.length ≤ l.length
  | [], w, h => by
    rw [splL, List.mem_singleton] at h
    subst h
    exact Nat.le_refl _
  | x :: l, w, h => by
    have ih := splL_sizes c l
    rw [splL] at h
    split at h
    · rcases List.mem_cons.1 h with rfl | h
      · simp
      · have := ih w h
        simp; omega
    · cases h2 : splL c l with
      | nil => exact absurd h2 (splL_ne c l)
      | cons a b =>
        rw [h2] at h ih
        rcases List.mem_cons.1 h with rfl | h
        · have := ih a (by simp)
          simp; omega
        · have := ih w (by simp [h])
          simp; omega
theorem splS_size {c : UInt8} {s w : ByteArray} (h : w ∈ splS c s) : w.size ≤ s.size := by
  unfold splS at h
  obtain ⟨l, hl, rfl⟩ := List.mem_map.1 h
  exact splL_sizes c _ l hl
/-- cut once -/
def cutS (c : UInt8) (s : ByteArray) : ByteArray × ByteArray × Bool :=
  if Lib.indexByte s.data.toList c < 0 then (s, ⟨#[]⟩, false) else (s.extract 0 (Lib.indexByte s.data.toList c).toNat, s.extract ((Lib.indexByte s.data.toList c).toNat + 1) s.size, true)
theorem cutS_none {c : UInt8} {s : ByteArray} (h : Lib.indexByte s.data.toList c = -1) : cutS c s = (s, ⟨#[]⟩, false) := by unfold cutS; rw [if_pos (by omega)]
theorem cutS_some {c : UInt8} {s : ByteArray} {m : Nat} (h : Lib.indexByte s.data.toList c = (m : Int)) : cutS c s = (s.extract 0 m, s.extract (m + 1) s.size, true) := by
  unfold cutS
  rw [if_neg (by omega), h, Int.toNat_natCast]
theorem idx_cases (l : List UInt8) (c : UInt8) : Lib.indexByte l c = -1 ∨ ∃ m : Nat, Lib.indexByte l c = (m : Int) := by
  have := Lib.indexByte_ge l c
  by_cases h : Lib.indexByte l c = -1
  · exact .inl h
  · exact .inr ⟨(Lib.indexByte l c).toNat, by omega⟩
end Lg
end
section
set_option linter.all false
namespace Lg
open Go

/-! ### numerals: how a number is written and read (plain) -/
def isDig (c : UInt8) : Bool := decide (48 ≤ c.toNat ∧ c.toNat ≤ 57)
def dval (acc : Nat) (l : List UInt8) : Nat := l.foldl (fun a c => a * 10 + (c.toNat - 48)) acc
theorem dval_nil (acc : Nat) : dval acc [] = acc := rfl
theorem dval_cons (acc : Nat) (c : UInt8) (r : List UInt8) : dval acc (c :: r) = dval (acc * 10 + (c.toNat - 48)) r := by
  unfold dval
  rw [List.foldl_cons]
/-- without one '-' ahead -/
def trimM : List UInt8 → List UInt8
  | [] => []
  | c :: r => if c = 45 then r else c :: r
def negM (l : List UInt8) : Bool := decide (l.head? = some 45)
def okNum (n : Nat) (l : List UInt8) : Bool :=
  decide (trimM l ≠ [] ∧ (trimM l).length ≤ n ∧ ¬ ((trimM l).head? = some 48 ∧ (1 < (trimM l).length ∨ (trimM l).length < l.length))) && (trimM l).all isDig
def valNum (l : List UInt8) : Int := if negM l = true then -(dval 0 (trimM l) : Int) else (dval 0 (trimM l) : Int)

theorem dval_snoc (c : UInt8) (l : List UInt8) (acc : Nat) : dval acc (l ++ [c]) = dval acc l * 10 + (c.toNat - 48) := by
  unfold dval
  rw [List.foldl_append]
  rfl
theorem isDig_bd {c : UInt8} (h : isDig c = true) : 48 ≤ c.toNat ∧ c.toNat ≤ 57 := of_decide_eq_true h
theorem dval_lt : ∀ (l : List UInt8) (acc : Nat), l.all isDig = true → dval acc l < (acc + 1) * 10 ^ l.length
  | [], acc, _ => by rw [dval_nil]; simp
  | c :: l, acc, h => by
    rw [List.all_cons, Bool.and_eq_true] at h
    have hc := isDig_bd h.1
    have ih := dval_lt l (acc * 10 + (c.toNat - 48)) h.2
    rw [dval_cons, List.length_cons]
    refine Nat.lt_of_lt_of_le ih ?_
    rw [show 10 ^ (l.length + 1) = 10 * 10 ^ l.length by rw [Nat.pow_succ, Nat.mul_comm], ← Nat.mul_assoc]
    refine Nat.mul_le_mul_right _ ?_
    omega
theorem dval_ge : ∀ (l : List UInt8) (acc : Nat), acc ≤ dval acc l
  | [], acc => Nat.le_refl _
  | c :: l, acc => by
    rw [dval_cons]
    have := dval_ge l (acc * 10 + (c.toNat - 48))
    omega
theorem parse_ok : ∀ (l : List UInt8) (acc : Nat), l.all isDig = true → dval acc l < 1000000000000000000 → Lib.parseUint10 acc l = .ok (dval acc l)
  | [], acc, _, _ => by rw [Lib.parseUint10, dval_nil]
  | c :: l, acc, h, hb => by
    rw [List.all_cons, Bool.and_eq_true] at h
    have hc := isDig_bd h.1
    have hg := dval_ge l (acc * 10 + (c.toNat - 48))
    rw [dval_cons] at hb ⊢
    rw [Lib.parseUint10, if_pos hc, if_neg (by omega), if_neg (by omega)]
    exact parse_ok l _ h.2 hb
theorem dval_18 {l : List UInt8} (h : l.all isDig = true) (hl : l.length ≤ 18) : dval 0 l < 1000000000000000000 := by
  have h1 := dval_lt l 0 h
  have h2 : 10 ^ l.length ≤ 10 ^ 18 := Nat.pow_le_pow_right (by omega) hl
  have h3 : (10 : Nat) ^ 18 = 1000000000000000000 := by decide
  omega
theorem trimM_cons (c : UInt8) (r : List UInt8) : trimM (c :: r) = if c = 45 then r else c :: r := rfl
theorem okNum_iff {n : Nat} {l : List UInt8} : okNum n l = true ↔ (trimM l ≠ [] ∧ (trimM l).length ≤ n ∧ ¬ ((trimM l).head? = some 48 ∧ (1 < (trimM l).length ∨ (trimM l).length < l.length))) ∧ (trimM l).all isDig = true := by
  unfold okNum
  rw [Bool.and_eq_true, decide_eq_true_iff]
theorem okNum_atoi {n : Nat} {l : List UInt8} (hn : n ≤ 18) (h : okNum n l = true) : Lib.atoiAll l = .ok (valNum l) := by
  obtain ⟨⟨h1, h2, _⟩, h4⟩ := okNum_iff.1 h
  have hv := dval_18 h4 (by omega)
  cases l with
  | nil => exact absurd rfl h1
  | cons c r =>
    rw [trimM_cons] at h1 h2 h4 hv
    unfold valNum negM
    rw [trimM_cons, List.head?_cons]
    unfold Lib.atoiAll
    by_cases hc : c = 45
    · subst hc
      rw [if_pos rfl] at h1 h2 h4 hv ⊢
      simp only
      rw [if_pos (by right; rfl)]
      unfold Lib.parseMag
      rw [if_neg h1, parse_ok r 0 h4 hv]
      simp only
      rw [if_neg (by intro h; exact h.1 rfl), if_neg (by intro h; omega), if_pos (by rfl), if_pos (by simp)]
    · rw [if_neg hc] at h1 h2 h4 hv ⊢
      have hd := isDig_bd (by rw [List.all_cons, Bool.and_eq_true] at h4; exact h4.1 : isDig c = true)
      simp only
      rw [if_neg (by omega)]
      unfold Lib.parseMag
      rw [if_neg h1, parse_ok (c :: r) 0 h4 hv]
      simp only
      rw [if_neg (by intro h; omega), if_neg (by intro h; omega), if_neg (by omega), if_neg (by simpa using hc)]
/-! the digits of a number -/
theorem dec_all : ∀ (u : Nat), (Lib.decDigits u).all isDig = true ∧ Lib.decDigits u ≠ [] ∧ ((Lib.decDigits u).head? = some 48 → u = 0) ∧ dval 0 (Lib.decDigits u) = u := by
  intro u
  induction u using Nat.strongRecOn with
  | _ u ih =>
    by_cases h : u < 10
    · rw [Lib.decDigits_one h]
      have e : (UInt8.ofNat (48 + u)).toNat = 48 + u := by rw [UInt8.toNat_ofNat']; omega
      refine ⟨?_, by simp, ?_, ?_⟩
      · simp [isDig, e]; omega
      · intro h2
        have h3 : UInt8.ofNat (48 + u) = 48 := by simpa using h2
        have h4 := congrArg UInt8.toNat h3
        rw [e] at h4
        have : (48 : UInt8).toNat = 48 := rfl
        omega
      · show 0 * 10 + ((UInt8.ofNat (48 + u)).toNat - 48) = u
        rw [e]; omega
    · obtain ⟨i1, i2, i3, i4⟩ := ih (u / 10) (by omega)
      rw [Lib.decDigits, dif_neg h]
      have e : (UInt8.ofNat (48 + u % 10)).toNat = 48 + u % 10 := by rw [UInt8.toNat_ofNat']; omega
      refine ⟨?_, by simp, ?_, ?_⟩
      · rw [List.all_append, i1]
        simp [isDig, e]; omega
      · intro h2
        have h3 : (Lib.decDigits (u / 10)).head? = some 48 := by
          cases hd : Lib.decDigits (u / 10) with
          | nil => exact absurd hd i2
          | cons a b => rw [hd] at h2; simpa using h2
        have := i3 h3
        omega
      · rw [dval_snoc, i4, e]
        omega
theorem dval_pos : ∀ (l : List UInt8) (acc : Nat), 0 < acc → 0 < dval acc l
  | [], acc, h => h
  | c :: l, acc, h => by
    rw [dval_cons]
    exact dval_pos l (acc * 10 + (c.toNat - 48)) (by omega)
theorem ofNat_dig {c : UInt8} (h : isDig c = true) : UInt8.ofNat (48 + (c.toNat - 48)) = c := by
  have := isDig_bd h
  rw [show 48 + (c.toNat - 48) = c.toNat by omega]
  exact UInt8.ofNat_toNat
theorem dec_dval (l : List UInt8) (h : l.all isDig = true) (h0 : l ≠ []) (hz : ¬ (l.head? = some 48 ∧ 1 < l.length)) : Lib.decDigits (dval 0 l) = l := by
  obtain ⟨m, hm⟩ : ∃ m, l.length = m + 1 := ⟨l.length - 1, by have := List.length_pos_iff.2 h0; omega⟩
  induction m generalizing l with
  | zero =>
    obtain ⟨c, rfl⟩ := List.length_eq_one_iff.1 hm
    have hc : isDig c = true := by simpa using h
    have hb := isDig_bd hc
    show Lib.decDigits (0 * 10 + (c.toNat - 48)) = [c]
    rw [Nat.zero_mul, Nat.zero_add, Lib.decDigits_one (by omega), ofNat_dig hc]
  | succ m ih =>
    obtain ⟨p, c, rfl⟩ : ∃ p c, l = p ++ [c] := ⟨l.dropLast, l.getLast h0, (List.dropLast_concat_getLast h0).symm⟩
    rw [List.length_append, List.length_singleton] at hm
    have hp0 : p ≠ [] := fun h => by subst h; simp at hm
    rw [List.all_append, Bool.and_eq_true] at h
    have hc : isDig c = true := by simpa using h.2
    have hb := isDig_bd hc
    have hhead : (p ++ [c]).head? = p.head? := by
      cases p with
      | nil => exact absurd rfl hp0
      | cons a b => rfl
    rw [hhead, List.length_append, List.length_singleton] at hz
    have hz2 : ¬ p.head? = some 48 := fun h2 => hz ⟨h2, by omega⟩
    have ih2 := ih p h.1 hp0 (fun h2 => hz2 h2.1) (by omega)
    have hpos : 0 < dval 0 p := by
      cases p with
      | nil => exact absurd rfl hp0
      | cons a b =>
        rw [dval_cons]
        refine dval_pos b _ ?_
        have h3 : isDig a = true := by have := h.1; rw [List.all_cons, Bool.and_eq_true] at this; exact this.1
        have h4 := isDig_bd h3
        have h5 : a ≠ 48 := fun h => hz2 (by rw [h]; rfl)
        have h6 : a.toNat ≠ 48 := fun h => h5 (UInt8.toNat_inj.1 h)
        omega
    rw [dval_snoc, Lib.decDigits, dif_neg (by omega), show (dval 0 p * 10 + (c.toNat - 48)) / 10 = dval 0 p by omega, show (dval 0 p * 10 + (c.toNat - 48)) % 10 = c.toNat - 48 by omega, ih2, ofNat_dig hc]
theorem okNum_itoa {n : Nat} {l : List UInt8} (h : okNum n l = true) : Lib.itoa (valNum l) = l := by
  obtain ⟨⟨h1, h2, h3⟩, h4⟩ := okNum_iff.1 h
  cases l with
  | nil => exact absurd rfl h1
  | cons c r =>
    unfold valNum negM
    rw [List.head?_cons]
    rw [trimM_cons] at h1 h2 h3 h4 ⊢
    by_cases hc : c = 45
    · subst hc
      rw [if_pos rfl] at h1 h2 h3 h4 ⊢
      rw [if_pos (by simp)]
      have hd := dec_dval r h4 h1 (fun h => h3 ⟨h.1, .inl h.2⟩)
      have hz : r.head? ≠ some 48 := fun h => h3 ⟨h, .inr (by simp)⟩
      have hpos : 1 ≤ dval 0 r := by
        rcases Nat.eq_zero_or_pos (dval 0 r) with h0 | h0
        · rw [h0, Lib.decDigits_one (by omega)] at hd
          rw [← hd] at hz
          exact absurd rfl hz
        · exact h0
      rw [Lib.itoa_neg _ hpos, hd]
    · rw [if_neg hc] at h1 h2 h3 h4 ⊢
      rw [if_neg (by simpa using hc), Lib.itoa_nonneg]
      exact dec_dval (c :: r) h4 h1 (fun h => h3 ⟨h.1, .inl h.2⟩)
theorem itoa_okNum {n : Nat} {v : Int} {l : List UInt8} (h : Lib.itoa v = l) (hl : (trimM l).length ≤ n) : okNum n l = true := by
  subst h
  rw [okNum_iff]
  unfold Lib.itoa at hl ⊢
  by_cases hv : v < 0
  · rw [if_pos hv] at hl ⊢
    obtain ⟨a1, a2, a3, _⟩ := dec_all v.natAbs
    rw [trimM_cons, if_pos rfl] at hl ⊢
    refine ⟨⟨a2, hl, fun h => ?_⟩, a1⟩
    have := a3 h.1
    omega
  · rw [if_neg hv] at hl ⊢
    obtain ⟨a1, a2, a3, _⟩ := dec_all v.toNat
    have ht : trimM (Lib.decDigits v.toNat) = Lib.decDigits v.toNat := by
      cases hd : Lib.decDigits v.toNat with
      | nil => rfl
      | cons c r =>
        rw [hd, List.all_cons, Bool.and_eq_true] at a1
        have := isDig_bd a1.1
        rw [trimM_cons, if_neg (fun h => by subst h; have : (45 : UInt8).toNat = 45 := rfl; omega)]
    rw [ht] at hl ⊢
    refine ⟨⟨a2, hl, fun h => ?_⟩, a1⟩
    have h0 := a3 h.1
    rw [h0, Lib.decDigits_one (by omega)] at h
    simp at h
/-- how a number is read by strconv.Atoi, and whether that is right -/
theorem num_agree {n : Nat} (hn : n ≤ 18) (l : List UInt8) : okNum n l = true ↔ ∃ v, Lib.atoiAll l = .ok v ∧ Lib.itoa v = l ∧ (trimM l).length ≤ n := by
  constructor
  · intro h
    exact ⟨_, okNum_atoi hn h, okNum_itoa h, (okNum_iff.1 h).1.2.1⟩
  · rintro ⟨v, _, h2, h3⟩
    exact itoa_okNum h2 h3
end Lg
end
