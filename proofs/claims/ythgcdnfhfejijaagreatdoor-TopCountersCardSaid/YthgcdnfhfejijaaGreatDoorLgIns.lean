/- A part of the proof of a law of this seat: it adds no condition. By an AI agent. -/
import Derived.Laws.Small
import Derived.Lib.Overlaps
import Derived.Lib.AppendZerosOnto
import Derived.Test.YthgcdnfhfejijaaGreatDoorLgY
section
set_option linter.all false
namespace Lg
open Go
abbrev slV (v : Value) (n : Nat) : Tr := Tr.raw (.slice (vAd v) n (vCap v))
abbrev ptV (v : Value) : Tr := Tr.raw (.pointer (some ⟨blk v, 0, none⟩))
section y2
variable {P : Program} {Γ : Ctx} {env : Env} {cs cf : List Chunk} {H : (Nat → Value) → (Nat → Bool) → List Chunk} {L : List Oper} {K : Env → List Chunk → Prop} {n : Nat} {l : List Oper} {Pf : Nat → (Nat → Value) → Prop} {d : Nat} {op : Op} {ty : TypeId} {pos : String} {af : Array Edge} {acc : (Nat → Value) → Env}
theorem append_core {E kk bb z T} [hS : TySl P T E kk bb z] {ty : TypeId} {ad : Option Addr} {cap : Nat} {rows rows2 : List (List Tr)} {v2 : Value} {a : Act} {w : World} (d' : Den Γ env (Chunk.own ad cap kk E rows :: cf) a w)
  (hys : (Tr.sl kk rows2).rd w (av Γ.M (Chunk.own ad cap kk E rows :: cf)) v2) (hb : (rows.length + rows2.length) * bb ≤ 140737488355328) (hm : rows.length + rows2.length ≤ 9223372036854775807) :
  ∃ ad' cap' w', (Builtin.append_ #[T, T] ty #[.slice ad rows.length cap, v2]).run P w = .ok (.slice ad' (rows ++ rows2).length cap') w' ∧ ∀ env2, Den Γ env2 (Chunk.own ad cap kk E rows :: cf) a w → Den Γ env2 (Chunk.own ad' cap' kk E (rows ++ rows2) :: cf) a w' := by
 have hown0 := d'.has (List.Perm.refl _)
 generalize hA : av Γ.M (Chunk.own ad cap kk E rows :: cf) = A at hys hown0
 unfold Tr.sl at hys
 obtain ⟨hk2, hl2, ad2, cap2, rfl, g1, g2, g3, g4⟩ := hys
 unfold Chunk.own at hown0
 obtain ⟨hk0, xs, hown, hrd⟩ := hown0
 obtain ⟨ti, zv, hi1, hi2, hi3, hi4, hi5, hi6⟩ := hS.hE
 have hzs : zv.cells.size = kk := hS.hz _ _ hi1 hi2
 have hm' : rows.length + rows2.length ≤ maxLen := by simp only [maxLen]; omega
 have key : ∃ v' w', (Builtin.append_ #[T, T] ty #[.slice ad rows.length cap, .slice ad2 rows2.length cap2]).run P w = .ok v' w' ∧ ∃ news, RdC w A rows2.flatten news ∧
   w'.ownsRow 0 E kk v' (rows.length + rows2.length) (xs ++ news) ∧ w.grownBy w' (Value.ownBlock (.slice ad rows.length cap)) ∧ (∀ b, v'.ownBlock = some b → (Value.ownBlock (.slice ad rows.length cap)) = some b ∨ w.heap.size ≤ b) := by
  rcases g4 with g4 | ⟨b, off, rfl, hc⟩
  ·subst g4
   cases ad2 with
   |none =>
    obtain ⟨_, rfl⟩ := g3 rfl
    exact ⟨_, w, run_append_owned_none (P := P) w 0 T ty E ti kk hS.hT hi1 _ _ xs hown, [], rfl, by simpa using hown, ⟨rfl, rfl, rfl, Nat.le_refl _, fun _ _ _ => rfl⟩, fun b hb => .inl hb⟩
   |some a2 =>
    obtain ⟨v', w', h1, h2, h3, h4⟩ := append_run (P := P) (ty := ty) (a := a2) (m := 0) (c := cap2) (news := []) hS.hT hi1 hi2 hi4 hi5 hzs hi6 hown (by simp) (by simp) (by simp) (by simpa using hm') (by simpa using hb)
    exact ⟨v', w', h1, [], rfl, h2, h3, h4⟩
  ·obtain ⟨vs, hvs, hcell⟩ := rdc_at hc
   obtain ⟨v', w', h1, h2, h3, h4⟩ := append_run (P := P) (ty := ty) (a := ⟨b, off, none⟩) (m := rows2.length) (c := cap2) (news := vs) hS.hT hi1 hi2 hi4 hi5 hzs hi6 hown (by rw [hvs.length]; exact flat_len hk2) hcell hvs.one hm' hb
   exact ⟨v', w', h1, vs, hvs, h2, h3, h4⟩
 obtain ⟨v', w', hrun, news, hnews, hown', hgr, hfresh⟩ := key
 have hform : ∃ ad' cap', v' = .slice ad' (rows ++ rows2).length cap' := by
  rcases hown'.2 with ⟨e, h0⟩ | ⟨g, c, cur, e, _⟩
  ·exact ⟨none, 0, by rw [e, List.length_append, h0]⟩
  ·exact ⟨_, c, by rw [e, List.length_append]⟩
 obtain ⟨ad', cap', rfl⟩ := hform
 refine ⟨ad', cap', w', hrun, fun env2 d2 => ?_⟩
 refine d2.turnF (c' := Chunk.own ad' cap' kk E (rows ++ rows2)) ?_ ?_ ?_ ?_
 ·intro b hb
  have hb' : Value.ownBlock (.slice ad' (rows ++ rows2).length cap') = some b := by unfold Chunk.own at hb; simpa using hb
  rcases hfresh b hb' with h | h
  ·exact .inl (by unfold Chunk.own; simpa using h)
  ·exact .inr ⟨h, (hown'.lt b hb').2⟩
 ·have : (Chunk.own ad' cap' kk E (rows ++ rows2)).fp = (Value.ownBlock (.slice ad' (rows ++ rows2).length cap')).toList := by unfold Chunk.own; rfl
  rw [this]
  cases Value.ownBlock (.slice ad' (rows ++ rows2).length cap') <;> simp
 ·exact ⟨hgr.os, hgr.tape, hgr.output, hgr.size, fun b hb hn => hgr.block b hb fun e => hn (by unfold Chunk.own; simp [← e]), fun _ => run_drawn hrun⟩
 ·intro hs _
  rw [hA] at hs
  generalize av Γ.M (Chunk.own ad' cap' kk E (rows ++ rows2) :: cf) = A' at hs ⊢
  unfold Chunk.own
  refine ⟨?_, xs ++ news, by simpa using hown', ?_⟩
  ·intro r hr
   rcases List.mem_append.1 hr with h | h
   ·exact hk0 r h
   ·exact hk2 r h
  ·rw [List.flatten_append]
   exact (hrd.mono hs).app (hnews.mono hs)
/-- an owned slice grows -/
theorem YSeq.append {E kk bb z T} [hS : TySl P T E kk bb z] {x y : Operand} (mm : Nat)
  (h : ∀ (ξ : Nat → Value) (S : Nat → Bool), S n = false → (∀ j ∈ preds af, S j = true) → Clo L S → (∀ k, S k = true → Pf k ξ) →
   ∃ (ad : Option Addr) (m cap : Nat) (rows rows2 : List (List Tr)) (cf : List Chunk), ev (rst (slotsOf (.call ⟨.builtin .append, #[x, y], #[T, T]⟩)) (acc ξ)) x = some (.raw (.slice ad m cap)) ∧ ev (rst (slotsOf (.call ⟨.builtin .append, #[x, y], #[T, T]⟩)) (acc ξ)) y = some (.sl kk rows2) ∧
    (H ξ S).Perm (Chunk.own ad cap kk E rows :: cf) ∧ m = rows.length ∧ rows.length + rows2.length = mm ∧ (rows.length + rows2.length) * bb ≤ 140737488355328 ∧ rows.length + rows2.length ≤ 9223372036854775807 ∧ ∀ ad' cap', (H (upd ξ n (.slice ad' mm cap')) (updD S n)).Perm (Chunk.own ad' cap' kk E (rows ++ rows2) :: cf))
  (k : YSeq P Γ H L K (n + 1) (fun ξ => (d, Tr.raw (.slice (vAd (ξ n)) mm (vCap (ξ n)))) :: acc ξ) (pfY n (fun _ => True) Pf) l) : YSeq P Γ H L K n acc Pf (⟨some d, .call ⟨.builtin .append, #[x, y], #[T, T]⟩, ty, pos, af, none⟩ :: l) := by
 refine YSeq.cons PvOkY.triv (TOk.own (T := fun v => Tr.raw (.slice (vAd v) mm (vCap v)))) ?_ k
 unfold YStep
 intro ξ S h1 h2 h3 h4 a w dd next F hk
 obtain ⟨ad, m, cap, rows, rows2, cf, hx, hy, hp, hn, hmm, hb, hm, hq⟩ := h ξ S h1 h2 h3 h4
 subst hn
 have hv := rd_raw (dd.ev hx)
 have hys := dd.ev hy
 rw [av_perm hp Γ.M] at hys
 obtain ⟨ad', cap', w', hrun, hE⟩ := append_core (P := P) (T := T) (ty := ty) (dd.perm hp) hys hb hm
 have hx2 : (execOp a.eval ⟨some d, .call ⟨.builtin .append, #[x, y], #[T, T]⟩, ty, pos, af, none⟩).run P w = .ok (.value (.slice ad' (rows ++ rows2).length cap')) w' := by simp [execOp, resolve, invoke, builtin, hv, hrun] <;> rfl
 refine opIn_of_run hx2 ⟨(by intro d h; cases h), (by intro x y h; cases h)⟩ ?_
 rw [List.length_append, hmm]
 refine hk _ _ trivial ?_ fun env2 d2 => (hE env2 (d2.perm hp)).perm (hq ad' cap').symm
 simp only [upd_same, vAd, vCap]
 exact raw_self _
/-- a slice of zeros of one's own is made -/
theorem YSeq.mkOwn {T : TypeId} {x y : Operand} {E kk bb : Nat} {zs : List Value} [hS : TySl P T E kk bb zs] (m : Nat) (hx : ∀ ξ, ev (rst (slotsOf (.makeSlice T x y)) (acc ξ)) x = some (.int m)) (hy : ∀ ξ, ev (rst (slotsOf (.makeSlice T x y)) (acc ξ)) y = some (.int m)) (hb : bb * m ≤ 281474976710656) (hmx : m ≤ 1000000000)
  (hH : ∀ (ξ : Nat → Value) (S : Nat → Bool), S n = false → Clo L S → ∀ ad cap, (H (upd ξ n (.slice ad m cap)) (updD S n)).Perm (Chunk.own ad cap kk E (List.replicate m (zs.map Tr.raw)) :: H ξ S))
  (k : YSeq P Γ H L K (n + 1) (fun ξ => (d, Tr.raw (.slice (vAd (ξ n)) m (vCap (ξ n)))) :: acc ξ) (pfY n (fun _ => True) Pf) l) : YSeq P Γ H L K n acc Pf (⟨some d, .makeSlice T x y, ty, pos, af, none⟩ :: l) := by
 refine YSeq.cons PvOkY.triv (TOk.own (T := fun v => Tr.raw (.slice (vAd v) m (vCap v)))) ?_ k
 unfold YStep
 intro ξ S h1 h2 h3 h4 a w dd next F hk
 have hv := rd_raw (dd.ev (hx ξ))
 have hv2 := rd_raw (dd.ev (hy ξ))
 obtain ⟨ti, zv, i1, i2, i3, i4, i5, i6⟩ := hS.hE
 have hr := run_make (P := P) w T E ti zv hS.hT i1 i2 .i64 .i64 m m (by omega) (Int.le_refl _) (by rw [i5, ← Int.natCast_mul]; omega) (by omega)
 have hzs : zv.cells.size = kk := hS.hz _ _ i1 i2
 simp only [Int.toNat_natCast, i4] at hr
 have hx2 : (execOp a.eval ⟨some d, .makeSlice T x y, ty, pos, af, none⟩).run P w = .ok (.value (.slice (some ⟨w.heap.size, 0, none⟩) m m)) (w.alloc (.cells (madeCells zv.cells (m * kk)) E)) := by simp [execOp, hv, hv2, hr] <;> rfl
 refine opIn_of_run hx2 ⟨(by intro d h; cases h), (by intro x y h; cases h)⟩ ?_
 refine hk _ _ trivial ?_ fun env2 d2 => Den.perm ?_ (hH ξ S h1 h3 _ _).symm
 ·simp only [upd_same, vAd, vCap]
  exact raw_self _
 refine d2.push _ (by simp) (by unfold Chunk.own; simp [Value.ownBlock]) (by unfold Chunk.own; simp [Value.ownBlock]) (fun b hb => heap_alloc_old w _ b hb) rfl rfl rfl ?_
 intro hs
 have hmd := madeCells_rd (w := w) (A := av Γ.M (H ξ S)) (zs := zv.cells) (by rw [i3]; exact hS.one) m
 rw [hzs, i3] at hmd
 generalize av Γ.M (_ :: H ξ S) = A at *
 unfold Chunk.own
 refine ⟨fun r hr => by rw [List.eq_of_mem_replicate hr]; simp [hS.hk], (madeCells zv.cells (m * kk)).toList, ?_, ?_⟩
 ·simp only [List.length_replicate]
  exact World.ownsRow_lit w (madeCells zv.cells (m * kk)) m (Nat.zero_le _) (by simp only [maxLen]; omega) (size_madeCells _ _)
 ·have e := zeroRow_flat zs m
  rw [e]
  exact hmd.mono hs
/-- a store into an owned slice -/
theorem YSeq.storeG {T : TypeId} {x y : Operand} {sz : Nat} (hT : ∃ i, P.info? T = some i ∧ i.size = sz)
  (h : ∀ (ξ : Nat → Value) (S : Nat → Bool), S n = false → (∀ j ∈ preds af, S j = true) → Clo L S → (∀ k, S k = true → Pf k ξ) →
   ∃ (ad : Option Addr) (cap kk m j : Nat) (e : TypeId) (rows : List (List Tr)) (r us : List Tr) (t : Tr) (cf : List Chunk), ev (rst (slotsOf (.store T x y)) (acc ξ)) x = some (Tr.eptr ad kk m j) ∧ ev (rst (slotsOf (.store T x y)) (acc ξ)) y = some t ∧ RowT t us ∧
    (H ξ S).Perm (Chunk.own ad cap kk e rows :: cf) ∧ rows[m]? = some r ∧ us.length = sz ∧ j + sz ≤ kk ∧ (r.length = kk → (H (upd ξ n undef) (updD S n)).Perm (Chunk.own ad cap kk e (rows.set m (r.take j ++ us ++ r.drop (j + sz))) :: cf)))
  (k : YSeq P Γ H L K (n + 1) acc (pfY n (fun _ => True) Pf) l) : YSeq P Γ H L K n acc Pf (⟨none, .store T x y, ty, pos, af, none⟩ :: l) := by
 refine YSeq.cons PvOkY.triv (TOk.const (t := Tr.any)) ?_ k
 unfold YStep
 intro ξ S h1 h2 h3 h4 a w dd next F hk
 obtain ⟨ad, cap, kk, m, j, e, rows, r, us, t, cf, hx, hy, ho, hp, hr, hu, hj, hq⟩ := h ξ S h1 h2 h3 h4
 have hptr := dd.ev hx
 unfold Tr.eptr at hptr
 obtain ⟨g, ha, hv⟩ := hptr
 have d1 := dd.perm hp
 have hrow : RdC w (av Γ.M (Chunk.own ad cap kk e rows :: cf)) us (a.eval y).cells.toList := ho.h _ _ _ (d1.ev hy)
 have hlr : r.length = kk := by
  have := d1.has (List.Perm.refl _)
  generalize av Γ.M (Chunk.own ad cap kk e rows :: cf) = A at this
  unfold Chunk.own at this
  obtain ⟨hk0, _⟩ := this
  exact hk0 r (List.mem_of_getElem? hr)
 have step : ∀ env2, Den Γ env2 (Chunk.own ad cap kk e rows :: cf) a w → ∃ w', (Instr.storeAt T (.pointer (some ⟨g, m * kk + j, none⟩)) (a.eval y)).run P w = .ok () w' ∧ Den Γ env2 (Chunk.own ad cap kk e (rows.set m (r.take j ++ us ++ r.drop (j + sz))) :: cf) a w' := by
  intro env2 d2
  exact own_store (P := P) d2 ha hr (r' := r.take j ++ us ++ r.drop (j + sz)) (vs := (a.eval y).cells.toList) (m := sz) (j := j) (by rw [hrow.length, hu]) (by omega)
   (fun A w' hs xs hx => (((hx.take j).mono hs).app (hrow.mono hs)).app ((hx.drop (j + sz)).mono hs)) (by simp [hlr, hu]; omega) T (a.eval y) hT rfl hrow.one
 obtain ⟨w', hrun, hd⟩ := step _ d1
 have hx2 : (execOp a.eval ⟨none, .store T x y, ty, pos, af, none⟩).run P w = .ok .skip w' := by simp [execOp, hv, hrun] <;> rfl
 refine opIn_of_run hx2 ⟨(by intro d h; cases h), (by intro x y h; cases h)⟩ ?_
 refine hk _ _ trivial tr_any_self fun env2 d2 => ?_
 obtain ⟨w2, hrun2, hd2⟩ := step env2 (d2.perm hp)
 rw [hrun] at hrun2
 cases hrun2
 exact hd2.perm (hq hlr).symm
/-- a store of one cell into an owned slice -/
theorem YSeq.storeO {T : TypeId} {x y : Operand} [hT : TyOne P T]
  (h : ∀ (ξ : Nat → Value) (S : Nat → Bool), S n = false → (∀ j ∈ preds af, S j = true) → Clo L S → (∀ k, S k = true → Pf k ξ) →
   ∃ (ad : Option Addr) (cap kk m j : Nat) (e : TypeId) (rows : List (List Tr)) (r : List Tr) (t : Tr) (cf : List Chunk), ev (rst (slotsOf (.store T x y)) (acc ξ)) x = some (Tr.eptr ad kk m j) ∧ ev (rst (slotsOf (.store T x y)) (acc ξ)) y = some t ∧ OneT t ∧
    (H ξ S).Perm (Chunk.own ad cap kk e rows :: cf) ∧ rows[m]? = some r ∧ j < kk ∧ (H (upd ξ n undef) (updD S n)).Perm (Chunk.own ad cap kk e (rows.set m (r.set j t)) :: cf))
  (k : YSeq P Γ H L K (n + 1) acc (pfY n (fun _ => True) Pf) l) : YSeq P Γ H L K n acc Pf (⟨none, .store T x y, ty, pos, af, none⟩ :: l) := by
 refine YSeq.storeG (sz := 1) hT.size ?_ k
 intro ξ S h1 h2 h3 h4
 obtain ⟨ad, cap, kk, m, j, e, rows, r, t, cf, g1, g2, g3, g4, g5, g6, g7⟩ := h ξ S h1 h2 h3 h4
 refine ⟨ad, cap, kk, m, j, e, rows, r, [t], t, cf, g1, g2, inferInstance, g4, g5, rfl, by omega, fun hl => ?_⟩
 have : r.take j ++ [t] ++ r.drop (j + 1) = r.set j t := by rw [List.set_eq_take_append_cons_drop, if_pos (by omega)]; simp
 rw [this]
 exact g7
theorem Cw.region_YP {Q : Post} {id : Nat} {l : List Oper} (H : (Nat → Value) → (Nat → Bool) → List Chunk) (hm : P.follows .mixedOrders = true) (hb : (backOk l && (nodupB (dsts l) && (ssaFrom l 0 l && noGuards l))) = true) (hlt : (dsts l).all (Nat.blt · Γ.n) = true)
  (cs' : List Chunk) (hp : cs.Perm cs') (hs : ∀ ξ, H ξ (fun j => Nat.ble l.length j) = cs') (h : YSeq P Γ H l (fun acc cs => ∃ env' cs', Ent Γ acc cs env' cs' ∧ Q .normal env' cs') 0 (fun _ => env) (fun _ _ => True) l) : Cw P Γ (.region id l.toArray true) env cs Q :=
 Cw.ent (Ent.perm hp) (Cw.region_Y H hm hb hlt hs h)
theorem pf_int {st c : Nat} {f : FuncId} {args : List Tr} {p : Int → Prop} (hg : Gen P st f args c (fun r => ∃ x, r = .int x ∧ p x)) {X : Prop} {x : Int} (h : X) (e : X = p x := by rfl) : p x := e ▸ h
end y2
end Lg
end
section
set_option linter.all false
namespace Lg
open Go Go.RowKit
/-! ### equal truth values -/
section eqb
variable {P : Program} {Γ : Ctx} {env env' : Env} {cs cs' cf : List Chunk} {Q : Post} {R : Array Oper}
variable {i : Tmp} {ty : TypeId} {pos : String} {af : Array Edge} {rest : List Oper}
variable {x y z : Operand} {T T2 : TypeId} {p q : Bool}
end eqb
section more
variable {P : Program} {Γ : Ctx} {env env' : Env} {cs cs' cf : List Chunk} {Q : Post} {R : Array Oper}
variable {i : Tmp} {ty : TypeId} {pos : String} {af : Array Edge} {rest : List Oper} {x : Operand}
/-- a pointer into an owned slice is not nil -/
theorem OpV.nilCheck_eptr {ad : Option Addr} {k e j : Nat} (hx : ev env x = some (.eptr ad k e j)) : OpV P Γ (.nilCheck x) ty env cs (.eptr ad k e j) := by
 unfold OpV
 intro a w d
 have h := d.ev hx
 have h2 := h
 unfold Tr.eptr at h
 obtain ⟨g, ha, hv⟩ := h
 exact ⟨_, by simp only [execOp, hv]; rfl, by rw [← hv]; exact h2⟩
theorem Ops.nilCheck_eptr {ad : Option Addr} {k e j : Nat} (hx : ev env x = some (.eptr ad k e j)) (hi : Nat.blt i Γ.n = true)
  (kk : Ops P Γ R rest ((i, .eptr ad k e j) :: env) cs Q) : Ops P Γ R (⟨some i, .nilCheck x, ty, pos, af, none⟩ :: rest) env cs Q :=
 Ops.val' hi (OpV.nilCheck_eptr hx) kk
variable {H : (Nat → Value) → (Nat → Bool) → List Chunk} {L : List Oper} {K : Env → List Chunk → Prop} {n : Nat} {l : List Oper} {Pf : Nat → (Nat → Value) → Prop} {d : Nat} {op : Op} {acc : (Nat → Value) → Env}
end more
/-! ### numbers of other widths -/
section wid
variable {P : Program} {Γ : Ctx} {env env' : Env} {cs cs' cf : List Chunk} {Q : Post} {R : Array Oper}
variable {i : Tmp} {ty : TypeId} {pos : String} {af : Array Edge} {rest : List Oper} {x y : Operand} {T T2 : TypeId} {k k2 : IntKind} {p q : Int} {s : ByteArray}
theorem wrap_u64 {n : Int} (h : 0 ≤ n ∧ n ≤ 18446744073709551615) : IntKind.u64.wrap n = n := by
 have : IntKind.u64.wrap n = n % 18446744073709551616 := rfl
 rw [this]
 exact Int.emod_eq_of_lt (by omega) (by omega)
theorem wrap_u8 {n : Int} (h : 0 ≤ n ∧ n ≤ 255) : IntKind.u8.wrap n = n := by
 have : IntKind.u8.wrap n = n % 256 := rfl
 rw [this]
 exact Int.emod_eq_of_lt (by omega) (by omega)
theorem wrap_i64 {n : Int} (h : 0 ≤ n ∧ n ≤ 9223372036854775807) : IntKind.i64.wrap n = n := by
 have : IntKind.i64.wrap n = if (decide (n % 18446744073709551616 ≥ 9223372036854775808)) = true then n % 18446744073709551616 - 18446744073709551616 else n % 18446744073709551616 := rfl
 rw [this, Int.emod_eq_of_lt (by omega) (by omega), if_neg (by simp; omega)]
theorem sby_bd (s : ByteArray) (j : Nat) : 0 ≤ sby s j ∧ sby s j ≤ 255 := by
 unfold sby
 have := UInt8.toNat_lt (s.data.toList.getD j 0)
 omega
theorem Ops.convN {d1 : TypeDesc} (h1 : P.underlying T = some d1) (h2 : P.underlying T2 = some (.int k2)) (hx : ev env x = some (.raw (.int k p))) (hw : k2.wrap p = q) (hi : Nat.blt i Γ.n = true)
  (kk : Ops P Γ R rest ((i, .raw (.int k2 q)) :: env) cs Q) : Ops P Γ R (⟨some i, .convert T T2 x, ty, pos, af, none⟩ :: rest) env cs Q := by
 subst hw
 exact Ops.val' hi (OpV.convI h1 h2 hx) kk
theorem Ops.indexS_any (hT : P.underlying T = some .string) (hx : ev env x = some (.str s)) (hy : ev env y = some (.raw (.int k p))) (h : 0 ≤ p ∧ p < s.size) (hi : Nat.blt i Γ.n = true)
  (kk : ∀ v : Int, 0 ≤ v ∧ v ≤ 255 → Ops P Γ R rest ((i, .raw (.int .u8 v)) :: env) cs Q) : Ops P Γ R (⟨some i, .index T x y, ty, pos, af, none⟩ :: rest) env cs Q :=
 Ops.val' hi (OpV.indexS hT hx hy h) (kk _ (sby_bd _ _))
end wid
end Lg
end
section
set_option linter.all false
namespace Lg
open Go

/-! ### copies into owned slices; an element is put into an owned slice -/
section ins
variable {P : Program} {Γ : Ctx} {env env' : Env} {cs cs' cf : List Chunk} {Q : Post} {R : Array Oper} {a : Act} {w : World}
variable {i : Tmp} {ty : TypeId} {pos : String} {af : Array Edge} {rest : List Oper} {x y z : Operand} {T T2 : TypeId} {k : IntKind} {p q : Int}

/-- a slice with elements has an address, and room for them -/
theorem Cw.own_form {c : Code} {ad : Option Addr} {cap kk E : Nat} {rows : List (List Tr)} (hp : cs.Perm (Chunk.own ad cap kk E rows :: cf)) (hne : 0 < rows.length)
  (h : ∀ g, ad = some ⟨g, 0, none⟩ → rows.length ≤ cap → cap ≤ maxLen → Cw P Γ c env cs Q) : Cw P Γ c env cs Q := by
 unfold Cw at h ⊢
 intro a w d
 have hh := (d.perm hp).has (List.Perm.refl _)
 generalize av Γ.M (Chunk.own ad cap kk E rows :: cf) = A at hh
 unfold Chunk.own at hh
 obtain ⟨_, xs, hown, _⟩ := hh
 rcases hown.2 with ⟨e, h0⟩ | ⟨g, c2, cur, e, _, _, h1, h2, _⟩
 ·omega
 ·simp only [Value.slice.injEq] at e
  obtain ⟨rfl, _, rfl⟩ := e
  exact h g rfl h1 h2 a w d
theorem OpV.shr1 (hx : ev env x = some (.raw (.int .u64 p))) (hy : ev env y = some (.raw (.int .u64 1))) : OpV P Γ (.binOp .shr T x y T2) ty env cs (.raw (.int .u64 (p / 2))) :=
 OpV.bin hx hy (by
  rw [binOp_shr]
  have e : p.fdiv 2 = p / 2 := Int.fdiv_eq_ediv_of_nonneg p (by omega)
  simp [Op.shift, IntKind.bits, e])
theorem Ops.shr1 (hx : ev env x = some (.raw (.int .u64 p))) (hy : ev env y = some (.raw (.int .u64 1))) (hi : Nat.blt i Γ.n = true)
  (kk : Ops P Γ R rest ((i, .raw (.int .u64 (p / 2))) :: env) cs Q) : Ops P Γ R (⟨some i, .binOp .shr T x y T2, ty, pos, af, none⟩ :: rest) env cs Q := Ops.val' hi (OpV.shr1 hx hy) kk

/-! slices of a slice's value: nobody's memory changes -/
/-- elements are laid into the block of an owned slice, from the p-th on; it may grow into its spare room -/
theorem Den.lay {g cap kk E pn : Nat} {rows new : List (List Tr)} {vs : List Value} (d : Den Γ env (Chunk.own (some ⟨g, 0, none⟩) cap kk E rows :: cf) a w)
  (hp : pn ≤ rows.length) (hc : pn + new.length ≤ cap) (hk : ∀ r ∈ new, r.length = kk) (hr : RdC w (av Γ.M (Chunk.own (some ⟨g, 0, none⟩) cap kk E rows :: cf)) new.flatten vs) :
  ∃ cur, w.heap[g]? = some (.cells cur E (0, 0)) ∧ pn * kk + vs.length ≤ cur.size ∧ vs.length = new.length * kk ∧
   Den Γ env (Chunk.own (some ⟨g, 0, none⟩) cap kk E (rows.take pn ++ new ++ rows.drop (pn + new.length)) :: cf) a (w.setRow g (cur.toList.take (pn * kk) ++ vs ++ cur.toList.drop (pn * kk + vs.length)).toArray) := by
 have hh := d.has (List.Perm.refl _)
 have hvl : vs.length = new.length * kk := by rw [hr.length, flat_len hk]
 have hh2 := hh
 generalize hA : av Γ.M (Chunk.own (some ⟨g, 0, none⟩) cap kk E rows :: cf) = A at hh2
 unfold Chunk.own at hh2
 obtain ⟨hkr, xs, hown, hrd⟩ := hh2
 rcases hown.2 with ⟨e, h0⟩ | ⟨g', c2, cur, e, h1, hg, h2, h3, h4, h5⟩
 ·simp at e
 simp only [Value.slice.injEq, Option.some.injEq, Addr.mk.injEq] at e
 obtain ⟨⟨rfl, _⟩, _, rfl⟩ := e
 have hle : pn * kk + vs.length ≤ cap * kk := by rw [hvl, ← Nat.add_mul]; exact Nat.mul_le_mul_right _ hc
 have hfpE : ∀ rs, (Chunk.own (some ⟨g, 0, none⟩) cap kk E rs).fp = [g] := fun rs => by unfold Chunk.own; rfl
 refine ⟨cur, hg, by omega, hvl, ?_⟩
 refine d.turn (by rw [hfpE, hfpE]) (fun b hb hn => ?_) (setRow_size _ _ _) (setRow_os _ _ _) (setRow_tape _ _ _) (setRow_output _ _ _) fun hs _ => ?_
 ·rw [hfpE] at hn
  exact setRow_other _ _ _ _ (by simpa using hn)
 have hrn := hrd
 rw [← hA] at hrn
 generalize hA2 : av Γ.M (Chunk.own (some ⟨g, 0, none⟩) cap kk E (rows.take pn ++ new ++ rows.drop (pn + new.length)) :: cf) = A2 at hs
 unfold Chunk.own
 have hlen : (rows.take pn ++ new ++ rows.drop (pn + new.length)).length = pn + new.length + (rows.length - (pn + new.length)) := by
  simp only [List.length_append, List.length_take, List.length_drop]
  omega
 have hl2 : pn + new.length + (rows.length - (pn + new.length)) ≤ cap := by omega
 refine ⟨?_, xs.take (pn * kk) ++ vs ++ xs.drop ((pn + new.length) * kk), ?_, ?_⟩
 ·intro r hr
  simp only [List.mem_append] at hr
  rcases hr with (h | h) | h
  ·exact hkr r (List.mem_of_mem_take h)
  ·exact hk r h
  ·exact hkr r (List.mem_of_mem_drop h)
 ·have hxl := hown.1
  have hpk : pn * kk ≤ rows.length * kk := Nat.mul_le_mul_right _ hp
  have hdrop : xs.drop ((pn + new.length) * kk) = (cur.toList.drop (pn * kk + vs.length)).take ((rows.length - (pn + new.length)) * kk) := by
   rw [← h5, List.drop_take, hvl, ← Nat.add_mul, Nat.sub_mul]
  have htake : xs.take (pn * kk) = cur.toList.take (pn * kk) := by rw [← h5, List.take_take, Nat.min_eq_left hpk]
  have hcl : cur.toList.length = cap * kk := by rw [Array.length_toList]; exact h4
  have htl : (cur.toList.take (pn * kk)).length = pn * kk := by rw [List.length_take, hcl]; omega
  refine ⟨?_, .inr ⟨g, cap, _, by rw [hlen], Nat.zero_le _, setRow_heap w g cur _ E (0, 0) hg, by rw [hlen]; exact hl2, h3, ?_, ?_⟩⟩
  ·rw [hlen]
   simp only [List.length_append, List.length_take, List.length_drop, hxl, hvl, Nat.add_mul, Nat.sub_mul]
   omega
  ·simp only [List.size_toArray, List.length_append, htl, List.length_drop, hcl]
   omega
  ·rw [hlen, htake, hdrop, List.toList_toArray, List.append_assoc, List.append_assoc, List.take_append, htl, List.take_append]
   have e1 : (pn + new.length + (rows.length - (pn + new.length))) * kk - pn * kk = vs.length + (rows.length - (pn + new.length)) * kk := by
    rw [hvl, Nat.add_mul, Nat.add_mul]; omega
   rw [e1, List.take_of_length_le (l := cur.toList.take (pn * kk)) (by rw [htl, Nat.add_mul, Nat.add_mul]; omega), List.take_of_length_le (l := vs) (by omega), Nat.add_sub_cancel_left]
 ·rw [List.flatten_append, List.flatten_append, flatten_take hkr, flatten_drop hkr]
  exact ((hrn.take _).mono hs).app (hr.mono hs) |>.app ((hrn.drop _).mono hs)

theorem raw_free {v0 : Value} : ∀ (w : World) (A : Nat → Prop) (w' : World) (A' : Nat → Prop) (v : Value), (Tr.raw v0).rd w A v → (Tr.raw v0).rd w' A' v := fun _ _ _ _ _ h => by
 have := rd_raw h
 subst this
 exact raw_self _

variable {H : (Nat → Value) → (Nat → Bool) → List Chunk} {L : List Oper} {K : Env → List Chunk → Prop} {n : Nat} {l : List Oper} {Pf : Nat → (Nat → Value) → Prop} {d : Nat} {op : Op} {acc : (Nat → Value) → Env}
/-- a drawn region whose first m operations compute, and whose others wait for all before them -/
theorem Cw.region_seqM {id : Nat} {l : List Oper} {env : Env} (m : Nat) (hm : P.follows .mixedOrders = true) (hb : (backOk l && (nodupB (dsts (l.take m)) && (ssaFrom l 0 (l.take m) && (tailOk l m && Nat.ble m l.length)))) = true) (hlt : (dsts (l.take m)).all (Nat.blt · Γ.n) = true)
  (h : PSeq P Γ cs (fun acc => Ops P Γ l.toArray (l.drop m) acc cs Q) 0 [] env (l.take m)) : Cw P Γ (.region id l.toArray true) env cs Q := by
 simp only [Bool.and_eq_true] at hb
 exact Cw.region_at (Nat.le_of_ble_eq_true hb.2.2.2.2) hm hb.1 hb.2.1 hlt hb.2.2.2.1 (PSeq.run hb.1 hb.2.1 hb.2.2.1 Seq.start (fun j => by rw [Nat.zero_add]) h)
/-- a variable of its own is made of a value -/
theorem YSeq.box {T : TypeId} {x : Operand}
  (h : ∀ (ξ : Nat → Value) (S : Nat → Bool), S n = false → (∀ j ∈ preds af, S j = true) → Clo L S → (∀ k, S k = true → Pf k ξ) →
   ∃ (us : List Tr) (t : Tr), ev (rst (slotsOf (.box T x)) (acc ξ)) x = some t ∧ RowT t us ∧ ∀ b, (H (upd ξ n (.pointer (some ⟨b, 0, none⟩))) (updD S n)).Perm (Chunk.box b T us :: H ξ S))
  (k : YSeq P Γ H L K (n + 1) (fun ξ => (d, Tr.raw (.pointer (some ⟨blk (ξ n), 0, none⟩))) :: acc ξ) (pfY n (fun _ => True) Pf) l) : YSeq P Γ H L K n acc Pf (⟨some d, .box T x, ty, pos, af, none⟩ :: l) := by
 refine YSeq.cons PvOkY.triv (TOk.own (T := fun v => Tr.raw (.pointer (some ⟨blk v, 0, none⟩)))) ?_ k
 unfold YStep
 intro ξ S h1 h2 h3 h4 a w dd next F hk
 obtain ⟨us, t, hx, hr, hp⟩ := h ξ S h1 h2 h3 h4
 have hrun : (execOp a.eval ⟨some d, .box T x, ty, pos, af, none⟩).run P w = .ok (.value (.pointer (some ⟨w.heap.size, 0, none⟩))) (w.alloc (.cells (a.eval x).cells T)) := by
  simp [execOp, Instr.box, newVar, newRow] <;> rfl
 refine opIn_of_run hrun ⟨(by intro d h; cases h), (by intro x y h; cases h)⟩ ?_
 refine hk _ _ trivial ?_ fun env2 d2 => ?_
 ·simp only [upd_same, blk]
  exact raw_self _
 have hd := d2.newblock (a.eval x).cells T (ts := us) (hr.h _ _ _ (dd.ev hx))
 exact hd.perm (hp _).symm
/-- a slice of one's own, and nil -/
theorem Ops.eql_nilR {E kk bb z} [hS : TySl P T E kk bb z] {ad : Option Addr} {m cap : Nat} {i : Tmp} (hx : ev env x = some (.raw (.slice ad m cap))) (hi : Nat.blt i Γ.n = true)
  (kont : Ops P Γ R rest ((i, .bool ad.isNone) :: env) cs Q) : Ops P Γ R (⟨some i, .binOp .eql T x (.const (.slice none 0 0)) T2, ty, pos, af, none⟩ :: rest) env cs Q :=
 Ops.of fun a w d => by
  have hv := rd_raw (d.ev hx)
  have he : ∀ m', (Op.equalIn (m' + 1) T (.slice ad m cap) (.slice none 0 0)).run P w = .ok ad.isNone w := by
   intro m'
   cases ad with
   |none => simp [Op.equalIn, run_underlying hS.hT]
   |some _ => simp [Op.equalIn, run_underlying hS.hT]
  have hc : a.eval (.const (.slice none 0 0)) = .slice none 0 0 := rfl
  refine ⟨_, _, .value (.bool ad.isNone), w, ?_, .inl ⟨_, rfl, Den.put d hi (raw_self _)⟩, kont⟩
  simp [execOp, hv, hc, eqGuard, binOp, Op.equal]
  rw [show Op.maxDepth = 9999 + 1 from rfl, he]
  rfl
theorem Cw.own_none {c : Code} {cap kk E : Nat} {rows : List (List Tr)} (hp : cs.Perm (Chunk.own none cap kk E rows :: cf)) (h : rows = [] → cap = 0 → Cw P Γ c env cs Q) : Cw P Γ c env cs Q := by
 unfold Cw at h ⊢
 intro a w d
 have hh := (d.perm hp).has (List.Perm.refl _)
 generalize av Γ.M (Chunk.own none cap kk E rows :: cf) = A at hh
 unfold Chunk.own at hh
 obtain ⟨_, xs, hown, _⟩ := hh
 rcases hown.2 with ⟨e, h0⟩ | ⟨g, c2, cur, e, _⟩
 ·simp only [Value.slice.injEq] at e
  exact h (List.eq_nil_of_length_eq_zero h0) e.2.2 a w d
 ·simp at e
end ins
end Lg
end
