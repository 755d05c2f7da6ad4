/- A part of the proof of a law of this seat: it adds no condition. By an AI agent. -/
import Derived.Lib.AppendZeros
import Derived.Test.YtjknjnkkpfeahaaGreatDoorLgX
section
set_option linter.all false
namespace Lg
open Go
section x2
variable {P : Program} {Γ : Ctx} {env : Env} {cs cf : List Chunk} {H : (Nat → Value) → (Nat → Bool) → List Chunk} {L : List Oper} {K : Env → List Chunk → Prop} {n : Nat} {l : List Oper}
variable {Pf : Nat → (Nat → Value) → Prop} {d : Nat} {op : Op} {ty : TypeId} {pos : String} {af : Array Edge} {acc : (Nat → Value) → Env} {t t' : Tr}

def b2n : Bool → Nat
  | true => 1
  | false => 0
/-- a call that takes numbers off the stream -/
theorem XSeq.callG {st f c b : Nat} {args : List Tr} {post : Tr → Prop} {ol : List Operand} {ts : Array TypeId} {xs : List Int} (hg : Gen P st f args c post)
    (ha : ∀ ξ, Evs (rst (slotsOf (.call ⟨.value (.func f), ol.toArray, ts⟩)) (acc ξ)) ol (Tr.ptr b :: args)) (ht : ∀ r, post r → Imp r t)
    (hH : ∀ (ξ : Nat → Value) (S : Nat → Bool), S n = false → (∀ k ok, L[k]? = some ok → S k = true → ∀ j ∈ preds ok.after, S j = true) → ∃ N cf, N + c ≤ 1000000000000 ∧ (H ξ S).Perm (Chunk.strm st b (intRows xs) N :: cf) ∧ ∀ v, (H (upd ξ n v) (updD S n)).Perm (Chunk.strm st b (intRows xs) (N + c) :: cf))
    (k : XSeq P Γ H L K (n + 1) (fun ξ => (d, t) :: acc ξ) (pfX n (fun _ => True) Pf) l) : XSeq P Γ H L K n acc Pf (⟨some d, .call ⟨.value (.func f), ol.toArray, ts⟩, ty, pos, af, none⟩ :: l) := by
  refine XSeq.cons (T := fun _ => t) (Pv := fun _ => True) PvOk.triv ?_ k
  unfold XStep
  intro ξ S h1 h2 h3 h4 a w dd next F hk
  unfold Gen at hg
  obtain ⟨N, cf, hN, hp, hp2⟩ := hH ξ S h1 h3
  have hs := hg b xs N hN
  have hcc := call_core2 (cf := cf) hs dd hp ((ha ξ).rd dd)
  have hrun : (execOp a.eval ⟨some d, .call ⟨.value (.func f), ol.toArray, ts⟩, ty, pos, af, none⟩).run P w = .ok (.enter f (ol.map a.eval).toArray) w := by
    unfold Spec at hs
    have := hs.1 (ol.map a.eval).toArray w
    simp [execOp, resolve, invoke, Deferred.ofValue, Act.eval, this]
  refine opIn_of_run hrun ⟨(by intro d h; cases h), (by intro x y h; cases h)⟩ ?_
  refine hcc.mono ?_
  rintro e w' ⟨v, r, cs', rfl, ⟨rfl, hpo⟩, hrd, hd⟩
  refine hk _ _ trivial (ht r hpo _ _ _ ?_) fun env2 h2 => (hd env2 h2).perm (hp2 v).symm
  rw [av_perm (hp2 v)]
  exact hrd

/-- an owned slice grows -/
theorem XSeq.append {E kk bb z T} [hS : TySl P T E kk bb z] {x y : Operand} (mm : Nat)
    (h : ∀ (ξ : Nat → Value) (S : Nat → Bool), S n = false → (∀ j ∈ preds af, S j = true) → (∀ k ok, L[k]? = some ok → S k = true → ∀ j ∈ preds ok.after, S j = true) → (∀ k, S k = true → Pf k ξ) →
      ∃ (ad : Option Addr) (m cap : Nat) (rows rows2 : List (List Tr)) (cf : List Chunk), ev (rst (slotsOf (.call ⟨.builtin .append, #[x, y], #[T, T]⟩)) (acc ξ)) x = some (.raw (.slice ad m cap)) ∧ ev (rst (slotsOf (.call ⟨.builtin .append, #[x, y], #[T, T]⟩)) (acc ξ)) y = some (.sl kk rows2) ∧
        (H ξ S).Perm (Chunk.own ad cap kk E rows :: cf) ∧ m = rows.length ∧ rows.length + rows2.length = mm ∧ (rows.length + rows2.length) * bb ≤ 140737488355328 ∧ rows.length + rows2.length ≤ 9223372036854775807 ∧ ∀ ad' cap', (H (upd ξ n (.slice ad' (rows ++ rows2).length cap')) (updD S n)).Perm (Chunk.own ad' cap' kk E (rows ++ rows2) :: cf))
    (k : XSeq P Γ H L K (n + 1) (fun ξ => (d, Tr.raw (ξ n)) :: acc ξ) (pfX n (fun ξ => ∃ ad cap, ξ n = .slice ad mm cap) Pf) l) : XSeq P Γ H L K n acc Pf (⟨some d, .call ⟨.builtin .append, #[x, y], #[T, T]⟩, ty, pos, af, none⟩ :: l) := by
  refine XSeq.cons (T := Tr.raw) (Pv := fun ξ => ∃ ad cap, ξ n = .slice ad mm cap) (PvOk.own (p := fun v => ∃ ad cap, v = .slice ad mm cap)) ?_ k
  unfold XStep
  intro ξ S h1 h2 h3 h4 a w dd next F hk
  obtain ⟨ad, m, cap, rows, rows2, cf, hx, hy, hp, hn, hmm, hb, hm, hq⟩ := h ξ S h1 h2 h3 h4
  subst hn
  have hv := rd_raw (dd.ev hx)
  have d' := dd.perm hp
  have hys := dd.ev hy
  have hown0 := d'.has (List.Perm.refl _)
  have hav := av_perm hp Γ.M
  rw [hav] at hys
  generalize hA : av Γ.M (Chunk.own ad cap kk E rows :: cf) = A at hys hown0
  unfold Tr.sl at hys
  obtain ⟨hk2, hl2, ad2, cap2, hv2, g1, g2, g3, g4⟩ := hys
  unfold Chunk.own at hown0
  obtain ⟨hk0, xs, hown, hrd⟩ := hown0
  obtain ⟨ti, zv, hi1, hi2, hi3, hi4, hi5, hi6⟩ := hS.hE
  have hzs : zv.cells.size = kk := hS.hz _ _ hi1 hi2
  have hm' : rows.length + rows2.length ≤ maxLen := by simp only [maxLen]; omega
  have key : ∃ v' w', (Builtin.append_ #[T, T] ty #[.slice ad rows.length cap, .slice ad2 rows2.length cap2]).run P w = .ok v' w' ∧ ∃ news, RdC w A rows2.flatten news ∧
      w'.ownsRow 0 E kk v' (rows.length + rows2.length) (xs ++ news) ∧ w.grownBy w' (Value.ownBlock (.slice ad rows.length cap)) ∧ (∀ b, v'.ownBlock = some b → (Value.ownBlock (.slice ad rows.length cap)) = some b ∨ w.heap.size ≤ b) := by
    rcases g4 with g4 | ⟨b, off, rfl, hc⟩
    · subst g4
      cases ad2 with
      | none =>
        obtain ⟨_, rfl⟩ := g3 rfl
        exact ⟨_, w, run_append_owned_none (P := P) w 0 T ty E ti kk hS.hT hi1 _ _ xs hown, [], rfl, by simpa using hown, ⟨rfl, rfl, rfl, Nat.le_refl _, fun _ _ _ => rfl⟩, fun b hb => .inl hb⟩
      | some a2 =>
        obtain ⟨v', w', h1, h2, h3, h4⟩ := append_run (P := P) (ty := ty) (a := a2) (m := 0) (c := cap2) (news := []) hS.hT hi1 hi2 hi4 hi5 hzs hi6 hown (by simp) (by simp) (by simp) (by simpa using hm') (by simpa using hb)
        exact ⟨v', w', h1, [], rfl, h2, h3, h4⟩
    · obtain ⟨vs, hvs, hcell⟩ := rdc_at hc
      obtain ⟨v', w', h1, h2, h3, h4⟩ := append_run (P := P) (ty := ty) (a := ⟨b, off, none⟩) (m := rows2.length) (c := cap2) (news := vs) hS.hT hi1 hi2 hi4 hi5 hzs hi6 hown (by rw [hvs.length]; exact flat_len hk2) hcell hvs.one hm' hb
      exact ⟨v', w', h1, vs, hvs, h2, h3, h4⟩
  obtain ⟨v', w', hrun, news, hnews, hown', hgr, hfresh⟩ := key
  have hform : ∃ ad' cap', v' = .slice ad' (rows ++ rows2).length cap' := by
    rcases hown'.2 with ⟨e, h0⟩ | ⟨g, c, cur, e, _⟩
    · exact ⟨none, 0, by rw [e, List.length_append, h0]⟩
    · exact ⟨_, c, by rw [e, List.length_append]⟩
  obtain ⟨ad', cap', rfl⟩ := hform
  have hx2 : (execOp a.eval ⟨some d, .call ⟨.builtin .append, #[x, y], #[T, T]⟩, ty, pos, af, none⟩).run P w = .ok (.value (.slice ad' (rows ++ rows2).length cap')) w' := by simp [execOp, resolve, invoke, builtin, hv, hv2, hrun] <;> rfl
  refine opIn_of_run hx2 ⟨(by intro d h; cases h), (by intro x y h; cases h)⟩ ?_
  refine hk _ _ ⟨ad', cap', by rw [upd_same, List.length_append, hmm]⟩ (raw_self _) fun env2 d2 => Den.perm ?_ (hq ad' cap').symm
  refine (d2.perm hp).turnF (c' := Chunk.own ad' cap' kk E (rows ++ rows2)) ?_ ?_ ?_ ?_
  · intro b hb
    have hb' : Value.ownBlock (.slice ad' (rows ++ rows2).length cap') = some b := by unfold Chunk.own at hb; simpa using hb
    rcases hfresh b hb' with h | h
    · exact .inl (by unfold Chunk.own; simpa using h)
    · exact .inr ⟨h, (hown'.lt b hb').2⟩
  · have : (Chunk.own ad' cap' kk E (rows ++ rows2)).fp = (Value.ownBlock (.slice ad' (rows ++ rows2).length cap')).toList := by unfold Chunk.own; rfl
    rw [this]
    cases Value.ownBlock (.slice ad' (rows ++ rows2).length cap') <;> simp
  · exact ⟨hgr.os, hgr.tape, hgr.output, hgr.size, fun b hb hn => hgr.block b hb fun e => hn (by unfold Chunk.own; simp [← e]), fun _ => run_drawn hrun⟩
  · intro hs _
    rw [hA] at hs
    generalize av Γ.M (Chunk.own ad' cap' kk E (rows ++ rows2) :: cf) = A' at hs ⊢
    unfold Chunk.own
    refine ⟨?_, xs ++ news, by simpa using hown', ?_⟩
    · intro r hr
      rcases List.mem_append.1 hr with h | h
      · exact hk0 r h
      · exact hk2 r h
    · rw [List.flatten_append]
      exact (hrd.mono hs).app (hnews.mono hs)

/-! ### one of some trees -/
def Tr.anyOf (ts : List Tr) : Tr := ⟨fun w A v => ∃ t ∈ ts, t.rd w A v, fun h ⟨t, ht, hr⟩ => ⟨t, ht, t.mono h hr⟩⟩
theorem OpV.imp (h : OpV P Γ op ty env cs t) (hi : Imp t t') : OpV P Γ op ty env cs t' := by
  unfold OpV at h ⊢
  intro a w d
  obtain ⟨v, h1, h2⟩ := h a w d
  exact ⟨v, h1, hi _ _ _ h2⟩
theorem OneT.anyOf {ts : List Tr} (h : ∀ t ∈ ts, OneT t) : OneT (Tr.anyOf ts) := ⟨fun w A v ⟨t, ht, hr⟩ => (h t ht).h w A v hr⟩
theorem Imp.intS {x : Int} {p : Int → Prop} (h : p x) : Imp (Tr.int x) (Tr.intS p) := fun w A v hr => ⟨x, rd_raw hr, h⟩
theorem Imp.strS {x : ByteArray} {p : ByteArray → Prop} (h : p x) : Imp (Tr.str x) (Tr.strS p) := fun w A v hr => ⟨x, rd_raw hr, h⟩
theorem b2n_le (b : Bool) : b2n b ≤ 1 := by cases b <;> decide
theorem perm_strm {st bs a c : Nat} {rows : List (List Tr)} (h : a = c) : (Chunk.strm st bs rows a :: cf).Perm (Chunk.strm st bs rows c :: cf) := by rw [h]
end x2
attribute [irreducible] Tr.anyOf

end Lg
end
section
set_option linter.all false
namespace Lg
open Go
section cat
variable {P : Program} {Γ : Ctx} {env : Env} {cs cf : List Chunk} {Q : Post} {R : Array Oper} {rest : List Oper} {i : Tmp} {ty T T2 : TypeId} {pos : String} {af : Array Edge} {x y : Operand}
theorem OpV.cap {E : TypeId} {a : Option Addr} {n c : Nat} (hT : P.underlying T = some (.slice E)) (hx : ev env x = some (.raw (.slice a n c))) : OpV P Γ (.call ⟨.builtin .cap, #[x], #[T]⟩) ty env cs (.int c) := by
  unfold OpV
  intro ac w d
  have hv := rd_raw (d.ev hx)
  refine ⟨.int .i64 c, ?_, raw_self _⟩
  simp [execOp, resolve, invoke, builtin, hv, Builtin.cap_, run_underlying hT, goInt]
theorem zero_made (z : Array Value) (n : Nat) : Builtin.zeroCells z n = madeCells z (n * z.size) := by
  unfold Builtin.zeroCells madeCells
  apply Array.ext
  · simp
  · intro j h1 h2
    simp
/-- append(nil, make(..)...) -/
theorem Ops.append_zeros {E kk bb : Nat} {zs : List Value} [hS : TySl P T E kk bb zs] {kn : IntKind} {n : Nat} (hT2 : P.underlying T2 = some (.int kn)) (hx : ev env x = some (.raw (.slice none 0 0))) (hy : ev env y = some (.int n)) (h0 : 0 < n) (hb : n * bb ≤ 281474976710656) (hm : n ≤ 100000000000) (hi : Nat.blt i Γ.n = true)
    (kont : ∀ ad cap, Ops P Γ R rest ((i, .raw (.slice ad n cap)) :: env) (Chunk.own ad cap kk E (List.replicate n (zs.map Tr.raw)) :: cs) Q) : Ops P Γ R (⟨some i, .call ⟨.builtin .append, #[x, y], #[T, T2]⟩, ty, pos, af, none⟩ :: rest) env cs Q :=
  Ops.of fun a w d => by
    have hv := rd_raw (d.ev hx)
    have hv2 := rd_raw (d.ev hy)
    obtain ⟨ti, zv, h1, h2, h3, h4, h5, h6⟩ := hS.hE
    have hr := Lib.run_append_nil_zeros (P := P) w T T2 ty E ti zv .i64 kn hS.hT hT2 h1 h2 n h0 (by omega) (by omega) (by rw [h5]; exact hb)
    have hzs : zv.cells.size = kk := hS.hz _ _ h1 h2
    have hge := grownCap_ge w n 0 E
    have hle := grownCap_le_maxLen w n 0 E (by unfold maxLen; omega)
    generalize hcap : grownCap w n 0 E = cap at hr hge hle
    generalize hZ : Builtin.zeroCells zv.cells n ++ Builtin.zeroCells zv.cells (cap - n) = Z at hr
    refine ⟨_, _, .value (.slice (some ⟨w.heap.size, 0, none⟩) n cap), _, by simp [execOp, resolve, invoke, builtin, hv, hv2, hr] <;> rfl, .inl ⟨_, rfl, Den.put ?_ hi (raw_self _)⟩, kont (some ⟨w.heap.size, 0, none⟩) cap⟩
    have hZs : Z.size = cap * kk := by
      rw [← hZ]
      simp only [Array.size_append, size_zeroCells, hzs]
      rw [← Nat.add_mul]
      congr 1
      omega
    have hZt : Z.toList.take (n * kk) = (madeCells zv.cells (n * zv.cells.size)).toList := by
      rw [← hZ, Array.toList_append, List.take_append_of_le_length (by rw [Array.length_toList, size_zeroCells, hzs]; exact Nat.le_refl _), List.take_of_length_le (by rw [Array.length_toList, size_zeroCells, hzs]; exact Nat.le_refl _), zero_made]
    have hrd : ∀ A w', RdC w' A (zeroRow zv.cells.toList n) (madeCells zv.cells (n * zv.cells.size)).toList := fun A w' => madeCells_rd (by rw [h3]; exact hS.one) n
    refine (d.drew.push (w' := w.drew.alloc (.cells Z E)) _ (by simp) (by unfold Chunk.own; simp [Value.ownBlock]) (by unfold Chunk.own; simp [Value.ownBlock]) (fun b hb => heap_alloc_old w.drew _ b hb) rfl rfl rfl ?_)
    intro hs
    generalize av Γ.M (_ :: cs) = A at *
    unfold Chunk.own
    refine ⟨fun r hr => by rw [List.eq_of_mem_replicate hr]; simp [hS.hk], (madeCells zv.cells (n * zv.cells.size)).toList, ?_, ?_⟩
    · refine ⟨by rw [List.length_replicate, ← hZt, List.length_take, Array.length_toList, hZs]; exact Nat.min_eq_left (Nat.mul_le_mul_right kk hge), .inr ⟨w.heap.size, cap, Z, by rw [List.length_replicate], Nat.zero_le _, heap_alloc_new w.drew _, by rw [List.length_replicate]; exact hge, hle, hZs, by rw [List.length_replicate]; exact hZt⟩⟩
    · have e := zeroRow_flat zs n
      rw [e, ← h3]
      exact hrd _ _

variable {H : (Nat → Value) → (Nat → Bool) → List Chunk} {L : List Oper} {K : Env → List Chunk → Prop} {n d : Nat} {l : List Oper} {Pf : Nat → (Nat → Value) → Prop} {acc : (Nat → Value) → Env}
/-- a slice of zeros of one's own is made -/
theorem XSeq.mkOwn {E kk bb : Nat} {zs : List Value} [hS : TySl P T E kk bb zs] (m : Nat) (hx : ∀ ξ, ev (rst (slotsOf (.makeSlice T x y)) (acc ξ)) x = some (.int m)) (hy : ∀ ξ, ev (rst (slotsOf (.makeSlice T x y)) (acc ξ)) y = some (.int m)) (hb : bb * m ≤ 281474976710656) (hmx : m ≤ 1000000000)
    (hH : ∀ (ξ : Nat → Value) (S : Nat → Bool), S n = false → (∀ k ok, L[k]? = some ok → S k = true → ∀ j ∈ preds ok.after, S j = true) → ∀ ad cap, (H (upd ξ n (.slice ad m cap)) (updD S n)).Perm (Chunk.own ad cap kk E (List.replicate m (zs.map Tr.raw)) :: H ξ S))
    (k : XSeq P Γ H L K (n + 1) (fun ξ => (d, Tr.raw (ξ n)) :: acc ξ) (pfX n (fun ξ => ∃ ad cap, ξ n = .slice ad m cap) Pf) l) : XSeq P Γ H L K n acc Pf (⟨some d, .makeSlice T x y, ty, pos, af, none⟩ :: l) := by
  refine XSeq.cons (T := Tr.raw) (Pv := fun ξ => ∃ ad cap, ξ n = .slice ad m cap) (PvOk.own (p := fun v => ∃ ad cap, v = .slice ad m cap)) ?_ k
  unfold XStep
  intro ξ S h1 h2 h3 h4 a w dd next F hk
  have hv := rd_raw (dd.ev (hx ξ))
  have hv2 := rd_raw (dd.ev (hy ξ))
  obtain ⟨ti, zv, i1, i2, i3, i4, i5, i6⟩ := hS.hE
  have hr := run_make (P := P) w T E ti zv hS.hT i1 i2 .i64 .i64 m m (by omega) (Int.le_refl _) (by rw [i5, ← Int.natCast_mul]; omega) (by omega)
  have hzs : zv.cells.size = kk := hS.hz _ _ i1 i2
  simp only [Int.toNat_natCast, i4] at hr
  have hx2 : (execOp a.eval ⟨some d, .makeSlice T x y, ty, pos, af, none⟩).run P w = .ok (.value (.slice (some ⟨w.heap.size, 0, none⟩) m m)) (w.alloc (.cells (madeCells zv.cells (m * kk)) E)) := by simp [execOp, hv, hv2, hr] <;> rfl
  refine opIn_of_run hx2 ⟨(by intro d h; cases h), (by intro x y h; cases h)⟩ ?_
  refine hk _ _ ⟨some ⟨w.heap.size, 0, none⟩, m, upd_same _ _ _⟩ (raw_self _) fun env2 d2 => Den.perm ?_ (hH ξ S h1 h3 _ _).symm
  refine d2.push _ (by simp) (by unfold Chunk.own; simp [Value.ownBlock]) (by unfold Chunk.own; simp [Value.ownBlock]) (fun b hb => heap_alloc_old w _ b hb) rfl rfl rfl ?_
  intro hs
  have hmd := madeCells_rd (w := w) (A := av Γ.M (H ξ S)) (zs := zv.cells) (by rw [i3]; exact hS.one) m
  rw [hzs, i3] at hmd
  generalize av Γ.M (_ :: H ξ S) = A at *
  unfold Chunk.own
  refine ⟨fun r hr => by rw [List.eq_of_mem_replicate hr]; simp [hS.hk], (madeCells zv.cells (m * kk)).toList, ?_, ?_⟩
  · simp only [List.length_replicate]
    exact World.ownsRow_lit w (madeCells zv.cells (m * kk)) m (Nat.zero_le _) (by simp only [maxLen]; omega) (size_madeCells _ _)
  · have e := zeroRow_flat zs m
    rw [e]
    exact hmd.mono hs
end cat
end Lg
end
section
set_option linter.all false
namespace Lg
open Go

section x3
variable {P : Program} {Γ : Ctx} {env env' : Env} {cs cs' cf : List Chunk}

section x3b
variable {env : Env} {H : (Nat → Value) → (Nat → Bool) → List Chunk} {L : List Oper} {K : Env → List Chunk → Prop} {n : Nat} {l : List Oper}
variable {Pf : Nat → (Nat → Value) → Prop} {d : Nat} {op : Op} {ty : TypeId} {pos : String} {af : Array Edge} {acc : (Nat → Value) → Env}
/-- a store into an owned slice of which it is only known that it is one of some -/
theorem XSeq.storeE {T : TypeId} {x y : Operand} [hT : TyOne P T]
    (h : ∀ (ξ : Nat → Value) (S : Nat → Bool), S n = false → (∀ j ∈ preds af, S j = true) → (∀ k ok, L[k]? = some ok → S k = true → ∀ j ∈ preds ok.after, S j = true) → (∀ k, S k = true → Pf k ξ) →
      ∃ (u t : Tr), ev (rst (slotsOf (.store T x y)) (acc ξ)) x = some u ∧ ev (rst (slotsOf (.store T x y)) (acc ξ)) y = some t ∧ OneT t ∧ ∀ w A v, u.rd w A v → ∃ (ad : Option Addr) (cap kk m j : Nat) (e : TypeId) (rows : List (List Tr)) (r : List Tr) (cf : List Chunk),
        (Tr.eptr ad kk m j).rd w A v ∧ (∀ env2, Ent Γ env2 (H ξ S) env2 (Chunk.own ad cap kk e rows :: cf)) ∧ rows[m]? = some r ∧ j < kk ∧ (∀ env2, Ent Γ env2 (Chunk.own ad cap kk e (rows.set m (r.set j t)) :: cf) env2 (H (upd ξ n undef) (updD S n))))
    (k : XSeq P Γ H L K (n + 1) acc (pfX n (fun _ => True) Pf) l) : XSeq P Γ H L K n acc Pf (⟨none, .store T x y, ty, pos, af, none⟩ :: l) := by
  refine XSeq.cons (T := fun _ => Tr.any) (Pv := fun _ => True) PvOk.triv ?_ k
  unfold XStep
  intro ξ S h1 h2 h3 h4 a w dd next F hk
  obtain ⟨u, t, hx, hy, ho, hh⟩ := h ξ S h1 h2 h3 h4
  obtain ⟨ad, cap, kk, m, j, e, rows, r, cf, hptr, hE, hr, hj, hE2⟩ := hh w _ _ (dd.ev hx)
  unfold Tr.eptr at hptr
  obtain ⟨g, ha, hv⟩ := hptr
  have toD : ∀ env2, Den Γ env2 (H ξ S) a w → Den Γ env2 (Chunk.own ad cap kk e rows :: cf) a w := fun env2 d2 => by
    have := hE env2
    unfold Ent at this
    exact this a w d2
  have d1 := toD _ dd
  have hrow : RdC w (av Γ.M (Chunk.own ad cap kk e rows :: cf)) [t] (a.eval y).cells.toList := (inferInstance : RowT t [t]).h _ _ _ (d1.ev hy)
  have hlr : r.length = kk := by
    have := d1.has (List.Perm.refl _)
    generalize av Γ.M (Chunk.own ad cap kk e rows :: cf) = A at this
    unfold Chunk.own at this
    obtain ⟨hk0, _⟩ := this
    exact hk0 r (List.mem_of_getElem? hr)
  have hset : r.take j ++ [t] ++ r.drop (j + 1) = r.set j t := by rw [List.set_eq_take_append_cons_drop, if_pos (by omega)]; simp
  have step : ∀ env2, Den Γ env2 (Chunk.own ad cap kk e rows :: cf) a w → ∃ w', (Instr.storeAt T (.pointer (some ⟨g, m * kk + j, none⟩)) (a.eval y)).run P w = .ok () w' ∧ Den Γ env2 (Chunk.own ad cap kk e (rows.set m (r.set j t)) :: cf) a w' := by
    intro env2 d2
    rw [← hset]
    exact own_store (P := P) d2 ha hr (r' := r.take j ++ [t] ++ r.drop (j + 1)) (vs := (a.eval y).cells.toList) (m := 1) (j := j) (by rw [hrow.length]; rfl) (by omega)
      (fun A w' hs xs hx => (((hx.take j).mono hs).app (hrow.mono hs)).app ((hx.drop (j + 1)).mono hs)) (by simp [hlr]; omega) T (a.eval y) hT.size rfl hrow.one
  obtain ⟨w', hrun, hd⟩ := step _ d1
  have hx2 : (execOp a.eval ⟨none, .store T x y, ty, pos, af, none⟩).run P w = .ok .skip w' := by simp [execOp, hv, hrun] <;> rfl
  refine opIn_of_run hx2 ⟨(by intro d h; cases h), (by intro x y h; cases h)⟩ ?_
  refine hk _ _ trivial tr_any_self fun env2 d2 => ?_
  obtain ⟨w2, hrun2, hd2⟩ := step env2 (toD env2 d2)
  rw [hrun] at hrun2
  cases hrun2
  have := hE2 env2
  unfold Ent at this
  exact this a w' hd2
end x3b
end x3
end Lg
end
