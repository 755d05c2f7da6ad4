/- A part of the proof of a law of this seat: it adds no condition. By an AI agent. -/
import Derived.Lib.AppendZeros
import Derived.Test.YtckmbloodnndeaaGreatDoorLgX
section
set_option linter.all false
namespace Lg
open Go
section x2
variable {P : Program} {Γ : Ctx} {env : Env} {cs cf : List Chunk} {H : (Nat → Value) → (Nat → Bool) → List Chunk} {L : List Oper} {K : Env → List Chunk → Prop} {n : Nat} {l : List Oper}
variable {Pf : Nat → (Nat → Value) → Prop} {d : Nat} {op : Op} {ty : TypeId} {pos : String} {af : Array Edge} {acc : (Nat → Value) → Env} {t t' : Tr}

def b2n : Bool → Nat
  | true => 1
  | false => 0
/-- a call that takes numbers off the stream -/
theorem XSeq.callG {st f c b : Nat} {args : List Tr} {post : Tr → Prop} {ol : List Operand} {ts : Array TypeId} {xs : List Int} (hg : Gen P st f args c post)
    (ha : ∀ ξ, Evs (rst (slotsOf (.call ⟨.value (.func f), ol.toArray, ts⟩)) (acc ξ)) ol (Tr.ptr b :: args)) (ht : ∀ r, post r → Imp r t)
    (hH : ∀ (ξ : Nat → Value) (S : Nat → Bool), S n = false → (∀ k ok, L[k]? = some ok → S k = true → ∀ j ∈ preds ok.after, S j = true) → ∃ N cf, N + c ≤ 1000000000000 ∧ (H ξ S).Perm (Chunk.strm st b (intRows xs) N :: cf) ∧ ∀ v, (H (upd ξ n v) (updD S n)).Perm (Chunk.strm st b (intRows xs) (N + c) :: cf))
    (k : XSeq P Γ H L K (n + 1) (fun ξ => (d, t) :: acc ξ) (pfX n (fun _ => True) Pf) l) : XSeq P Γ H L K n acc Pf (⟨some d, .call ⟨.value (.func f), ol.toArray, ts⟩, ty, pos, af, none⟩ :: l) := by
  refine XSeq.cons (T := fun _ => t) (Pv := fun _ => True) PvOk.triv ?_ k
  unfold XStep
  intro ξ S h1 h2 h3 h4 a w dd next F hk
  unfold Gen at hg
  obtain ⟨N, cf, hN, hp, hp2⟩ := hH ξ S h1 h3
  have hs := hg b xs N hN
  have hcc := call_core2 (cf := cf) hs dd hp ((ha ξ).rd dd)
  have hrun : (execOp a.eval ⟨some d, .call ⟨.value (.func f), ol.toArray, ts⟩, ty, pos, af, none⟩).run P w = .ok (.enter f (ol.map a.eval).toArray) w := by
    unfold Spec at hs
    have := hs.1 (ol.map a.eval).toArray w
    simp [execOp, resolve, invoke, Deferred.ofValue, Act.eval, this]
  refine opIn_of_run hrun ⟨(by intro d h; cases h), (by intro x y h; cases h)⟩ ?_
  refine hcc.mono ?_
  rintro e w' ⟨v, r, cs', rfl, ⟨rfl, hpo⟩, hrd, hd⟩
  refine hk _ _ trivial (ht r hpo _ _ _ ?_) fun env2 h2 => (hd env2 h2).perm (hp2 v).symm
  rw [av_perm (hp2 v)]
  exact hrd

/-- an owned slice grows -/
theorem XSeq.append {E kk bb z T} [hS : TySl P T E kk bb z] {x y : Operand} (mm : Nat)
    (h : ∀ (ξ : Nat → Value) (S : Nat → Bool), S n = false → (∀ j ∈ preds af, S j = true) → (∀ k ok, L[k]? = some ok → S k = true → ∀ j ∈ preds ok.after, S j = true) → (∀ k, S k = true → Pf k ξ) →
      ∃ (ad : Option Addr) (m cap : Nat) (rows rows2 : List (List Tr)) (cf : List Chunk), ev (rst (slotsOf (.call ⟨.builtin .append, #[x, y], #[T, T]⟩)) (acc ξ)) x = some (.raw (.slice ad m cap)) ∧ ev (rst (slotsOf (.call ⟨.builtin .append, #[x, y], #[T, T]⟩)) (acc ξ)) y = some (.sl kk rows2) ∧
        (H ξ S).Perm (Chunk.own ad cap kk E rows :: cf) ∧ m = rows.length ∧ rows.length + rows2.length = mm ∧ (rows.length + rows2.length) * bb ≤ 140737488355328 ∧ rows.length + rows2.length ≤ 9223372036854775807 ∧ ∀ ad' cap', (H (upd ξ n (.slice ad' (rows ++ rows2).length cap')) (updD S n)).Perm (Chunk.own ad' cap' kk E (rows ++ rows2) :: cf))
    (k : XSeq P Γ H L K (n + 1) (fun ξ => (d, Tr.raw (ξ n)) :: acc ξ) (pfX n (fun ξ => ∃ ad cap, ξ n = .slice ad mm cap) Pf) l) : XSeq P Γ H L K n acc Pf (⟨some d, .call ⟨.builtin .append, #[x, y], #[T, T]⟩, ty, pos, af, none⟩ :: l) := by
  refine XSeq.cons (T := Tr.raw) (Pv := fun ξ => ∃ ad cap, ξ n = .slice ad mm cap) (PvOk.own (p := fun v => ∃ ad cap, v = .slice ad mm cap)) ?_ k
  unfold XStep
  intro ξ S h1 h2 h3 h4 a w dd next F hk
  obtain ⟨ad, m, cap, rows, rows2, cf, hx, hy, hp, hn, hmm, hb, hm, hq⟩ := h ξ S h1 h2 h3 h4
  subst hn
  have hv := rd_raw (dd.ev hx)
  have d' := dd.perm hp
  have hys := dd.ev hy
  have hown0 := d'.has (List.Perm.refl _)
  have hav := av_perm hp Γ.M
  rw [hav] at hys
  generalize hA : av Γ.M (Chunk.own ad cap kk E rows :: cf) = A at hys hown0
  unfold Tr.sl at hys
  obtain ⟨hk2, hl2, ad2, cap2, hv2, g1, g2, g3, g4⟩ := hys
  unfold Chunk.own at hown0
  obtain ⟨hk0, xs, hown, hrd⟩ := hown0
  obtain ⟨ti, zv, hi1, hi2, hi3, hi4, hi5, hi6⟩ := hS.hE
  have hzs : zv.cells.size = kk := hS.hz _ _ hi1 hi2
  have hm' : rows.length + rows2.length ≤ maxLen := by simp only [maxLen]; omega
  have key : ∃ v' w', (Builtin.append_ #[T, T] ty #[.slice ad rows.length cap, .slice ad2 rows2.length cap2]).run P w = .ok v' w' ∧ ∃ news, RdC w A rows2.flatten news ∧
      w'.ownsRow 0 E kk v' (rows.length + rows2.length) (xs ++ news) ∧ w.grownBy w' (Value.ownBlock (.slice ad rows.length cap)) ∧ (∀ b, v'.ownBlock = some b → (Value.ownBlock (.slice ad rows.length cap)) = some b ∨ w.heap.size ≤ b) := by
    rcases g4 with g4 | ⟨b, off, rfl, hc⟩
    · subst g4
      cases ad2 with
      | none =>
        obtain ⟨_, rfl⟩ := g3 rfl
        exact ⟨_, w, run_append_owned_none (P := P) w 0 T ty E ti kk hS.hT hi1 _ _ xs hown, [], rfl, by simpa using hown, ⟨rfl, rfl, rfl, Nat.le_refl _, fun _ _ _ => rfl⟩, fun b hb => .inl hb⟩
      | some a2 =>
        obtain ⟨v', w', h1, h2, h3, h4⟩ := append_run (P := P) (ty := ty) (a := a2) (m := 0) (c := cap2) (news := []) hS.hT hi1 hi2 hi4 hi5 hzs hi6 hown (by simp) (by simp) (by simp) (by simpa using hm') (by simpa using hb)
        exact ⟨v', w', h1, [], rfl, h2, h3, h4⟩
    · obtain ⟨vs, hvs, hcell⟩ := rdc_at hc
      obtain ⟨v', w', h1, h2, h3, h4⟩ := append_run (P := P) (ty := ty) (a := ⟨b, off, none⟩) (m := rows2.length) (c := cap2) (news := vs) hS.hT hi1 hi2 hi4 hi5 hzs hi6 hown (by rw [hvs.length]; exact flat_len hk2) hcell hvs.one hm' hb
      exact ⟨v', w', h1, vs, hvs, h2, h3, h4⟩
  obtain ⟨v', w', hrun, news, hnews, hown', hgr, hfresh⟩ := key
  have hform : ∃ ad' cap', v' = .slice ad' (rows ++ rows2).length cap' := by
    rcases hown'.2 with ⟨e, h0⟩ | ⟨g, c, cur, e, _⟩
    · exact ⟨none, 0, by rw [e, List.length_append, h0]⟩
    · exact ⟨_, c, by rw [e, List.length_append]⟩
  obtain ⟨ad', cap', rfl⟩ := hform
  have hx2 : (execOp a.eval ⟨some d, .call ⟨.builtin .append, #[x, y], #[T, T]⟩, ty, pos, af, none⟩).run P w = .ok (.value (.slice ad' (rows ++ rows2).length cap')) w' := by simp [execOp, resolve, invoke, builtin, hv, hv2, hrun] <;> rfl
  refine opIn_of_run hx2 ⟨(by intro d h; cases h), (by intro x y h; cases h)⟩ ?_
  refine hk _ _ ⟨ad', cap', by rw [upd_same, List.length_append, hmm]⟩ (raw_self _) fun env2 d2 => Den.perm ?_ (hq ad' cap').symm
  refine (d2.perm hp).turnF (c' := Chunk.own ad' cap' kk E (rows ++ rows2)) ?_ ?_ ?_ ?_
  · intro b hb
    have hb' : Value.ownBlock (.slice ad' (rows ++ rows2).length cap') = some b := by unfold Chunk.own at hb; simpa using hb
    rcases hfresh b hb' with h | h
    · exact .inl (by unfold Chunk.own; simpa using h)
    · exact .inr ⟨h, (hown'.lt b hb').2⟩
  · have : (Chunk.own ad' cap' kk E (rows ++ rows2)).fp = (Value.ownBlock (.slice ad' (rows ++ rows2).length cap')).toList := by unfold Chunk.own; rfl
    rw [this]
    cases Value.ownBlock (.slice ad' (rows ++ rows2).length cap') <;> simp
  · exact ⟨hgr.os, hgr.tape, hgr.output, hgr.size, fun b hb hn => hgr.block b hb fun e => hn (by unfold Chunk.own; simp [← e]), fun _ => run_drawn hrun⟩
  · intro hs _
    rw [hA] at hs
    generalize av Γ.M (Chunk.own ad' cap' kk E (rows ++ rows2) :: cf) = A' at hs ⊢
    unfold Chunk.own
    refine ⟨?_, xs ++ news, by simpa using hown', ?_⟩
    · intro r hr
      rcases List.mem_append.1 hr with h | h
      · exact hk0 r h
      · exact hk2 r h
    · rw [List.flatten_append]
      exact (hrd.mono hs).app (hnews.mono hs)

/-! ### one of some trees -/
def Tr.anyOf (ts : List Tr) : Tr := ⟨fun w A v => ∃ t ∈ ts, t.rd w A v, fun h ⟨t, ht, hr⟩ => ⟨t, ht, t.mono h hr⟩⟩
theorem Imp.any_of {t : Tr} {ts : List Tr} (h : t ∈ ts) : Imp t (Tr.anyOf ts) := fun w A v hr => ⟨t, h, hr⟩
theorem OpV.imp (h : OpV P Γ op ty env cs t) (hi : Imp t t') : OpV P Γ op ty env cs t' := by
  unfold OpV at h ⊢
  intro a w d
  obtain ⟨v, h1, h2⟩ := h a w d
  exact ⟨v, h1, hi _ _ _ h2⟩
theorem OpV.openS {ι : Type} {s : Nat} {u : Tr} {p : ι → Prop} {f : ι → Tr} (hl : look env s = some u) (ho : ∀ w A v, u.rd w A v → ∃ x, p x ∧ (f x).rd w A v) (h : ∀ x, p x → OpV P Γ op ty ((s, f x) :: env) cs t) : OpV P Γ op ty env cs t := by
  unfold OpV at h ⊢
  intro a w d
  obtain ⟨x, hp, hx⟩ := ho w _ _ (d.env s u hl)
  refine h x hp a w ⟨d.nodefer, d.tmps, ?_, d.chunks, d.nodup, d.fresh, d.below, d.frame⟩
  intro j u hj
  by_cases e : s = j
  · subst e; rw [look_cons_same] at hj; cases hj; exact hx
  · rw [look_cons_ne _ _ e] at hj; exact d.env j u hj
theorem open_intS {p : Int → Prop} : ∀ w A v, (Tr.intS p).rd w A v → ∃ x, p x ∧ (Tr.int x).rd w A v := by
  rintro w A v ⟨n, rfl, h⟩
  exact ⟨n, h, raw_self _⟩
theorem open_anyOf {ts : List Tr} : ∀ w A v, (Tr.anyOf ts).rd w A v → ∃ t, t ∈ ts ∧ t.rd w A v := by
  rintro w A v ⟨t, h, hr⟩
  exact ⟨t, h, hr⟩
theorem OneT.anyOf {ts : List Tr} (h : ∀ t ∈ ts, OneT t) : OneT (Tr.anyOf ts) := ⟨fun w A v ⟨t, ht, hr⟩ => (h t ht).h w A v hr⟩
theorem Imp.intS {x : Int} {p : Int → Prop} (h : p x) : Imp (Tr.int x) (Tr.intS p) := fun w A v hr => ⟨x, rd_raw hr, h⟩
theorem Imp.strS {x : ByteArray} {p : ByteArray → Prop} (h : p x) : Imp (Tr.str x) (Tr.strS p) := fun w A v hr => ⟨x, rd_raw hr, h⟩
theorem OpV.leqS_is {x y : Operand} {s u : ByteArray} {T T2 : TypeId} {b : Bool} (hx : ev env x = some (.str s)) (hy : ev env y = some (.str u)) (h : (strLt s u || decide (s = u)) = b) : OpV P Γ (.binOp .leq T x y T2) ty env cs (.bool b) := by
  have := OpV.leqS (P := P) (Γ := Γ) (T := T) (T2 := T2) (ty := ty) (cs := cs) hx hy
  rwa [h] at this
theorem b2n_le (b : Bool) : b2n b ≤ 1 := by cases b <;> decide
theorem perm_strm {st bs a c : Nat} {rows : List (List Tr)} (h : a = c) : (Chunk.strm st bs rows a :: cf).Perm (Chunk.strm st bs rows c :: cf) := by rw [h]
/-- what a variable holds is looked at more closely -/
theorem Cw.open_box {ι : Type} {c : Code} {Q : Post} {b : Nat} {e : TypeId} {ts : List Tr} {p : ι → Prop} {f : ι → List Tr} (hp : cs.Perm (Chunk.box b e ts :: cf)) (ho : ∀ w A vs, RdC w A ts vs → ∃ x, p x ∧ RdC w A (f x) vs)
    (k : ∀ x, p x → Cw P Γ c env (Chunk.box b e (f x) :: cf) Q) : Cw P Γ c env cs Q := by
  unfold Cw
  intro a w d
  have d := d.perm hp
  have hb := d.chunks (Chunk.box b e ts) (by simp)
  have hx : ∃ x, p x ∧ (Chunk.box b e (f x)).holds w (av Γ.M (Chunk.box b e ts :: cf)) := by
    generalize av Γ.M (Chunk.box b e ts :: cf) = A at *
    unfold Chunk.box at hb ⊢
    obtain ⟨c, h1, h2⟩ := hb
    obtain ⟨x, h3, h4⟩ := ho w A _ h2
    exact ⟨x, h3, c, h1, h4⟩
  obtain ⟨x, h1, h2⟩ := hx
  have h := k x h1
  unfold Cw at h
  refine h a w (d.swapc (by simp only [fps, List.flatMap_cons]; unfold Chunk.box; rfl) ?_)
  intro c hc
  rcases List.mem_cons.1 hc with rfl | hc
  · exact h2
  · exact d.chunks c (List.mem_cons_of_mem _ hc)
/-- what the last row of an owned slice holds is looked at more closely -/
theorem Cw.open_own {ι : Type} {c : Code} {Q : Post} {ad : Option Addr} {cap k : Nat} {e : TypeId} {rows : List (List Tr)} {ts : List Tr} {p : ι → Prop} {f : ι → List Tr} (hp : cs.Perm (Chunk.own ad cap k e (rows ++ [ts]) :: cf)) (hf : ∀ x, (f x).length = ts.length) (ho : ∀ w A vs, RdC w A ts vs → ∃ x, p x ∧ RdC w A (f x) vs)
    (kk : ∀ x, p x → Cw P Γ c env (Chunk.own ad cap k e (rows ++ [f x]) :: cf) Q) : Cw P Γ c env cs Q := by
  unfold Cw
  intro a w d
  have d := d.perm hp
  have hb := d.chunks (Chunk.own ad cap k e (rows ++ [ts])) (by simp)
  have hx : ∃ x, p x ∧ (Chunk.own ad cap k e (rows ++ [f x])).holds w (av Γ.M (Chunk.own ad cap k e (rows ++ [ts]) :: cf)) := by
    generalize av Γ.M (Chunk.own ad cap k e (rows ++ [ts]) :: cf) = A at *
    unfold Chunk.own at hb ⊢
    obtain ⟨hk, xs, h1, h2⟩ := hb
    rw [List.flatten_append] at h2
    have hs := RdC.split h2
    have h3 := hs.2
    simp only [List.flatten_cons, List.flatten_nil, List.append_nil] at h3
    obtain ⟨x, hpx, h4⟩ := ho w A _ h3
    refine ⟨x, hpx, ?_, xs, ?_, ?_⟩
    · intro r hr
      rcases List.mem_append.1 hr with h | h
      · exact hk r (List.mem_append_left _ h)
      · rw [List.mem_singleton.1 h, hf x]; exact hk ts (List.mem_append_right _ (by simp))
    · simpa using h1
    · rw [List.flatten_append]
      have h6 : RdC w A [f x].flatten (xs.drop rows.flatten.length) := by rw [show [f x].flatten = f x by simp]; exact h4
      have h5 := RdC.app hs.1 h6
      rwa [List.take_append_drop] at h5
  obtain ⟨x, h1, h2⟩ := hx
  have h := kk x h1
  unfold Cw at h
  refine h a w (d.swapc (by simp only [fps, List.flatMap_cons]; unfold Chunk.own; simp) ?_)
  intro c hc
  rcases List.mem_cons.1 hc with rfl | hc
  · exact h2
  · exact d.chunks c (List.mem_cons_of_mem _ hc)
/-- numbers of which no more is said -/
def repI (n : Nat) : List (List Tr) := List.replicate n [Tr.intS fun _ => True]
theorem repI_succ (n : Nat) : repI n ++ [[Tr.intS fun _ => True]] = repI (n + 1) := by unfold repI; rw [List.replicate_succ']
theorem repI_len (n : Nat) : (repI n).length = n := by unfold repI; simp
theorem rdc_repI {w : World} {A : Nat → Prop} : ∀ (n : Nat) {vs : List Value}, RdC w A (repI n).flatten vs → ∃ xs : List Int, xs.length = n ∧ RdC w A (intRows xs).flatten vs
  | 0, vs, h => ⟨[], rfl, by simpa [repI, intRows] using h⟩
  | n + 1, vs, h => by
    have h : RdC w A (Tr.intS (fun _ => True) :: (repI n).flatten) vs := by simpa [repI, List.replicate_succ] using h
    obtain ⟨x, _, rest, rfl, h2⟩ := rdc_intS h
    obtain ⟨xs, hxs, h3⟩ := rdc_repI n h2
    exact ⟨x :: xs, by simp [hxs], by
      have : (intRows (x :: xs)).flatten = Tr.int x :: (intRows xs).flatten := by simp [intRows]
      rw [this]
      exact rdc_rawv rfl h3⟩
theorem open_repI {n : Nat} : ∀ w A v, (Tr.sl 1 (repI n)).rd w A v → ∃ xs : List Int, xs.length = n ∧ (Tr.ints xs).rd w A v := by
  intro w A v h
  unfold Tr.sl at h
  obtain ⟨hk, hl, a, cap, hv, h1, h2, h3, h4⟩ := h
  rw [repI_len] at hl hv h1
  rcases h4 with h4 | ⟨b, off, ha, hA, c, e, fz, hb, hr⟩
  · have hn : n = 0 := by have := congrArg List.length h4; rw [repI_len] at this; simpa using this
    subst hn
    refine ⟨[], rfl, ?_⟩
    unfold Tr.ints Tr.sl
    exact ⟨by simp [intRows], by simp [intRows], a, cap, by rw [hv]; simp [intRows], by simp [intRows], h2, fun h => ⟨rfl, (h3 h).2⟩, .inl rfl⟩
  · have hlen : (repI n).flatten.length = n := by simp [repI]
    rw [hlen] at hr
    obtain ⟨xs, hxs, h5⟩ := rdc_repI n hr
    refine ⟨xs, hxs, ?_⟩
    have hxl : (intRows xs).length = n := by rw [intRows_len, hxs]
    have hfl : (intRows xs).flatten.length = n := by
      rw [flat_len (kk := 1) (by intro r hr2; simp only [intRows, List.mem_map] at hr2; obtain ⟨x, _, rfl⟩ := hr2; rfl), hxl]; omega
    unfold Tr.ints Tr.sl
    refine ⟨?_, by rw [hxl]; exact hl, a, cap, by rw [hxl]; exact hv, by rw [hxl]; exact h1, h2, ?_, .inr ⟨b, off, ha, hA, c, e, fz, hb, by rw [hfl]; exact h5⟩⟩
    · intro r hr2
      simp only [intRows, List.mem_map] at hr2
      obtain ⟨x, _, rfl⟩ := hr2
      rfl
    · intro h
      rw [ha] at h
      cases h
theorem rdc_open {ι : Type} {w : World} {A : Nat → Prop} {t : Tr} {ts : List Tr} {vs : List Value} {p : ι → Prop} {f : ι → Tr} (h : RdC w A (t :: ts) vs) (ho : ∀ w A v, t.rd w A v → ∃ x, p x ∧ (f x).rd w A v) : ∃ x, p x ∧ RdC w A (f x :: ts) vs := by
  obtain ⟨v, rest, rfl, hr, h1, h2⟩ := h
  obtain ⟨x, hp, hx⟩ := ho w A v hr
  exact ⟨x, hp, v, rest, rfl, hx, h1, h2⟩
theorem rdc_tail_open {ι : Type} {w : World} {A : Nat → Prop} {t : Tr} {ts : List Tr} {vs : List Value} {p : ι → Prop} {f : ι → List Tr} (h : RdC w A (t :: ts) vs) (ho : ∀ vs, RdC w A ts vs → ∃ x, p x ∧ RdC w A (f x) vs) : ∃ x, p x ∧ RdC w A (t :: f x) vs := by
  obtain ⟨v, rest, rfl, hr, h1, h2⟩ := h
  obtain ⟨x, hp, hx⟩ := ho _ h2
  exact ⟨x, hp, v, rest, rfl, hr, h1, hx⟩
theorem rdc_anyOf {w : World} {A : Nat → Prop} {us : List Tr} {ts : List Tr} {vs : List Value} (h : RdC w A (Tr.anyOf us :: ts) vs) : ∃ t, t ∈ us ∧ RdC w A (t :: ts) vs := by
  obtain ⟨v, rest, rfl, ⟨t, ht, hr⟩, h1, h2⟩ := h
  exact ⟨t, ht, v, rest, rfl, hr, h1, h2⟩
theorem rdc_imp {w : World} {A : Nat → Prop} {t t' : Tr} {ts : List Tr} {vs : List Value} (h : RdC w A (t :: ts) vs) (hi : Imp t t') : RdC w A (t' :: ts) vs := by
  obtain ⟨v, rest, rfl, hr, h1, h2⟩ := h
  exact ⟨v, rest, rfl, hi _ _ _ hr, h1, h2⟩
end x2
attribute [irreducible] Tr.anyOf

end Lg
end
section
set_option linter.all false
namespace Lg

/-! ### insertion sort, as slices.SortStableFunc does it on short slices: from the left, each new one is moved down past those that are greater -/
section isort
variable {α : Type} (lt : α → α → Bool)

def insRev (x : α) : List α → List α
  | [] => [x]
  | y :: r => if lt x y then y :: insRev x r else x :: y :: r
/-- x is put into l, from the right -/
def insB (x : α) (l : List α) : List α := (insRev lt x l.reverse).reverse
theorem insB_nil (x : α) : insB lt x [] = [x] := rfl
theorem insB_lt {x y : α} {l : List α} (h : lt x y = true) : insB lt x (l ++ [y]) = insB lt x l ++ [y] := by
  unfold insB
  rw [List.reverse_append, List.reverse_singleton, List.singleton_append, insRev, if_pos h, List.reverse_cons]
theorem insB_ge {x y : α} {l : List α} (h : lt x y = false) : insB lt x (l ++ [y]) = l ++ [y] ++ [x] := by
  unfold insB
  rw [List.reverse_append, List.reverse_singleton, List.singleton_append, insRev, if_neg (by simp [h])]
  simp
/-- all of a list, one after the other -/
def isortB : List α → List α → List α
  | acc, [] => acc
  | acc, x :: l => isortB (insB lt x acc) l
def isort (l : List α) : List α := isortB lt [] l

theorem insRev_perm (x : α) : ∀ l : List α, (insRev lt x l).Perm (x :: l)
  | [] => List.Perm.refl _
  | y :: r => by
    unfold insRev
    split
    · exact (List.Perm.cons y (insRev_perm x r)).trans (List.Perm.swap x y r)
    · exact List.Perm.refl _
theorem insB_perm (x : α) (l : List α) : (insB lt x l).Perm (x :: l) :=
  (List.reverse_perm _).trans ((insRev_perm lt x _).trans (List.Perm.cons x (List.reverse_perm l)))
theorem isortB_perm : ∀ (l acc : List α), (isortB lt acc l).Perm (acc ++ l)
  | [], acc => by simp [isortB]
  | x :: l, acc => by
    rw [isortB]
    refine (isortB_perm l _).trans ?_
    refine (List.Perm.append_right l (insB_perm lt x acc)).trans ?_
    exact (List.perm_middle (a := x) (l₁ := acc) (l₂ := l)).symm
theorem isort_perm (l : List α) : (isort lt l).Perm l := by
  have := isortB_perm lt l []
  simpa [isort] using this
theorem isort_len (l : List α) : (isort lt l).length = l.length := (isort_perm lt l).length_eq
end isort

section keyed
variable {α : Type} (key : α → Int)

theorem insRev_key_sorted (x : α) : ∀ {l : List α}, l.Pairwise (fun a b => key b ≤ key a) → (insRev (fun a b => decide (key a < key b)) x l).Pairwise (fun a b => key b ≤ key a)
  | [], _ => by simp [insRev]
  | y :: r, h => by
    obtain ⟨h1, h2⟩ := List.pairwise_cons.1 h
    unfold insRev
    split
    · rename_i hc
      have hc : key x < key y := by simpa using hc
      refine List.pairwise_cons.2 ⟨?_, insRev_key_sorted x h2⟩
      intro z hz
      rcases List.mem_cons.1 ((insRev_perm _ x r).mem_iff.1 hz) with rfl | hz
      · omega
      · exact h1 z hz
    · rename_i hc
      have hc : ¬ key x < key y := by simpa using hc
      refine List.pairwise_cons.2 ⟨?_, h⟩
      intro z hz
      rcases List.mem_cons.1 hz with rfl | hz
      · omega
      · have := h1 z hz; omega
theorem insB_key_sorted (x : α) {l : List α} (h : l.Pairwise (fun a b => key a ≤ key b)) : (insB (fun a b => decide (key a < key b)) x l).Pairwise (fun a b => key a ≤ key b) := by
  unfold insB
  rw [List.pairwise_reverse]
  exact insRev_key_sorted key x (by rw [List.pairwise_reverse]; exact h)
theorem isortB_key_sorted : ∀ (l : List α) {acc : List α}, acc.Pairwise (fun a b => key a ≤ key b) → (isortB (fun a b => decide (key a < key b)) acc l).Pairwise (fun a b => key a ≤ key b)
  | [], _, h => h
  | x :: l, _, h => isortB_key_sorted l (insB_key_sorted key x h)
theorem isort_key_sorted (l : List α) : (isort (fun a b => decide (key a < key b)) l).Pairwise (fun a b => key a ≤ key b) := isortB_key_sorted key l List.Pairwise.nil

end keyed
end Lg
namespace Lg
/-! ### the first error of a row of tests -/
def firstE (e : Nat → Int) : Nat → Nat → Int
  | _, 0 => 0
  | k, n + 1 => if e k ≠ 0 then e k else firstE e (k + 1) n
theorem firstE_end {e : Nat → Int} {k n : Nat} (h : ¬ k < n) : firstE e k (n - k) = 0 := by
  rw [show n - k = 0 by omega]
  rfl
theorem firstE_step {e : Nat → Int} {k n : Nat} (h : k < n) : firstE e k (n - k) = if e k ≠ 0 then e k else firstE e (k + 1) (n - (k + 1)) := by
  obtain ⟨m, hm⟩ : ∃ m, n - k = m + 1 := ⟨n - k - 1, by omega⟩
  rw [hm, show n - (k + 1) = m by omega]
  rfl
theorem firstE_bad {e : Nat → Int} {k n : Nat} {c : Int} (h : k < n) (he : e k = c) (hc : c ≠ 0) : firstE e k (n - k) = c := by
  rw [firstE_step h, he, if_pos hc]
theorem firstE_ok {e : Nat → Int} {k n : Nat} (h : k < n) (he : e k = 0) : firstE e k (n - k) = firstE e (k + 1) (n - (k + 1)) := by
  rw [firstE_step h, if_neg (by simp [he])]
theorem firstE_zero {e : Nat → Int} : ∀ {n k : Nat}, firstE e k n = 0 → ∀ j, k ≤ j → j < k + n → e j = 0
  | 0, k, _, j, h1, h2 => by omega
  | n + 1, k, h, j, h1, h2 => by
    unfold firstE at h
    split at h
    · rename_i hc; exact absurd h hc
    · rename_i hc
      by_cases hj : j = k
      · subst hj; simpa using hc
      · exact firstE_zero h j (by omega) (by omega)
end Lg
namespace Lg
/-! ### sums -/
def sumF {α : Type} (f : α → Int) : List α → Int
  | [] => 0
  | x :: l => f x + sumF f l
theorem sumF_cons {α : Type} (f : α → Int) (x : α) (l : List α) : sumF f (x :: l) = f x + sumF f l := rfl
theorem firstE_drop {e : Nat → Int} : ∀ {n k : Nat}, (∀ j, k ≤ j → j < k + n → e j = 0) → firstE e k n = 0
  | 0, _, _ => rfl
  | n + 1, k, h => by
    unfold firstE
    rw [if_neg (by simp [h k (by omega) (by omega)])]
    exact firstE_drop fun j h1 h2 => h j (by omega) (by omega)
end Lg
namespace Lg
section isort2
variable {α : Type} (lt : α → α → Bool)
theorem isortB_snoc (x : α) : ∀ (l acc : List α), isortB lt acc (l ++ [x]) = insB lt x (isortB lt acc l)
  | [], acc => rfl
  | y :: l, acc => by rw [List.cons_append, isortB, isortB_snoc x l, isortB]
theorem isort_snoc (x : α) (l : List α) : isort lt (l ++ [x]) = insB lt x (isort lt l) := isortB_snoc lt x l []
theorem isort_take1 (xs : List α) : isort lt (xs.take 1) = xs.take 1 := by
  cases xs with
  | nil => rfl
  | cons x l => rfl
end isort2
end Lg
namespace Lg
section lexi
variable (key : Int → Int)
/-- by key, and among equals by what came first -/
def lexi (a b : Int) : Prop := key a < key b ∨ (key a = key b ∧ a < b)
end lexi
end Lg
end
section
set_option linter.all false
namespace Lg
open Go
section cat
variable {P : Program} {Γ : Ctx} {env : Env} {cs cf : List Chunk} {Q : Post} {R : Array Oper} {rest : List Oper} {i : Tmp} {ty T T2 : TypeId} {pos : String} {af : Array Edge} {x y : Operand}
variable {H : (Nat → Value) → (Nat → Bool) → List Chunk} {L : List Oper} {K : Env → List Chunk → Prop} {n d : Nat} {l : List Oper} {Pf : Nat → (Nat → Value) → Prop} {acc : (Nat → Value) → Env}
end cat
end Lg
end
