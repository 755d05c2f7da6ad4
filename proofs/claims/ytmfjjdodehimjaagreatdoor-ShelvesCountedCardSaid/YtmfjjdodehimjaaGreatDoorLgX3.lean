/- A part of the proof of a law of this seat: it adds no condition. By an AI agent. -/
import Derived.Lib.AppendZeros
import Derived.Test.YtmfjjdodehimjaaGreatDoorLgX
section
set_option linter.all false
namespace Lg
open Go
section x2
variable {P : Program} {Γ : Ctx} {env : Env} {cs cf : List Chunk} {H : (Nat → Value) → (Nat → Bool) → List Chunk} {L : List Oper} {K : Env → List Chunk → Prop} {n : Nat} {l : List Oper}
variable {Pf : Nat → (Nat → Value) → Prop} {d : Nat} {op : Op} {ty : TypeId} {pos : String} {af : Array Edge} {acc : (Nat → Value) → Env} {t t' : Tr}

def b2n : Bool → Nat
  | true => 1
  | false => 0
/-- a call that takes numbers off the stream -/
theorem XSeq.callG {st f c b : Nat} {args : List Tr} {post : Tr → Prop} {ol : List Operand} {ts : Array TypeId} {xs : List Int} (hg : Gen P st f args c post)
    (ha : ∀ ξ, Evs (rst (slotsOf (.call ⟨.value (.func f), ol.toArray, ts⟩)) (acc ξ)) ol (Tr.ptr b :: args)) (ht : ∀ r, post r → Imp r t)
    (hH : ∀ (ξ : Nat → Value) (S : Nat → Bool), S n = false → (∀ k ok, L[k]? = some ok → S k = true → ∀ j ∈ preds ok.after, S j = true) → ∃ N cf, N + c ≤ 1000000000000 ∧ (H ξ S).Perm (Chunk.strm st b (intRows xs) N :: cf) ∧ ∀ v, (H (upd ξ n v) (updD S n)).Perm (Chunk.strm st b (intRows xs) (N + c) :: cf))
    (k : XSeq P Γ H L K (n + 1) (fun ξ => (d, t) :: acc ξ) (pfX n (fun _ => True) Pf) l) : XSeq P Γ H L K n acc Pf (⟨some d, .call ⟨.value (.func f), ol.toArray, ts⟩, ty, pos, af, none⟩ :: l) := by
  refine XSeq.cons (T := fun _ => t) (Pv := fun _ => True) PvOk.triv ?_ k
  unfold XStep
  intro ξ S h1 h2 h3 h4 a w dd next F hk
  unfold Gen at hg
  obtain ⟨N, cf, hN, hp, hp2⟩ := hH ξ S h1 h3
  have hs := hg b xs N hN
  have hcc := call_core2 (cf := cf) hs dd hp ((ha ξ).rd dd)
  have hrun : (execOp a.eval ⟨some d, .call ⟨.value (.func f), ol.toArray, ts⟩, ty, pos, af, none⟩).run P w = .ok (.enter f (ol.map a.eval).toArray) w := by
    unfold Spec at hs
    have := hs.1 (ol.map a.eval).toArray w
    simp [execOp, resolve, invoke, Deferred.ofValue, Act.eval, this]
  refine opIn_of_run hrun ⟨(by intro d h; cases h), (by intro x y h; cases h)⟩ ?_
  refine hcc.mono ?_
  rintro e w' ⟨v, r, cs', rfl, ⟨rfl, hpo⟩, hrd, hd⟩
  refine hk _ _ trivial (ht r hpo _ _ _ ?_) fun env2 h2 => (hd env2 h2).perm (hp2 v).symm
  rw [av_perm (hp2 v)]
  exact hrd

/-- an owned slice grows -/
theorem XSeq.append {E kk bb z T} [hS : TySl P T E kk bb z] {x y : Operand} (mm : Nat)
    (h : ∀ (ξ : Nat → Value) (S : Nat → Bool), S n = false → (∀ j ∈ preds af, S j = true) → (∀ k ok, L[k]? = some ok → S k = true → ∀ j ∈ preds ok.after, S j = true) → (∀ k, S k = true → Pf k ξ) →
      ∃ (ad : Option Addr) (m cap : Nat) (rows rows2 : List (List Tr)) (cf : List Chunk), ev (rst (slotsOf (.call ⟨.builtin .append, #[x, y], #[T, T]⟩)) (acc ξ)) x = some (.raw (.slice ad m cap)) ∧ ev (rst (slotsOf (.call ⟨.builtin .append, #[x, y], #[T, T]⟩)) (acc ξ)) y = some (.sl kk rows2) ∧
        (H ξ S).Perm (Chunk.own ad cap kk E rows :: cf) ∧ m = rows.length ∧ rows.length + rows2.length = mm ∧ (rows.length + rows2.length) * bb ≤ 140737488355328 ∧ rows.length + rows2.length ≤ 9223372036854775807 ∧ ∀ ad' cap', (H (upd ξ n (.slice ad' (rows ++ rows2).length cap')) (updD S n)).Perm (Chunk.own ad' cap' kk E (rows ++ rows2) :: cf))
    (k : XSeq P Γ H L K (n + 1) (fun ξ => (d, Tr.raw (ξ n)) :: acc ξ) (pfX n (fun ξ => ∃ ad cap, ξ n = .slice ad mm cap) Pf) l) : XSeq P Γ H L K n acc Pf (⟨some d, .call ⟨.builtin .append, #[x, y], #[T, T]⟩, ty, pos, af, none⟩ :: l) := by
  refine XSeq.cons (T := Tr.raw) (Pv := fun ξ => ∃ ad cap, ξ n = .slice ad mm cap) (PvOk.own (p := fun v => ∃ ad cap, v = .slice ad mm cap)) ?_ k
  unfold XStep
  intro ξ S h1 h2 h3 h4 a w dd next F hk
  obtain ⟨ad, m, cap, rows, rows2, cf, hx, hy, hp, hn, hmm, hb, hm, hq⟩ := h ξ S h1 h2 h3 h4
  subst hn
  have hv := rd_raw (dd.ev hx)
  have d' := dd.perm hp
  have hys := dd.ev hy
  have hown0 := d'.has (List.Perm.refl _)
  have hav := av_perm hp Γ.M
  rw [hav] at hys
  generalize hA : av Γ.M (Chunk.own ad cap kk E rows :: cf) = A at hys hown0
  unfold Tr.sl at hys
  obtain ⟨hk2, hl2, ad2, cap2, hv2, g1, g2, g3, g4⟩ := hys
  unfold Chunk.own at hown0
  obtain ⟨hk0, xs, hown, hrd⟩ := hown0
  obtain ⟨ti, zv, hi1, hi2, hi3, hi4, hi5, hi6⟩ := hS.hE
  have hzs : zv.cells.size = kk := hS.hz _ _ hi1 hi2
  have hm' : rows.length + rows2.length ≤ maxLen := by simp only [maxLen]; omega
  have key : ∃ v' w', (Builtin.append_ #[T, T] ty #[.slice ad rows.length cap, .slice ad2 rows2.length cap2]).run P w = .ok v' w' ∧ ∃ news, RdC w A rows2.flatten news ∧
      w'.ownsRow 0 E kk v' (rows.length + rows2.length) (xs ++ news) ∧ w.grownBy w' (Value.ownBlock (.slice ad rows.length cap)) ∧ (∀ b, v'.ownBlock = some b → (Value.ownBlock (.slice ad rows.length cap)) = some b ∨ w.heap.size ≤ b) := by
    rcases g4 with g4 | ⟨b, off, rfl, hc⟩
    · subst g4
      cases ad2 with
      | none =>
        obtain ⟨_, rfl⟩ := g3 rfl
        exact ⟨_, w, run_append_owned_none (P := P) w 0 T ty E ti kk hS.hT hi1 _ _ xs hown, [], rfl, by simpa using hown, ⟨rfl, rfl, rfl, Nat.le_refl _, fun _ _ _ => rfl⟩, fun b hb => .inl hb⟩
      | some a2 =>
        obtain ⟨v', w', h1, h2, h3, h4⟩ := append_run (P := P) (ty := ty) (a := a2) (m := 0) (c := cap2) (news := []) hS.hT hi1 hi2 hi4 hi5 hzs hi6 hown (by simp) (by simp) (by simp) (by simpa using hm') (by simpa using hb)
        exact ⟨v', w', h1, [], rfl, h2, h3, h4⟩
    · obtain ⟨vs, hvs, hcell⟩ := rdc_at hc
      obtain ⟨v', w', h1, h2, h3, h4⟩ := append_run (P := P) (ty := ty) (a := ⟨b, off, none⟩) (m := rows2.length) (c := cap2) (news := vs) hS.hT hi1 hi2 hi4 hi5 hzs hi6 hown (by rw [hvs.length]; exact flat_len hk2) hcell hvs.one hm' hb
      exact ⟨v', w', h1, vs, hvs, h2, h3, h4⟩
  obtain ⟨v', w', hrun, news, hnews, hown', hgr, hfresh⟩ := key
  have hform : ∃ ad' cap', v' = .slice ad' (rows ++ rows2).length cap' := by
    rcases hown'.2 with ⟨e, h0⟩ | ⟨g, c, cur, e, _⟩
    · exact ⟨none, 0, by rw [e, List.length_append, h0]⟩
    · exact ⟨_, c, by rw [e, List.length_append]⟩
  obtain ⟨ad', cap', rfl⟩ := hform
  have hx2 : (execOp a.eval ⟨some d, .call ⟨.builtin .append, #[x, y], #[T, T]⟩, ty, pos, af, none⟩).run P w = .ok (.value (.slice ad' (rows ++ rows2).length cap')) w' := by simp [execOp, resolve, invoke, builtin, hv, hv2, hrun] <;> rfl
  refine opIn_of_run hx2 ⟨(by intro d h; cases h), (by intro x y h; cases h)⟩ ?_
  refine hk _ _ ⟨ad', cap', by rw [upd_same, List.length_append, hmm]⟩ (raw_self _) fun env2 d2 => Den.perm ?_ (hq ad' cap').symm
  refine (d2.perm hp).turnF (c' := Chunk.own ad' cap' kk E (rows ++ rows2)) ?_ ?_ ?_ ?_
  · intro b hb
    have hb' : Value.ownBlock (.slice ad' (rows ++ rows2).length cap') = some b := by unfold Chunk.own at hb; simpa using hb
    rcases hfresh b hb' with h | h
    · exact .inl (by unfold Chunk.own; simpa using h)
    · exact .inr ⟨h, (hown'.lt b hb').2⟩
  · have : (Chunk.own ad' cap' kk E (rows ++ rows2)).fp = (Value.ownBlock (.slice ad' (rows ++ rows2).length cap')).toList := by unfold Chunk.own; rfl
    rw [this]
    cases Value.ownBlock (.slice ad' (rows ++ rows2).length cap') <;> simp
  · exact ⟨hgr.os, hgr.tape, hgr.output, hgr.size, fun b hb hn => hgr.block b hb fun e => hn (by unfold Chunk.own; simp [← e]), fun _ => run_drawn hrun⟩
  · intro hs _
    rw [hA] at hs
    generalize av Γ.M (Chunk.own ad' cap' kk E (rows ++ rows2) :: cf) = A' at hs ⊢
    unfold Chunk.own
    refine ⟨?_, xs ++ news, by simpa using hown', ?_⟩
    · intro r hr
      rcases List.mem_append.1 hr with h | h
      · exact hk0 r h
      · exact hk2 r h
    · rw [List.flatten_append]
      exact (hrd.mono hs).app (hnews.mono hs)

/-! ### one of some trees -/
def Tr.anyOf (ts : List Tr) : Tr := ⟨fun w A v => ∃ t ∈ ts, t.rd w A v, fun h ⟨t, ht, hr⟩ => ⟨t, ht, t.mono h hr⟩⟩
theorem Imp.any_of {t : Tr} {ts : List Tr} (h : t ∈ ts) : Imp t (Tr.anyOf ts) := fun w A v hr => ⟨t, h, hr⟩
theorem OpV.imp (h : OpV P Γ op ty env cs t) (hi : Imp t t') : OpV P Γ op ty env cs t' := by
  unfold OpV at h ⊢
  intro a w d
  obtain ⟨v, h1, h2⟩ := h a w d
  exact ⟨v, h1, hi _ _ _ h2⟩
theorem OpV.openS {ι : Type} {s : Nat} {u : Tr} {p : ι → Prop} {f : ι → Tr} (hl : look env s = some u) (ho : ∀ w A v, u.rd w A v → ∃ x, p x ∧ (f x).rd w A v) (h : ∀ x, p x → OpV P Γ op ty ((s, f x) :: env) cs t) : OpV P Γ op ty env cs t := by
  unfold OpV at h ⊢
  intro a w d
  obtain ⟨x, hp, hx⟩ := ho w _ _ (d.env s u hl)
  refine h x hp a w ⟨d.nodefer, d.tmps, ?_, d.chunks, d.nodup, d.fresh, d.below, d.frame⟩
  intro j u hj
  by_cases e : s = j
  · subst e; rw [look_cons_same] at hj; cases hj; exact hx
  · rw [look_cons_ne _ _ e] at hj; exact d.env j u hj
theorem open_intS {p : Int → Prop} : ∀ w A v, (Tr.intS p).rd w A v → ∃ x, p x ∧ (Tr.int x).rd w A v := by
  rintro w A v ⟨n, rfl, h⟩
  exact ⟨n, h, raw_self _⟩
theorem open_strS {p : ByteArray → Prop} : ∀ w A v, (Tr.strS p).rd w A v → ∃ x, p x ∧ (Tr.str x).rd w A v := by
  rintro w A v ⟨n, rfl, h⟩
  exact ⟨n, h, raw_self _⟩
theorem open_anyOf {ts : List Tr} : ∀ w A v, (Tr.anyOf ts).rd w A v → ∃ t, t ∈ ts ∧ t.rd w A v := by
  rintro w A v ⟨t, h, hr⟩
  exact ⟨t, h, hr⟩
theorem OneT.anyOf {ts : List Tr} (h : ∀ t ∈ ts, OneT t) : OneT (Tr.anyOf ts) := ⟨fun w A v ⟨t, ht, hr⟩ => (h t ht).h w A v hr⟩
theorem Imp.intS {x : Int} {p : Int → Prop} (h : p x) : Imp (Tr.int x) (Tr.intS p) := fun w A v hr => ⟨x, rd_raw hr, h⟩
theorem Imp.strS {x : ByteArray} {p : ByteArray → Prop} (h : p x) : Imp (Tr.str x) (Tr.strS p) := fun w A v hr => ⟨x, rd_raw hr, h⟩
/-- a tree of a kind -/
def Tr.exS {ι : Type} (p : ι → Prop) (f : ι → Tr) : Tr := ⟨fun w A v => ∃ x, p x ∧ (f x).rd w A v, fun h ⟨x, hp, hr⟩ => ⟨x, hp, (f x).mono h hr⟩⟩
theorem Imp.exS {ι : Type} {p : ι → Prop} {f : ι → Tr} {x : ι} (h : p x) : Imp (f x) (Tr.exS p f) := fun w A v hr => ⟨x, h, hr⟩
theorem open_exS {ι : Type} {p : ι → Prop} {f : ι → Tr} : ∀ w A v, (Tr.exS p f).rd w A v → ∃ x, p x ∧ (f x).rd w A v := fun w A v h => h
theorem OneT.exS {ι : Type} {p : ι → Prop} {f : ι → Tr} (h : ∀ x, OneT (f x)) : OneT (Tr.exS p f) := ⟨fun w A v ⟨x, _, hr⟩ => (h x).h w A v hr⟩
theorem Cw.open_slot {ι : Type} {c : Code} {Q : Post} {i : Nat} {p : ι → Prop} {f : ι → Tr} (hl : look env i = some t) (ho : ∀ w A v, t.rd w A v → ∃ x, p x ∧ (f x).rd w A v) (k : ∀ x, p x → Cw P Γ c ((i, f x) :: env) cs Q) : Cw P Γ c env cs Q := by
  unfold Cw
  intro a w d
  obtain ⟨x, hp, hx⟩ := ho w _ _ (d.env i t hl)
  have h := k x hp
  unfold Cw at h
  refine h a w ⟨d.nodefer, d.tmps, ?_, d.chunks, d.nodup, d.fresh, d.below, d.frame⟩
  intro j u hj
  by_cases e : i = j
  · subst e; rw [look_cons_same] at hj; cases hj; exact hx
  · rw [look_cons_ne _ _ e] at hj; exact d.env j u hj
theorem OpV.leqS_is {x y : Operand} {s u : ByteArray} {T T2 : TypeId} {b : Bool} (hx : ev env x = some (.str s)) (hy : ev env y = some (.str u)) (h : (strLt s u || decide (s = u)) = b) : OpV P Γ (.binOp .leq T x y T2) ty env cs (.bool b) := by
  have := OpV.leqS (P := P) (Γ := Γ) (T := T) (T2 := T2) (ty := ty) (cs := cs) hx hy
  rwa [h] at this
theorem b2n_le (b : Bool) : b2n b ≤ 1 := by cases b <;> decide
theorem perm_strm {st bs a c : Nat} {rows : List (List Tr)} (h : a = c) : (Chunk.strm st bs rows a :: cf).Perm (Chunk.strm st bs rows c :: cf) := by rw [h]
/-- what a variable holds is looked at more closely -/
theorem Cw.open_box {ι : Type} {c : Code} {Q : Post} {b : Nat} {e : TypeId} {ts : List Tr} {p : ι → Prop} {f : ι → List Tr} (hp : cs.Perm (Chunk.box b e ts :: cf)) (ho : ∀ w A vs, RdC w A ts vs → ∃ x, p x ∧ RdC w A (f x) vs)
    (k : ∀ x, p x → Cw P Γ c env (Chunk.box b e (f x) :: cf) Q) : Cw P Γ c env cs Q := by
  unfold Cw
  intro a w d
  have d := d.perm hp
  have hb := d.chunks (Chunk.box b e ts) (by simp)
  have hx : ∃ x, p x ∧ (Chunk.box b e (f x)).holds w (av Γ.M (Chunk.box b e ts :: cf)) := by
    generalize av Γ.M (Chunk.box b e ts :: cf) = A at *
    unfold Chunk.box at hb ⊢
    obtain ⟨c, h1, h2⟩ := hb
    obtain ⟨x, h3, h4⟩ := ho w A _ h2
    exact ⟨x, h3, c, h1, h4⟩
  obtain ⟨x, h1, h2⟩ := hx
  have h := k x h1
  unfold Cw at h
  refine h a w (d.swapc (by simp only [fps, List.flatMap_cons]; unfold Chunk.box; rfl) ?_)
  intro c hc
  rcases List.mem_cons.1 hc with rfl | hc
  · exact h2
  · exact d.chunks c (List.mem_cons_of_mem _ hc)
/-- what the last row of an owned slice holds is looked at more closely -/
theorem Cw.open_own {ι : Type} {c : Code} {Q : Post} {ad : Option Addr} {cap k : Nat} {e : TypeId} {rows : List (List Tr)} {ts : List Tr} {p : ι → Prop} {f : ι → List Tr} (hp : cs.Perm (Chunk.own ad cap k e (rows ++ [ts]) :: cf)) (hf : ∀ x, (f x).length = ts.length) (ho : ∀ w A vs, RdC w A ts vs → ∃ x, p x ∧ RdC w A (f x) vs)
    (kk : ∀ x, p x → Cw P Γ c env (Chunk.own ad cap k e (rows ++ [f x]) :: cf) Q) : Cw P Γ c env cs Q := by
  unfold Cw
  intro a w d
  have d := d.perm hp
  have hb := d.chunks (Chunk.own ad cap k e (rows ++ [ts])) (by simp)
  have hx : ∃ x, p x ∧ (Chunk.own ad cap k e (rows ++ [f x])).holds w (av Γ.M (Chunk.own ad cap k e (rows ++ [ts]) :: cf)) := by
    generalize av Γ.M (Chunk.own ad cap k e (rows ++ [ts]) :: cf) = A at *
    unfold Chunk.own at hb ⊢
    obtain ⟨hk, xs, h1, h2⟩ := hb
    rw [List.flatten_append] at h2
    have hs := RdC.split h2
    have h3 := hs.2
    simp only [List.flatten_cons, List.flatten_nil, List.append_nil] at h3
    obtain ⟨x, hpx, h4⟩ := ho w A _ h3
    refine ⟨x, hpx, ?_, xs, ?_, ?_⟩
    · intro r hr
      rcases List.mem_append.1 hr with h | h
      · exact hk r (List.mem_append_left _ h)
      · rw [List.mem_singleton.1 h, hf x]; exact hk ts (List.mem_append_right _ (by simp))
    · simpa using h1
    · rw [List.flatten_append]
      have h6 : RdC w A [f x].flatten (xs.drop rows.flatten.length) := by rw [show [f x].flatten = f x by simp]; exact h4
      have h5 := RdC.app hs.1 h6
      rwa [List.take_append_drop] at h5
  obtain ⟨x, h1, h2⟩ := hx
  have h := kk x h1
  unfold Cw at h
  refine h a w (d.swapc (by simp only [fps, List.flatMap_cons]; unfold Chunk.own; simp) ?_)
  intro c hc
  rcases List.mem_cons.1 hc with rfl | hc
  · exact h2
  · exact d.chunks c (List.mem_cons_of_mem _ hc)
/-- numbers of which no more is said -/
def repI (n : Nat) : List (List Tr) := List.replicate n [Tr.intS fun _ => True]
theorem repI_succ (n : Nat) : repI n ++ [[Tr.intS fun _ => True]] = repI (n + 1) := by unfold repI; rw [List.replicate_succ']
theorem repI_len (n : Nat) : (repI n).length = n := by unfold repI; simp
theorem rdc_repI {w : World} {A : Nat → Prop} : ∀ (n : Nat) {vs : List Value}, RdC w A (repI n).flatten vs → ∃ xs : List Int, xs.length = n ∧ RdC w A (intRows xs).flatten vs
  | 0, vs, h => ⟨[], rfl, by simpa [repI, intRows] using h⟩
  | n + 1, vs, h => by
    have h : RdC w A (Tr.intS (fun _ => True) :: (repI n).flatten) vs := by simpa [repI, List.replicate_succ] using h
    obtain ⟨x, _, rest, rfl, h2⟩ := rdc_intS h
    obtain ⟨xs, hxs, h3⟩ := rdc_repI n h2
    exact ⟨x :: xs, by simp [hxs], by
      have : (intRows (x :: xs)).flatten = Tr.int x :: (intRows xs).flatten := by simp [intRows]
      rw [this]
      exact rdc_rawv rfl h3⟩
theorem open_repI {n : Nat} : ∀ w A v, (Tr.sl 1 (repI n)).rd w A v → ∃ xs : List Int, xs.length = n ∧ (Tr.ints xs).rd w A v := by
  intro w A v h
  unfold Tr.sl at h
  obtain ⟨hk, hl, a, cap, hv, h1, h2, h3, h4⟩ := h
  rw [repI_len] at hl hv h1
  rcases h4 with h4 | ⟨b, off, ha, hA, c, e, fz, hb, hr⟩
  · have hn : n = 0 := by have := congrArg List.length h4; rw [repI_len] at this; simpa using this
    subst hn
    refine ⟨[], rfl, ?_⟩
    unfold Tr.ints Tr.sl
    exact ⟨by simp [intRows], by simp [intRows], a, cap, by rw [hv]; simp [intRows], by simp [intRows], h2, fun h => ⟨rfl, (h3 h).2⟩, .inl rfl⟩
  · have hlen : (repI n).flatten.length = n := by simp [repI]
    rw [hlen] at hr
    obtain ⟨xs, hxs, h5⟩ := rdc_repI n hr
    refine ⟨xs, hxs, ?_⟩
    have hxl : (intRows xs).length = n := by rw [intRows_len, hxs]
    have hfl : (intRows xs).flatten.length = n := by
      rw [flat_len (kk := 1) (by intro r hr2; simp only [intRows, List.mem_map] at hr2; obtain ⟨x, _, rfl⟩ := hr2; rfl), hxl]; omega
    unfold Tr.ints Tr.sl
    refine ⟨?_, by rw [hxl]; exact hl, a, cap, by rw [hxl]; exact hv, by rw [hxl]; exact h1, h2, ?_, .inr ⟨b, off, ha, hA, c, e, fz, hb, by rw [hfl]; exact h5⟩⟩
    · intro r hr2
      simp only [intRows, List.mem_map] at hr2
      obtain ⟨x, _, rfl⟩ := hr2
      rfl
    · intro h
      rw [ha] at h
      cases h
theorem rdc_open {ι : Type} {w : World} {A : Nat → Prop} {t : Tr} {ts : List Tr} {vs : List Value} {p : ι → Prop} {f : ι → Tr} (h : RdC w A (t :: ts) vs) (ho : ∀ w A v, t.rd w A v → ∃ x, p x ∧ (f x).rd w A v) : ∃ x, p x ∧ RdC w A (f x :: ts) vs := by
  obtain ⟨v, rest, rfl, hr, h1, h2⟩ := h
  obtain ⟨x, hp, hx⟩ := ho w A v hr
  exact ⟨x, hp, v, rest, rfl, hx, h1, h2⟩
theorem rdc_tail_open {ι : Type} {w : World} {A : Nat → Prop} {t : Tr} {ts : List Tr} {vs : List Value} {p : ι → Prop} {f : ι → List Tr} (h : RdC w A (t :: ts) vs) (ho : ∀ vs, RdC w A ts vs → ∃ x, p x ∧ RdC w A (f x) vs) : ∃ x, p x ∧ RdC w A (t :: f x) vs := by
  obtain ⟨v, rest, rfl, hr, h1, h2⟩ := h
  obtain ⟨x, hp, hx⟩ := ho _ h2
  exact ⟨x, hp, v, rest, rfl, hr, h1, hx⟩
theorem rdc_anyOf {w : World} {A : Nat → Prop} {us : List Tr} {ts : List Tr} {vs : List Value} (h : RdC w A (Tr.anyOf us :: ts) vs) : ∃ t, t ∈ us ∧ RdC w A (t :: ts) vs := by
  obtain ⟨v, rest, rfl, ⟨t, ht, hr⟩, h1, h2⟩ := h
  exact ⟨t, ht, v, rest, rfl, hr, h1, h2⟩
theorem rdc_str {w : World} {A : Nat → Prop} {p : ByteArray → Prop} {ts : List Tr} {vs : List Value} (h : RdC w A (Tr.strS p :: ts) vs) : ∃ n, p n ∧ ∃ rest, vs = .string n :: rest ∧ RdC w A ts rest := rdc_strS h
theorem rdc_imp {w : World} {A : Nat → Prop} {t t' : Tr} {ts : List Tr} {vs : List Value} (h : RdC w A (t :: ts) vs) (hi : Imp t t') : RdC w A (t' :: ts) vs := by
  obtain ⟨v, rest, rfl, hr, h1, h2⟩ := h
  exact ⟨v, rest, rfl, hi _ _ _ hr, h1, h2⟩
theorem rdc_tail {w : World} {A : Nat → Prop} {t : Tr} {ts ts' : List Tr} {vs : List Value} (h : RdC w A (t :: ts) vs) (hi : ∀ vs, RdC w A ts vs → RdC w A ts' vs) : RdC w A (t :: ts') vs := by
  obtain ⟨v, rest, rfl, hr, h1, h2⟩ := h
  exact ⟨v, rest, rfl, hr, h1, hi _ h2⟩
end x2
attribute [irreducible] Tr.anyOf Tr.exS
end Lg
end
section
set_option linter.all false
namespace Lg
open Go
section cat
variable {P : Program} {Γ : Ctx} {env : Env} {cs cf : List Chunk} {Q : Post} {R : Array Oper} {rest : List Oper} {i : Tmp} {ty T T2 : TypeId} {pos : String} {af : Array Edge} {x y : Operand}
theorem OpV.cap {E : TypeId} {a : Option Addr} {n c : Nat} (hT : P.underlying T = some (.slice E)) (hx : ev env x = some (.raw (.slice a n c))) : OpV P Γ (.call ⟨.builtin .cap, #[x], #[T]⟩) ty env cs (.int c) := by
  unfold OpV
  intro ac w d
  have hv := rd_raw (d.ev hx)
  refine ⟨.int .i64 c, ?_, raw_self _⟩
  simp [execOp, resolve, invoke, builtin, hv, Builtin.cap_, run_underlying hT, goInt]
theorem zero_made (z : Array Value) (n : Nat) : Builtin.zeroCells z n = madeCells z (n * z.size) := by
  unfold Builtin.zeroCells madeCells
  apply Array.ext
  · simp
  · intro j h1 h2
    simp
/-- append(nil, make(..)...) -/
theorem Ops.append_zeros {E kk bb : Nat} {zs : List Value} [hS : TySl P T E kk bb zs] {kn : IntKind} {n : Nat} (hT2 : P.underlying T2 = some (.int kn)) (hx : ev env x = some (.raw (.slice none 0 0))) (hy : ev env y = some (.int n)) (h0 : 0 < n) (hb : n * bb ≤ 281474976710656) (hm : n ≤ 100000000000) (hi : Nat.blt i Γ.n = true)
    (kont : ∀ ad cap, Ops P Γ R rest ((i, .raw (.slice ad n cap)) :: env) (Chunk.own ad cap kk E (List.replicate n (zs.map Tr.raw)) :: cs) Q) : Ops P Γ R (⟨some i, .call ⟨.builtin .append, #[x, y], #[T, T2]⟩, ty, pos, af, none⟩ :: rest) env cs Q :=
  Ops.of fun a w d => by
    have hv := rd_raw (d.ev hx)
    have hv2 := rd_raw (d.ev hy)
    obtain ⟨ti, zv, h1, h2, h3, h4, h5, h6⟩ := hS.hE
    have hr := Lib.run_append_nil_zeros (P := P) w T T2 ty E ti zv .i64 kn hS.hT hT2 h1 h2 n h0 (by omega) (by omega) (by rw [h5]; exact hb)
    have hzs : zv.cells.size = kk := hS.hz _ _ h1 h2
    have hge := grownCap_ge w n 0 E
    have hle := grownCap_le_maxLen w n 0 E (by unfold maxLen; omega)
    generalize hcap : grownCap w n 0 E = cap at hr hge hle
    generalize hZ : Builtin.zeroCells zv.cells n ++ Builtin.zeroCells zv.cells (cap - n) = Z at hr
    refine ⟨_, _, .value (.slice (some ⟨w.heap.size, 0, none⟩) n cap), _, by simp [execOp, resolve, invoke, builtin, hv, hv2, hr] <;> rfl, .inl ⟨_, rfl, Den.put ?_ hi (raw_self _)⟩, kont (some ⟨w.heap.size, 0, none⟩) cap⟩
    have hZs : Z.size = cap * kk := by
      rw [← hZ]
      simp only [Array.size_append, size_zeroCells, hzs]
      rw [← Nat.add_mul]
      congr 1
      omega
    have hZt : Z.toList.take (n * kk) = (madeCells zv.cells (n * zv.cells.size)).toList := by
      rw [← hZ, Array.toList_append, List.take_append_of_le_length (by rw [Array.length_toList, size_zeroCells, hzs]; exact Nat.le_refl _), List.take_of_length_le (by rw [Array.length_toList, size_zeroCells, hzs]; exact Nat.le_refl _), zero_made]
    have hrd : ∀ A w', RdC w' A (zeroRow zv.cells.toList n) (madeCells zv.cells (n * zv.cells.size)).toList := fun A w' => madeCells_rd (by rw [h3]; exact hS.one) n
    refine (d.drew.push (w' := w.drew.alloc (.cells Z E)) _ (by simp) (by unfold Chunk.own; simp [Value.ownBlock]) (by unfold Chunk.own; simp [Value.ownBlock]) (fun b hb => heap_alloc_old w.drew _ b hb) rfl rfl rfl ?_)
    intro hs
    generalize av Γ.M (_ :: cs) = A at *
    unfold Chunk.own
    refine ⟨fun r hr => by rw [List.eq_of_mem_replicate hr]; simp [hS.hk], (madeCells zv.cells (n * zv.cells.size)).toList, ?_, ?_⟩
    · refine ⟨by rw [List.length_replicate, ← hZt, List.length_take, Array.length_toList, hZs]; exact Nat.min_eq_left (Nat.mul_le_mul_right kk hge), .inr ⟨w.heap.size, cap, Z, by rw [List.length_replicate], Nat.zero_le _, heap_alloc_new w.drew _, by rw [List.length_replicate]; exact hge, hle, hZs, by rw [List.length_replicate]; exact hZt⟩⟩
    · have e := zeroRow_flat zs n
      rw [e, ← h3]
      exact hrd _ _

variable {H : (Nat → Value) → (Nat → Bool) → List Chunk} {L : List Oper} {K : Env → List Chunk → Prop} {n d : Nat} {l : List Oper} {Pf : Nat → (Nat → Value) → Prop} {acc : (Nat → Value) → Env}
/-- a slice of zeros of one's own is made -/
theorem XSeq.mkOwn {E kk bb : Nat} {zs : List Value} [hS : TySl P T E kk bb zs] (m : Nat) (hx : ∀ ξ, ev (rst (slotsOf (.makeSlice T x y)) (acc ξ)) x = some (.int m)) (hy : ∀ ξ, ev (rst (slotsOf (.makeSlice T x y)) (acc ξ)) y = some (.int m)) (hb : bb * m ≤ 281474976710656) (hmx : m ≤ 1000000000)
    (hH : ∀ (ξ : Nat → Value) (S : Nat → Bool), S n = false → (∀ k ok, L[k]? = some ok → S k = true → ∀ j ∈ preds ok.after, S j = true) → ∀ ad cap, (H (upd ξ n (.slice ad m cap)) (updD S n)).Perm (Chunk.own ad cap kk E (List.replicate m (zs.map Tr.raw)) :: H ξ S))
    (k : XSeq P Γ H L K (n + 1) (fun ξ => (d, Tr.raw (ξ n)) :: acc ξ) (pfX n (fun ξ => ∃ ad cap, ξ n = .slice ad m cap) Pf) l) : XSeq P Γ H L K n acc Pf (⟨some d, .makeSlice T x y, ty, pos, af, none⟩ :: l) := by
  refine XSeq.cons (T := Tr.raw) (Pv := fun ξ => ∃ ad cap, ξ n = .slice ad m cap) (PvOk.own (p := fun v => ∃ ad cap, v = .slice ad m cap)) ?_ k
  unfold XStep
  intro ξ S h1 h2 h3 h4 a w dd next F hk
  have hv := rd_raw (dd.ev (hx ξ))
  have hv2 := rd_raw (dd.ev (hy ξ))
  obtain ⟨ti, zv, i1, i2, i3, i4, i5, i6⟩ := hS.hE
  have hr := run_make (P := P) w T E ti zv hS.hT i1 i2 .i64 .i64 m m (by omega) (Int.le_refl _) (by rw [i5, ← Int.natCast_mul]; omega) (by omega)
  have hzs : zv.cells.size = kk := hS.hz _ _ i1 i2
  simp only [Int.toNat_natCast, i4] at hr
  have hx2 : (execOp a.eval ⟨some d, .makeSlice T x y, ty, pos, af, none⟩).run P w = .ok (.value (.slice (some ⟨w.heap.size, 0, none⟩) m m)) (w.alloc (.cells (madeCells zv.cells (m * kk)) E)) := by simp [execOp, hv, hv2, hr] <;> rfl
  refine opIn_of_run hx2 ⟨(by intro d h; cases h), (by intro x y h; cases h)⟩ ?_
  refine hk _ _ ⟨some ⟨w.heap.size, 0, none⟩, m, upd_same _ _ _⟩ (raw_self _) fun env2 d2 => Den.perm ?_ (hH ξ S h1 h3 _ _).symm
  refine d2.push _ (by simp) (by unfold Chunk.own; simp [Value.ownBlock]) (by unfold Chunk.own; simp [Value.ownBlock]) (fun b hb => heap_alloc_old w _ b hb) rfl rfl rfl ?_
  intro hs
  have hmd := madeCells_rd (w := w) (A := av Γ.M (H ξ S)) (zs := zv.cells) (by rw [i3]; exact hS.one) m
  rw [hzs, i3] at hmd
  generalize av Γ.M (_ :: H ξ S) = A at *
  unfold Chunk.own
  refine ⟨fun r hr => by rw [List.eq_of_mem_replicate hr]; simp [hS.hk], (madeCells zv.cells (m * kk)).toList, ?_, ?_⟩
  · simp only [List.length_replicate]
    exact World.ownsRow_lit w (madeCells zv.cells (m * kk)) m (Nat.zero_le _) (by simp only [maxLen]; omega) (size_madeCells _ _)
  · have e := zeroRow_flat zs m
    rw [e]
    exact hmd.mono hs
end cat
end Lg
end
section
set_option linter.all false
namespace Lg
open Go

section x3
variable {P : Program} {Γ : Ctx} {env env' : Env} {cs cs' cf : List Chunk}

/-- what an owned slice holds is told in less -/
theorem Ent.imp_own {ad : Option Addr} {cap kk : Nat} {e : TypeId} {rows rows' : List (List Tr)} (hp : cs.Perm (Chunk.own ad cap kk e rows :: cf)) (hl : rows'.length = rows.length)
    (hk : (∀ r ∈ rows, r.length = kk) → ∀ r ∈ rows', r.length = kk) (hi : ImpL rows.flatten rows'.flatten) : Ent Γ env cs env (Chunk.own ad cap kk e rows' :: cf) := by
  unfold Ent
  intro a w d
  have d := d.perm hp
  refine d.swapc (by simp only [fps, List.flatMap_cons]; unfold Chunk.own; simp only [hl]) ?_
  intro c hc
  rcases List.mem_cons.1 hc with rfl | hc
  · have hb := d.chunks (Chunk.own ad cap kk e rows) (by simp)
    generalize av Γ.M (Chunk.own ad cap kk e rows :: cf) = A at *
    unfold Chunk.own at hb ⊢
    obtain ⟨h0, xs, h1, h2⟩ := hb
    exact ⟨hk h0, xs, by rw [hl]; exact h1, hi.rd h2⟩
  · exact d.chunks c (List.mem_cons_of_mem _ hc)

theorem impL_repI : ∀ xs : List Int, ImpL (intRows xs).flatten (repI xs.length).flatten
  | [] => .nil
  | x :: xs => by
    have h := impL_repI xs
    have e1 : (intRows (x :: xs)).flatten = Tr.int x :: (intRows xs).flatten := by simp [intRows]
    have e2 : (repI (x :: xs).length).flatten = Tr.intS (fun _ => True) :: (repI xs.length).flatten := by simp [repI, List.replicate_succ]
    rw [e1, e2]
    exact .cons (Imp.intS trivial) h
theorem impL_refl : ∀ ts : List Tr, ImpL ts ts
  | [] => .nil
  | _ :: ts => .cons Imp.refl (impL_refl ts)
theorem impL_repI_set (v : Int) : ∀ (n j : Nat), ImpL ((repI n).set j [Tr.int v]).flatten (repI n).flatten
  | 0, j => by simpa [repI] using ImpL.nil
  | n + 1, 0 => by
    have e2 : repI (n + 1) = [Tr.intS (fun _ => True)] :: repI n := by simp [repI, List.replicate_succ]
    rw [e2]
    exact .cons (Imp.intS trivial) (impL_refl _)
  | n + 1, j + 1 => by
    have e2 : repI (n + 1) = [Tr.intS (fun _ => True)] :: repI n := by simp [repI, List.replicate_succ]
    rw [e2]
    exact .cons Imp.refl (impL_repI_set v n j)
theorem repI_k {n : Nat} : ∀ r ∈ repI n, r.length = 1 := by
  intro r hr
  rw [(List.mem_replicate.1 hr).2]
  rfl
theorem repI_get {n j : Nat} (h : j < n) : (repI n)[j]? = some [Tr.intS fun _ => True] := by
  unfold repI
  simp [h]
theorem Ent.own_repI {ad : Option Addr} {cap : Nat} {e : TypeId} {xs : List Int} (hp : cs.Perm (Chunk.own ad cap 1 e (intRows xs) :: cf)) : Ent Γ env cs env (Chunk.own ad cap 1 e (repI xs.length) :: cf) :=
  Ent.imp_own hp (by rw [repI_len, intRows_len]) (fun _ => repI_k) (impL_repI xs)
theorem Ent.own_repI_set {ad : Option Addr} {cap n j : Nat} {v : Int} {e : TypeId} (hp : cs.Perm (Chunk.own ad cap 1 e ((repI n).set j [Tr.int v]) :: cf)) : Ent Γ env cs env (Chunk.own ad cap 1 e (repI n) :: cf) :=
  Ent.imp_own hp (by rw [List.length_set]) (fun _ => repI_k) (impL_repI_set v n j)

/-- a tree that is a list of numbers -/
def OpnI (m : Nat) (t : Tr) : Prop := ∀ w A v, t.rd w A v → ∃ xs : List Int, xs.length ≤ m ∧ (Tr.ints xs).rd w A v
theorem opnI_rep {m n : Nat} (h : n ≤ m) : OpnI m (Tr.sl 1 (repI n)) := fun w A v hr => by
  obtain ⟨xs, h1, h2⟩ := open_repI w A v hr
  exact ⟨xs, by omega, h2⟩
theorem opnI_ints {m : Nat} {xs : List Int} (h : xs.length ≤ m) : OpnI m (Tr.ints xs) := fun w A v hr => ⟨xs, h, hr⟩
theorem opnI_nil {m : Nat} : OpnI m (Tr.raw (.slice none 0 0)) := fun w A v hr => ⟨[], by simp, by
  have := Imp.nil (k := 1) w A v hr
  exact this⟩
def rowsT (ts : List Tr) : List (List Tr) := ts.map fun t => [t]
def rowsI (L : List (List Int)) : List (List Tr) := L.map fun l => [Tr.ints l]
theorem rdc_rowsT {m : Nat} {w : World} {A : Nat → Prop} : ∀ {ts : List Tr} {vs : List Value}, (∀ t ∈ ts, OpnI m t) → RdC w A (rowsT ts).flatten vs → ∃ L : List (List Int), L.length = ts.length ∧ (∀ l ∈ L, l.length ≤ m) ∧ RdC w A (rowsI L).flatten vs
  | [], vs, _, h => ⟨[], rfl, by simp, by simpa [rowsT, rowsI] using h⟩
  | t :: ts, vs, ht, h => by
    have h : RdC w A (t :: (rowsT ts).flatten) vs := by simpa [rowsT] using h
    obtain ⟨v, rest, rfl, h1, h2, h3⟩ := h
    obtain ⟨xs, hx, h4⟩ := ht t (List.mem_cons_self ..) w A v h1
    obtain ⟨L, hl, hm, h5⟩ := rdc_rowsT (fun t h => ht t (List.mem_cons_of_mem _ h)) h3
    refine ⟨xs :: L, by simp [hl], ?_, ?_⟩
    · intro l hl
      rcases List.mem_cons.1 hl with rfl | h
      · exact hx
      · exact hm l h
    · have e : (rowsI (xs :: L)).flatten = Tr.ints xs :: (rowsI L).flatten := by simp [rowsI]
      rw [e]
      exact ⟨v, rest, rfl, h4, h2, h5⟩
theorem rowsT_len (ts : List Tr) : (rowsT ts).length = ts.length := by simp [rowsT]
theorem rowsI_len (L : List (List Int)) : (rowsI L).length = L.length := by simp [rowsI]
theorem rowsI_k {L : List (List Int)} : ∀ r ∈ rowsI L, r.length = 1 := by
  intro r hr
  obtain ⟨l, _, rfl⟩ := List.mem_map.1 hr
  rfl
theorem rowsT_k {L : List Tr} : ∀ r ∈ rowsT L, r.length = 1 := by
  intro r hr
  obtain ⟨l, _, rfl⟩ := List.mem_map.1 hr
  rfl
theorem open_rowsT {m : Nat} {ts : List Tr} (ht : ∀ t ∈ ts, OpnI m t) : ∀ w A v, (Tr.sl 1 (rowsT ts)).rd w A v → ∃ L : List (List Int), (L.length = ts.length ∧ ∀ l ∈ L, l.length ≤ m) ∧ (Tr.sl 1 (rowsI L)).rd w A v := by
  intro w A v h
  unfold Tr.sl at h
  obtain ⟨hk, hl, a, cap, hv, h1, h2, h3, h4⟩ := h
  rw [rowsT_len] at hl hv h1
  rcases h4 with h4 | ⟨b, off, ha, hA, c, e, fz, hb, hr⟩
  · have hn : ts = [] := by cases ts with
      | nil => rfl
      | cons t ts => simp [rowsT] at h4
    subst hn
    refine ⟨[], ⟨rfl, by simp⟩, ?_⟩
    unfold Tr.sl
    exact ⟨by simp [rowsI], by simp [rowsI], a, cap, by rw [hv]; simp [rowsI], by simp [rowsI], h2, fun h => ⟨rfl, (h3 h).2⟩, .inl rfl⟩
  · have hlen : (rowsT ts).flatten.length = ts.length := by rw [flat_len (kk := 1) rowsT_k, rowsT_len]; omega
    rw [hlen] at hr
    obtain ⟨L, hL, hm, h5⟩ := rdc_rowsT ht hr
    have hfl : (rowsI L).flatten.length = ts.length := by rw [flat_len (kk := 1) rowsI_k, rowsI_len, hL]; omega
    refine ⟨L, ⟨hL, hm⟩, ?_⟩
    unfold Tr.sl
    refine ⟨rowsI_k, by rw [rowsI_len, hL]; exact hl, a, cap, by rw [rowsI_len, hL]; exact hv, by rw [rowsI_len, hL]; exact h1, h2, ?_, .inr ⟨b, off, ha, hA, c, e, fz, hb, by rw [hfl]; exact h5⟩⟩
    intro h
    rw [ha] at h
    cases h
theorem rdc_one_rowsT {m : Nat} {ts : List Tr} (ht : ∀ t ∈ ts, OpnI m t) : ∀ w A vs, RdC w A [Tr.sl 1 (rowsT ts)] vs → ∃ L : List (List Int), (L.length = ts.length ∧ ∀ l ∈ L, l.length ≤ m) ∧ RdC w A [Tr.sl 1 (rowsI L)] vs :=
  fun w A vs h => rdc_open h (open_rowsT ht)

section x3b
variable {env : Env} {H : (Nat → Value) → (Nat → Bool) → List Chunk} {L : List Oper} {K : Env → List Chunk → Prop} {n : Nat} {l : List Oper}
variable {Pf : Nat → (Nat → Value) → Prop} {d : Nat} {op : Op} {ty : TypeId} {pos : String} {af : Array Edge} {acc : (Nat → Value) → Env}
/-- a store into an owned slice of which it is only known that it is one of some -/
theorem XSeq.storeE {T : TypeId} {x y : Operand} [hT : TyOne P T]
    (h : ∀ (ξ : Nat → Value) (S : Nat → Bool), S n = false → (∀ j ∈ preds af, S j = true) → (∀ k ok, L[k]? = some ok → S k = true → ∀ j ∈ preds ok.after, S j = true) → (∀ k, S k = true → Pf k ξ) →
      ∃ (u t : Tr), ev (rst (slotsOf (.store T x y)) (acc ξ)) x = some u ∧ ev (rst (slotsOf (.store T x y)) (acc ξ)) y = some t ∧ OneT t ∧ ∀ w A v, u.rd w A v → ∃ (ad : Option Addr) (cap kk m j : Nat) (e : TypeId) (rows : List (List Tr)) (r : List Tr) (cf : List Chunk),
        (Tr.eptr ad kk m j).rd w A v ∧ (∀ env2, Ent Γ env2 (H ξ S) env2 (Chunk.own ad cap kk e rows :: cf)) ∧ rows[m]? = some r ∧ j < kk ∧ (∀ env2, Ent Γ env2 (Chunk.own ad cap kk e (rows.set m (r.set j t)) :: cf) env2 (H (upd ξ n undef) (updD S n))))
    (k : XSeq P Γ H L K (n + 1) acc (pfX n (fun _ => True) Pf) l) : XSeq P Γ H L K n acc Pf (⟨none, .store T x y, ty, pos, af, none⟩ :: l) := by
  refine XSeq.cons (T := fun _ => Tr.any) (Pv := fun _ => True) PvOk.triv ?_ k
  unfold XStep
  intro ξ S h1 h2 h3 h4 a w dd next F hk
  obtain ⟨u, t, hx, hy, ho, hh⟩ := h ξ S h1 h2 h3 h4
  obtain ⟨ad, cap, kk, m, j, e, rows, r, cf, hptr, hE, hr, hj, hE2⟩ := hh w _ _ (dd.ev hx)
  unfold Tr.eptr at hptr
  obtain ⟨g, ha, hv⟩ := hptr
  have toD : ∀ env2, Den Γ env2 (H ξ S) a w → Den Γ env2 (Chunk.own ad cap kk e rows :: cf) a w := fun env2 d2 => by
    have := hE env2
    unfold Ent at this
    exact this a w d2
  have d1 := toD _ dd
  have hrow : RdC w (av Γ.M (Chunk.own ad cap kk e rows :: cf)) [t] (a.eval y).cells.toList := (inferInstance : RowT t [t]).h _ _ _ (d1.ev hy)
  have hlr : r.length = kk := by
    have := d1.has (List.Perm.refl _)
    generalize av Γ.M (Chunk.own ad cap kk e rows :: cf) = A at this
    unfold Chunk.own at this
    obtain ⟨hk0, _⟩ := this
    exact hk0 r (List.mem_of_getElem? hr)
  have hset : r.take j ++ [t] ++ r.drop (j + 1) = r.set j t := by rw [List.set_eq_take_append_cons_drop, if_pos (by omega)]; simp
  have step : ∀ env2, Den Γ env2 (Chunk.own ad cap kk e rows :: cf) a w → ∃ w', (Instr.storeAt T (.pointer (some ⟨g, m * kk + j, none⟩)) (a.eval y)).run P w = .ok () w' ∧ Den Γ env2 (Chunk.own ad cap kk e (rows.set m (r.set j t)) :: cf) a w' := by
    intro env2 d2
    rw [← hset]
    exact own_store (P := P) d2 ha hr (r' := r.take j ++ [t] ++ r.drop (j + 1)) (vs := (a.eval y).cells.toList) (m := 1) (j := j) (by rw [hrow.length]; rfl) (by omega)
      (fun A w' hs xs hx => (((hx.take j).mono hs).app (hrow.mono hs)).app ((hx.drop (j + 1)).mono hs)) (by simp [hlr]; omega) T (a.eval y) hT.size rfl hrow.one
  obtain ⟨w', hrun, hd⟩ := step _ d1
  have hx2 : (execOp a.eval ⟨none, .store T x y, ty, pos, af, none⟩).run P w = .ok .skip w' := by simp [execOp, hv, hrun] <;> rfl
  refine opIn_of_run hx2 ⟨(by intro d h; cases h), (by intro x y h; cases h)⟩ ?_
  refine hk _ _ trivial tr_any_self fun env2 d2 => ?_
  obtain ⟨w2, hrun2, hd2⟩ := step env2 (toD env2 d2)
  rw [hrun] at hrun2
  cases hrun2
  have := hE2 env2
  unfold Ent at this
  exact this a w' hd2
end x3b
end x3
end Lg
end
