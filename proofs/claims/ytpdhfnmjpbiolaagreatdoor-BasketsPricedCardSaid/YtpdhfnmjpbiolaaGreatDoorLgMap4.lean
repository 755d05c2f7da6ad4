/- A part of the proof of a law of this seat: it adds no condition. By an AI agent. -/
import Derived.Test.YtpdhfnmjpbiolaaGreatDoorLgRng2
section
set_option linter.all false
namespace Lg
open Go

section cpy
variable {P : Program} {Γ : Ctx} {env env' : Env} {cs cs' cf : List Chunk} {Q : Post} {R : Array Oper} {a : Act} {w : World}
variable {i : Tmp} {ty : TypeId} {pos : String} {af : Array Edge} {rest : List Oper} {x y z : Operand} {T T2 : TypeId} {k : IntKind} {p q : Int}
/-- copy(s[n:], s[:n]): the head of a slice goes behind itself -/
theorem Ops.copy_front {E kk bb zs} [hS : TySl P T E kk bb zs] {g cap n m o1 dl dc sl sc : Nat} {rows : List (List Tr)}
    (hx : ev env x = some (.raw (.slice (some ⟨g, o1, none⟩) dl dc))) (hy : ev env y = some (.raw (.slice (some ⟨g, 0, none⟩) sl sc)))
    (hp : cs.Perm (Chunk.own (some ⟨g, 0, none⟩) cap kk E rows :: cf)) (ho1 : o1 = n * kk) (hn : n ≤ rows.length) (hdl : dl = rows.length - n) (hsl : sl ≤ rows.length) (hm : m = min dl sl) (hcap : rows.length ≤ cap) (hi : Nat.blt i Γ.n = true)
    (kont : Ops P Γ R rest ((i, .int (m : Nat)) :: env) (Chunk.own (some ⟨g, 0, none⟩) cap kk E (rows.take n ++ rows.take m ++ rows.drop (n + m)) :: cf) Q) :
    Ops P Γ R (⟨some i, .call ⟨.builtin .copy, #[x, y], #[T, T]⟩, ty, pos, af, none⟩ :: rest) env cs Q :=
  Ops.of fun a w d => by
    have hv := rd_raw (d.ev hx)
    have hv2 := rd_raw (d.ev hy)
    have d' := d.perm hp
    obtain ⟨xs, hrd, hkr, hcell⟩ := own_cells (d'.has (List.Perm.refl _))
    have hml : m ≤ rows.length := by omega
    have hr := hrd.take (m * kk)
    rw [← flatten_take hkr] at hr
    have htl : (rows.take m).length = m := by rw [List.length_take]; omega
    obtain ⟨cur, hg, hfit, hvl, hden⟩ := d'.lay (pn := n) (new := rows.take m) hn (by rw [htl]; omega) (fun r hr => hkr r (List.mem_of_mem_take hr)) hr
    obtain ⟨ti, zv, h1, h2, h3, h4, _⟩ := hS.hE
    rw [htl] at hvl
    have hrun := run_copy_rowK (P := P) w T T ty E kk m g o1 dl dc ⟨g, 0, none⟩ sl sc cur E (xs.take (m * kk)) hS.hT ⟨ti, h1, h4⟩ hg (by rw [hm, Nat.min_comm]) hvl
      (fun j u hj => by
        rw [add_plain, Nat.zero_add]
        rw [List.getElem?_take] at hj
        split at hj
        · exact hcell _ _ hj
        · cases hj) (by rw [ho1]; exact hfit) hr.one
    rw [ho1] at hrun hv
    rw [htl] at hden
    exact ⟨_, _, .value _, _, by simp [execOp, resolve, invoke, builtin, hv, hv2, hrun] <;> rfl, .inl ⟨_, rfl, Den.put hden hi (raw_self _)⟩, kont⟩
end cpy
end Lg
end
section
set_option linter.all false
namespace Lg
open Go

/-- what a call does not take stays as it is -/
theorem Spec.frame {P : Program} {f : FuncId} {args : List Tr} {cin : List Chunk} {post : Tr → List Chunk → Prop} (h : Spec P f args cin post) (F : List Chunk) : Spec P f args (cin ++ F) (fun r cs => ∃ c2, post r c2 ∧ cs = c2 ++ F) := by
  unfold Spec at h ⊢
  refine ⟨h.1, fun M w vs hv hch hnd hlt hM => ?_⟩
  have hfa : ∀ c : List Chunk, fps (c ++ F) = fps c ++ fps F := fun c => by simp only [fps, List.flatMap_append]
  have hav : ∀ c : List Chunk, av (fun b => M b ∨ b ∈ fps F) c = av M (c ++ F) := fun c => by
    funext b
    simp only [av, hfa, List.mem_append]
    apply propext
    constructor
    · rintro ⟨h1, h2⟩
      exact ⟨fun h => h1 (.inl h), fun h => h.elim h2 (fun h => h1 (.inr h))⟩
    · rintro ⟨h1, h2⟩
      exact ⟨fun h => h.elim h1 (fun h => h2 (.inr h)), fun h => h2 (.inl h)⟩
  rw [hfa] at hnd hlt
  obtain ⟨hn1, hn2, hdis⟩ := List.nodup_append.1 hnd
  have key := h.2 (fun b => M b ∨ b ∈ fps F) w vs (by rw [hav]; exact hv) (fun c hc => by rw [hav]; exact hch c (List.mem_append_left _ hc)) hn1
    (fun b hb => ⟨(hlt b (List.mem_append_left _ hb)).1, fun hm => hm.elim (hlt b (List.mem_append_left _ hb)).2 (fun hf => hdis b hb b hf rfl)⟩)
    (fun b hm => hm.elim (hM b) (fun hf => (hlt b (List.mem_append_right _ hf)).1))
  refine key.mono ?_
  rintro e w' ⟨v, r, cs', he, hp, hrd, hc, hnd', hfr, hf⟩
  rw [hav] at hrd hc
  have hnew : ∀ b ∈ fps cs', b ∉ fps F := fun b hb hbF => by
    obtain ⟨_, h2, h3⟩ := hfr b hb
    exact h2 (.inr hbF)
  refine ⟨v, r, cs' ++ F, he, ⟨cs', hp, rfl⟩, hrd, ?_, ?_, ?_, ?_⟩
  · intro c hcm
    rcases List.mem_append.1 hcm with h1 | h1
    · exact hc c h1
    · refine c.mono (fun b hb hlt2 => hf.block b hlt2 fun hm => ?_) ?_ (hch c (List.mem_append_right _ h1))
      · exact hdis b hm b (List.mem_flatMap.2 ⟨c, h1, hb⟩) rfl
      · intro b hb hA
        have hA2 := hA
        simp only [av, hfa, List.mem_append, not_or] at hA2
        refine ⟨?_, hf.block b hb hA2.2.1⟩
        simp only [av, hfa, List.mem_append, not_or]
        refine ⟨hA2.1, fun hm => ?_, hA2.2.2⟩
        rcases (hfr b hm).2.2 with h2 | h2
        · exact hA2.2.1 h2
        · omega
  · rw [hfa]
    exact List.nodup_append.2 ⟨hnd', hn2, fun x hx y hy e => hnew x hx (e ▸ hy)⟩
  · intro b hb
    rw [hfa] at hb ⊢
    rcases List.mem_append.1 hb with h1 | h1
    · obtain ⟨g1, g2, g3⟩ := hfr b h1
      exact ⟨g1, fun h => g2 (.inl h), g3.imp_left (List.mem_append_left _)⟩
    · obtain ⟨g1, g2⟩ := hlt b (List.mem_append_right _ h1)
      exact ⟨Nat.lt_of_lt_of_le g1 hf.size, g2, .inl (List.mem_append_right _ h1)⟩
  · rw [hfa]
    exact ⟨hf.os, hf.tape, hf.output, hf.size, fun b hb hn => hf.block b hb fun hm => hn (List.mem_append_left _ hm), hf.drawn⟩
end Lg
end
section
set_option linter.all false
namespace Lg
open Go Go.ChangeMaps

section mapy
variable {α : Type} [DecidableEq α] {enc : α → Value}
variable {P : Program} {Γ : Ctx} {env env' : Env} {cs cs' cf : List Chunk} {Q : Post} {R : Array Oper}
variable {i d : Tmp} {ty : TypeId} {pos : String} {af : Array Edge} {rest l : List Oper} {x y z : Operand} {T : TypeId}
variable {H : (Nat → Value) → (Nat → Bool) → List Chunk} {L : List Oper} {K' : Env → List Chunk → Prop} {n : Nat} {acc : (Nat → Value) → Env} {Pf : Nat → (Nat → Value) → Prop}
theorem mapUpdate_core {K E : TypeId} {zv : Value} [hT : TyMap P T K E zv] [hK : KeyTy P K enc] {b : Nat} {a : α} {t : Tr} {kv : List (α × Tr)} {ac : Act} {w : World} (d0 : Den Γ env (Chunk.mp enc b kv :: cf) ac w) (hv : ac.eval x = .map (some b)) (hk : ac.eval y = enc a)
    (ht : t.rd w (av Γ.M (Chunk.mp enc b kv :: cf)) (ac.eval z)) :
    ∃ w', (execOp ac.eval ⟨none, .mapUpdate T x y z, ty, pos, af, none⟩).run P w = .ok .skip w' ∧ ∀ env2, Den Γ env2 (Chunk.mp enc b kv :: cf) ac w → Den Γ env2 (Chunk.mp enc b (mset a t kv) :: cf) ac w' := by
  obtain ⟨es, clock, hb, hr, h1, h2⟩ := d0.has (List.Perm.refl _)
  have hchk := hK.chk false a w
  have hset : ∀ o : Obj, (setObj b o).run P w = .ok () (setBlock w b o) := fun o => MapKept.run_setObj_map o hb
  have hlt : b < w.heap.size := (Array.getElem?_eq_some_iff.1 hb).1
  have hturn : ∀ (es' : Array MapEntry) (c' : Nat), EsR w (av Γ.M (Chunk.mp enc b kv :: cf)) enc (mset a t kv) es'.toList → (borns es'.toList).Pairwise (· < ·) → (∀ e ∈ es'.toList, e.born < c') → ∀ env2, Den Γ env2 (Chunk.mp enc b kv :: cf) ac w → Den Γ env2 (Chunk.mp enc b (mset a t kv) :: cf) ac (setBlock w b (.map es' c')) := by
    intro es' c' hr' hb1 hb2 env2 d
    refine d.turn rfl (fun q hq hn => ?_) (by simp [setBlock]) rfl rfl rfl ?_
    · exact ChangeMaps.heap_setBlock_other hb _ (by simpa [Chunk.mp] using hn)
    · intro hs _
      exact ⟨es', c', ChangeMaps.heap_setBlock_same hb _, hr'.mono hs, hb1, hb2⟩
  rcases run_findKey (P := P) (K := K) hr a with ⟨g1, g2, g3⟩ | ⟨t0, v, j, e, g1, g2, g3, g4, g5, g6⟩
  · refine ⟨_, by simp [execOp, hv, hk, Instr.mapUpdate, run_underlying hT.hT, run_getMap hb, hchk, g2, hset] <;> rfl, hturn _ _ ?_ ?_ ?_⟩
    · rw [Array.toList_push]
      exact g3 t _ clock (enc a) ht
    · rw [Array.toList_push]
      simp only [borns, List.map_append, List.map_cons, List.map_nil]
      rw [List.pairwise_append]
      exact ⟨h1, by simp, fun p hp q hq => by
        rw [List.mem_singleton.1 hq]
        exact mem_borns.1 h2 p hp⟩
    · intro e he
      rw [Array.toList_push] at he
      rcases List.mem_append.1 he with h | h
      · have := h2 e h; omega
      · rw [List.mem_singleton.1 h]; simp
  · have hej : es[j]? = some e := by rw [← Array.getElem?_toList]; exact g4
    refine ⟨_, by simp [execOp, hv, hk, Instr.mapUpdate, run_underlying hT.hT, run_getMap hb, hchk, g2, hej, g5, run_stays (P := P) (K := K), hset] <;> rfl, hturn _ _ ?_ ?_ ?_⟩
    · rw [Array.toList_modify]
      exact g6 t _ ht
    · rw [Array.toList_modify]
      rw [borns_modify]
      exact h1
    · rw [Array.toList_modify, mem_borns, borns_modify]
      exact mem_borns.1 h2
/-- m[k] = v in a drawn region -/
theorem YSeq.mapUpdate {K E : TypeId} {zv : Value} [hT : TyMap P T K E zv] [hK : KeyTy P K enc]
    (h : ∀ (ξ : Nat → Value) (S : Nat → Bool), S n = false → (∀ j ∈ preds af, S j = true) → Clo L S → (∀ k, S k = true → Pf k ξ) →
      ∃ (b : Nat) (a : α) (t : Tr) (kv : List (α × Tr)) (cf : List Chunk), ev (rst (slotsOf (.mapUpdate T x y z)) (acc ξ)) x = some (.raw (.map (some b))) ∧ ev (rst (slotsOf (.mapUpdate T x y z)) (acc ξ)) y = some (.raw (enc a)) ∧ ev (rst (slotsOf (.mapUpdate T x y z)) (acc ξ)) z = some t ∧
        (H ξ S).Perm (Chunk.mp enc b kv :: cf) ∧ (H (upd ξ n undef) (updD S n)).Perm (Chunk.mp enc b (mset a t kv) :: cf))
    (k : YSeq P Γ H L K' (n + 1) acc (pfY n (fun _ => True) Pf) l) : YSeq P Γ H L K' n acc Pf (⟨none, .mapUpdate T x y z, ty, pos, af, none⟩ :: l) := by
  refine YSeq.cons PvOkY.triv (TOk.const (t := Tr.any)) ?_ k
  unfold YStep
  intro ξ S h1 h2 h3 h4 a w dd next F hk
  obtain ⟨b, ky, t, kv, cf, hx, hy, hz, hp, hq⟩ := h ξ S h1 h2 h3 h4
  have hv := rd_raw (dd.ev hx)
  have hv2 := rd_raw (dd.ev hy)
  have ht := dd.ev hz
  rw [av_perm hp] at ht
  obtain ⟨w', hrun, hd⟩ := mapUpdate_core (P := P) (T := T) (ty := ty) (pos := pos) (af := af) (dd.perm hp) hv hv2 ht
  refine opIn_of_run hrun ⟨(by intro d h; cases h), (by intro x y h; cases h)⟩ ?_
  exact hk _ _ trivial tr_any_self fun env2 d2 => (hd env2 (d2.perm hp)).perm hq.symm
end mapy
end Lg
end
