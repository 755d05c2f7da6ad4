/- A part of the proof of a law of this seat: it adds no condition. By an AI agent. -/
import Derived.Test.YtojdcihnfjjlaaaOwn
set_option linter.all false
set_option maxRecDepth 100000
set_option maxHeartbeats 1000000
namespace Lg
open Go Go.Proofs

theorem flat1 : ∀ {rows : List (List Tr)} {j : Nat} {t t' : Tr}, (∀ r ∈ rows, r.length = 1) → rows[j]? = some [t] → rows.flatten[j]? = some t ∧ (rows.set j [t']).flatten = rows.flatten.set j t'
  | [], j, t, t', _, h => by simp at h
  | r :: rows, j, t, t', hk, h => by
    obtain ⟨x, hx⟩ : ∃ x, r = [x] := List.length_eq_one_iff.1 (hk r (by simp))
    subst hx
    cases j with
    | zero =>
      simp only [List.getElem?_cons_zero, Option.some.injEq, List.cons.injEq, and_true] at h
      subst h
      simp
    | succ j =>
      rw [List.getElem?_cons_succ] at h
      obtain ⟨h1, h2⟩ := flat1 (t' := t') (fun r hr => hk r (by simp [hr])) h
      simp only [List.set_cons_succ, List.flatten_cons, List.cons_append, List.nil_append, List.getElem?_cons_succ]
      exact ⟨h1, by rw [h2]⟩

/-- an owned slice that another owned slice holds is written no more -/
theorem Ent.settle_own {Γ : Ctx} {env : Env} {cs cf : List Chunk} {ad ad2 : Option Addr} {n cap kk cap2 j s : Nat} {e e2 : TypeId} {rows rows2 : List (List Tr)} (hl : Lg.look env s = some (.raw (.slice ad n cap))) (hp : cs.Perm (Chunk.own ad cap kk e rows :: Chunk.own ad2 cap2 1 e2 rows2 :: cf)) (hn : n = rows.length) (hj : rows2[j]? = some [Tr.raw (.slice ad n cap)]) :
    Ent Γ env cs env (Chunk.own ad2 cap2 1 e2 (rows2.set j [Tr.sl kk rows]) :: cf) := by
  have hst := Ent.settle (Γ := Γ) hl hp hn
  unfold Ent at hst ⊢
  intro a w d
  have hv := rd_raw (d.env s _ hl)
  have d2 := hst a w d
  have hr := d2.env s _ (look_cons_same _ _ _)
  rw [hv] at hr
  have d3 : Den Γ env (Chunk.own ad2 cap2 1 e2 rows2 :: cf) a w := by
    have hd := (d.perm hp).dropc
    exact hd
  have hfp : (Chunk.own ad2 cap2 1 e2 (rows2.set j [Tr.sl kk rows])).fp = (Chunk.own ad2 cap2 1 e2 rows2).fp := by
    unfold Chunk.own
    simp [Value.ownBlock]
  have hfps : fps (Chunk.own ad2 cap2 1 e2 (rows2.set j [Tr.sl kk rows]) :: cf) = fps (Chunk.own ad2 cap2 1 e2 rows2 :: cf) := by simp only [fps, List.flatMap_cons, hfp]
  have hav : av Γ.M (Chunk.own ad2 cap2 1 e2 (rows2.set j [Tr.sl kk rows]) :: cf) = av Γ.M (Chunk.own ad2 cap2 1 e2 rows2 :: cf) := by funext b; simp only [av, hfps]
  refine ⟨d3.nodefer, d3.tmps, by rw [hav]; exact d3.env, ?_, by rw [hfps]; exact d3.nodup, by rw [hfps]; exact d3.fresh, d3.below, d3.frame⟩
  intro c hc
  rw [hav]
  rcases List.mem_cons.1 hc with rfl | hc
  · have h := d3.chunks (Chunk.own ad2 cap2 1 e2 rows2) (by simp)
    generalize av Γ.M (Chunk.own ad2 cap2 1 e2 rows2 :: cf) = A at *
    unfold Chunk.own at h ⊢
    obtain ⟨hk, xs, ho, hrd⟩ := h
    obtain ⟨f1, f2⟩ := flat1 (t' := Tr.sl kk rows) hk hj
    obtain ⟨v, hv1, hv2, hv3⟩ := hrd.get f1
    have hv2 := rd_raw hv2
    refine ⟨?_, xs, by rw [List.length_set]; exact ho, ?_⟩
    · intro r hr'
      rcases List.mem_or_eq_of_mem_set hr' with h | h
      · exact hk r h
      · rw [h]; rfl
    · rw [f2]
      have := hrd.set j (t := Tr.sl kk rows) (v := v) (by rw [hv2]; exact hr) hv3
      rwa [show xs.set j v = xs by
        apply List.ext_getElem?
        intro i
        rw [List.getElem?_set]
        by_cases ei : j = i
        · subst ei
          have hlt := (List.getElem?_eq_some_iff.1 hv1).1
          rw [if_pos rfl, if_pos hlt, hv1]
        · rw [if_neg ei]] at this
  · exact d3.chunks c (by simp [hc])
end Lg
