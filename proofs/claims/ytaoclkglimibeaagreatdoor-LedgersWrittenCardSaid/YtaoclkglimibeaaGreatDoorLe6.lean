/- A part of the proof of a law of this seat: it adds no condition. By an AI agent. -/
import Derived.Test.YtaoclkglimibeaaGreatDoorSp6
set_option linter.all false
set_option maxRecDepth 100000
set_option maxHeartbeats 8000000
namespace Lg
open Go Go.Proofs

/-! ### CheckEntry -/
def entS (e : En) : Int := entE plS e
theorem indexFunc_ln {l : List Ln} {p : Ln → Bool} {g : Nat} {caps : List Value} {cin : List Chunk} (hl : l.length ≤ 1000000000)
    (hs : ∀ x, x ∈ l → Spec Tryz.prog g ([Tr.agg x.row] ++ caps.map Tr.raw) cin (fun r cs => r = Tr.bool (p x) ∧ cs = cin)) :
    Spec Tryz.prog 109 [Tr.sl 2 (l.map Ln.row), Tr.raw (.func (.func g) #[] caps.toArray)] cin (fun r cs => r = Tr.int (idxFrom p l 0) ∧ cs = cin) := by
  refine Spec.body Tryz.func109 rfl rfl (Tryz.ntmps109) rfl fun w0 own0 M => ?_
  have hL : (l.map Ln.row).length = l.length := List.length_map _
  repeat' (first | refine goH ?_ | refine goV ?_ | refine goI ?_ | (refine Cw.k_cond ?_; first | (refine Cw.cond_dec rfl (fun hc => ?_) (fun hc => ?_) <;> try (exfalso; omega)) | refine Cw.cond_bool rfl (fun hc => ?_) (fun hc => ?_)) | fail)
  refine Cw.loop (ι := Nat) (fun k => k ≤ l.length ∧ idxFrom p l 0 = idxFrom p (l.drop k) k) (fun k => [(0, Tr.sl 2 (l.map Ln.row)), (1, Tr.raw (.func (.func g) #[] caps.toArray)), (7, .int (l.map Ln.row).length), (8, .int k)]) (fun _ => cin) (fun k => l.length - k) ⟨0, ⟨by omega, rfl⟩, Ent.sub goSub⟩ ?_
  rintro k ⟨hk, hgo⟩
  by_cases hkl : k < l.length
  · obtain ⟨x, hx⟩ : ∃ x, l[k]? = some x := ⟨_, List.getElem?_eq_getElem hkl⟩
    have hrow : (l.map Ln.row)[k]? = some [.str x.acc, .int x.c] := rows_at hx
    have hdrop := idxFrom_drop p hx
    rw [hdrop] at hgo
    have hsx := hs x (List.mem_of_getElem? hx)
    by_cases hp : p x = true
    · rw [if_pos hp] at hgo
      rw [hp] at hsx
      repeat' (first | refine goH ?_ | refine goV ?_ | refine goI ?_ | (refine Cw.k_cond ?_; first | (refine Cw.cond_dec rfl (fun hc => ?_) (fun hc => ?_) <;> try (exfalso; omega)) | refine Cw.cond_bool rfl (fun hc => ?_) (fun hc => ?_)) | (refine Ops.k_calla ?_; first | (refine Ops.call_fn rfl hsx (Evs.cons rfl Evs.nil) (by rw [List.append_nil]) rfl ?_; rintro r cs' ⟨rfl, hcs⟩; rw [hcs, List.append_nil])) | fail)
      exact Fin.ret Ent.refl (Outs.one rfl rfl) ⟨by rw [hgo], rfl⟩
    · rw [if_neg hp] at hgo
      rw [Bool.not_eq_true] at hp
      rw [hp] at hsx
      repeat' (first | refine goH ?_ | refine goV ?_ | refine goI ?_ | (refine Cw.k_cond ?_; first | (refine Cw.cond_dec rfl (fun hc => ?_) (fun hc => ?_) <;> try (exfalso; omega)) | refine Cw.cond_bool rfl (fun hc => ?_) (fun hc => ?_)) | (refine Ops.k_calla ?_; first | (refine Ops.call_fn rfl hsx (Evs.cons rfl Evs.nil) (by rw [List.append_nil]) rfl ?_; rintro r cs' ⟨rfl, hcs⟩; rw [hcs, List.append_nil])) | fail)
      exact ⟨k + 1, ⟨by omega, hgo⟩, by omega, Ent.sub goSub⟩
  · rw [List.drop_eq_nil_of_le (by omega), idxFrom] at hgo
    repeat' (first | refine goH ?_ | refine goV ?_ | refine goI ?_ | (refine Cw.k_cond ?_; first | (refine Cw.cond_dec rfl (fun hc => ?_) (fun hc => ?_) <;> try (exfalso; omega)) | refine Cw.cond_bool rfl (fun hc => ?_) (fun hc => ?_)) | fail)
    exact Fin.ret Ent.refl (Outs.one rfl rfl) ⟨by rw [hgo], rfl⟩

theorem containsFunc_ln {l : List Ln} {p : Ln → Bool} {g : Nat} {caps : List Value} {cin : List Chunk} (hl : l.length ≤ 1000000000)
    (hs : ∀ x, x ∈ l → Spec Tryz.prog g ([Tr.agg x.row] ++ caps.map Tr.raw) cin (fun r cs => r = Tr.bool (p x) ∧ cs = cin)) :
    Spec Tryz.prog 79 [Tr.sl 2 (l.map Ln.row), Tr.raw (.func (.func g) #[] caps.toArray)] cin (fun r cs => r = Tr.bool (l.any p) ∧ cs = cin) := by
  refine Spec.body Tryz.func79 rfl rfl (Tryz.ntmps79) rfl fun w0 own0 M => ?_
  repeat' (first | refine goH ?_ | refine goV ?_ | refine goI ?_ | (refine Cw.k_cond ?_; first | (refine Cw.cond_dec rfl (fun hc => ?_) (fun hc => ?_) <;> try (exfalso; omega)) | refine Cw.cond_bool rfl (fun hc => ?_) (fun hc => ?_)) | (refine Ops.k_calla ?_; first | (refine Ops.k_callf 109 ?_; (refine Ops.call (indexFunc_ln hl hs) (Evs.cons rfl (Evs.cons rfl Evs.nil)) (by rw [List.append_nil]) rfl ?_; rintro r cs' ⟨rfl, hcs⟩; rw [hcs, List.append_nil]))) | fail)
  refine Fin.ret Ent.refl (Outs.one rfl rfl) ⟨congrArg Tr.bool ?_, rfl⟩
  have := idxFrom_ge p l 0 (Int.le_refl _)
  by_cases h : 0 ≤ idxFrom p l 0
  · simp [h, this.1 h]
  · have h2 : l.any p = false := by rw [← Bool.not_eq_true]; exact fun e => h (this.2 e)
    simp [h, h2]

structure LnF (E : Int) (x : Ln) (q tw : Bool) (N : Int) : Prop where
  e5 : (!q) = true → E = 5
  e6 : (!q) = false → tw = true → E = 6
  e1 : (!q) = false → tw = false → (x.c = 0 ∨ x.c < -1000000000 ∨ 1000000000 < x.c) → E = 1
  ok : (!q) = false → tw = false → ¬ (x.c = 0 ∨ x.c < -1000000000 ∨ 1000000000 < x.c) → E = N
/-- the lines from the k-th on, with what has been summed -/
def linK (l : List Ln) (k : Nat) : Int := if firstE (lnE l) k (l.length - k) ≠ 0 then firstE (lnE l) k (l.length - k) else if sumC l ≠ 0 then 15 else 0
theorem lnF {l : List Ln} {k : Nat} {x : Ln} {E : Int} (hx : l[k]? = some x) (hV : E = linK l k) (hkl : k < l.length) : LnF E x (isKey x.acc) (twL l k x) (linK l (k + 1)) := by
  have he : lnE l k = lnX (twL l k x) x := by unfold lnE; rw [hx]
  have fin : ∀ c : Int, lnX (twL l k x) x = c → c ≠ 0 → E = c := fun c h1 h2 => by
    have h3 := firstE_bad hkl (he.trans h1) h2
    rw [hV]
    unfold linK
    rw [h3, if_pos h2]
  have nxt : lnX (twL l k x) x = 0 → E = linK l (k + 1) := fun h1 => by
    rw [hV]
    unfold linK
    rw [firstE_ok hkl (he.trans h1)]
  clear hV he
  unfold lnX at fin nxt
  generalize twL l k x = tw at *
  generalize isKey x.acc = q1 at *
  refine ⟨?_, ?_, ?_, ?_⟩
  · intro h; exact fin 5 (by rw [if_pos (by simpa using h)]) (by decide)
  · intro h h2; exact fin 6 (by rw [if_neg (by simpa using h), if_pos h2]) (by decide)
  · intro h h2 h3; exact fin 1 (by rw [if_neg (by simpa using h), if_neg (by simp [h2]), if_pos h3]) (by decide)
  · intro h h2 h3; exact nxt (by rw [if_neg (by simpa using h), if_neg (by simp [h2]), if_neg h3])
theorem linK_end {l : List Ln} {k : Nat} (h : ¬ k < l.length) : linK l k = if sumC l ≠ 0 then 15 else 0 := by
  unfold linK
  rw [firstE_end h, if_neg (by decide)]
theorem entry1_fn (y x : Ln) (b E : Nat) : Spec Tryz.prog 80 [.agg y.row, .ptr b] [Chunk.box b E x.row] (fun r cs => r = .bool (decide (y.acc = x.acc)) ∧ cs = [Chunk.box b E x.row]) := by
  refine Spec.body Tryz.func80 rfl rfl (Tryz.ntmps80) rfl fun w0 own0 M => ?_
  unfold Ln.row
  repeat' (first | refine goH ?_ | refine goV ?_ | refine goB (fun b => ?_) | refine goI ?_ | (refine Cw.k_cond ?_; first | (refine Cw.cond_dec rfl (fun hc => ?_) (fun hc => ?_) <;> try (exfalso; omega)) | refine Cw.cond_bool rfl (fun hc => ?_) (fun hc => ?_)) | fail)
  exact Fin.ret (Ent.take goTk) (Outs.one rfl rfl) ⟨rfl, rfl⟩
theorem entry1R_fn (y x : Ln) (b E : Nat) : Spec Tryz.prog 86 [.agg y.row, .ptr b] [Chunk.box b E x.row] (fun r cs => r = .bool (decide (y.acc = x.acc)) ∧ cs = [Chunk.box b E x.row]) := by
  refine Spec.body Tryz.func86 rfl rfl (Tryz.ntmps86) rfl fun w0 own0 M => ?_
  unfold Ln.row
  repeat' (first | refine goH ?_ | refine goV ?_ | refine goB (fun b => ?_) | refine goI ?_ | (refine Cw.k_cond ?_; first | (refine Cw.cond_dec rfl (fun hc => ?_) (fun hc => ?_) <;> try (exfalso; omega)) | refine Cw.cond_bool rfl (fun hc => ?_) (fun hc => ?_)) | fail)
  exact Fin.ret (Ent.take goTk) (Outs.one rfl rfl) ⟨rfl, rfl⟩
theorem sumC_take {l : List Ln} {k : Nat} {x : Ln} (h : l[k]? = some x) : sumC (l.take (k + 1)) = sumC (l.take k) + x.c := by
  rw [List.take_add_one, h, Option.toList_some, sumC_snoc]
theorem entS_eq (e : En) : entS e = if dayB e.day = false then 1 else if (e.text.size < 1 ∨ 60 < e.text.size) ∨ plS e.text = false then 3 else if e.ls.length < 2 then 8 else if 20 < e.ls.length then 2 else linK e.ls 0 := by
  unfold entS entE linE linK
  rw [Nat.sub_zero]
attribute [local irreducible] plS dayB twL linK sumC
theorem checkEntry_fn (e : En) (ht : e.text.size ≤ 1000000000) (hl : e.ls.length ≤ 1000000000) : Spec Tryz.prog 51 [.agg e.row] [bkC] (fun r cs => r = .int (entS e) ∧ cs = [bkC]) := by
  have kd := day_fn e.day
  have ko := out_fn (e.text.size : Int) 1 60
  have kp := plain_fn e.text ht
  have hE := entS_eq e
  obtain ⟨day, text, l⟩ := e
  simp only at *
  have hL : (l.map Ln.row).length = l.length := List.length_map _
  dsimp only [En.row]
  unfold outB at ko
  have hdy : dayB day = decide (0 ≤ day ∧ day ≤ 4000) := by unfold dayB outB; rw [← decide_not]; exact decide_eq_decide.2 (by omega)
  refine Spec.body Tryz.func51 rfl rfl (Tryz.ntmps51) rfl fun w0 own0 M => ?_
  by_cases hd : 0 ≤ day ∧ day ≤ 4000
  rotate_left
  · rw [hdy, decide_eq_false hd] at kd hE
    rw [if_pos rfl] at hE
    repeat' (first | refine goH ?_ | refine goV ?_ | refine goB (fun b => ?_) | refine goG ?_ | (refine Ops.k_guard ?_; first | (refine Ops.guard_dec rfl rfl (fun hc => ?_) (fun hc => ?_) <;> try (exfalso; omega)) | refine Ops.guard_split rfl rfl (fun hc => ?_) (fun hc => ?_)) | refine goI ?_ | (refine Cw.k_cond ?_; first | (refine Cw.cond_dec rfl (fun hc => ?_) (fun hc => ?_) <;> try (exfalso; omega)) | refine Cw.cond_bool rfl (fun hc => ?_) (fun hc => ?_)) | (refine Ops.k_calla ?_; first | (refine Ops.k_callf 76 ?_; refine Ops.callV kd (Evs.cons rfl Evs.nil) rfl ?_)) | fail)
    all_goals exact Fin.ret (Ent.take goTk) (Outs.one rfl rfl) ⟨by rw [hE], rfl⟩
  rw [hdy, decide_eq_true hd] at kd hE
  rw [if_neg (by decide)] at hE
  by_cases hz : text.size < 1 ∨ 60 < text.size
  · rw [if_pos (.inl hz)] at hE
    generalize plS text = pl at *
    cases pl
    · repeat' (first | refine goH ?_ | refine goV ?_ | refine goB (fun b => ?_) | refine goG ?_ | (refine Ops.k_guard ?_; first | (refine Ops.guard_dec rfl rfl (fun hc => ?_) (fun hc => ?_) <;> try (exfalso; omega)) | refine Ops.guard_split rfl rfl (fun hc => ?_) (fun hc => ?_)) | refine goI ?_ | (refine Cw.k_cond ?_; first | (refine Cw.cond_dec rfl (fun hc => ?_) (fun hc => ?_) <;> try (exfalso; omega)) | refine Cw.cond_bool rfl (fun hc => ?_) (fun hc => ?_)) | (refine Ops.k_calla ?_; first | (refine Ops.k_callf 76 ?_; refine Ops.callV kd (Evs.cons rfl Evs.nil) rfl ?_) | (refine Ops.k_callf 49 ?_; refine Ops.callV ko (Evs.cons rfl (Evs.cons rfl (Evs.cons rfl Evs.nil))) rfl ?_) | (refine Ops.k_callf 77 ?_; refine Ops.callS kp (Evs.cons rfl Evs.nil) goPm rfl ?_)) | fail)
      all_goals exact Fin.ret (Ent.take goTk) (Outs.one rfl rfl) ⟨by rw [hE], rfl⟩
    · repeat' (first | refine goH ?_ | refine goV ?_ | refine goB (fun b => ?_) | refine goG ?_ | (refine Ops.k_guard ?_; first | (refine Ops.guard_dec rfl rfl (fun hc => ?_) (fun hc => ?_) <;> try (exfalso; omega)) | refine Ops.guard_split rfl rfl (fun hc => ?_) (fun hc => ?_)) | refine goI ?_ | (refine Cw.k_cond ?_; first | (refine Cw.cond_dec rfl (fun hc => ?_) (fun hc => ?_) <;> try (exfalso; omega)) | refine Cw.cond_bool rfl (fun hc => ?_) (fun hc => ?_)) | (refine Ops.k_calla ?_; first | (refine Ops.k_callf 76 ?_; refine Ops.callV kd (Evs.cons rfl Evs.nil) rfl ?_) | (refine Ops.k_callf 49 ?_; refine Ops.callV ko (Evs.cons rfl (Evs.cons rfl (Evs.cons rfl Evs.nil))) rfl ?_) | (refine Ops.k_callf 77 ?_; refine Ops.callS kp (Evs.cons rfl Evs.nil) goPm rfl ?_)) | fail)
      all_goals exact Fin.ret (Ent.take goTk) (Outs.one rfl rfl) ⟨by rw [hE], rfl⟩
  cases hpl : plS text
  · rw [hpl] at kp hE
    rw [if_pos (.inr rfl)] at hE
    repeat' (first | refine goH ?_ | refine goV ?_ | refine goB (fun b => ?_) | refine goG ?_ | (refine Ops.k_guard ?_; first | (refine Ops.guard_dec rfl rfl (fun hc => ?_) (fun hc => ?_) <;> try (exfalso; omega)) | refine Ops.guard_split rfl rfl (fun hc => ?_) (fun hc => ?_)) | refine goI ?_ | (refine Cw.k_cond ?_; first | (refine Cw.cond_dec rfl (fun hc => ?_) (fun hc => ?_) <;> try (exfalso; omega)) | refine Cw.cond_bool rfl (fun hc => ?_) (fun hc => ?_)) | (refine Ops.k_calla ?_; first | (refine Ops.k_callf 76 ?_; refine Ops.callV kd (Evs.cons rfl Evs.nil) rfl ?_) | (refine Ops.k_callf 49 ?_; refine Ops.callV ko (Evs.cons rfl (Evs.cons rfl (Evs.cons rfl Evs.nil))) rfl ?_) | (refine Ops.k_callf 77 ?_; refine Ops.callS kp (Evs.cons rfl Evs.nil) goPm rfl ?_)) | fail)
    all_goals exact Fin.ret (Ent.take goTk) (Outs.one rfl rfl) ⟨by rw [hE], rfl⟩
  rw [hpl] at kp hE
  rw [if_neg (by rintro (h | h); exact hz h; cases h)] at hE
  by_cases h2 : l.length < 2
  · rw [if_pos h2] at hE
    repeat' (first | refine goH ?_ | refine goV ?_ | refine goB (fun b => ?_) | refine goG ?_ | (refine Ops.k_guard ?_; first | (refine Ops.guard_dec rfl rfl (fun hc => ?_) (fun hc => ?_) <;> try (exfalso; omega)) | refine Ops.guard_split rfl rfl (fun hc => ?_) (fun hc => ?_)) | refine goI ?_ | (refine Cw.k_cond ?_; first | (refine Cw.cond_dec rfl (fun hc => ?_) (fun hc => ?_) <;> try (exfalso; omega)) | refine Cw.cond_bool rfl (fun hc => ?_) (fun hc => ?_)) | (refine Ops.k_calla ?_; first | (refine Ops.k_callf 76 ?_; refine Ops.callV kd (Evs.cons rfl Evs.nil) rfl ?_) | (refine Ops.k_callf 49 ?_; refine Ops.callV ko (Evs.cons rfl (Evs.cons rfl (Evs.cons rfl Evs.nil))) rfl ?_) | (refine Ops.k_callf 77 ?_; refine Ops.callS kp (Evs.cons rfl Evs.nil) goPm rfl ?_)) | fail)
    all_goals exact Fin.ret (Ent.take goTk) (Outs.one rfl rfl) ⟨by rw [hE], rfl⟩
  by_cases h20 : 20 < l.length
  · rw [if_neg h2, if_pos h20] at hE
    repeat' (first | refine goH ?_ | refine goV ?_ | refine goB (fun b => ?_) | refine goG ?_ | (refine Ops.k_guard ?_; first | (refine Ops.guard_dec rfl rfl (fun hc => ?_) (fun hc => ?_) <;> try (exfalso; omega)) | refine Ops.guard_split rfl rfl (fun hc => ?_) (fun hc => ?_)) | refine goI ?_ | (refine Cw.k_cond ?_; first | (refine Cw.cond_dec rfl (fun hc => ?_) (fun hc => ?_) <;> try (exfalso; omega)) | refine Cw.cond_bool rfl (fun hc => ?_) (fun hc => ?_)) | (refine Ops.k_calla ?_; first | (refine Ops.k_callf 76 ?_; refine Ops.callV kd (Evs.cons rfl Evs.nil) rfl ?_) | (refine Ops.k_callf 49 ?_; refine Ops.callV ko (Evs.cons rfl (Evs.cons rfl (Evs.cons rfl Evs.nil))) rfl ?_) | (refine Ops.k_callf 77 ?_; refine Ops.callS kp (Evs.cons rfl Evs.nil) goPm rfl ?_)) | fail)
    all_goals exact Fin.ret (Ent.take goTk) (Outs.one rfl rfl) ⟨by rw [hE], rfl⟩
  rw [if_neg h2, if_neg h20] at hE
  generalize entS ⟨day, text, l⟩ = E at *
  repeat' (first | refine goH ?_ | refine goV ?_ | refine goB (fun b => ?_) | refine goG ?_ | (refine Ops.k_guard ?_; first | (refine Ops.guard_dec rfl rfl (fun hc => ?_) (fun hc => ?_) <;> try (exfalso; omega)) | refine Ops.guard_split rfl rfl (fun hc => ?_) (fun hc => ?_)) | refine goI ?_ | (refine Cw.k_cond ?_; first | (refine Cw.cond_dec rfl (fun hc => ?_) (fun hc => ?_) <;> try (exfalso; omega)) | refine Cw.cond_bool rfl (fun hc => ?_) (fun hc => ?_)) | (refine Ops.k_calla ?_; first | (refine Ops.k_callf 76 ?_; refine Ops.callV kd (Evs.cons rfl Evs.nil) rfl ?_) | (refine Ops.k_callf 49 ?_; refine Ops.callV ko (Evs.cons rfl (Evs.cons rfl (Evs.cons rfl Evs.nil))) rfl ?_) | (refine Ops.k_callf 77 ?_; refine Ops.callS kp (Evs.cons rfl Evs.nil) goPm rfl ?_)) | fail)
  clear kd ko kp hdy hpl
  refine Cw.loopI [(1, _), (33, _), (34, _)] _ (fun n e c => ∃ (k : Nat) (s : Int), n = l.length - k ∧ (k ≤ l.length ∧ E = linK l k ∧ s = sumC (l.take k) ∧ -1000000000 * (k : Int) ≤ s ∧ s ≤ 1000000000 * (k : Int)) ∧ e = [(3, .int s), (35, .int k)] ∧ c = []) ⟨_, _, _, (Ent.mkP goSub goPm), 0, 0, rfl, ⟨by omega, hE, by rw [List.take_zero]; with_unfolding_all rfl, by omega, by omega⟩, rfl, rfl⟩ ?_
  clear hE
  rintro _ _ _ ⟨k, s, rfl, ⟨hk, hV, hs, hs1, hs2⟩, rfl, rfl⟩
  by_cases hkl : k < l.length
  rotate_left
  · rw [linK_end hkl] at hV
    rw [List.take_of_length_le (by omega)] at hs
    rw [← hs] at hV
    by_cases hs0 : s = 0
    · rw [if_neg (by omega)] at hV
      repeat' (first | refine goH ?_ | refine goV ?_ | refine goB (fun b => ?_) | refine goG ?_ | (refine Ops.k_guard ?_; first | (refine Ops.guard_dec rfl rfl (fun hc => ?_) (fun hc => ?_) <;> try (exfalso; omega)) | refine Ops.guard_split rfl rfl (fun hc => ?_) (fun hc => ?_)) | refine goI ?_ | (refine Cw.k_cond ?_; first | (refine Cw.cond_dec rfl (fun hc => ?_) (fun hc => ?_) <;> try (exfalso; omega)) | refine Cw.cond_bool rfl (fun hc => ?_) (fun hc => ?_)) | fail)
      all_goals exact Fin.ret (Ent.take goTk) (Outs.one rfl rfl) ⟨by rw [hV], rfl⟩
    · rw [if_pos (by omega)] at hV
      repeat' (first | refine goH ?_ | refine goV ?_ | refine goB (fun b => ?_) | refine goG ?_ | (refine Ops.k_guard ?_; first | (refine Ops.guard_dec rfl rfl (fun hc => ?_) (fun hc => ?_) <;> try (exfalso; omega)) | refine Ops.guard_split rfl rfl (fun hc => ?_) (fun hc => ?_)) | refine goI ?_ | (refine Cw.k_cond ?_; first | (refine Cw.cond_dec rfl (fun hc => ?_) (fun hc => ?_) <;> try (exfalso; omega)) | refine Cw.cond_bool rfl (fun hc => ?_) (fun hc => ?_)) | fail)
      all_goals exact Fin.ret (Ent.take goTk) (Outs.one rfl rfl) ⟨by rw [hV], rfl⟩
  obtain ⟨x, hx⟩ := at_lt hkl
  have hrow : (l.map Ln.row)[k]? = some [.str x.acc, .int x.c] := rows_at hx
  have k1 := key_fn x.acc
  have kO := out_fn x.c (-1000000000) 1000000000
  unfold outB at kO
  have kc := fun b => containsFunc_ln (cin := [Chunk.box b 57 x.row]) (caps := [.pointer (some ⟨b, 0, none⟩)]) (g := 80) (p := fun y => decide (y.acc = x.acc)) (l := l.take k) (by rw [List.length_take]; omega) (fun y _ => entry1_fn y x b _)
  have htk : (l.take k).map Ln.row = (l.map Ln.row).take k := List.map_take
  rw [htk] at kc
  unfold Ln.row at kc
  have htd : ((l.take k).any fun y => decide (y.acc = x.acc)) = twL l k x := by with_unfolding_all rfl
  rw [htd] at kc
  have F := lnF hx hV hkl
  have hnx := sumC_take hx
  rw [← hs] at hnx
  generalize twL l k x = tw at *
  generalize isKey x.acc = q at *
  clear hV hx htd hs
  cases q
  · have hE := F.e5 rfl
    clear F
    repeat' (first | refine goH ?_ | refine goV ?_ | refine goB (fun b => ?_) | refine goG ?_ | (refine Ops.k_guard ?_; first | (refine Ops.guard_dec rfl rfl (fun hc => ?_) (fun hc => ?_) <;> try (exfalso; omega)) | refine Ops.guard_split rfl rfl (fun hc => ?_) (fun hc => ?_)) | refine goI ?_ | (refine Cw.k_cond ?_; first | (refine Cw.cond_dec rfl (fun hc => ?_) (fun hc => ?_) <;> try (exfalso; omega)) | refine Cw.cond_bool rfl (fun hc => ?_) (fun hc => ?_)) | (refine Ops.k_calla ?_; first | (refine Ops.k_callf 78 ?_; refine Ops.callV k1 (Evs.cons rfl Evs.nil) rfl ?_)) | fail)
    all_goals exact Fin.ret (Ent.take goTk) (Outs.one rfl rfl) ⟨by rw [hE], rfl⟩
  cases tw
  rotate_left
  · have hE := F.e6 rfl rfl
    clear F
    repeat' (first | refine goH ?_ | refine goV ?_ | refine goB (fun b => ?_) | refine goG ?_ | (refine Ops.k_guard ?_; first | (refine Ops.guard_dec rfl rfl (fun hc => ?_) (fun hc => ?_) <;> try (exfalso; omega)) | refine Ops.guard_split rfl rfl (fun hc => ?_) (fun hc => ?_)) | refine goI ?_ | (refine Cw.k_cond ?_; first | (refine Cw.cond_dec rfl (fun hc => ?_) (fun hc => ?_) <;> try (exfalso; omega)) | refine Cw.cond_bool rfl (fun hc => ?_) (fun hc => ?_)) | (refine Ops.k_calla ?_; first | (refine Ops.k_callf 78 ?_; refine Ops.callV k1 (Evs.cons rfl Evs.nil) rfl ?_) | (refine Ops.k_callf 79 ?_; refine Ops.callS (kc _) (Evs.cons rfl (Evs.cons rfl Evs.nil)) goPm rfl ?_)) | fail)
    all_goals exact Fin.ret (Ent.take goTk) (Outs.one rfl rfl) ⟨by rw [hE], rfl⟩
  by_cases hc : x.c = 0 ∨ x.c < -1000000000 ∨ 1000000000 < x.c
  · have hE := F.e1 rfl rfl hc
    clear F
    repeat' (first | refine goH ?_ | refine goV ?_ | refine goB (fun b => ?_) | refine goG ?_ | (refine Ops.k_guard ?_; first | (refine Ops.guard_dec rfl rfl (fun hc => ?_) (fun hc => ?_) <;> try (exfalso; omega)) | refine Ops.guard_split rfl rfl (fun hc => ?_) (fun hc => ?_)) | refine goI ?_ | (refine Cw.k_cond ?_; first | (refine Cw.cond_dec rfl (fun hc => ?_) (fun hc => ?_) <;> try (exfalso; omega)) | refine Cw.cond_bool rfl (fun hc => ?_) (fun hc => ?_)) | (refine Ops.k_calla ?_; first | (refine Ops.k_callf 78 ?_; refine Ops.callV k1 (Evs.cons rfl Evs.nil) rfl ?_) | (refine Ops.k_callf 79 ?_; refine Ops.callS (kc _) (Evs.cons rfl (Evs.cons rfl Evs.nil)) goPm rfl ?_) | (refine Ops.k_callf 49 ?_; refine Ops.callV kO (Evs.cons rfl (Evs.cons rfl (Evs.cons rfl Evs.nil))) rfl ?_)) | fail)
    all_goals exact Fin.ret (Ent.take goTk) (Outs.one rfl rfl) ⟨by rw [hE], rfl⟩
  · have hE := F.ok rfl rfl hc
    clear F
    repeat' (first | refine goH ?_ | refine goV ?_ | refine goB (fun b => ?_) | refine goG ?_ | (refine Ops.k_guard ?_; first | (refine Ops.guard_dec rfl rfl (fun hc => ?_) (fun hc => ?_) <;> try (exfalso; omega)) | refine Ops.guard_split rfl rfl (fun hc => ?_) (fun hc => ?_)) | refine goI ?_ | (refine Cw.k_cond ?_; first | (refine Cw.cond_dec rfl (fun hc => ?_) (fun hc => ?_) <;> try (exfalso; omega)) | refine Cw.cond_bool rfl (fun hc => ?_) (fun hc => ?_)) | (refine Ops.k_calla ?_; first | (refine Ops.k_callf 78 ?_; refine Ops.callV k1 (Evs.cons rfl Evs.nil) rfl ?_) | (refine Ops.k_callf 79 ?_; refine Ops.callS (kc _) (Evs.cons rfl (Evs.cons rfl Evs.nil)) goPm rfl ?_) | (refine Ops.k_callf 49 ?_; refine Ops.callV kO (Evs.cons rfl (Evs.cons rfl (Evs.cons rfl Evs.nil))) rfl ?_)) | fail)
    all_goals exact ⟨_, _, _, (Ent.mk goSub goTk), ⟨k + 1, s + x.c, rfl, ⟨by omega, hE, hnx.symm, by omega, by omega⟩, rfl, rfl⟩, by omega⟩
theorem entryFault_fn (e : En) (ht : e.text.size ≤ 1000000000) (hl : e.ls.length ≤ 1000000000) : Spec Tryz.prog 57 [.agg e.row] [bkC] (fun r cs => r = .int (entS e) ∧ cs = [bkC]) := by
  have kd := day_fn e.day
  have ko := out_fn (e.text.size : Int) 1 60
  have kp := plainOf_fn e.text ht
  have hE := entS_eq e
  obtain ⟨day, text, l⟩ := e
  simp only at *
  have hL : (l.map Ln.row).length = l.length := List.length_map _
  dsimp only [En.row]
  unfold outB at ko
  have hdy : dayB day = decide (0 ≤ day ∧ day ≤ 4000) := by unfold dayB outB; rw [← decide_not]; exact decide_eq_decide.2 (by omega)
  refine Spec.body Tryz.func57 rfl rfl (Tryz.ntmps57) rfl fun w0 own0 M => ?_
  by_cases hd : 0 ≤ day ∧ day ≤ 4000
  rotate_left
  · rw [hdy, decide_eq_false hd] at kd hE
    rw [if_pos rfl] at hE
    repeat' (first | refine goH ?_ | refine goV ?_ | refine goB (fun b => ?_) | refine goG ?_ | (refine Ops.k_guard ?_; first | (refine Ops.guard_dec rfl rfl (fun hc => ?_) (fun hc => ?_) <;> try (exfalso; omega)) | refine Ops.guard_split rfl rfl (fun hc => ?_) (fun hc => ?_)) | refine goI ?_ | (refine Cw.k_cond ?_; first | (refine Cw.cond_dec rfl (fun hc => ?_) (fun hc => ?_) <;> try (exfalso; omega)) | refine Cw.cond_bool rfl (fun hc => ?_) (fun hc => ?_)) | (refine Ops.k_calla ?_; first | (refine Ops.k_callf 76 ?_; refine Ops.callV kd (Evs.cons rfl Evs.nil) rfl ?_)) | fail)
    all_goals exact Fin.ret (Ent.take goTk) (Outs.one rfl rfl) ⟨by rw [hE], rfl⟩
  rw [hdy, decide_eq_true hd] at kd hE
  rw [if_neg (by decide)] at hE
  by_cases hz : text.size < 1 ∨ 60 < text.size
  · rw [if_pos (.inl hz)] at hE
    generalize plS text = pl at *
    cases pl
    · repeat' (first | refine goH ?_ | refine goV ?_ | refine goB (fun b => ?_) | refine goG ?_ | (refine Ops.k_guard ?_; first | (refine Ops.guard_dec rfl rfl (fun hc => ?_) (fun hc => ?_) <;> try (exfalso; omega)) | refine Ops.guard_split rfl rfl (fun hc => ?_) (fun hc => ?_)) | refine goI ?_ | (refine Cw.k_cond ?_; first | (refine Cw.cond_dec rfl (fun hc => ?_) (fun hc => ?_) <;> try (exfalso; omega)) | refine Cw.cond_bool rfl (fun hc => ?_) (fun hc => ?_)) | (refine Ops.k_calla ?_; first | (refine Ops.k_callf 76 ?_; refine Ops.callV kd (Evs.cons rfl Evs.nil) rfl ?_) | (refine Ops.k_callf 49 ?_; refine Ops.callV ko (Evs.cons rfl (Evs.cons rfl (Evs.cons rfl Evs.nil))) rfl ?_) | (refine Ops.k_callf 85 ?_; refine Ops.callS kp (Evs.cons rfl Evs.nil) goPm rfl ?_)) | fail)
      all_goals exact Fin.ret (Ent.take goTk) (Outs.one rfl rfl) ⟨by rw [hE], rfl⟩
    · repeat' (first | refine goH ?_ | refine goV ?_ | refine goB (fun b => ?_) | refine goG ?_ | (refine Ops.k_guard ?_; first | (refine Ops.guard_dec rfl rfl (fun hc => ?_) (fun hc => ?_) <;> try (exfalso; omega)) | refine Ops.guard_split rfl rfl (fun hc => ?_) (fun hc => ?_)) | refine goI ?_ | (refine Cw.k_cond ?_; first | (refine Cw.cond_dec rfl (fun hc => ?_) (fun hc => ?_) <;> try (exfalso; omega)) | refine Cw.cond_bool rfl (fun hc => ?_) (fun hc => ?_)) | (refine Ops.k_calla ?_; first | (refine Ops.k_callf 76 ?_; refine Ops.callV kd (Evs.cons rfl Evs.nil) rfl ?_) | (refine Ops.k_callf 49 ?_; refine Ops.callV ko (Evs.cons rfl (Evs.cons rfl (Evs.cons rfl Evs.nil))) rfl ?_) | (refine Ops.k_callf 85 ?_; refine Ops.callS kp (Evs.cons rfl Evs.nil) goPm rfl ?_)) | fail)
      all_goals exact Fin.ret (Ent.take goTk) (Outs.one rfl rfl) ⟨by rw [hE], rfl⟩
  cases hpl : plS text
  · rw [hpl] at kp hE
    rw [if_pos (.inr rfl)] at hE
    repeat' (first | refine goH ?_ | refine goV ?_ | refine goB (fun b => ?_) | refine goG ?_ | (refine Ops.k_guard ?_; first | (refine Ops.guard_dec rfl rfl (fun hc => ?_) (fun hc => ?_) <;> try (exfalso; omega)) | refine Ops.guard_split rfl rfl (fun hc => ?_) (fun hc => ?_)) | refine goI ?_ | (refine Cw.k_cond ?_; first | (refine Cw.cond_dec rfl (fun hc => ?_) (fun hc => ?_) <;> try (exfalso; omega)) | refine Cw.cond_bool rfl (fun hc => ?_) (fun hc => ?_)) | (refine Ops.k_calla ?_; first | (refine Ops.k_callf 76 ?_; refine Ops.callV kd (Evs.cons rfl Evs.nil) rfl ?_) | (refine Ops.k_callf 49 ?_; refine Ops.callV ko (Evs.cons rfl (Evs.cons rfl (Evs.cons rfl Evs.nil))) rfl ?_) | (refine Ops.k_callf 85 ?_; refine Ops.callS kp (Evs.cons rfl Evs.nil) goPm rfl ?_)) | fail)
    all_goals exact Fin.ret (Ent.take goTk) (Outs.one rfl rfl) ⟨by rw [hE], rfl⟩
  rw [hpl] at kp hE
  rw [if_neg (by rintro (h | h); exact hz h; cases h)] at hE
  by_cases h2 : l.length < 2
  · rw [if_pos h2] at hE
    repeat' (first | refine goH ?_ | refine goV ?_ | refine goB (fun b => ?_) | refine goG ?_ | (refine Ops.k_guard ?_; first | (refine Ops.guard_dec rfl rfl (fun hc => ?_) (fun hc => ?_) <;> try (exfalso; omega)) | refine Ops.guard_split rfl rfl (fun hc => ?_) (fun hc => ?_)) | refine goI ?_ | (refine Cw.k_cond ?_; first | (refine Cw.cond_dec rfl (fun hc => ?_) (fun hc => ?_) <;> try (exfalso; omega)) | refine Cw.cond_bool rfl (fun hc => ?_) (fun hc => ?_)) | (refine Ops.k_calla ?_; first | (refine Ops.k_callf 76 ?_; refine Ops.callV kd (Evs.cons rfl Evs.nil) rfl ?_) | (refine Ops.k_callf 49 ?_; refine Ops.callV ko (Evs.cons rfl (Evs.cons rfl (Evs.cons rfl Evs.nil))) rfl ?_) | (refine Ops.k_callf 85 ?_; refine Ops.callS kp (Evs.cons rfl Evs.nil) goPm rfl ?_)) | fail)
    all_goals exact Fin.ret (Ent.take goTk) (Outs.one rfl rfl) ⟨by rw [hE], rfl⟩
  by_cases h20 : 20 < l.length
  · rw [if_neg h2, if_pos h20] at hE
    repeat' (first | refine goH ?_ | refine goV ?_ | refine goB (fun b => ?_) | refine goG ?_ | (refine Ops.k_guard ?_; first | (refine Ops.guard_dec rfl rfl (fun hc => ?_) (fun hc => ?_) <;> try (exfalso; omega)) | refine Ops.guard_split rfl rfl (fun hc => ?_) (fun hc => ?_)) | refine goI ?_ | (refine Cw.k_cond ?_; first | (refine Cw.cond_dec rfl (fun hc => ?_) (fun hc => ?_) <;> try (exfalso; omega)) | refine Cw.cond_bool rfl (fun hc => ?_) (fun hc => ?_)) | (refine Ops.k_calla ?_; first | (refine Ops.k_callf 76 ?_; refine Ops.callV kd (Evs.cons rfl Evs.nil) rfl ?_) | (refine Ops.k_callf 49 ?_; refine Ops.callV ko (Evs.cons rfl (Evs.cons rfl (Evs.cons rfl Evs.nil))) rfl ?_) | (refine Ops.k_callf 85 ?_; refine Ops.callS kp (Evs.cons rfl Evs.nil) goPm rfl ?_)) | fail)
    all_goals exact Fin.ret (Ent.take goTk) (Outs.one rfl rfl) ⟨by rw [hE], rfl⟩
  rw [if_neg h2, if_neg h20] at hE
  generalize entS ⟨day, text, l⟩ = E at *
  repeat' (first | refine goH ?_ | refine goV ?_ | refine goB (fun b => ?_) | refine goG ?_ | (refine Ops.k_guard ?_; first | (refine Ops.guard_dec rfl rfl (fun hc => ?_) (fun hc => ?_) <;> try (exfalso; omega)) | refine Ops.guard_split rfl rfl (fun hc => ?_) (fun hc => ?_)) | refine goI ?_ | (refine Cw.k_cond ?_; first | (refine Cw.cond_dec rfl (fun hc => ?_) (fun hc => ?_) <;> try (exfalso; omega)) | refine Cw.cond_bool rfl (fun hc => ?_) (fun hc => ?_)) | (refine Ops.k_calla ?_; first | (refine Ops.k_callf 76 ?_; refine Ops.callV kd (Evs.cons rfl Evs.nil) rfl ?_) | (refine Ops.k_callf 49 ?_; refine Ops.callV ko (Evs.cons rfl (Evs.cons rfl (Evs.cons rfl Evs.nil))) rfl ?_) | (refine Ops.k_callf 85 ?_; refine Ops.callS kp (Evs.cons rfl Evs.nil) goPm rfl ?_)) | fail)
  clear kd ko kp hdy hpl
  refine Cw.loopI [(1, _), (43, _), (44, _)] _ (fun n e c => ∃ (k : Nat) (s : Int), n = l.length - k ∧ (k ≤ l.length ∧ E = linK l k ∧ s = sumC (l.take k) ∧ -1000000000 * (k : Int) ≤ s ∧ s ≤ 1000000000 * (k : Int)) ∧ e = [(3, .int s), (45, .int k)] ∧ c = []) ⟨_, _, _, (Ent.mkP goSub goPm), 0, 0, rfl, ⟨by omega, hE, by rw [List.take_zero]; with_unfolding_all rfl, by omega, by omega⟩, rfl, rfl⟩ ?_
  clear hE
  rintro _ _ _ ⟨k, s, rfl, ⟨hk, hV, hs, hs1, hs2⟩, rfl, rfl⟩
  by_cases hkl : k < l.length
  rotate_left
  · rw [linK_end hkl] at hV
    rw [List.take_of_length_le (by omega)] at hs
    rw [← hs] at hV
    by_cases hs0 : s = 0
    · rw [if_neg (by omega)] at hV
      repeat' (first | refine goH ?_ | refine goV ?_ | refine goB (fun b => ?_) | refine goG ?_ | (refine Ops.k_guard ?_; first | (refine Ops.guard_dec rfl rfl (fun hc => ?_) (fun hc => ?_) <;> try (exfalso; omega)) | refine Ops.guard_split rfl rfl (fun hc => ?_) (fun hc => ?_)) | refine goI ?_ | (refine Cw.k_cond ?_; first | (refine Cw.cond_dec rfl (fun hc => ?_) (fun hc => ?_) <;> try (exfalso; omega)) | refine Cw.cond_bool rfl (fun hc => ?_) (fun hc => ?_)) | fail)
      all_goals exact Fin.ret (Ent.take goTk) (Outs.one rfl rfl) ⟨by rw [hV], rfl⟩
    · rw [if_pos (by omega)] at hV
      repeat' (first | refine goH ?_ | refine goV ?_ | refine goB (fun b => ?_) | refine goG ?_ | (refine Ops.k_guard ?_; first | (refine Ops.guard_dec rfl rfl (fun hc => ?_) (fun hc => ?_) <;> try (exfalso; omega)) | refine Ops.guard_split rfl rfl (fun hc => ?_) (fun hc => ?_)) | refine goI ?_ | (refine Cw.k_cond ?_; first | (refine Cw.cond_dec rfl (fun hc => ?_) (fun hc => ?_) <;> try (exfalso; omega)) | refine Cw.cond_bool rfl (fun hc => ?_) (fun hc => ?_)) | fail)
      all_goals exact Fin.ret (Ent.take goTk) (Outs.one rfl rfl) ⟨by rw [hV], rfl⟩
  obtain ⟨x, hx⟩ := at_lt hkl
  have hrow : (l.map Ln.row)[k]? = some [.str x.acc, .int x.c] := rows_at hx
  have k1 := keyOf_fn x.acc
  have kO := out_fn x.c (-1000000000) 1000000000
  unfold outB at kO
  have kc := fun b => containsFunc_ln (cin := [Chunk.box b 57 x.row]) (caps := [.pointer (some ⟨b, 0, none⟩)]) (g := 86) (p := fun y => decide (y.acc = x.acc)) (l := l.take k) (by rw [List.length_take]; omega) (fun y _ => entry1R_fn y x b _)
  have htk : (l.take k).map Ln.row = (l.map Ln.row).take k := List.map_take
  rw [htk] at kc
  unfold Ln.row at kc
  have htd : ((l.take k).any fun y => decide (y.acc = x.acc)) = twL l k x := by with_unfolding_all rfl
  rw [htd] at kc
  have F := lnF hx hV hkl
  have hnx := sumC_take hx
  rw [← hs] at hnx
  generalize twL l k x = tw at *
  generalize isKey x.acc = q at *
  clear hV hx htd hs
  cases q
  · have hE := F.e5 rfl
    clear F
    repeat' (first | refine goH ?_ | refine goV ?_ | refine goB (fun b => ?_) | refine goG ?_ | (refine Ops.k_guard ?_; first | (refine Ops.guard_dec rfl rfl (fun hc => ?_) (fun hc => ?_) <;> try (exfalso; omega)) | refine Ops.guard_split rfl rfl (fun hc => ?_) (fun hc => ?_)) | refine goI ?_ | (refine Cw.k_cond ?_; first | (refine Cw.cond_dec rfl (fun hc => ?_) (fun hc => ?_) <;> try (exfalso; omega)) | refine Cw.cond_bool rfl (fun hc => ?_) (fun hc => ?_)) | (refine Ops.k_calla ?_; first | (refine Ops.k_callf 67 ?_; refine Ops.callV k1 (Evs.cons rfl Evs.nil) rfl ?_)) | fail)
    all_goals exact Fin.ret (Ent.take goTk) (Outs.one rfl rfl) ⟨by rw [hE], rfl⟩
  cases tw
  rotate_left
  · have hE := F.e6 rfl rfl
    clear F
    repeat' (first | refine goH ?_ | refine goV ?_ | refine goB (fun b => ?_) | refine goG ?_ | (refine Ops.k_guard ?_; first | (refine Ops.guard_dec rfl rfl (fun hc => ?_) (fun hc => ?_) <;> try (exfalso; omega)) | refine Ops.guard_split rfl rfl (fun hc => ?_) (fun hc => ?_)) | refine goI ?_ | (refine Cw.k_cond ?_; first | (refine Cw.cond_dec rfl (fun hc => ?_) (fun hc => ?_) <;> try (exfalso; omega)) | refine Cw.cond_bool rfl (fun hc => ?_) (fun hc => ?_)) | (refine Ops.k_calla ?_; first | (refine Ops.k_callf 67 ?_; refine Ops.callV k1 (Evs.cons rfl Evs.nil) rfl ?_) | (refine Ops.k_callf 79 ?_; refine Ops.callS (kc _) (Evs.cons rfl (Evs.cons rfl Evs.nil)) goPm rfl ?_)) | fail)
    all_goals exact Fin.ret (Ent.take goTk) (Outs.one rfl rfl) ⟨by rw [hE], rfl⟩
  by_cases hc : x.c = 0 ∨ x.c < -1000000000 ∨ 1000000000 < x.c
  · have hE := F.e1 rfl rfl hc
    clear F
    repeat' (first | refine goH ?_ | refine goV ?_ | refine goB (fun b => ?_) | refine goG ?_ | (refine Ops.k_guard ?_; first | (refine Ops.guard_dec rfl rfl (fun hc => ?_) (fun hc => ?_) <;> try (exfalso; omega)) | refine Ops.guard_split rfl rfl (fun hc => ?_) (fun hc => ?_)) | refine goI ?_ | (refine Cw.k_cond ?_; first | (refine Cw.cond_dec rfl (fun hc => ?_) (fun hc => ?_) <;> try (exfalso; omega)) | refine Cw.cond_bool rfl (fun hc => ?_) (fun hc => ?_)) | (refine Ops.k_calla ?_; first | (refine Ops.k_callf 67 ?_; refine Ops.callV k1 (Evs.cons rfl Evs.nil) rfl ?_) | (refine Ops.k_callf 79 ?_; refine Ops.callS (kc _) (Evs.cons rfl (Evs.cons rfl Evs.nil)) goPm rfl ?_) | (refine Ops.k_callf 49 ?_; refine Ops.callV kO (Evs.cons rfl (Evs.cons rfl (Evs.cons rfl Evs.nil))) rfl ?_)) | fail)
    all_goals exact Fin.ret (Ent.take goTk) (Outs.one rfl rfl) ⟨by rw [hE], rfl⟩
  · have hE := F.ok rfl rfl hc
    clear F
    repeat' (first | refine goH ?_ | refine goV ?_ | refine goB (fun b => ?_) | refine goG ?_ | (refine Ops.k_guard ?_; first | (refine Ops.guard_dec rfl rfl (fun hc => ?_) (fun hc => ?_) <;> try (exfalso; omega)) | refine Ops.guard_split rfl rfl (fun hc => ?_) (fun hc => ?_)) | refine goI ?_ | (refine Cw.k_cond ?_; first | (refine Cw.cond_dec rfl (fun hc => ?_) (fun hc => ?_) <;> try (exfalso; omega)) | refine Cw.cond_bool rfl (fun hc => ?_) (fun hc => ?_)) | (refine Ops.k_calla ?_; first | (refine Ops.k_callf 67 ?_; refine Ops.callV k1 (Evs.cons rfl Evs.nil) rfl ?_) | (refine Ops.k_callf 79 ?_; refine Ops.callS (kc _) (Evs.cons rfl (Evs.cons rfl Evs.nil)) goPm rfl ?_) | (refine Ops.k_callf 49 ?_; refine Ops.callV kO (Evs.cons rfl (Evs.cons rfl (Evs.cons rfl Evs.nil))) rfl ?_)) | fail)
    all_goals exact ⟨_, _, _, (Ent.mk goSub goTk), ⟨k + 1, s + x.c, rfl, ⟨by omega, hE, hnx.symm, by omega, by omega⟩, rfl, rfl⟩, by omega⟩
end Lg
