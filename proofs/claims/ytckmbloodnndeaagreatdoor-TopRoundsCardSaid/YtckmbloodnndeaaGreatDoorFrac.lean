/- A part of the proof of a law of this seat: it adds no condition. By an AI agent. -/
import Derived.Test.YtckmbloodnndeaaGreatDoorRb6
section
set_option linter.all false
set_option maxRecDepth 100000
set_option maxHeartbeats 8000000
namespace Lg
open Go Go.Proofs

/-! ### the best route is no longer than another one -/
theorem farI_ge (a b : Spot) : 0 ≤ farI a b := by unfold farI; omega
theorem itF_keep {σ : Type} {P : σ → Prop} {f : Nat → σ → σ} {D : Nat} (hk : ∀ k s, k < D → P s → P (f k s)) : ∀ (n i : Nat) (s : σ), i + n ≤ D → P s → P (itF f i n s)
  | 0, _, _, _, h => h
  | n + 1, i, s, hd, h => itF_keep hk n (i + 1) _ (by omega) (hk i s (by omega) h)
theorem itF_hit {σ : Type} {P : σ → Prop} {f : Nat → σ → σ} {D k : Nat} (hk : ∀ k s, k < D → P s → P (f k s)) (hh : ∀ s, P (f k s)) : ∀ (n i : Nat) (s : σ), i + n ≤ D → i ≤ k → k < i + n → P (itF f i n s)
  | 0, i, s, hd, h1, h2 => by omega
  | n + 1, i, s, hd, h1, h2 => by
    rw [itF]
    by_cases h : i = k
    · subst h
      exact itF_keep hk n (i + 1) _ (by omega) (hh s)
    · exact itF_hit hk hh n (i + 1) _ (by omega) (by omega) (by omega)
theorem drvP_way {l : List Stop} : ∀ (o : List Int) (a : Spot) (now w : Int) (r : Spot × Int × Int), drvP l o a now w = some r → w ≤ r.2.2
  | [], a, now, w, r, h => by rw [drvP] at h; cases h; exact Int.le_refl _
  | i :: o, a, now, w, r, h => by
    rw [drvP] at h
    cases hs : l[i.toNat]? with
    | none => rw [hs] at h; cases h
    | some s =>
      rw [hs] at h
      simp only at h
      by_cases hc : s.t < max (now + farI a s.spot) s.f
      · rw [if_pos hc] at h; cases h
      · rw [if_neg hc] at h
        have := drvP_way o _ _ _ _ h
        have := farI_ge a s.spot
        omega
def leS (B : Int) (st : BS) : Prop := 0 ≤ st.2 ∧ st.2 ≤ B
theorem tryR_keep {l : List Stop} {h : Spot} {s B : Int} : ∀ (n : Nat) (pre : List Int) (st : BS), leS B st → leS B (tryR l h s n pre st)
  | 0, pre, st, hB => by
    rw [tryR]
    cases hd : drvP l pre h s 0 with
    | none => exact hB
    | some r =>
      obtain ⟨a, now, w⟩ := r
      have h1 := drvP_way _ _ _ _ _ hd
      have h2 := farI_ge a h
      simp only at h1 ⊢
      unfold leS at hB ⊢
      split
      · simp only; omega
      · exact hB
  | n + 1, pre, st, hB => by
    rw [tryR]
    cases hd : drvP l pre h s 0 with
    | none => exact hB
    | some r =>
      try simp only
      refine itF_keep (D := l.length) (fun k s hk hs => ?_) _ _ _ (by omega) hB
      try simp only
      split
      · exact hs
      · exact tryR_keep n _ _ hs
theorem drvP_head {l : List Stop} {h : Spot} {s : Int} : ∀ (t pre : List Int), drvP l (pre ++ t) h s 0 ≠ none → drvP l pre h s 0 ≠ none
  | [], pre, hn => by rw [List.append_nil] at hn; exact hn
  | i :: t, pre, hn => by
    have h1 := drvP_head t (pre ++ [i]) (by rw [List.append_assoc]; exact hn)
    intro h2
    rw [drvP_snoc, h2] at h1
    exact h1 rfl
theorem tryR_le {l : List Stop} {h : Spot} {s : Int} {a : Spot} {now w : Int} : ∀ (n : Nat) (t pre : List Int) (st : BS), t.length = n → drvP l (pre ++ t) h s 0 = some (a, now, w) → (∀ i ∈ t, 0 ≤ i ∧ i < l.length) → (pre ++ t).Nodup → leS (w + farI a h) (tryR l h s n pre st)
  | 0, t, pre, st, ht, hd, hb, hn => by
    have : t = [] := List.length_eq_zero_iff.1 ht
    subst this
    rw [List.append_nil] at hd
    rw [tryR, hd]
    have h1 := drvP_way _ _ _ _ _ hd
    have h2 := farI_ge a h
    simp only at h1 ⊢
    unfold leS
    split
    · simp only; omega
    · omega
  | n + 1, [], pre, st, ht, hd, hb, hn => by simp at ht
  | n + 1, i :: t, pre, st, ht, hd, hb, hn => by
    rw [tryR]
    have h0 := drvP_head (i :: t) pre (by rw [hd]; exact fun e => by cases e)
    cases hp : drvP l pre h s 0 with
    | none => exact absurd hp h0
    | some r =>
      try simp only
      have hi := hb i (by simp)
      have hik : ((i.toNat : Nat) : Int) = i := by omega
      have hni : i ∉ pre := fun hm => by
        rw [List.nodup_append] at hn
        exact hn.2.2 i hm i (by simp) rfl
      refine itF_hit (D := l.length) (k := i.toNat) (fun k s hk hs => ?_) (fun st => ?_) _ _ _ (by omega) (by omega) (by omega)
      · try simp only
        split
        · exact hs
        · exact tryR_keep n _ _ hs
      · try simp only
        rw [hik, if_neg hni]
        refine tryR_le n t (pre ++ [i]) st (by simpa using ht) (by rw [List.append_assoc]; exact hd) (fun j hj => hb j (by simp [hj])) (by rw [List.append_assoc]; exact hn)
def fullS (n : Nat) (st : BS) : Prop := st.2 < 0 ∨ st.1.length = n
theorem tryR_full {l : List Stop} {h : Spot} {s : Int} {m : Nat} : ∀ (n : Nat) (pre : List Int) (st : BS), pre.length + n = m → fullS m st → fullS m (tryR l h s n pre st)
  | 0, pre, st, hm, hB => by
    rw [tryR]
    cases hd : drvP l pre h s 0 with
    | none => exact hB
    | some r =>
      obtain ⟨a, now, w⟩ := r
      try simp only
      split
      · exact .inr hm
      · exact hB
  | n + 1, pre, st, hm, hB => by
    rw [tryR]
    cases hd : drvP l pre h s 0 with
    | none => exact hB
    | some r =>
      try simp only
      refine itF_keep (D := l.length) (fun k s hk hs => ?_) _ _ _ (by omega) hB
      try simp only
      split
      · exact hs
      · exact tryR_full n _ _ (by rw [List.length_append]; simp; omega) hs
/-- stops that are near and open all day -/
def easyS (s : Stop) : Prop := s.f = 0 ∧ s.t = 1440 ∧ s.n = 5 ∧ 0 ≤ s.x ∧ s.x ≤ 50 ∧ -5 ≤ s.y ∧ s.y ≤ 5
def easyP (a : Spot) : Prop := 0 ≤ a.x ∧ a.x ≤ 50 ∧ -5 ≤ a.y ∧ a.y ≤ 5
theorem easy_far {a b : Spot} (ha : easyP a) (hb : easyP b) : farI a b ≤ 60 := by
  unfold easyP at ha hb
  unfold farI
  omega
theorem easy_spot {s : Stop} (h : easyS s) : easyP s.spot := ⟨h.2.2.2.1, h.2.2.2.2.1, h.2.2.2.2.2.1, h.2.2.2.2.2.2⟩
section easy
variable {l : List Stop} (he : ∀ s ∈ l, easyS s)
include he
theorem drvP_easy : ∀ (o : List Int) (a : Spot) (now w : Int), (∀ i ∈ o, 0 ≤ i ∧ i < l.length) → easyP a → 0 ≤ now → now + 65 * o.length ≤ 1400 → ∃ a2 now2 w2, drvP l o a now w = some (a2, now2, w2) ∧ easyP a2 ∧ 0 ≤ now2 ∧ now2 ≤ now + 65 * o.length ∧ w2 ≤ w + 60 * o.length
  | [], a, now, w, hi, ha, h0, h1 => ⟨a, now, w, by rw [drvP], ha, h0, by simp, by simp⟩
  | i :: o, a, now, w, hi, ha, h0, h1 => by
    obtain ⟨h2, h3⟩ := hi i (by simp)
    obtain ⟨s, hs⟩ := at_lt (l := l) (k := i.toNat) (by omega)
    have hse := he s (List.mem_of_getElem? hs)
    have hf := easy_far ha (easy_spot hse)
    have hg := farI_ge a s.spot
    obtain ⟨e1, e2, e3, _⟩ := id hse
    rw [List.length_cons] at h1 ⊢
    obtain ⟨a2, now2, w2, q1, q2, q3, q4, q5⟩ := drvP_easy o s.spot (max (now + farI a s.spot) s.f + s.n) (w + farI a s.spot) (fun j hj => hi j (by simp [hj])) (easy_spot hse) (by omega) (by omega)
    exact ⟨a2, now2, w2, by rw [drvP, hs]; simp only; rw [if_neg (by omega)]; exact q1, q2, q3, by omega, by omega⟩
theorem nrN_full {out : List Int} {a : Spot} {now : Int} (ha : easyP a) (hn : 0 ≤ now ∧ now ≤ 1000) (hl : out.length < l.length) : 0 ≤ nrN l out a now := by
  have hx : ∃ k : Nat, k < l.length ∧ (k : Int) ∉ out := by
    apply Classical.byContradiction
    intro hc
    have := nd_len (l := (List.range l.length).map fun (k : Nat) => (k : Int)) (m := out) (by
      rw [List.Nodup, List.pairwise_map]
      exact List.Pairwise.imp (fun h e => h (by omega)) (List.nodup_range (n := l.length))) (fun y hy => by
      obtain ⟨k, hk, rfl⟩ := List.mem_map.1 hy
      apply Classical.byContradiction
      intro h
      exact hc ⟨k, List.mem_range.1 hk, h⟩)
    rw [List.length_map, List.length_range] at this
    omega
  obtain ⟨k, hk, hko⟩ := hx
  obtain ⟨x, hxk⟩ := at_lt hk
  have hse := he x (List.mem_of_getElem? hxk)
  have hf := easy_far ha (easy_spot hse)
  refine itF_hit (P := fun n => 0 ≤ n) (D := l.length) (k := k) (fun j s hj hs => ?_) (fun s => ?_) _ _ _ (by omega) (by omega) (by omega)
  · unfold nrK
    cases hy : l[j]? with
    | none => exact hs
    | some y =>
      try simp only
      split
      · omega
      · exact hs
  · unfold nrK
    rw [hxk]
    try simp only
    split
    · omega
    · rename_i h
      apply Classical.byContradiction
      intro h2
      exact h ⟨hko, by rw [hse.2.1]; omega, .inl (by omega)⟩
theorem nrR_easy {h : Spot} (hh : easyP h) (hl : l.length ≤ 10) : ∀ (n : Nat) (out : List Int) (a : Spot) (now w : Int), ordersE l.length out = 0 → drvP l out h 0 0 = some (a, now, w) → easyP a → 0 ≤ now → now ≤ 65 * out.length → l.length ≤ out.length + n → ordersE l.length (nrR l n out a now) = 0 ∧ (nrR l n out a now).length = l.length
  | 0, out, a, now, w, ho, hd, ha, h0, h1, h2 => by
    have := ord_len ho
    rw [nrR]
    exact ⟨ho, by omega⟩
  | n + 1, out, a, now, w, ho, hd, ha, h0, h1, h2 => by
    have hol := ord_len ho
    by_cases hlt : out.length < l.length
    · have hN := nrN_full he ha (now := now) (by omega) hlt
      rcases nrN_ok (l := l) (out := out) (a := a) (now := now) with e | ⟨c1, c2, c3, x, c4, c5⟩
      · omega
      · have hse := he x (List.mem_of_getElem? c4)
        have hf := easy_far ha (easy_spot hse)
        have hg := farI_ge a x.spot
        rw [nrR_step (by omega) c4]
        have hk : ((nrN l out a now).toNat : Int) = nrN l out a now := by omega
        have hd2 := drvP_next hd c4 (by rw [hse.1, hse.2.1]; omega)
        rw [if_pos c5, hk] at hd2
        have ho2 := ord_snoc (k := (nrN l out a now).toNat) ho (by omega) (by rw [hk]; exact c3)
        rw [hk] at ho2
        obtain ⟨e1, e2, e3, _⟩ := id hse
        refine nrR_easy hh hl n _ _ _ _ ho2 hd2 (easy_spot hse) (by omega) ?_ ?_
        · rw [List.length_append]
          simp only [List.length_cons, List.length_nil]
          omega
        · rw [List.length_append]
          simp only [List.length_cons, List.length_nil]
          omega
    · rcases nrN_ok (l := l) (out := out) (a := a) (now := now) with e | ⟨c1, c2, c3, _⟩
      · rw [nrR_end (by omega)]
        exact ⟨ho, by omega⟩
      · exfalso
        have hk : ((nrN l out a now).toNat : Int) = nrN l out a now := by omega
        have ho2 := ord_snoc (k := (nrN l out a now).toNat) ho (by omega) (by rw [hk]; exact c3)
        have := ord_len ho2
        rw [List.length_append] at this
        simp only [List.length_cons, List.length_nil] at this
        omega
/-- the two routes and their ways -/
theorem best_near {h : Spot} (hh : easyP h) (hl : l.length ≤ 8) :
    ∃ a now w, drvP l (nrR l (l.length + 1) [] h 0) h 0 0 = some (a, now, w) ∧ ordersE l.length (nrR l (l.length + 1) [] h 0) = 0 ∧ (nrR l (l.length + 1) [] h 0).length = l.length ∧ (bestS l h 0).1.length = l.length ∧ 0 ≤ (bestS l h 0).2 ∧ (bestS l h 0).2 ≤ w + farI a h := by
  obtain ⟨h1, h2⟩ := nrR_easy he hh (by omega) (l.length + 1) [] h 0 0 (ordersE_iff.2 ⟨by simp, by simp⟩) (by rw [drvP]) hh (by omega) (by simp) (by simp)
  generalize nrR l (l.length + 1) [] h 0 = o at *
  obtain ⟨i1, i2⟩ := ordersE_iff.1 h1
  obtain ⟨a, now, w, q1, _⟩ := drvP_easy he o h 0 0 i1 hh (by omega) (by omega)
  have := tryR_le l.length o [] ([], -1) h2 q1 i1 i2
  have hf : fullS l.length (bestS l h 0) := tryR_full l.length [] ([], -1) (by simp) (.inl (by decide))
  refine ⟨a, now, w, q1, h1, h2, ?_, this.1, this.2⟩
  rcases hf with e | e
  · have := this.1
    unfold bestS at e
    omega
  · exact e
end easy
end Lg
end
section
set_option linter.all false
set_option maxRecDepth 100000
set_option maxHeartbeats 2000000
namespace Lg
open Go Go.Proofs
def orI : List Int → Int
  | [] => 0
  | x :: l => if x ≠ 0 then x else orI l
theorem orI_cons (x : Int) (l : List Int) : orI (x :: l) = if x ≠ 0 then x else orI l := rfl
theorem cmpOr_fn (l : List Int) (hl : l.length ≤ 1000) : PFn Tryz.prog 64 [.ints l] (· = .int (orI l)) := by
  refine PFn.mk (Spec.body Tryz.func64 rfl rfl (Tryz.ntmps64) rfl fun w0 own0 M => ?_)
  have hL := intRows_len l
  repeat' (first | refine Ops.nil ?_ | refine Then.norm ?_ | refine Cw.seq ?_ | refine Cw.region ?_ | refine Cw.block ?_ | refine Cw.exit ?_ | refine Cw.skip ?_ | refine Cw.ret ?_ | refine Then.exit ?_ | refine Then.ret ?_ | refine InB.exit ?_ | refine InB.norm ?_ | refine InB.ret ?_ | refine InB.exit_ne rfl ?_ | (refine Ops.k_move ?_; first | refine Ops.move rfl rfl ?_ | refine Ops.move_any rfl ?_) | (refine Ops.k_assign ?_; first | refine Ops.assign rfl rfl ?_ | refine Ops.assign_any rfl ?_) | (refine Ops.k_load ?_; first | refine Ops.load_ref_one rfl rfl ?_ | refine Ops.load_ref_agg rfl rfl rfl ?_ | refine Ops.load_box_one rfl goPk rfl rfl ?_ | refine Ops.load_box_agg rfl goPk rfl rfl ?_ | refine Ops.load_own_one rfl goPk (by first | rfl | assumption | (simp [*]; done)) rfl rfl ?_ | refine Ops.load_own_agg rfl goPk (by first | rfl | assumption | (simp [*]; done)) rfl ?_ | refine Ops.load_box_part rfl goPk rfl rfl rfl ?_ | refine Ops.load_q_one rfl goPk (by first | rfl | assumption | (simp [*]; done)) rfl rfl ?_) | (refine Ops.k_c_len ?_; first | refine Ops.len_raw rfl rfl ?_ | refine Ops.len_sl rfl rfl ?_ | refine Ops.len_str rfl rfl rfl ?_ | refine Ops.len_q rfl rfl ?_) | (refine Ops.k_b_lss ?_; first | refine Ops.lss rfl rfl rfl ?_) | (refine Ops.k_b_neq ?_; first | refine Ops.neq rfl rfl rfl ?_) | (refine Ops.k_b_add ?_; first | refine Ops.add rfl rfl (by first | omega | (simp; done) | (simp; omega)) rfl ?_) | (refine Ops.k_indexAddr ?_; first | refine Ops.indexAddr_sl rfl rfl (by omega) (by first | rfl | assumption | (simp [*]; done)) rfl ?_ | refine Ops.indexAddr_own rfl rfl goPk (by first | rfl | omega | (simp; done) | (simp; omega)) (by first | omega | (simp; done) | (simp; omega)) (by first | omega | (simp; done) | (simp; omega)) rfl ?_ | refine Ops.indexAddr_q rfl rfl goPk (by first | rfl | omega | (simp; done) | (simp; omega)) (by first | omega | (simp; done) | (simp; omega)) (by first | omega | (simp; done) | (simp; omega)) rfl ?_) | (refine Cw.k_cond ?_; first | refine Cw.cond_true rfl ?_ | refine Cw.cond_false rfl ?_ | (refine Cw.cond_dec rfl (fun hc => ?_) (fun hc => ?_) <;> try (exfalso; omega)) | refine Cw.cond_bool rfl (fun hc => ?_) (fun hc => ?_)))
  refine Cw.loop (ι := Nat) (fun k => k ≤ l.length ∧ orI (l.drop k) = orI l) (fun k => [(3, .int 0), (6, .ints l), (7, .int (intRows l).length), (8, .int k)]) (fun _ => []) (fun k => l.length - k) ⟨0, ⟨by omega, rfl⟩, (Ent.mk goSub goTk)⟩ ?_
  rintro k ⟨hk, h1⟩
  by_cases hkl : k < l.length
  · obtain ⟨x, hx⟩ := at_lt hkl
    have hrow := intRows_at hx
    rw [drop_at hx, orI_cons] at h1
    by_cases hz : x = 0
    · rw [if_neg (by omega)] at h1
      repeat' (first | refine Ops.nil ?_ | refine Then.norm ?_ | refine Cw.seq ?_ | refine Cw.region ?_ | refine Cw.block ?_ | refine Cw.exit ?_ | refine Cw.skip ?_ | refine Cw.ret ?_ | refine Then.exit ?_ | refine Then.ret ?_ | refine InB.exit ?_ | refine InB.norm ?_ | refine InB.ret ?_ | refine InB.exit_ne rfl ?_ | (refine Ops.k_move ?_; first | refine Ops.move rfl rfl ?_ | refine Ops.move_any rfl ?_) | (refine Ops.k_assign ?_; first | refine Ops.assign rfl rfl ?_ | refine Ops.assign_any rfl ?_) | (refine Ops.k_load ?_; first | refine Ops.load_ref_one rfl rfl ?_ | refine Ops.load_ref_agg rfl rfl rfl ?_ | refine Ops.load_box_one rfl goPk rfl rfl ?_ | refine Ops.load_box_agg rfl goPk rfl rfl ?_ | refine Ops.load_own_one rfl goPk (by first | rfl | assumption | (simp [*]; done)) rfl rfl ?_ | refine Ops.load_own_agg rfl goPk (by first | rfl | assumption | (simp [*]; done)) rfl ?_ | refine Ops.load_box_part rfl goPk rfl rfl rfl ?_ | refine Ops.load_q_one rfl goPk (by first | rfl | assumption | (simp [*]; done)) rfl rfl ?_) | (refine Ops.k_c_len ?_; first | refine Ops.len_raw rfl rfl ?_ | refine Ops.len_sl rfl rfl ?_ | refine Ops.len_str rfl rfl rfl ?_ | refine Ops.len_q rfl rfl ?_) | (refine Ops.k_b_lss ?_; first | refine Ops.lss rfl rfl rfl ?_) | (refine Ops.k_b_neq ?_; first | refine Ops.neq rfl rfl rfl ?_) | (refine Ops.k_b_add ?_; first | refine Ops.add rfl rfl (by first | omega | (simp; done) | (simp; omega)) rfl ?_) | (refine Ops.k_indexAddr ?_; first | refine Ops.indexAddr_sl rfl rfl (by omega) (by first | rfl | assumption | (simp [*]; done)) rfl ?_ | refine Ops.indexAddr_own rfl rfl goPk (by first | rfl | omega | (simp; done) | (simp; omega)) (by first | omega | (simp; done) | (simp; omega)) (by first | omega | (simp; done) | (simp; omega)) rfl ?_ | refine Ops.indexAddr_q rfl rfl goPk (by first | rfl | omega | (simp; done) | (simp; omega)) (by first | omega | (simp; done) | (simp; omega)) (by first | omega | (simp; done) | (simp; omega)) rfl ?_) | (refine Cw.k_cond ?_; first | refine Cw.cond_true rfl ?_ | refine Cw.cond_false rfl ?_ | (refine Cw.cond_dec rfl (fun hc => ?_) (fun hc => ?_) <;> try (exfalso; omega)) | refine Cw.cond_bool rfl (fun hc => ?_) (fun hc => ?_)))
      exact ⟨k + 1, ⟨by omega, h1⟩, by omega, (Ent.mk goSub goTk)⟩
    · rw [if_pos hz] at h1
      repeat' (first | refine Ops.nil ?_ | refine Then.norm ?_ | refine Cw.seq ?_ | refine Cw.region ?_ | refine Cw.block ?_ | refine Cw.exit ?_ | refine Cw.skip ?_ | refine Cw.ret ?_ | refine Then.exit ?_ | refine Then.ret ?_ | refine InB.exit ?_ | refine InB.norm ?_ | refine InB.ret ?_ | refine InB.exit_ne rfl ?_ | (refine Ops.k_move ?_; first | refine Ops.move rfl rfl ?_ | refine Ops.move_any rfl ?_) | (refine Ops.k_assign ?_; first | refine Ops.assign rfl rfl ?_ | refine Ops.assign_any rfl ?_) | (refine Ops.k_load ?_; first | refine Ops.load_ref_one rfl rfl ?_ | refine Ops.load_ref_agg rfl rfl rfl ?_ | refine Ops.load_box_one rfl goPk rfl rfl ?_ | refine Ops.load_box_agg rfl goPk rfl rfl ?_ | refine Ops.load_own_one rfl goPk (by first | rfl | assumption | (simp [*]; done)) rfl rfl ?_ | refine Ops.load_own_agg rfl goPk (by first | rfl | assumption | (simp [*]; done)) rfl ?_ | refine Ops.load_box_part rfl goPk rfl rfl rfl ?_ | refine Ops.load_q_one rfl goPk (by first | rfl | assumption | (simp [*]; done)) rfl rfl ?_) | (refine Ops.k_c_len ?_; first | refine Ops.len_raw rfl rfl ?_ | refine Ops.len_sl rfl rfl ?_ | refine Ops.len_str rfl rfl rfl ?_ | refine Ops.len_q rfl rfl ?_) | (refine Ops.k_b_lss ?_; first | refine Ops.lss rfl rfl rfl ?_) | (refine Ops.k_b_neq ?_; first | refine Ops.neq rfl rfl rfl ?_) | (refine Ops.k_b_add ?_; first | refine Ops.add rfl rfl (by first | omega | (simp; done) | (simp; omega)) rfl ?_) | (refine Ops.k_indexAddr ?_; first | refine Ops.indexAddr_sl rfl rfl (by omega) (by first | rfl | assumption | (simp [*]; done)) rfl ?_ | refine Ops.indexAddr_own rfl rfl goPk (by first | rfl | omega | (simp; done) | (simp; omega)) (by first | omega | (simp; done) | (simp; omega)) (by first | omega | (simp; done) | (simp; omega)) rfl ?_ | refine Ops.indexAddr_q rfl rfl goPk (by first | rfl | omega | (simp; done) | (simp; omega)) (by first | omega | (simp; done) | (simp; omega)) (by first | omega | (simp; done) | (simp; omega)) rfl ?_) | (refine Cw.k_cond ?_; first | refine Cw.cond_true rfl ?_ | refine Cw.cond_false rfl ?_ | (refine Cw.cond_dec rfl (fun hc => ?_) (fun hc => ?_) <;> try (exfalso; omega)) | refine Cw.cond_bool rfl (fun hc => ?_) (fun hc => ?_)))
      exact Fin.ret Ent.refl (Outs.one rfl rfl) ⟨rfl, congrArg Tr.int h1⟩
  · rw [List.drop_eq_nil_of_le (by omega), orI] at h1
    repeat' (first | refine Ops.nil ?_ | refine Then.norm ?_ | refine Cw.seq ?_ | refine Cw.region ?_ | refine Cw.block ?_ | refine Cw.exit ?_ | refine Cw.skip ?_ | refine Cw.ret ?_ | refine Then.exit ?_ | refine Then.ret ?_ | refine InB.exit ?_ | refine InB.norm ?_ | refine InB.ret ?_ | refine InB.exit_ne rfl ?_ | (refine Ops.k_move ?_; first | refine Ops.move rfl rfl ?_ | refine Ops.move_any rfl ?_) | (refine Ops.k_assign ?_; first | refine Ops.assign rfl rfl ?_ | refine Ops.assign_any rfl ?_) | (refine Ops.k_load ?_; first | refine Ops.load_ref_one rfl rfl ?_ | refine Ops.load_ref_agg rfl rfl rfl ?_ | refine Ops.load_box_one rfl goPk rfl rfl ?_ | refine Ops.load_box_agg rfl goPk rfl rfl ?_ | refine Ops.load_own_one rfl goPk (by first | rfl | assumption | (simp [*]; done)) rfl rfl ?_ | refine Ops.load_own_agg rfl goPk (by first | rfl | assumption | (simp [*]; done)) rfl ?_ | refine Ops.load_box_part rfl goPk rfl rfl rfl ?_ | refine Ops.load_q_one rfl goPk (by first | rfl | assumption | (simp [*]; done)) rfl rfl ?_) | (refine Ops.k_c_len ?_; first | refine Ops.len_raw rfl rfl ?_ | refine Ops.len_sl rfl rfl ?_ | refine Ops.len_str rfl rfl rfl ?_ | refine Ops.len_q rfl rfl ?_) | (refine Ops.k_b_lss ?_; first | refine Ops.lss rfl rfl rfl ?_) | (refine Ops.k_b_neq ?_; first | refine Ops.neq rfl rfl rfl ?_) | (refine Ops.k_b_add ?_; first | refine Ops.add rfl rfl (by first | omega | (simp; done) | (simp; omega)) rfl ?_) | (refine Ops.k_indexAddr ?_; first | refine Ops.indexAddr_sl rfl rfl (by omega) (by first | rfl | assumption | (simp [*]; done)) rfl ?_ | refine Ops.indexAddr_own rfl rfl goPk (by first | rfl | omega | (simp; done) | (simp; omega)) (by first | omega | (simp; done) | (simp; omega)) (by first | omega | (simp; done) | (simp; omega)) rfl ?_ | refine Ops.indexAddr_q rfl rfl goPk (by first | rfl | omega | (simp; done) | (simp; omega)) (by first | omega | (simp; done) | (simp; omega)) (by first | omega | (simp; done) | (simp; omega)) rfl ?_) | (refine Cw.k_cond ?_; first | refine Cw.cond_true rfl ?_ | refine Cw.cond_false rfl ?_ | (refine Cw.cond_dec rfl (fun hc => ?_) (fun hc => ?_) <;> try (exfalso; omega)) | refine Cw.cond_bool rfl (fun hc => ?_) (fun hc => ?_)))
    exact Fin.ret Ent.refl (Outs.one rfl rfl) ⟨rfl, congrArg Tr.int h1⟩
end Lg
end
section
set_option linter.all false
set_option maxRecDepth 100000
set_option maxHeartbeats 1000000
namespace Lg
open Go Go.Proofs

def gcdI (a b : Int) : Int := (Nat.gcd a.natAbs b.natAbs : Nat)
theorem gcdI_pos {a b : Int} (h : 1 ≤ b) : 1 ≤ gcdI a b := by
  unfold gcdI
  have : 0 < Nat.gcd a.natAbs b.natAbs := Nat.gcd_pos_of_pos_right _ (by omega)
  omega
structure Frac where
  num : Int
  den : Int
def Frac.row (f : Frac) : List Tr := [Tr.int f.num, Tr.int f.den]
def frac (num den : Int) : Frac := ⟨num.tdiv (gcdI num den), den / (gcdI num den)⟩

theorem nat_gcd_step (m n : Nat) : Nat.gcd n (m % n) = Nat.gcd m n := by
  rw [Nat.gcd_comm n, ← Nat.gcd_rec, Nat.gcd_comm]

theorem gcd_fn (a b : Int) (ha : 0 ≤ a) (hb : 0 ≤ b) : PFn Tryz.prog 83 [.int a, .int b] (· = .int (gcdI a b)) := by
  obtain ⟨m, rfl⟩ := Int.eq_ofNat_of_zero_le ha
  obtain ⟨n, rfl⟩ := Int.eq_ofNat_of_zero_le hb
  refine PFn.mk (Spec.body Tryz.func83 rfl rfl (Tryz.ntmps83) rfl fun w0 own0 M => ?_)
  repeat' (first | refine Ops.nil ?_ | refine Then.norm ?_ | refine Cw.seq ?_ | refine Cw.region ?_ | refine Cw.block ?_ | refine Cw.exit ?_ | refine Cw.skip ?_ | refine Cw.ret ?_ | refine Then.exit ?_ | refine Then.ret ?_ | refine InB.exit ?_ | refine InB.norm ?_ | refine InB.ret ?_ | refine InB.exit_ne rfl ?_ | (refine Ops.k_move ?_; first | refine Ops.move rfl rfl ?_ | refine Ops.move_any rfl ?_) | (refine Ops.k_assign ?_; first | refine Ops.assign rfl rfl ?_ | refine Ops.assign_any rfl ?_) | (refine Ops.k_b_neq ?_; first | refine Ops.neq rfl rfl rfl ?_) | (refine Ops.k_b_rem ?_; first | refine Ops.rem rfl rfl (by omega) rfl ?_ | refine Ops.remT rfl rfl (by omega) rfl ?_) | (refine Cw.k_cond ?_; first | refine Cw.cond_true rfl ?_ | refine Cw.cond_false rfl ?_ | (refine Cw.cond_dec rfl (fun hc => ?_) (fun hc => ?_) <;> try (exfalso; omega)) | refine Cw.cond_bool rfl (fun hc => ?_) (fun hc => ?_)) | (refine Cw.k_draw ?_; first | refine Cw.region_seqC rfl (by decide +kernel) rfl ?_ | refine Cw.region_seq rfl (by decide +kernel) rfl ?_) | refine PSeq.nil ?_ | apply PSeq.cons | apply PSeq.yes rfl rfl rfl | refine PSeq.no rfl rfl rfl ?_ | refine PSeq.pass rfl rfl rfl ?_ | (apply OpV.w; apply OpV.k_move; first | exact OpV.move rfl) | (apply OpV.w; apply OpV.k_assign; first | exact OpV.assign rfl) | (apply OpV.w; apply OpV.k_b_neq; first | exact OpV.neq_t rfl rfl (by omega) | exact OpV.neq_f rfl rfl (by omega) | exact OpV.neq rfl rfl) | (apply OpV.w; apply OpV.k_b_rem; first | exact OpV.rem rfl rfl (by omega) | exact OpV.remT rfl rfl (by omega)))
  refine Cw.loop (ι := Nat × Nat) (fun s => Nat.gcd s.1 s.2 = Nat.gcd m n) (fun s => [(0, .int s.1), (1, .int s.2)]) (fun _ => []) (fun s => s.2) ⟨(m, n), rfl, (Ent.mk goSub goTk)⟩ ?_
  rintro ⟨a, b⟩ h
  simp only at h ⊢
  by_cases hb : b = 0
  · subst hb
    repeat' (first | refine Ops.nil ?_ | refine Then.norm ?_ | refine Cw.seq ?_ | refine Cw.region ?_ | refine Cw.block ?_ | refine Cw.exit ?_ | refine Cw.skip ?_ | refine Cw.ret ?_ | refine Then.exit ?_ | refine Then.ret ?_ | refine InB.exit ?_ | refine InB.norm ?_ | refine InB.ret ?_ | refine InB.exit_ne rfl ?_ | (refine Ops.k_move ?_; first | refine Ops.move rfl rfl ?_ | refine Ops.move_any rfl ?_) | (refine Ops.k_assign ?_; first | refine Ops.assign rfl rfl ?_ | refine Ops.assign_any rfl ?_) | (refine Ops.k_b_neq ?_; first | refine Ops.neq rfl rfl rfl ?_) | (refine Ops.k_b_rem ?_; first | refine Ops.rem rfl rfl (by omega) rfl ?_ | refine Ops.remT rfl rfl (by omega) rfl ?_) | (refine Cw.k_cond ?_; first | refine Cw.cond_true rfl ?_ | refine Cw.cond_false rfl ?_ | (refine Cw.cond_dec rfl (fun hc => ?_) (fun hc => ?_) <;> try (exfalso; omega)) | refine Cw.cond_bool rfl (fun hc => ?_) (fun hc => ?_)) | (refine Cw.k_draw ?_; first | refine Cw.region_seqC rfl (by decide +kernel) rfl ?_ | refine Cw.region_seq rfl (by decide +kernel) rfl ?_) | refine PSeq.nil ?_ | apply PSeq.cons | apply PSeq.yes rfl rfl rfl | refine PSeq.no rfl rfl rfl ?_ | refine PSeq.pass rfl rfl rfl ?_ | (apply OpV.w; apply OpV.k_move; first | exact OpV.move rfl) | (apply OpV.w; apply OpV.k_assign; first | exact OpV.assign rfl) | (apply OpV.w; apply OpV.k_b_neq; first | exact OpV.neq_t rfl rfl (by omega) | exact OpV.neq_f rfl rfl (by omega) | exact OpV.neq rfl rfl) | (apply OpV.w; apply OpV.k_b_rem; first | exact OpV.rem rfl rfl (by omega) | exact OpV.remT rfl rfl (by omega)))
    refine Fin.ret Ent.refl (Outs.one rfl rfl) ⟨rfl, congrArg Tr.int ?_⟩
    rw [Nat.gcd_zero_right] at h
    unfold gcdI
    simp [h]
  · repeat' (first | refine Ops.nil ?_ | refine Then.norm ?_ | refine Cw.seq ?_ | refine Cw.region ?_ | refine Cw.block ?_ | refine Cw.exit ?_ | refine Cw.skip ?_ | refine Cw.ret ?_ | refine Then.exit ?_ | refine Then.ret ?_ | refine InB.exit ?_ | refine InB.norm ?_ | refine InB.ret ?_ | refine InB.exit_ne rfl ?_ | (refine Ops.k_move ?_; first | refine Ops.move rfl rfl ?_ | refine Ops.move_any rfl ?_) | (refine Ops.k_assign ?_; first | refine Ops.assign rfl rfl ?_ | refine Ops.assign_any rfl ?_) | (refine Ops.k_b_neq ?_; first | refine Ops.neq rfl rfl rfl ?_) | (refine Ops.k_b_rem ?_; first | refine Ops.rem rfl rfl (by omega) rfl ?_ | refine Ops.remT rfl rfl (by omega) rfl ?_) | (refine Cw.k_cond ?_; first | refine Cw.cond_true rfl ?_ | refine Cw.cond_false rfl ?_ | (refine Cw.cond_dec rfl (fun hc => ?_) (fun hc => ?_) <;> try (exfalso; omega)) | refine Cw.cond_bool rfl (fun hc => ?_) (fun hc => ?_)) | (refine Cw.k_draw ?_; first | refine Cw.region_seqC rfl (by decide +kernel) rfl ?_ | refine Cw.region_seq rfl (by decide +kernel) rfl ?_) | refine PSeq.nil ?_ | apply PSeq.cons | apply PSeq.yes rfl rfl rfl | refine PSeq.no rfl rfl rfl ?_ | refine PSeq.pass rfl rfl rfl ?_ | (apply OpV.w; apply OpV.k_move; first | exact OpV.move rfl) | (apply OpV.w; apply OpV.k_assign; first | exact OpV.assign rfl) | (apply OpV.w; apply OpV.k_b_neq; first | exact OpV.neq_t rfl rfl (by omega) | exact OpV.neq_f rfl rfl (by omega) | exact OpV.neq rfl rfl) | (apply OpV.w; apply OpV.k_b_rem; first | exact OpV.rem rfl rfl (by omega) | exact OpV.remT rfl rfl (by omega)))
    exact ⟨(b, a % b), by rw [nat_gcd_step]; exact h, Nat.mod_lt _ (by omega), (Ent.mk goSub goTk)⟩

theorem fraction_fn (a b : Int) (ha : -2000000000000000000 ≤ a ∧ a ≤ 2000000000000000000) (hb : 1 ≤ b ∧ b ≤ 2000000000000000000) : PFn Tryz.prog 53 [.int a, .int b] (· = .agg (frac a b).row) := by
  have hm : max a (-a) = a.natAbs := by omega
  have hg : gcdI (max a (-a)) b = gcdI a b := by rw [hm]; rfl
  have hp := gcdI_pos (a := a) hb.1
  have hf := gcd_fn (max a (-a)) b (by omega) (by omega)
  rw [hg] at hf
  refine PFn.mk (Spec.body Tryz.func53 rfl rfl (Tryz.ntmps53) rfl fun w0 own0 M => ?_)
  repeat' (first | refine Ops.nil ?_ | refine Then.norm ?_ | refine Cw.seq ?_ | refine Cw.region ?_ | refine Cw.block ?_ | refine Cw.exit ?_ | refine Cw.skip ?_ | refine Cw.ret ?_ | refine Then.exit ?_ | refine Then.ret ?_ | refine InB.exit ?_ | refine InB.norm ?_ | refine InB.ret ?_ | refine InB.exit_ne rfl ?_ | (refine Ops.k_move ?_; first | refine Ops.move rfl rfl ?_ | refine Ops.move_any rfl ?_) | (refine Ops.k_assign ?_; first | refine Ops.assign rfl rfl ?_ | refine Ops.assign_any rfl ?_) | (refine Ops.k_store ?_; first | refine Ops.store_box rfl rfl goPk rfl rfl ?_ | refine Ops.store_own1 rfl rfl goPk (by first | rfl | assumption | (simp [*]; done)) (by decide) ?_ | refine Ops.store_own_all rfl rfl goPk (by first | assumption | omega | (simp; omega) | (simp [*]; done)) rfl ?_) | (refine Ops.k_b_quo ?_; first | refine Ops.quo rfl rfl (by omega) rfl ?_ | refine Ops.quoT rfl rfl (by omega) rfl ?_) | (refine Ops.k_neg ?_; first | refine Ops.neg rfl (by omega) rfl ?_) | (refine Ops.k_c_max ?_; first | refine Ops.max2 rfl rfl rfl ?_) | (refine Ops.k_alloc ?_; first | refine Ops.alloc rfl (fun b => ?_)) | (refine Ops.k_build ?_; first | (refine Ops.k_build2 ?_; refine Ops.build (by exact Parts.cons rfl rfl rfl (by exact Parts.cons rfl rfl rfl (by exact Parts.nil))) rfl ?_)) | (refine Cw.k_cond ?_; first | refine Cw.cond_true rfl ?_ | refine Cw.cond_false rfl ?_ | (refine Cw.cond_dec rfl (fun hc => ?_) (fun hc => ?_) <;> try (exfalso; omega)) | refine Cw.cond_bool rfl (fun hc => ?_) (fun hc => ?_)) | (refine Ops.k_calla ?_; first | (refine Ops.k_callf 83 ?_; refine Ops.callV hf (Evs.cons rfl (Evs.cons rfl Evs.nil)) rfl ?_)) | (apply OpW.k_call; first | (apply OpW.k_callf 83; exact OpW.callV hf (Evs.cons rfl (Evs.cons rfl Evs.nil)))) | (refine Cw.k_draw ?_; first | refine Cw.region_seqC rfl (by decide +kernel) rfl ?_ | refine Cw.region_seq rfl (by decide +kernel) rfl ?_) | refine PSeq.nil ?_ | apply PSeq.cons | apply PSeq.yes rfl rfl rfl | refine PSeq.no rfl rfl rfl ?_ | refine PSeq.pass rfl rfl rfl ?_ | (apply OpV.w; apply OpV.k_move; first | exact OpV.move rfl) | (apply OpV.w; apply OpV.k_assign; first | exact OpV.assign rfl) | (apply OpV.w; apply OpV.k_b_quo; first | exact OpV.quo rfl rfl (by omega) | exact OpV.quoT rfl rfl (by omega)) | (apply OpV.w; apply OpV.k_neg; first | exact OpV.neg rfl (by omega)) | (apply OpV.w; apply OpV.k_c_max; first | exact OpV.max2 rfl rfl) | (apply OpV.w; apply OpV.k_build; first | (apply OpV.k_build2; exact OpV.build (by exact Parts.cons rfl rfl rfl (by exact Parts.cons rfl rfl rfl (by exact Parts.nil))))))
  refine Fin.ret (Ent.trans (Ent.setbox (s := 4) rfl goPk) (Ent.take goTk)) (Outs.sole rfl goOe) ⟨rfl, rfl⟩

end Lg
end
