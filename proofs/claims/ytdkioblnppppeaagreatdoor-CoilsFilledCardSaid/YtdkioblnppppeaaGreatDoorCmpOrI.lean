/- A part of the proof of a law of this seat: it adds no condition. By an AI agent. -/
import Derived.Test.YtdkioblnppppeaaGreatDoorLgSub3
import Derived.Test.YtdkioblnppppeaaGreatDoorAge2
section
set_option linter.all false
set_option maxRecDepth 100000
set_option maxHeartbeats 4000000
namespace Lg
open Go Go.Proofs




def cmpI (a b : Int) : Int := if a < b then -1 else if b < a then 1 else 0
theorem cmpI_lt (a b : Int) : (cmpI a b < 0) ↔ a < b := by unfold cmpI; split <;> (try split) <;> omega
theorem isNaN_fn (x : Int) : PFn Tryz.prog 59 [.int x] (· = .bool false) := by
  refine PFn.mk (Spec.body Tryz.func59 rfl rfl (Tryz.ntmps59) rfl fun w0 own0 M => ?_)
  repeat' (first | refine goH ?_ | (refine Ops.k_b_neq ?_; first | (refine Ops.val' rfl (OpV.neq_f rfl rfl (by omega)) ?_)) | refine goV ?_ | refine goI ?_ | (refine Cw.k_cond ?_; first | (refine Cw.cond_dec rfl (fun hc => ?_) (fun hc => ?_) <;> try (exfalso; omega)) | refine Cw.cond_bool rfl (fun hc => ?_) (fun hc => ?_)) | fail)
  exact Fin.ret (Ent.take goTk) (Outs.one rfl rfl) ⟨rfl, rfl⟩
theorem compare_fn (a b : Int) : PFn Tryz.prog 40 [.int a, .int b] (· = .int (cmpI a b)) := by
  refine PFn.mk (Spec.body Tryz.func40 rfl rfl (Tryz.ntmps40) rfl fun w0 own0 M => ?_)
  unfold cmpI
  repeat' (first | refine goH ?_ | refine goV ?_ | refine goI ?_ | (refine Cw.k_cond ?_; first | (refine Cw.cond_dec rfl (fun hc => ?_) (fun hc => ?_) <;> try (exfalso; omega)) | refine Cw.cond_bool rfl (fun hc => ?_) (fun hc => ?_)) | (refine Ops.k_calla ?_; first | (refine Ops.k_callf 59 ?_; refine Ops.callV (isNaN_fn _) (Evs.cons rfl Evs.nil) rfl ?_)) | fail)
  all_goals (refine Fin.ret (Ent.take goTk) (Outs.one rfl rfl) ⟨rfl, congrArg Tr.int ?_⟩)
  all_goals (repeat' split)
  all_goals omega
end Lg
end
section
set_option linter.all false
set_option maxRecDepth 100000
set_option maxHeartbeats 400000
namespace Lg
open Go Go.Proofs

/-! ### pieces put together; units (plain) -/
def joinS (out : List Piece) (p : Piece) : List Piece := match out.getLast? with
  | some q => if q.lot = p.lot then out.dropLast ++ [⟨q.lot, q.many + p.many⟩] else out ++ [p]
  | none => [p]
def joinP (ps : List Piece) : List Piece := ps.foldl joinS []
def oneS (out : List Piece) (s : ByteArray) : List Piece := joinS out ⟨s, 1⟩
def pcs (us : List ByteArray) : List Piece := us.foldl oneS []
theorem joinS_joinS (out : List Piece) (s : ByteArray) (a b : Int) : joinS (joinS out ⟨s, a⟩) ⟨s, b⟩ = joinS out ⟨s, a + b⟩ := by
  cases h : out.getLast? with
  | none =>
    have e : ∀ p, joinS out p = [p] := fun p => by unfold joinS; rw [h]
    rw [e, e]
    unfold joinS
    simp
  | some q =>
    have e : ∀ p, joinS out p = if q.lot = p.lot then out.dropLast ++ [⟨q.lot, q.many + p.many⟩] else out ++ [p] := fun p => by unfold joinS; rw [h]
    rw [e, e]
    by_cases hq : q.lot = s
    · rw [if_pos hq, if_pos hq]
      unfold joinS
      rw [List.getLast?_concat]
      simp only
      rw [if_pos hq, List.dropLast_concat, Int.add_assoc]
    · rw [if_neg hq, if_neg hq]
      unfold joinS
      rw [List.getLast?_concat]
      simp
theorem fold_rep (out : List Piece) (s : ByteArray) : ∀ (n : Nat) (m : Int), (List.replicate n s).foldl oneS (joinS out ⟨s, m⟩) = joinS out ⟨s, m + n⟩
  | 0, m => by simp
  | n + 1, m => by
    rw [List.replicate_succ, List.foldl_cons]
    unfold oneS
    rw [joinS_joinS]
    have := fold_rep out s n (m + 1)
    unfold oneS at this
    rw [this]
    congr 2
    omega
theorem pcs_units : ∀ (ps : List Piece) (out : List Piece), (∀ p ∈ ps, 1 ≤ p.many) → (unitsU ps).foldl oneS out = ps.foldl joinS out
  | [], out, _ => rfl
  | p :: ps, out, h => by
    have hp := h p (by simp)
    obtain ⟨n, hn⟩ : ∃ n : Nat, p.many.toNat = n + 1 := ⟨p.many.toNat - 1, by omega⟩
    rw [unitsU_cons, List.foldl_append, hn, List.replicate_succ, List.foldl_cons, List.foldl_cons, show oneS out p.lot = joinS out ⟨p.lot, 1⟩ from rfl, fold_rep, pcs_units ps _ (fun q hq => h q (by simp [hq]))]
    congr 2
    obtain ⟨l, m⟩ := p
    simp only at hn hp ⊢
    congr 1
    omega
theorem pcs_join {ps : List Piece} (h : ∀ p ∈ ps, 1 ≤ p.many) : pcs (unitsU ps) = joinP ps := pcs_units ps [] h
/-- no two neighbours are the same -/
def AdL (ls : List ByteArray) : Prop := ∀ (j : Nat) x y, ls[j]? = some x → ls[j + 1]? = some y → x ≠ y
theorem AdL.take {ls : List ByteArray} (h : AdL ls) (n : Nat) : AdL (ls.take n) := fun j x y hx hy => by
  rw [List.getElem?_take] at hx hy
  split at hx
  · split at hy
    · exact h j x y hx hy
    · cases hy
  · cases hx
theorem AdL.drop {ls : List ByteArray} (h : AdL ls) (n : Nat) : AdL (ls.drop n) := fun j x y hx hy => by
  rw [List.getElem?_drop] at hx hy
  exact h (n + j) x y hx (by rw [Nat.add_assoc]; exact hy)
theorem fold_adj : ∀ (ps out : List Piece), AdL ((out ++ ps).map Piece.lot) → ps.foldl joinS out = out ++ ps
  | [], out, _ => by simp
  | p :: ps, out, h => by
    have e : joinS out p = out ++ [p] := by
      unfold joinS
      cases hl : out.getLast? with
      | none => rw [List.getLast?_eq_none_iff] at hl; subst hl; rfl
      | some q =>
        simp only
        rw [if_neg]
        rw [List.getLast?_eq_getElem?] at hl
        have hlt := (List.getElem?_eq_some_iff.1 hl).1
        refine h (out.length - 1) q.lot p.lot ?_ ?_
        · rw [List.getElem?_map, List.getElem?_append_left hlt, hl]; rfl
        · rw [List.getElem?_map, show out.length - 1 + 1 = out.length by omega, List.getElem?_append_right (Nat.le_refl _), Nat.sub_self]; rfl
    rw [List.foldl_cons, e, fold_adj ps (out ++ [p]) (by simpa using h)]
    simp
theorem joinP_adj {ps : List Piece} (h : AdL (ps.map Piece.lot)) : joinP ps = ps := by
  have := fold_adj ps [] (by simpa using h)
  rwa [List.nil_append] at this
theorem pieces_adj {l : List Piece} (h : firstE (pieceE l) 0 l.length = 0) : AdL (l.map Piece.lot) := by
  intro j x y hx hy
  rw [List.getElem?_map] at hx hy
  obtain ⟨p, hp, rfl⟩ := Option.map_eq_some_iff.1 hx
  obtain ⟨q, hq, rfl⟩ := Option.map_eq_some_iff.1 hy
  have hlt := (List.getElem?_eq_some_iff.1 hq).1
  have := firstE_zero h (j + 1) (by omega) (by omega)
  unfold pieceE at this
  rw [hq] at this
  simp only [prevB, hp] at this
  intro e
  split at this
  · cases this
  · split at this
    · cases this
    · rw [if_pos (by simp [e])] at this
      cases this
/-! ### selling -/
def sell : Int → List Piece → List Piece × List Piece
  | _, [] => ([], [])
  | m, p :: ps => if m ≤ 0 then ([], p :: ps) else if m < p.many then ([⟨p.lot, m⟩], ⟨p.lot, p.many - m⟩ :: ps) else (p :: (sell (m - p.many) ps).1, (sell (m - p.many) ps).2)
theorem unitsI_cons (p : Piece) (ps : List Piece) : unitsI (p :: ps) = p.many + unitsI ps := rfl
theorem sell_units : ∀ {ps : List Piece} {m : Int}, (∀ p ∈ ps, 1 ≤ p.many) → m ≤ unitsI ps → unitsU (sell m ps).1 = (unitsU ps).take m.toNat ∧ unitsU (sell m ps).2 = (unitsU ps).drop m.toNat
  | [], m, _, _ => by simp [sell, unitsU]
  | p :: ps, m, h, hm => by
    have hp := h p (by simp)
    rw [unitsI_cons] at hm
    unfold sell
    by_cases h1 : m ≤ 0
    · rw [if_pos h1, show m.toNat = 0 by omega]
      exact ⟨rfl, rfl⟩
    rw [if_neg h1]
    by_cases h2 : m < p.many
    · rw [if_pos h2, unitsU_cons, unitsU_cons, unitsU_cons]
      have e : p.many.toNat = m.toNat + (p.many - m).toNat := by omega
      rw [e]
      constructor
      · rw [List.take_append_of_le_length (by simp), List.take_replicate, Nat.min_eq_left (by omega)]
        simp [unitsU]
      · rw [List.drop_append_of_le_length (by simp), List.drop_replicate]
        congr 2
        simp only
        omega
    · rw [if_neg h2]
      obtain ⟨i1, i2⟩ := sell_units (ps := ps) (m := m - p.many) (fun q hq => h q (by simp [hq])) (by omega)
      have e : m.toNat = p.many.toNat + (m - p.many).toNat := by omega
      rw [unitsU_cons, unitsU_cons, i1, i2, e]
      constructor
      · rw [List.take_append, List.length_replicate, List.take_of_length_le (l := List.replicate p.many.toNat p.lot) (by rw [List.length_replicate]; omega), show p.many.toNat + (m - p.many).toNat - p.many.toNat = (m - p.many).toNat by omega]
      · have hd : (List.replicate p.many.toNat p.lot).drop (p.many.toNat + (m - p.many).toNat) = [] := List.drop_eq_nil_of_le (by rw [List.length_replicate]; omega)
        rw [List.drop_append, List.length_replicate, hd, show p.many.toNat + (m - p.many).toNat - p.many.toNat = (m - p.many).toNat by omega]
        rfl
theorem sell_lots : ∀ (ps : List Piece) (m : Int), ∃ i j, (sell m ps).1.map Piece.lot = (ps.map Piece.lot).take i ∧ (sell m ps).2.map Piece.lot = (ps.map Piece.lot).drop j
  | [], m => ⟨0, 0, rfl, rfl⟩
  | p :: ps, m => by
    unfold sell
    by_cases h1 : m ≤ 0
    · rw [if_pos h1]
      exact ⟨0, 0, rfl, rfl⟩
    rw [if_neg h1]
    by_cases h2 : m < p.many
    · rw [if_pos h2]
      exact ⟨1, 0, by simp, by simp⟩
    · rw [if_neg h2]
      obtain ⟨i, j, e1, e2⟩ := sell_lots ps (m - p.many)
      exact ⟨i + 1, j + 1, by simp [e1], by simp [e2]⟩
theorem sell_many : ∀ {ps : List Piece} {m : Int}, (∀ p ∈ ps, 1 ≤ p.many) → (∀ p ∈ (sell m ps).1, 1 ≤ p.many) ∧ ∀ p ∈ (sell m ps).2, 1 ≤ p.many
  | [], m, _ => by simp [sell]
  | p :: ps, m, h => by
    have hp := h p (by simp)
    have hps : ∀ q ∈ ps, 1 ≤ q.many := fun q hq => h q (by simp [hq])
    unfold sell
    by_cases h1 : m ≤ 0
    · rw [if_pos h1]
      exact ⟨fun q hq => (by cases hq), h⟩
    rw [if_neg h1]
    by_cases h2 : m < p.many
    · rw [if_pos h2]
      refine ⟨fun q hq => ?_, fun q hq => ?_⟩
      · rw [List.mem_singleton] at hq; subst hq; simp only; omega
      · rcases List.mem_cons.1 hq with rfl | hq
        · simp only; omega
        · exact hps q hq
    · rw [if_neg h2]
      obtain ⟨i1, i2⟩ := sell_many (m := m - p.many) hps
      exact ⟨fun q hq => (List.mem_cons.1 hq).elim (fun e => e ▸ hp) (i1 q), i2⟩
theorem sell_pcs {ps : List Piece} {m : Int} (h : ∀ p ∈ ps, 1 ≤ p.many) (ha : AdL (ps.map Piece.lot)) (hm : m ≤ unitsI ps) : pcs ((unitsU ps).take m.toNat) = (sell m ps).1 ∧ pcs ((unitsU ps).drop m.toNat) = (sell m ps).2 := by
  obtain ⟨e1, e2⟩ := sell_units h hm
  obtain ⟨i, j, l1, l2⟩ := sell_lots ps m
  obtain ⟨m1, m2⟩ := sell_many (m := m) h
  rw [← e1, ← e2, pcs_join m1, pcs_join m2, joinP_adj (by rw [l1]; exact ha.take i), joinP_adj (by rw [l2]; exact ha.drop j)]
  exact ⟨rfl, rfl⟩

/-! ### by what expires first -/
def cfL (l : List Lot) (s t : ByteArray) : Int := orI [cmpI (expOf l s) (expOf l t), cmpS s t]
def ltL (l : List Lot) (s t : ByteArray) : Bool := decide (cfL l s t < 0)
theorem ltL_iff (l : List Lot) (s t : ByteArray) : ltL l s t = true ↔ expOf l s < expOf l t ∨ (expOf l s = expOf l t ∧ strLt s t = true) := by
  unfold ltL cfL
  rw [decide_eq_true_iff, orI_cons]
  unfold cmpI
  by_cases h1 : expOf l s < expOf l t
  · rw [if_pos h1, if_pos (by omega)]
    constructor
    · intro _; exact .inl h1
    · intro _; omega
  · rw [if_neg h1]
    by_cases h2 : expOf l t < expOf l s
    · rw [if_pos h2, if_pos (by omega)]
      constructor
      · intro h; omega
      · rintro (h | ⟨h, _⟩) <;> omega
    · rw [if_neg h2, if_neg (by omega), orI_cons]
      have h3 : expOf l s = expOf l t := by omega
      have h4 := cmpS_lt s t
      by_cases h5 : cmpS s t = 0
      · rw [if_neg (by omega)]
        simp only [orI]
        constructor
        · intro h; omega
        · rintro (h | ⟨_, h⟩)
          · omega
          · have := h4.2 h; omega
      · rw [if_pos h5, h4]
        constructor
        · intro h; exact .inr ⟨h3, h⟩
        · rintro (h | ⟨_, h⟩)
          · omega
          · exact h
theorem ltL_asymm {l : List Lot} {s t : ByteArray} (h : ltL l s t = true) : ltL l t s = false := by
  rw [← Bool.not_eq_true, ltL_iff]
  rw [ltL_iff] at h
  rintro (h2 | ⟨h2, h3⟩)
  · rcases h with h | ⟨h, _⟩ <;> omega
  · rcases h with h | ⟨_, h⟩
    · omega
    · rw [strLt_asymm h] at h3; cases h3
theorem ltL_nf {l : List Lot} {s t : ByteArray} : ltL l s t = false ↔ expOf l t < expOf l s ∨ (expOf l s = expOf l t ∧ strLt s t = false) := by
  rw [← Bool.not_eq_true, ltL_iff]
  cases h : strLt s t <;> simp <;> omega
theorem ltL_ntrans {l : List Lot} {a b c : ByteArray} (h1 : ltL l b a = false) (h2 : ltL l c b = false) : ltL l c a = false := by
  rw [ltL_nf] at *
  rcases h1 with h1 | ⟨h1, h3⟩
  · rcases h2 with h2 | ⟨h2, h4⟩
    · exact .inl (by omega)
    · exact .inl (by omega)
  · rcases h2 with h2 | ⟨h2, h4⟩
    · exact .inl (by omega)
    · refine .inr ⟨by omega, ?_⟩
      cases h : strLt c a with
      | false => rfl
      | true =>
        cases h5 : strLt a b with
        | true => have := strLt_trans h h5; rw [h4] at this; cases this
        | false => rw [strLt_tri h5 h3] at h; rw [h4] at h; cases h
theorem ltL_tri {l : List Lot} {a b : ByteArray} (h1 : ltL l b a = false) (h2 : ltL l a b = false) : a = b := by
  rw [ltL_nf] at *
  rcases h1 with h1 | ⟨h1, h3⟩
  · rcases h2 with h2 | ⟨h2, _⟩ <;> omega
  · rcases h2 with h2 | ⟨_, h4⟩
    · omega
    · exact strLt_tri h4 h3
attribute [irreducible] ltL
def pLt (l : List Lot) (a b : Piece) : Bool := ltL l a.lot b.lot
def rotP (l : List Lot) (ps : List Piece) : List Piece := joinP (isort (pLt l) ps)
theorem rot_units (l : List Lot) {ps : List Piece} (hm : ∀ p ∈ ps, 1 ≤ p.many) {us : List ByteArray} (hp : us.Perm (unitsU ps)) (hs : us.Pairwise fun a b => ltL l b a = false) : pcs us = rotP l ps := by
  have hpi := isort_perm (pLt l) ps
  have hso : (isort (pLt l) ps).Pairwise fun a b => pLt l b a = false := isort_sorted _ (fun a b h => ltL_asymm (l := l) (s := a.lot) (t := b.lot) h) (fun a b c h1 h2 => ltL_ntrans (l := l) (a := a.lot) (b := b.lot) (c := c.lot) h1 h2) ps
  have e : us = unitsU (isort (pLt l) ps) := by
    refine sorted_uniq (le := fun a b => ltL l b a = false) (hp.trans ?_) (fun a _ b _ h1 h2 => ltL_tri h1 h2) hs ?_
    · exact (hpi.flatMap_right _).symm
    · unfold unitsU
      rw [List.pairwise_flatMap]
      refine ⟨fun a _ => ?_, hso.imp fun h x hx y hy => ?_⟩
      · rw [List.pairwise_replicate]
        right
        rw [ltL_nf]
        exact .inr ⟨rfl, strLt_irrefl _⟩
      · rw [(List.mem_replicate.1 hx).2, (List.mem_replicate.1 hy).2]
        exact h
  rw [e, pcs_join (fun p hp => hm p (hpi.mem_iff.1 hp))]
  rfl
end Lg
end
section
set_option linter.all false
set_option maxRecDepth 100000
set_option maxHeartbeats 4000000
namespace Lg
open Go Go.Proofs

theorem cmpOrI_fn (l : List Int) (hl : l.length ≤ 1000) : PFn Tryz.prog 39 [.ints l] (· = .int (orI l)) := by
  refine PFn.mk (Spec.body Tryz.func39 rfl rfl (Tryz.ntmps39) rfl fun w0 own0 M => ?_)
  have hL := intRows_len l
  repeat' (first | refine goH ?_ | refine goV ?_ | refine goI ?_ | (refine Cw.k_cond ?_; first | (refine Cw.cond_dec rfl (fun hc => ?_) (fun hc => ?_) <;> try (exfalso; omega)) | refine Cw.cond_bool rfl (fun hc => ?_) (fun hc => ?_)) | fail)
  refine Cw.loop (ι := Nat) (fun k => k ≤ l.length ∧ orI (l.drop k) = orI l) (fun k => [(3, .int 0), (6, .ints l), (7, .int (intRows l).length), (8, .int k)]) (fun _ => []) (fun k => l.length - k) ⟨0, ⟨by omega, rfl⟩, (Ent.mk goSub goTk)⟩ ?_
  rintro k ⟨hk, h1⟩
  by_cases hkl : k < l.length
  · obtain ⟨x, hx⟩ := at_lt hkl
    have hrow := intRows_at hx
    rw [drop_at hx, orI_cons] at h1
    by_cases hz : x = 0
    · rw [if_neg (by omega)] at h1
      repeat' (first | refine goH ?_ | refine goV ?_ | refine goI ?_ | (refine Cw.k_cond ?_; first | (refine Cw.cond_dec rfl (fun hc => ?_) (fun hc => ?_) <;> try (exfalso; omega)) | refine Cw.cond_bool rfl (fun hc => ?_) (fun hc => ?_)) | fail)
      exact ⟨k + 1, ⟨by omega, h1⟩, by omega, (Ent.mk goSub goTk)⟩
    · rw [if_pos hz] at h1
      repeat' (first | refine goH ?_ | refine goV ?_ | refine goI ?_ | (refine Cw.k_cond ?_; first | (refine Cw.cond_dec rfl (fun hc => ?_) (fun hc => ?_) <;> try (exfalso; omega)) | refine Cw.cond_bool rfl (fun hc => ?_) (fun hc => ?_)) | fail)
      exact Fin.ret Ent.refl (Outs.one rfl rfl) ⟨rfl, congrArg Tr.int h1⟩
  · rw [List.drop_eq_nil_of_le (by omega), orI] at h1
    repeat' (first | refine goH ?_ | refine goV ?_ | refine goI ?_ | (refine Cw.k_cond ?_; first | (refine Cw.cond_dec rfl (fun hc => ?_) (fun hc => ?_) <;> try (exfalso; omega)) | refine Cw.cond_bool rfl (fun hc => ?_) (fun hc => ?_)) | fail)
    exact Fin.ret Ent.refl (Outs.one rfl rfl) ⟨rfl, congrArg Tr.int h1⟩
end Lg
end
