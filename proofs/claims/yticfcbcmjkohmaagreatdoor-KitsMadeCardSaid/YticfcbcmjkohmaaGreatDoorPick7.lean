/- A part of the proof of a law of this seat: it adds no condition. By an AI agent. -/
import Derived.Test.YticfcbcmjkohmaaGreatDoorPick4
section
set_option linter.all false
set_option maxRecDepth 100000
set_option maxHeartbeats 4000000
namespace Lg
open Go Go.Proofs

def candB (l : List Lot) (p : ByteArray) (fr : Int) (i : Nat) : Bool := match l[i]? with
  | none => false
  | some x => decide (x.prod = p ∧ fr ≤ x.exp)
def candN (l : List Lot) (p : ByteArray) (fr : Int) (k : Nat) : List Int := ((List.range k).filter (candB l p fr)).map fun i : Nat => (i : Int)
def ordL (l : List Lot) (p : ByteArray) (fr : Int) : List Int := isort (fun a b => decide (expI l a < expI l b)) (candN l p fr l.length)
def takeStep (st : List Lot × Int × List Piece) (i : Int) : List Lot × Int × List Piece := match st.1[i.toNat]? with
  | none => st
  | some x => if min st.2.1 x.many > 0 then (st.1.set i.toNat ⟨x.id, x.prod, x.exp, x.many - min st.2.1 x.many⟩, st.2.1 - min st.2.1 x.many, st.2.2 ++ [⟨x.id, min st.2.1 x.many⟩]) else st
def pickR (l : List Lot) (p : ByteArray) (many fr : Int) : List Lot × Int × List Piece := (ordL l p fr).foldl takeStep (l, many, [])

theorem candN_succ {l : List Lot} {p : ByteArray} {fr : Int} {k : Nat} : candN l p fr (k + 1) = if candB l p fr k then candN l p fr k ++ [(k : Int)] else candN l p fr k := by
  unfold candN
  rw [List.range_succ, List.filter_append, List.map_append]
  cases h : candB l p fr k <;> simp [h]
theorem candN_mem {l : List Lot} {p : ByteArray} {fr : Int} {k : Nat} {c : Int} : c ∈ candN l p fr k ↔ ∃ i : Nat, c = i ∧ i < k ∧ candB l p fr i = true := by
  unfold candN
  simp only [List.mem_map, List.mem_filter, List.mem_range]
  constructor
  · rintro ⟨i, ⟨h1, h2⟩, rfl⟩; exact ⟨i, rfl, h1, h2⟩
  · rintro ⟨i, rfl, h1, h2⟩; exact ⟨i, ⟨h1, h2⟩, rfl⟩
theorem candN_asc (l : List Lot) (p : ByteArray) (fr : Int) : ∀ k, (candN l p fr k).Pairwise (· < ·)
  | 0 => List.Pairwise.nil
  | k + 1 => by
    rw [candN_succ]
    split
    · refine List.pairwise_append.2 ⟨candN_asc l p fr k, List.pairwise_singleton _ _, ?_⟩
      intro a ha b hb
      obtain ⟨i, rfl, h1, _⟩ := candN_mem.1 ha
      rw [List.mem_singleton] at hb
      subst hb
      omega
    · exact candN_asc l p fr k
theorem candN_len (l : List Lot) (p : ByteArray) (fr : Int) : ∀ k, (candN l p fr k).length ≤ k
  | 0 => Nat.le_refl _
  | k + 1 => by
    have := candN_len l p fr k
    rw [candN_succ]
    split
    · rw [List.length_append]; simp; omega
    · omega
theorem ordL_mem {l : List Lot} {p : ByteArray} {fr : Int} {c : Int} : c ∈ ordL l p fr ↔ ∃ i : Nat, c = i ∧ i < l.length ∧ candB l p fr i = true := by
  unfold ordL
  rw [(isort_perm _ _).mem_iff, candN_mem]
theorem ordL_lexi (l : List Lot) (p : ByteArray) (fr : Int) : (ordL l p fr).Pairwise (lexi (expI l)) := isort_lexi (expI l) (candN_asc l p fr _)
theorem ordL_len (l : List Lot) (p : ByteArray) (fr : Int) : (ordL l p fr).length ≤ l.length := by
  unfold ordL
  rw [isort_len]
  exact candN_len _ _ _ _

/-- what picking leaves as it is -/
structure Same (l c : List Lot) : Prop where
  len : c.length = l.length
  at_ : ∀ (i : Nat) x, l[i]? = some x → ∃ y, c[i]? = some y ∧ y.id = x.id ∧ y.prod = x.prod ∧ y.exp = x.exp ∧ 0 ≤ y.many ∧ y.many ≤ x.many
theorem Same.refl {l : List Lot} (h : LOk l) : Same l l := ⟨rfl, fun i x hx => ⟨x, hx, rfl, rfl, rfl, (h.many x (List.mem_of_getElem? hx)).1, Int.le_refl _⟩⟩
theorem Same.ok {l c : List Lot} (h : LOk l) (s : Same l c) : LOk c := ⟨by rw [s.len]; exact h.len, fun y hy => by
  obtain ⟨i, hi⟩ := List.getElem?_of_mem hy
  have hlt := (List.getElem?_eq_some_iff.1 hi).1
  obtain ⟨x, hx⟩ := at_lt (l := l) (k := i) (by rw [← s.len]; exact hlt)
  obtain ⟨z, hz, _, _, _, h1, h2⟩ := s.at_ i x hx
  rw [hi] at hz
  cases hz
  have := h.many x (List.mem_of_getElem? hx)
  omega⟩
theorem Same.exp {l c : List Lot} (s : Same l c) (i : Int) : expI c i = expI l i := by
  unfold expI
  cases h : l[i.toNat]? with
  | none =>
    have : c[i.toNat]? = none := by rw [List.getElem?_eq_none_iff] at h ⊢; rw [s.len]; exact h
    rw [this]
  | some x => obtain ⟨y, hy, _, _, h3, _⟩ := s.at_ _ x h; rw [hy]; exact h3
theorem Same.cand {l c : List Lot} (s : Same l c) (p : ByteArray) (fr : Int) (i : Nat) : candB c p fr i = candB l p fr i := by
  unfold candB
  cases h : l[i]? with
  | none =>
    have : c[i]? = none := by rw [List.getElem?_eq_none_iff] at h ⊢; rw [s.len]; exact h
    rw [this]
  | some x => obtain ⟨y, hy, _, h2, h3, _⟩ := s.at_ _ x h; rw [hy]; simp only [h2, h3]
theorem takeStep_same {l : List Lot} {st : List Lot × Int × List Piece} (s : Same l st.1) (h0 : 0 ≤ st.2.1) (i : Int) : Same l (takeStep st i).1 ∧ 0 ≤ (takeStep st i).2.1 ∧ (takeStep st i).2.1 ≤ st.2.1 ∧ (takeStep st i).2.2.length ≤ st.2.2.length + 1 := by
  unfold takeStep
  cases h : st.1[i.toNat]? with
  | none => exact ⟨s, h0, Int.le_refl _, by simp only; omega⟩
  | some x =>
    simp only
    split
    · refine ⟨⟨by simp only [List.length_set]; exact s.len, fun j y hy => ?_⟩, by simp only; omega, by simp only; omega, by simp⟩
      obtain ⟨z, hz, z1, z2, z3, z4, z5⟩ := s.at_ j y hy
      simp only
      by_cases e : i.toNat = j
      · subst e
        rw [h] at hz
        cases hz
        have hlt := (List.getElem?_eq_some_iff.1 h).1
        exact ⟨⟨x.id, x.prod, x.exp, x.many - min st.2.1 x.many⟩, List.getElem?_set_self hlt, z1, z2, z3, by simp only; omega, by simp only; omega⟩
      · exact ⟨z, by rw [List.getElem?_set_ne e]; exact hz, z1, z2, z3, z4, z5⟩
    · exact ⟨s, h0, Int.le_refl _, by omega⟩
theorem takeStep_zero {st : List Lot × Int × List Piece} (h : st.2.1 ≤ 0) (i : Int) : takeStep st i = st := by
  unfold takeStep
  cases st.1[i.toNat]? with
  | none => rfl
  | some x => simp only; rw [if_neg (by omega)]
theorem fold_zero {st : List Lot × Int × List Piece} (h : st.2.1 ≤ 0) : ∀ l : List Int, l.foldl takeStep st = st
  | [] => rfl
  | i :: l => by rw [List.foldl_cons, takeStep_zero h, fold_zero h l]
theorem fold_take {st : List Lot × Int × List Piece} {l : List Int} {k : Nat} {i : Int} (h : l[k]? = some i) : (l.take (k + 1)).foldl takeStep st = takeStep ((l.take k).foldl takeStep st) i := by
  rw [take_at h, List.foldl_append]
  rfl
theorem fold_same {l0 : List Lot} : ∀ (l : List Int) {st : List Lot × Int × List Piece}, Same l0 st.1 → 0 ≤ st.2.1 → Same l0 (l.foldl takeStep st).1 ∧ 0 ≤ (l.foldl takeStep st).2.1 ∧ (l.foldl takeStep st).2.1 ≤ st.2.1 ∧ (l.foldl takeStep st).2.2.length ≤ st.2.2.length + l.length
  | [], _, s, h => ⟨s, h, Int.le_refl _, by simp⟩
  | i :: l, st, s, h => by
    obtain ⟨a1, a2, a3, a4⟩ := takeStep_same s h i
    obtain ⟨b1, b2, b3, b4⟩ := fold_same l a1 a2
    rw [List.foldl_cons]
    exact ⟨b1, b2, by omega, by rw [List.length_cons]; omega⟩
theorem row_set {c : List Lot} {i : Nat} {x : Lot} {v : Int} (h : c[i]? = some x) : (c.map Lot.row).set i ((x.row).set 3 (Tr.int v)) = (c.set i ⟨x.id, x.prod, x.exp, v⟩).map Lot.row := by
  rw [List.map_set]
  rfl
end Lg
end
section
set_option linter.all false
set_option maxRecDepth 100000
set_option maxHeartbeats 4000000
namespace Lg
open Go Go.Proofs

theorem picked_fn (l : List Lot) (ho : LOk l) (hl : l.length < 20) (p : ByteArray) (many fr : Int) (hm : 0 ≤ many ∧ many ≤ 10000000) (ad : Option Addr) (cap n : Nat) (hn : n = l.length) :
    Spec Tryz.prog 34 [Tr.raw (.slice ad n cap), .str p, .int many, .int fr] [Chunk.own ad cap 4 49 (l.map Lot.row)]
      (fun r cs => ∃ ad2 cap2, r = Tr.raw (.slice ad2 ((pickR l p many fr).2.2.map Piece.row).length cap2) ∧ cs = [Chunk.own ad2 cap2 2 90 ((pickR l p many fr).2.2.map Piece.row), Chunk.own ad cap 4 49 ((pickR l p many fr).1.map Lot.row)]) := by
  refine Spec.body Tryz.func34 rfl rfl (Tryz.ntmps34) rfl fun w0 own0 M => ?_
  have hL : (l.map Lot.row).length = l.length := List.length_map _
  repeat' (first | refine goH ?_ | refine goV ?_ | refine goB (fun b => ?_) | refine goC (fun ad cap => ?_) | refine goG ?_ | (refine Ops.k_guard ?_; first | (refine Ops.guard_dec rfl rfl (fun hc => ?_) (fun hc => ?_) <;> try (exfalso; omega)) | refine Ops.guard_split rfl rfl (fun hc => ?_) (fun hc => ?_)) | refine goI ?_ | (refine Cw.k_cond ?_; first | (refine Cw.cond_dec rfl (fun hc => ?_) (fun hc => ?_) <;> try (exfalso; omega)) | refine Cw.cond_bool rfl (fun hc => ?_) (fun hc => ?_)) | fail)
  rename Nat => b4
  refine Cw.loopI [(1, _), (2, _), (3, _), (4, _), (16, _), (17, _)] _ (fun q e c => ∃ (k : Nat) (ad2 : Option Addr) (cap2 : Nat) (rows : List (List Tr)), q = l.length - k ∧ (k ≤ l.length ∧ rows = intRows (candN l p fr k) ∧ rows.length ≤ k) ∧ e = [(9, Tr.raw (.slice ad2 rows.length cap2)), (18, .int k)] ∧ c = [Chunk.own ad2 cap2 1 3 rows])
    ⟨_, _, _, Ent.trans (Ent.nil 1 3) (Ent.mkP goSub goPm), 0, none, 0, [], rfl, ⟨by omega, rfl, by simp⟩, rfl, rfl⟩ ?_
  rintro _ _ _ ⟨k, ad2, cap2, rows, rfl, ⟨hk, hrows, hlen⟩, rfl, rfl⟩
  by_cases hkl : k < l.length
  · obtain ⟨x, hx⟩ := at_lt hkl
    have hrow : (l.map Lot.row)[((k : Nat) : Int).toNat]? = some [.str x.id, .str x.prod, .int x.exp, .int x.many] := rows_at hx
    have hcd : candB l p fr k = decide (x.prod = p ∧ fr ≤ x.exp) := by unfold candB; rw [hx]
    by_cases hp : x.prod = p
    · by_cases hf : fr ≤ x.exp
      · have hs : rows ++ [[Tr.int (k : Int)]] = intRows (candN l p fr (k + 1)) := by rw [candN_succ, hcd, if_pos (decide_eq_true ⟨hp, hf⟩), intRows_app, hrows]; rfl
        repeat' (first | refine goH ?_ | refine goV ?_ | refine goB (fun b => ?_) | refine goC (fun ad cap => ?_) | refine goG ?_ | (refine Ops.k_guard ?_; first | (refine Ops.guard_dec rfl rfl (fun hc => ?_) (fun hc => ?_) <;> try (exfalso; omega)) | refine Ops.guard_split rfl rfl (fun hc => ?_) (fun hc => ?_)) | refine goI ?_ | (refine Cw.k_cond ?_; first | (refine Cw.cond_dec rfl (fun hc => ?_) (fun hc => ?_) <;> try (exfalso; omega)) | refine Cw.cond_bool rfl (fun hc => ?_) (fun hc => ?_)) | fail)
        all_goals exact ⟨_, _, _, (Ent.mk goSub goTk), ⟨k + 1, _, _, _, rfl, ⟨by omega, hs, by simp only [List.length_append, List.length_cons, List.length_nil]; omega⟩, rfl, rfl⟩, by omega⟩
      · have hs : rows = intRows (candN l p fr (k + 1)) := by rw [candN_succ, hcd, if_neg (by simp [hf]), hrows]
        repeat' (first | refine goH ?_ | refine goV ?_ | refine goB (fun b => ?_) | refine goC (fun ad cap => ?_) | refine goG ?_ | (refine Ops.k_guard ?_; first | (refine Ops.guard_dec rfl rfl (fun hc => ?_) (fun hc => ?_) <;> try (exfalso; omega)) | refine Ops.guard_split rfl rfl (fun hc => ?_) (fun hc => ?_)) | refine goI ?_ | (refine Cw.k_cond ?_; first | (refine Cw.cond_dec rfl (fun hc => ?_) (fun hc => ?_) <;> try (exfalso; omega)) | refine Cw.cond_bool rfl (fun hc => ?_) (fun hc => ?_)) | fail)
        all_goals exact ⟨_, _, _, (Ent.mk goSub goTk), ⟨k + 1, _, _, _, rfl, ⟨by omega, hs, by omega⟩, rfl, rfl⟩, by omega⟩
    · have hs : rows = intRows (candN l p fr (k + 1)) := by rw [candN_succ, hcd, if_neg (by simp [hp]), hrows]
      repeat' (first | refine goH ?_ | refine goV ?_ | refine goB (fun b => ?_) | refine goC (fun ad cap => ?_) | refine goG ?_ | (refine Ops.k_guard ?_; first | (refine Ops.guard_dec rfl rfl (fun hc => ?_) (fun hc => ?_) <;> try (exfalso; omega)) | refine Ops.guard_split rfl rfl (fun hc => ?_) (fun hc => ?_)) | refine goI ?_ | (refine Cw.k_cond ?_; first | (refine Cw.cond_dec rfl (fun hc => ?_) (fun hc => ?_) <;> try (exfalso; omega)) | refine Cw.cond_bool rfl (fun hc => ?_) (fun hc => ?_)) | fail)
      all_goals exact ⟨_, _, _, (Ent.mk goSub goTk), ⟨k + 1, _, _, _, rfl, ⟨by omega, hs, by omega⟩, rfl, rfl⟩, by omega⟩
  have hke : k = l.length := by omega
  subst hke
  have hcl := candN_len l p fr l.length
  have hrl : rows.length = (candN l p fr l.length).length := by rw [hrows, intRows_len]
  rw [hrl]
  subst hrows
  have hin : ∀ c ∈ candN l p fr l.length, 0 ≤ c ∧ c < l.length := fun c hc => by
    obtain ⟨i, rfl, h1, _⟩ := candN_mem.1 hc
    omega
  have hsort := sortStable_int (n := (candN l p fr l.length).length) (xs := candN l p fr l.length) (ad := ad2) (cap := cap2) (g := 55) (caps := [.pointer (some ⟨b4, 0, none⟩)]) (cin := [Chunk.box b4 26 [Tr.raw (.slice ad n cap)], Chunk.own ad cap 4 49 (l.map Lot.row)])
    (lt := fun a b => decide (expI l a < expI l b)) (cf := fun a b => cmpI (expI l a) (expI l b)) (fun a b => by rw [Bool.eq_iff_iff, decide_eq_true_iff, decide_eq_true_iff]; exact (cmpI_lt _ _).symm) (by omega) rfl
    (fun a b ha hb => picked1_fn l b4 _ ad cap n hn (by omega) a b (hin a ha) (hin b hb))
  rw [show isort (fun a b => decide (expI l a < expI l b)) (candN l p fr l.length) = ordL l p fr from rfl] at hsort
  have hol : (ordL l p fr).length = (candN l p fr l.length).length := isort_len _ _
  generalize hN : (candN l p fr l.length).length = N at *
  clear hrl hlen hk hkl
  repeat' (first | refine goH ?_ | refine goV ?_ | refine goB (fun b => ?_) | refine goC (fun ad cap => ?_) | refine goG ?_ | (refine Ops.k_guard ?_; first | (refine Ops.guard_dec rfl rfl (fun hc => ?_) (fun hc => ?_) <;> try (exfalso; omega)) | refine Ops.guard_split rfl rfl (fun hc => ?_) (fun hc => ?_)) | refine goI ?_ | (refine Cw.k_cond ?_; first | (refine Cw.cond_dec rfl (fun hc => ?_) (fun hc => ?_) <;> try (exfalso; omega)) | refine Cw.cond_bool rfl (fun hc => ?_) (fun hc => ?_)) | (refine Ops.k_calla ?_; first | (refine Ops.k_callf 54 ?_; (refine Ops.call hsort (Evs.cons rfl (Evs.cons rfl Evs.nil)) goPm rfl ?_; rintro r cs' ⟨rfl, rfl⟩))) | fail)
  have hoi : (intRows (ordL l p fr)).length = N := by rw [intRows_len, hol]
  refine Cw.loopI [(4, _), (41, _), (42, _)] _ (fun q e c => ∃ (k : Nat) (ad3 : Option Addr) (cap3 : Nat) (st : List Lot × Int × List Piece) (mv : Int) (lr pr : List (List Tr)), q = N - k ∧ (k ≤ N ∧ st = ((ordL l p fr).take k).foldl takeStep (l, many, []) ∧ mv = st.2.1 ∧ lr = st.1.map Lot.row ∧ pr = st.2.2.map Piece.row) ∧ e = [(2, .int mv), (12, Tr.raw (.slice ad3 pr.length cap3)), (43, .int k)] ∧ c = [Chunk.own ad3 cap3 2 90 pr, Chunk.own ad cap 4 49 lr])
    ⟨_, _, _, Ent.trans (Ent.nil 2 90) (Ent.mkP goSub goPm), 0, none, 0, (l, many, []), many, _, [], rfl, ⟨by omega, rfl, rfl, rfl, rfl⟩, rfl, rfl⟩ ?_
  rintro _ _ _ ⟨k, ad3, cap3, st, mv, lr, pr, rfl, ⟨hk, hst, rfl, hlr, hpr⟩, rfl, rfl⟩
  obtain ⟨s1, s2, s3, s4⟩ := fold_same (l0 := l) ((ordL l p fr).take k) (st := (l, many, [])) (Same.refl ho) hm.1
  rw [← hst] at s1 s2 s3 s4
  simp only [List.length_nil, List.length_take] at s3 s4
  have hlrl : lr.length = l.length := by rw [hlr, List.length_map, s1.len]
  have hprl : pr.length = st.2.2.length := by rw [hpr, List.length_map]
  by_cases hkl : k < N
  · obtain ⟨i, hi⟩ : ∃ i, (ordL l p fr)[k]? = some i := at_lt (by omega)
    obtain ⟨j, rfl, hj, _⟩ := ordL_mem.1 (List.mem_of_getElem? hi)
    have hrowi : (intRows (ordL l p fr))[((k : Nat) : Int).toNat]? = some [Tr.int ((j : Nat) : Int)] := intRows_at hi
    obtain ⟨y, hy⟩ := at_lt hj
    obtain ⟨x, hx, _, _, _, hx1, hx2⟩ := s1.at_ j y hy
    have hyb := ho.many y (List.mem_of_getElem? hy)
    have hrowx : lr[((j : Nat) : Int).toNat]? = some [.str x.id, .str x.prod, .int x.exp, .int x.many] := by rw [hlr]; exact rows_at hx
    have hnext : ((ordL l p fr).take (k + 1)).foldl takeStep (l, many, []) = takeStep st (j : Int) := by rw [fold_take hi, ← hst]
    have htk : takeStep st (j : Int) = if min st.2.1 x.many > 0 then (st.1.set j ⟨x.id, x.prod, x.exp, x.many - min st.2.1 x.many⟩, st.2.1 - min st.2.1 x.many, st.2.2 ++ [⟨x.id, min st.2.1 x.many⟩]) else st := by
      unfold takeStep
      rw [show ((j : Nat) : Int).toNat = j from rfl, hx]
    obtain ⟨mn, hmn⟩ : ∃ mn, mn = min st.2.1 x.many := ⟨_, rfl⟩
    rw [← hmn] at htk
    clear hsort hin
    by_cases hpos : mn > 0
    · rw [if_pos hpos] at htk
      have hset : lr.set ((j : Nat) : Int).toNat ([Tr.str x.id, .str x.prod, .int x.exp, .int x.many].set 3 (Tr.int (x.many - mn))) = (st.1.set j ⟨x.id, x.prod, x.exp, x.many - mn⟩).map Lot.row := by rw [hlr]; exact row_set hx
      have hpp : pr ++ [[Tr.str x.id, Tr.int mn]] = (st.2.2 ++ [Piece.mk x.id mn]).map Piece.row := by rw [hpr, List.map_append]; rfl
      repeat' (first | refine goH ?_ | (refine Ops.k_c_min ?_; first | (refine Ops.min2 rfl rfl rfl ?_; rw [← hmn])) | refine goV ?_ | refine goB (fun b => ?_) | refine goC (fun ad cap => ?_) | refine goG ?_ | (refine Ops.k_guard ?_; first | (refine Ops.guard_dec rfl rfl (fun hc => ?_) (fun hc => ?_) <;> try (exfalso; omega)) | refine Ops.guard_split rfl rfl (fun hc => ?_) (fun hc => ?_)) | refine goI ?_ | (refine Cw.k_cond ?_; first | (refine Cw.cond_dec rfl (fun hc => ?_) (fun hc => ?_) <;> try (exfalso; omega)) | refine Cw.cond_bool rfl (fun hc => ?_) (fun hc => ?_)) | fail)
      exact ⟨_, _, _, (Ent.mk goSub goTk), ⟨k + 1, _, _, takeStep st (j : Int), _, _, _, rfl, ⟨by omega, hnext.symm, by rw [htk], by rw [htk]; exact hset, by rw [htk]; exact hpp⟩, rfl, rfl⟩, by omega⟩
    · rw [if_neg hpos] at htk
      repeat' (first | refine goH ?_ | (refine Ops.k_c_min ?_; first | (refine Ops.min2 rfl rfl rfl ?_; rw [← hmn])) | refine goV ?_ | refine goB (fun b => ?_) | refine goC (fun ad cap => ?_) | refine goG ?_ | (refine Ops.k_guard ?_; first | (refine Ops.guard_dec rfl rfl (fun hc => ?_) (fun hc => ?_) <;> try (exfalso; omega)) | refine Ops.guard_split rfl rfl (fun hc => ?_) (fun hc => ?_)) | refine goI ?_ | (refine Cw.k_cond ?_; first | (refine Cw.cond_dec rfl (fun hc => ?_) (fun hc => ?_) <;> try (exfalso; omega)) | refine Cw.cond_bool rfl (fun hc => ?_) (fun hc => ?_)) | fail)
      exact ⟨_, _, _, (Ent.mk goSub goTk), ⟨k + 1, _, _, takeStep st (j : Int), _, _, _, rfl, ⟨by omega, hnext.symm, by rw [htk], by rw [htk]; exact hlr, by rw [htk]; exact hpr⟩, rfl, rfl⟩, by omega⟩
  · have hfin : st = pickR l p many fr := by rw [hst, List.take_of_length_le (by omega)]; rfl
    subst hfin
    subst hlr
    subst hpr
    repeat' (first | refine goH ?_ | refine goV ?_ | refine goB (fun b => ?_) | refine goC (fun ad cap => ?_) | refine goG ?_ | (refine Ops.k_guard ?_; first | (refine Ops.guard_dec rfl rfl (fun hc => ?_) (fun hc => ?_) <;> try (exfalso; omega)) | refine Ops.guard_split rfl rfl (fun hc => ?_) (fun hc => ?_)) | refine goI ?_ | (refine Cw.k_cond ?_; first | (refine Cw.cond_dec rfl (fun hc => ?_) (fun hc => ?_) <;> try (exfalso; omega)) | refine Cw.cond_bool rfl (fun hc => ?_) (fun hc => ?_)) | fail)
    exact Fin.ret (Ent.take goTk) (Outs.one rfl rfl) ⟨_, _, rfl, rfl⟩
end Lg
end
section
set_option linter.all false
set_option maxRecDepth 100000
set_option maxHeartbeats 4000000
namespace Lg
open Go Go.Proofs

def manyAt (c : List Lot) (i : Nat) : Int := match c[i]? with
  | none => 0
  | some x => x.many
def okB (c : List Lot) (p : ByteArray) (fr : Int) (i : Nat) : Bool := candB c p fr i && decide (0 < manyAt c i)
def bestUp (c : List Lot) (p : ByteArray) (fr : Int) : Nat → Int
  | 0 => -1
  | i + 1 => if okB c p fr i = true ∧ (bestUp c p fr i < 0 ∨ expI c i < expI c (bestUp c p fr i)) then (i : Int) else bestUp c p fr i
theorem best_spec (c : List Lot) (p : ByteArray) (fr : Int) : ∀ n, (bestUp c p fr n = -1 ∧ ∀ j, j < n → okB c p fr j = false) ∨ (∃ b : Nat, b < n ∧ bestUp c p fr n = b ∧ okB c p fr b = true ∧ ∀ j, j < n → okB c p fr j = true → j ≠ b → lexi (expI c) (b : Int) (j : Int))
  | 0 => .inl ⟨rfl, fun j h => by omega⟩
  | n + 1 => by
    unfold bestUp
    rcases best_spec c p fr n with ⟨h1, h2⟩ | ⟨b, hb, h1, h2, h3⟩
    · cases ho : okB c p fr n
      · left
        rw [if_neg (by simp)]
        refine ⟨h1, fun j hj => ?_⟩
        by_cases e : j = n
        · subst e; exact ho
        · exact h2 j (by omega)
      · right
        rw [if_pos ⟨rfl, .inl (by omega)⟩]
        refine ⟨n, by omega, rfl, ho, fun j hj hj2 hne => ?_⟩
        rw [h2 j (by omega)] at hj2
        cases hj2
    · right
      rw [h1]
      cases ho : okB c p fr n
      · rw [if_neg (by simp)]
        refine ⟨b, by omega, rfl, h2, fun j hj hj2 hne => ?_⟩
        by_cases e : j = n
        · subst e; rw [ho] at hj2; cases hj2
        · exact h3 j (by omega) hj2 hne
      · by_cases hlt : expI c (n : Int) < expI c (b : Int)
        · rw [if_pos ⟨rfl, .inr hlt⟩]
          refine ⟨n, by omega, rfl, ho, fun j hj hj2 hne => ?_⟩
          by_cases e : j = b
          · subst e; exact .inl hlt
          · rcases h3 j (by omega) hj2 e with h | h
            · left; omega
            · left; omega
        · rw [if_neg (fun h => by rcases h.2 with h | h <;> omega)]
          refine ⟨b, by omega, rfl, h2, fun j hj hj2 hne => ?_⟩
          by_cases e : j = n
          · subst e
            unfold lexi
            omega
          · exact h3 j (by omega) hj2 hne

theorem fresh_pos {c : List Lot} {p : ByteArray} {fr : Int} (h : 0 < freshI c p fr) : ∃ i, i < c.length ∧ okB c p fr i = true := by
  by_cases hex : ∃ i, i < c.length ∧ okB c p fr i = true
  · exact hex
  · exfalso
    have hz : ∀ x ∈ c, freshP p fr x ≤ 0 := by
      intro x hx
      obtain ⟨i, hi⟩ := List.getElem?_of_mem hx
      have hlt := (List.getElem?_eq_some_iff.1 hi).1
      unfold freshP
      split
      · rename_i hc
        by_cases hm : 0 < x.many
        · exact absurd ⟨i, hlt, by unfold okB candB manyAt; rw [hi]; simp [hc, hm]⟩ hex
        · omega
      · omega
    have : ∀ l : List Lot, (∀ x ∈ l, freshP p fr x ≤ 0) → freshI l p fr ≤ 0 := by
      intro l
      induction l with
      | nil => intro _; exact Int.le_refl _
      | cons a l ih =>
        intro h
        have h1 := h a (by simp)
        have h2 := ih fun x hx => h x (by simp [hx])
        rw [freshI, sumF_cons, ← freshI]
        omega
    have := this c hz
    omega
theorem sumF_set {α : Type} {f : α → Int} : ∀ {l : List α} {i : Nat} {x y : α}, l[i]? = some x → sumF f (l.set i y) = sumF f l - f x + f y
  | [], i, x, y, h => by simp at h
  | a :: l, 0, x, y, h => by
    simp at h
    subst h
    rw [List.set_cons_zero, sumF_cons, sumF_cons]
    omega
  | a :: l, i + 1, x, y, h => by
    rw [List.getElem?_cons_succ] at h
    rw [List.set_cons_succ, sumF_cons, sumF_cons, sumF_set h]
    omega

/-- where the reference's next pick stands in the order -/
theorem best_order {l c : List Lot} {p : ByteArray} {fr : Int} (s : Same l c) {k : Nat} (hz : ∀ j, j < k → ∀ i, (ordL l p fr)[j]? = some i → manyAt c i.toNat = 0) (hf : 0 < freshI c p fr) :
    ∃ (j b : Nat), k ≤ j ∧ (ordL l p fr)[j]? = some (b : Int) ∧ b < c.length ∧ bestUp c p fr c.length = b ∧ candB c p fr b = true ∧ 0 < manyAt c b ∧ ∀ j', j' < j → ∀ i, (ordL l p fr)[j']? = some i → manyAt c i.toNat = 0 := by
  obtain ⟨i0, hi0, hok0⟩ := fresh_pos hf
  rcases best_spec c p fr c.length with ⟨_, h2⟩ | ⟨b, hb, h1, h2, h3⟩
  · rw [h2 i0 hi0] at hok0
    cases hok0
  · have hcb : candB c p fr b = true ∧ 0 < manyAt c b := by unfold okB at h2; simpa using h2
    have hmem : (b : Int) ∈ ordL l p fr := ordL_mem.2 ⟨b, rfl, by rw [← s.len]; exact hb, by rw [← s.cand]; exact hcb.1⟩
    obtain ⟨j, hj⟩ := List.getElem?_of_mem hmem
    have hjk : k ≤ j := by
      by_cases h : j < k
      · have := hz j h _ hj
        rw [show ((b : Nat) : Int).toNat = b from rfl] at this
        omega
      · omega
    refine ⟨j, b, hjk, hj, hb, h1, hcb.1, hcb.2, fun j' hj' i hi => ?_⟩
    obtain ⟨i', rfl, hi', hci⟩ := ordL_mem.1 (List.mem_of_getElem? hi)
    have hlex : lexi (expI l) (i' : Int) (b : Int) := by
      have hp := List.pairwise_iff_getElem.1 (ordL_lexi l p fr) j' j (List.getElem?_eq_some_iff.1 hi).1 (List.getElem?_eq_some_iff.1 hj).1 hj'
      rwa [(List.getElem?_eq_some_iff.1 hi).2, (List.getElem?_eq_some_iff.1 hj).2] at hp
    rw [show ((i' : Nat) : Int).toNat = i' from rfl]
    by_cases hm : 0 < manyAt c i'
    · exfalso
      have hok : okB c p fr i' = true := by unfold okB; rw [s.cand, hci]; simp [hm]
      by_cases e : i' = b
      · subst e
        unfold lexi at hlex
        omega
      · have h4 := h3 i' (by rw [s.len]; exact hi') hok e
        unfold lexi at h4 hlex
        rw [s.exp, s.exp] at h4
        omega
    · obtain ⟨y, hy⟩ := at_lt (l := l) (k := i') hi'
      obtain ⟨x, hx, _, _, _, hx1, _⟩ := s.at_ i' y hy
      unfold manyAt at hm ⊢
      rw [hx] at hm ⊢
      simp only at hm ⊢
      omega
theorem fold_skip {l0 : List Int} {st st0 : List Lot × Int × List Piece} {k : Nat} (hst : st = (l0.take k).foldl takeStep st0) : ∀ (d : Nat), (∀ j, j < k + d → ∀ i, l0[j]? = some i → manyAt st.1 i.toNat = 0) → k + d ≤ l0.length → (l0.take (k + d)).foldl takeStep st0 = st
  | 0, _, _ => hst.symm
  | d + 1, h, hl => by
    obtain ⟨i, hi⟩ := at_lt (l := l0) (k := k + d) (by omega)
    rw [← Nat.add_assoc, fold_take hi, fold_skip hst d (fun j hj => h j (by omega)) (by omega)]
    have hz := h (k + d) (by omega) i hi
    unfold takeStep
    unfold manyAt at hz
    cases hx : st.1[i.toNat]? with
    | none => rfl
    | some x =>
      rw [hx] at hz
      simp only at hz ⊢
      rw [if_neg (by omega)]
end Lg
end
