/- A part of the proof of a law of this seat: it adds no condition. By an AI agent. -/
import Derived.Test.YtfecflnngkhneaaDoorPick5
set_option linter.all false
set_option maxRecDepth 100000
set_option maxHeartbeats 4000000
namespace Lg
open Go Go.Proofs

theorem picked_fn (l : List Lot) (ho : LOk l) (hl : l.length < 20) (p : ByteArray) (many fr : Int) (hm : 0 ≤ many ∧ many ≤ 100000) (ad : Option Addr) (cap n : Nat) (hn : n = l.length) :
    Spec Tryd.prog 58 [Tr.raw (.slice ad n cap), .str p, .int many, .int fr] [Chunk.own ad cap 4 64 (l.map Lot.row)]
      (fun r cs => ∃ ad2 cap2, r = Tr.raw (.slice ad2 ((pickR l p many fr).2.2.map Piece.row).length cap2) ∧ cs = [Chunk.own ad2 cap2 2 67 ((pickR l p many fr).2.2.map Piece.row), Chunk.own ad cap 4 64 ((pickR l p many fr).1.map Lot.row)]) := by
  refine Spec.body Tryd.func58 rfl rfl (Tryd.ntmps58) rfl fun w0 own0 M => ?_
  have hL : (l.map Lot.row).length = l.length := List.length_map _
  repeat' (first | refine goH ?_ | refine goV ?_ | refine goB (fun b => ?_) | refine goC (fun ad cap => ?_) | refine goG ?_ | (refine Ops.k_guard ?_; first | (refine Ops.guard_dec rfl rfl (fun hc => ?_) (fun hc => ?_) <;> try (exfalso; omega)) | refine Ops.guard_split rfl rfl (fun hc => ?_) (fun hc => ?_)) | refine goI ?_ | (refine Cw.k_cond ?_; first | (refine Cw.cond_dec rfl (fun hc => ?_) (fun hc => ?_) <;> try (exfalso; omega)) | refine Cw.cond_bool rfl (fun hc => ?_) (fun hc => ?_)) | fail)
  rename Nat => b4
  refine Cw.loopI [(1, _), (2, _), (3, _), (4, _), (16, _), (17, _)] _ (fun q e c => ∃ (k : Nat) (ad2 : Option Addr) (cap2 : Nat) (rows : List (List Tr)), q = l.length - k ∧ (k ≤ l.length ∧ rows = intRows (candN l p fr k) ∧ rows.length ≤ k) ∧ e = [(9, Tr.raw (.slice ad2 rows.length cap2)), (18, .int k)] ∧ c = [Chunk.own ad2 cap2 1 3 rows])
    ⟨_, _, _, Ent.trans (Ent.nil 1 3) (Ent.mkP (by repeat' (first | exact Sub.nil | refine Sub.cons rfl ?_)) (by repeat' (first | exact List.Perm.refl _ | refine Perm.cons' (by first | exact pick0 | exact pickS pick0 | exact pickS (pickS pick0) | exact pickS (pickS (pickS pick0)) | exact pickS (pickS (pickS (pickS pick0)))) ?_))), 0, none, 0, [], rfl, ⟨by omega, rfl, by simp⟩, rfl, rfl⟩ ?_
  rintro _ _ _ ⟨k, ad2, cap2, rows, rfl, ⟨hk, hrows, hlen⟩, rfl, rfl⟩
  by_cases hkl : k < l.length
  · obtain ⟨x, hx⟩ := at_lt hkl
    have hrow : (l.map Lot.row)[((k : Nat) : Int).toNat]? = some [.str x.id, .str x.prod, .int x.exp, .int x.many] := rows_at hx
    have hcd : candB l p fr k = decide (x.prod = p ∧ fr ≤ x.exp) := by unfold candB; rw [hx]
    by_cases hp : x.prod = p
    · by_cases hf : fr ≤ x.exp
      · have hs : rows ++ [[Tr.int (k : Int)]] = intRows (candN l p fr (k + 1)) := by rw [candN_succ, hcd, if_pos (decide_eq_true ⟨hp, hf⟩), intRows_app, hrows]; rfl
        repeat' (first | refine goH ?_ | refine goV ?_ | refine goB (fun b => ?_) | refine goC (fun ad cap => ?_) | refine goG ?_ | (refine Ops.k_guard ?_; first | (refine Ops.guard_dec rfl rfl (fun hc => ?_) (fun hc => ?_) <;> try (exfalso; omega)) | refine Ops.guard_split rfl rfl (fun hc => ?_) (fun hc => ?_)) | refine goI ?_ | (refine Cw.k_cond ?_; first | (refine Cw.cond_dec rfl (fun hc => ?_) (fun hc => ?_) <;> try (exfalso; omega)) | refine Cw.cond_bool rfl (fun hc => ?_) (fun hc => ?_)) | fail)
        all_goals exact ⟨_, _, _, (Ent.mk (by repeat' (first | exact Sub.nil | refine Sub.cons rfl ?_)) (by repeat' (first | exact Take.nil | refine Take.cons (by first | exact pick0 | exact pickS pick0 | exact pickS (pickS pick0) | exact pickS (pickS (pickS pick0)) | exact pickS (pickS (pickS (pickS pick0)))) ?_))), ⟨k + 1, _, _, _, rfl, ⟨by omega, hs, by simp only [List.length_append, List.length_cons, List.length_nil]; omega⟩, rfl, rfl⟩, by omega⟩
      · have hs : rows = intRows (candN l p fr (k + 1)) := by rw [candN_succ, hcd, if_neg (by simp [hf]), hrows]
        repeat' (first | refine goH ?_ | refine goV ?_ | refine goB (fun b => ?_) | refine goC (fun ad cap => ?_) | refine goG ?_ | (refine Ops.k_guard ?_; first | (refine Ops.guard_dec rfl rfl (fun hc => ?_) (fun hc => ?_) <;> try (exfalso; omega)) | refine Ops.guard_split rfl rfl (fun hc => ?_) (fun hc => ?_)) | refine goI ?_ | (refine Cw.k_cond ?_; first | (refine Cw.cond_dec rfl (fun hc => ?_) (fun hc => ?_) <;> try (exfalso; omega)) | refine Cw.cond_bool rfl (fun hc => ?_) (fun hc => ?_)) | fail)
        all_goals exact ⟨_, _, _, (Ent.mk (by repeat' (first | exact Sub.nil | refine Sub.cons rfl ?_)) (by repeat' (first | exact Take.nil | refine Take.cons (by first | exact pick0 | exact pickS pick0 | exact pickS (pickS pick0) | exact pickS (pickS (pickS pick0)) | exact pickS (pickS (pickS (pickS pick0)))) ?_))), ⟨k + 1, _, _, _, rfl, ⟨by omega, hs, by omega⟩, rfl, rfl⟩, by omega⟩
    · have hs : rows = intRows (candN l p fr (k + 1)) := by rw [candN_succ, hcd, if_neg (by simp [hp]), hrows]
      repeat' (first | refine goH ?_ | refine goV ?_ | refine goB (fun b => ?_) | refine goC (fun ad cap => ?_) | refine goG ?_ | (refine Ops.k_guard ?_; first | (refine Ops.guard_dec rfl rfl (fun hc => ?_) (fun hc => ?_) <;> try (exfalso; omega)) | refine Ops.guard_split rfl rfl (fun hc => ?_) (fun hc => ?_)) | refine goI ?_ | (refine Cw.k_cond ?_; first | (refine Cw.cond_dec rfl (fun hc => ?_) (fun hc => ?_) <;> try (exfalso; omega)) | refine Cw.cond_bool rfl (fun hc => ?_) (fun hc => ?_)) | fail)
      all_goals exact ⟨_, _, _, (Ent.mk (by repeat' (first | exact Sub.nil | refine Sub.cons rfl ?_)) (by repeat' (first | exact Take.nil | refine Take.cons (by first | exact pick0 | exact pickS pick0 | exact pickS (pickS pick0) | exact pickS (pickS (pickS pick0)) | exact pickS (pickS (pickS (pickS pick0)))) ?_))), ⟨k + 1, _, _, _, rfl, ⟨by omega, hs, by omega⟩, rfl, rfl⟩, by omega⟩
  have hke : k = l.length := by omega
  subst hke
  have hcl := candN_len l p fr l.length
  have hrl : rows.length = (candN l p fr l.length).length := by rw [hrows, intRows_len]
  rw [hrl]
  subst hrows
  have hin : ∀ c ∈ candN l p fr l.length, 0 ≤ c ∧ c < l.length := fun c hc => by
    obtain ⟨i, rfl, h1, _⟩ := candN_mem.1 hc
    omega
  have hsort := sortStable_int (n := (candN l p fr l.length).length) (xs := candN l p fr l.length) (ad := ad2) (cap := cap2) (g := 69) (caps := [.pointer (some ⟨b4, 0, none⟩)]) (cin := [Chunk.box b4 30 [Tr.raw (.slice ad n cap)], Chunk.own ad cap 4 64 (l.map Lot.row)])
    (lt := fun a b => decide (expI l a < expI l b)) (cf := fun a b => cmpI (expI l a) (expI l b)) (fun a b => by rw [Bool.eq_iff_iff, decide_eq_true_iff, decide_eq_true_iff]; exact (cmpI_lt _ _).symm) (by omega) rfl
    (fun a b ha hb => picked1_fn l b4 _ ad cap n hn (by omega) a b (hin a ha) (hin b hb))
  rw [show isort (fun a b => decide (expI l a < expI l b)) (candN l p fr l.length) = ordL l p fr from rfl] at hsort
  have hol : (ordL l p fr).length = (candN l p fr l.length).length := isort_len _ _
  generalize hN : (candN l p fr l.length).length = N at *
  clear hrl hlen hk hkl
  repeat' (first | refine goH ?_ | refine goV ?_ | refine goB (fun b => ?_) | refine goC (fun ad cap => ?_) | refine goG ?_ | (refine Ops.k_guard ?_; first | (refine Ops.guard_dec rfl rfl (fun hc => ?_) (fun hc => ?_) <;> try (exfalso; omega)) | refine Ops.guard_split rfl rfl (fun hc => ?_) (fun hc => ?_)) | refine goI ?_ | (refine Cw.k_cond ?_; first | (refine Cw.cond_dec rfl (fun hc => ?_) (fun hc => ?_) <;> try (exfalso; omega)) | refine Cw.cond_bool rfl (fun hc => ?_) (fun hc => ?_)) | (refine Ops.k_calla ?_; first | (refine Ops.k_callf 68 ?_; (refine Ops.call hsort (Evs.cons rfl (Evs.cons rfl Evs.nil)) (by repeat' (first | exact List.Perm.refl _ | refine Perm.cons' (by first | exact pick0 | exact pickS pick0 | exact pickS (pickS pick0) | exact pickS (pickS (pickS pick0)) | exact pickS (pickS (pickS (pickS pick0)))) ?_)) rfl ?_; rintro r cs' ⟨rfl, rfl⟩))) | fail)
  have hoi : (intRows (ordL l p fr)).length = N := by rw [intRows_len, hol]
  refine Cw.loopI [(4, _), (41, _), (42, _)] _ (fun q e c => ∃ (k : Nat) (ad3 : Option Addr) (cap3 : Nat) (st : List Lot × Int × List Piece) (mv : Int) (lr pr : List (List Tr)), q = N - k ∧ (k ≤ N ∧ st = ((ordL l p fr).take k).foldl takeStep (l, many, []) ∧ mv = st.2.1 ∧ lr = st.1.map Lot.row ∧ pr = st.2.2.map Piece.row) ∧ e = [(2, .int mv), (12, Tr.raw (.slice ad3 pr.length cap3)), (43, .int k)] ∧ c = [Chunk.own ad3 cap3 2 67 pr, Chunk.own ad cap 4 64 lr])
    ⟨_, _, _, Ent.trans (Ent.nil 2 67) (Ent.mkP (by repeat' (first | exact Sub.nil | refine Sub.cons rfl ?_)) (by repeat' (first | exact List.Perm.refl _ | refine Perm.cons' (by first | exact pick0 | exact pickS pick0 | exact pickS (pickS pick0) | exact pickS (pickS (pickS pick0)) | exact pickS (pickS (pickS (pickS pick0)))) ?_))), 0, none, 0, (l, many, []), many, _, [], rfl, ⟨by omega, rfl, rfl, rfl, rfl⟩, rfl, rfl⟩ ?_
  rintro _ _ _ ⟨k, ad3, cap3, st, mv, lr, pr, rfl, ⟨hk, hst, rfl, hlr, hpr⟩, rfl, rfl⟩
  obtain ⟨s1, s2, s3, s4⟩ := fold_same (l0 := l) ((ordL l p fr).take k) (st := (l, many, [])) (Same.refl ho) hm.1
  rw [← hst] at s1 s2 s3 s4
  simp only [List.length_nil, List.length_take] at s3 s4
  have hlrl : lr.length = l.length := by rw [hlr, List.length_map, s1.len]
  have hprl : pr.length = st.2.2.length := by rw [hpr, List.length_map]
  by_cases hkl : k < N
  · obtain ⟨i, hi⟩ : ∃ i, (ordL l p fr)[k]? = some i := at_lt (by omega)
    obtain ⟨j, rfl, hj, _⟩ := ordL_mem.1 (List.mem_of_getElem? hi)
    have hrowi : (intRows (ordL l p fr))[((k : Nat) : Int).toNat]? = some [Tr.int ((j : Nat) : Int)] := intRows_at hi
    obtain ⟨y, hy⟩ := at_lt hj
    obtain ⟨x, hx, _, _, _, hx1, hx2⟩ := s1.at_ j y hy
    have hyb := ho.many y (List.mem_of_getElem? hy)
    have hrowx : lr[((j : Nat) : Int).toNat]? = some [.str x.id, .str x.prod, .int x.exp, .int x.many] := by rw [hlr]; exact rows_at hx
    have hnext : ((ordL l p fr).take (k + 1)).foldl takeStep (l, many, []) = takeStep st (j : Int) := by rw [fold_take hi, ← hst]
    have htk : takeStep st (j : Int) = if min st.2.1 x.many > 0 then (st.1.set j ⟨x.id, x.prod, x.exp, x.many - min st.2.1 x.many⟩, st.2.1 - min st.2.1 x.many, st.2.2 ++ [⟨x.id, min st.2.1 x.many⟩]) else st := by
      unfold takeStep
      rw [show ((j : Nat) : Int).toNat = j from rfl, hx]
    obtain ⟨mn, hmn⟩ : ∃ mn, mn = min st.2.1 x.many := ⟨_, rfl⟩
    rw [← hmn] at htk
    clear hsort hin
    by_cases hpos : mn > 0
    · rw [if_pos hpos] at htk
      have hset : lr.set ((j : Nat) : Int).toNat ([Tr.str x.id, .str x.prod, .int x.exp, .int x.many].set 3 (Tr.int (x.many - mn))) = (st.1.set j ⟨x.id, x.prod, x.exp, x.many - mn⟩).map Lot.row := by rw [hlr]; exact row_set hx
      have hpp : pr ++ [[Tr.str x.id, Tr.int mn]] = (st.2.2 ++ [Piece.mk x.id mn]).map Piece.row := by rw [hpr, List.map_append]; rfl
      repeat' (first | refine goH ?_ | (refine Ops.k_c_min ?_; first | (refine Ops.min2 rfl rfl rfl ?_; rw [← hmn])) | refine goV ?_ | refine goB (fun b => ?_) | refine goC (fun ad cap => ?_) | refine goG ?_ | (refine Ops.k_guard ?_; first | (refine Ops.guard_dec rfl rfl (fun hc => ?_) (fun hc => ?_) <;> try (exfalso; omega)) | refine Ops.guard_split rfl rfl (fun hc => ?_) (fun hc => ?_)) | refine goI ?_ | (refine Cw.k_cond ?_; first | (refine Cw.cond_dec rfl (fun hc => ?_) (fun hc => ?_) <;> try (exfalso; omega)) | refine Cw.cond_bool rfl (fun hc => ?_) (fun hc => ?_)) | fail)
      exact ⟨_, _, _, (Ent.mk (by repeat' (first | exact Sub.nil | refine Sub.cons rfl ?_)) (by repeat' (first | exact Take.nil | refine Take.cons (by first | exact pick0 | exact pickS pick0 | exact pickS (pickS pick0) | exact pickS (pickS (pickS pick0)) | exact pickS (pickS (pickS (pickS pick0)))) ?_))), ⟨k + 1, _, _, takeStep st (j : Int), _, _, _, rfl, ⟨by omega, hnext.symm, by rw [htk], by rw [htk]; exact hset, by rw [htk]; exact hpp⟩, rfl, rfl⟩, by omega⟩
    · rw [if_neg hpos] at htk
      repeat' (first | refine goH ?_ | (refine Ops.k_c_min ?_; first | (refine Ops.min2 rfl rfl rfl ?_; rw [← hmn])) | refine goV ?_ | refine goB (fun b => ?_) | refine goC (fun ad cap => ?_) | refine goG ?_ | (refine Ops.k_guard ?_; first | (refine Ops.guard_dec rfl rfl (fun hc => ?_) (fun hc => ?_) <;> try (exfalso; omega)) | refine Ops.guard_split rfl rfl (fun hc => ?_) (fun hc => ?_)) | refine goI ?_ | (refine Cw.k_cond ?_; first | (refine Cw.cond_dec rfl (fun hc => ?_) (fun hc => ?_) <;> try (exfalso; omega)) | refine Cw.cond_bool rfl (fun hc => ?_) (fun hc => ?_)) | fail)
      exact ⟨_, _, _, (Ent.mk (by repeat' (first | exact Sub.nil | refine Sub.cons rfl ?_)) (by repeat' (first | exact Take.nil | refine Take.cons (by first | exact pick0 | exact pickS pick0 | exact pickS (pickS pick0) | exact pickS (pickS (pickS pick0)) | exact pickS (pickS (pickS (pickS pick0)))) ?_))), ⟨k + 1, _, _, takeStep st (j : Int), _, _, _, rfl, ⟨by omega, hnext.symm, by rw [htk], by rw [htk]; exact hlr, by rw [htk]; exact hpr⟩, rfl, rfl⟩, by omega⟩
  · have hfin : st = pickR l p many fr := by rw [hst, List.take_of_length_le (by omega)]; rfl
    subst hfin
    subst hlr
    subst hpr
    repeat' (first | refine goH ?_ | refine goV ?_ | refine goB (fun b => ?_) | refine goC (fun ad cap => ?_) | refine goG ?_ | (refine Ops.k_guard ?_; first | (refine Ops.guard_dec rfl rfl (fun hc => ?_) (fun hc => ?_) <;> try (exfalso; omega)) | refine Ops.guard_split rfl rfl (fun hc => ?_) (fun hc => ?_)) | refine goI ?_ | (refine Cw.k_cond ?_; first | (refine Cw.cond_dec rfl (fun hc => ?_) (fun hc => ?_) <;> try (exfalso; omega)) | refine Cw.cond_bool rfl (fun hc => ?_) (fun hc => ?_)) | fail)
    exact Fin.ret (Ent.take (by repeat' (first | exact Take.nil | refine Take.cons (by first | exact pick0 | exact pickS pick0 | exact pickS (pickS pick0) | exact pickS (pickS (pickS pick0)) | exact pickS (pickS (pickS (pickS pick0)))) ?_))) (Outs.one rfl rfl) ⟨_, _, rfl, rfl⟩
end Lg
