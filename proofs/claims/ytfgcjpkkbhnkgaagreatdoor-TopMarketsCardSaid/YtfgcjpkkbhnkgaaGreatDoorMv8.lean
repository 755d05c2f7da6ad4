/- A part of the proof of a law of this seat: it adds no condition. By an AI agent. -/
import Derived.Test.YtfgcjpkkbhnkgaaGreatDoorDd2
section
set_option linter.all false
set_option maxRecDepth 100000
set_option maxHeartbeats 8000000
namespace Lg
open Go Go.Proofs Go.Sort Go.Shelf

/-! ### moves sorted, put together, once each -/
/-- slices.Compact of a slice of one's own: neighbours that are the same, once -/
theorem compact_mv {ad : Option Addr} {n cap : Nat} (L : List Mv) (hn : n = L.length) (hl : n ≤ 1000000) :
  Spec Tryz.prog 39 [Tr.raw (.slice ad n cap)] [Chunk.own ad cap 5 43 (L.map Mv.row)] (fun r cs => ∃ m, m = (dd L).length ∧ r = Tr.raw (.slice ad m cap) ∧ cs = [Chunk.own ad cap 5 43 ((dd L).map Mv.row)]) := by
 refine Spec.body Tryz.func39 rfl rfl (Tryz.ntmps39) rfl fun w0 own0 M => ?_
 have hLr : (L.map Mv.row).length = n := by rw [List.length_map, hn]
 by_cases hs : n < 2
 ·repeat' (first | refine goH ?_ | refine goV ?_ | refine goI ?_ | (refine Cw.k_cond ?_; first | (refine Cw.cond_dec rfl ?_ ?_ <;> intro hc <;> try omega) | refine Cw.cond_bool rfl ?_ ?_ <;> intro hc) | refine goR ?_ | refine goP ?_ | apply PSeq.cons | apply PSeq.yes rfl rfl rfl | exact goW | fail)
  have hd : dd L = L := dd_short (by omega)
  rw [hd]
  exact Fin.ret (Ent.take goTk) (Outs.one rfl rfl) ⟨_, hn, rfl, rfl⟩
 repeat' (first | refine goH ?_ | refine goV ?_ | refine goI ?_ | (refine Cw.k_cond ?_; first | (refine Cw.cond_dec rfl ?_ ?_ <;> intro hc <;> try omega) | refine Cw.cond_bool rfl ?_ ?_ <;> intro hc) | refine goR ?_ | refine goP ?_ | apply PSeq.cons | apply PSeq.yes rfl rfl rfl | exact goW | fail)
 refine Cw.loopI [(0, _)] _ (fun q e cc => ∃ (k : Nat), q = n - k ∧ (1 ≤ k ∧ k ≤ n ∧ dd (L.take k) = L.take k) ∧ e = [(3, .int k)] ∧ cc = [Chunk.own ad cap 5 43 (L.map Mv.row)]) ⟨_, _, _, (Ent.mkP goSub goPm), 1, rfl, ⟨by omega, by omega, dd_short (by rw [List.length_take]; omega)⟩, rfl, rfl⟩ ?_
 rintro _ _ _ ⟨k, rfl, ⟨hk1, hk, hd⟩, rfl, rfl⟩
 by_cases hkl : k < n
 rotate_left
 ·have hke : k = n := by omega
  subst hke
  rw [hn, List.take_length] at hd
  repeat' (first | refine goH ?_ | refine goV ?_ | refine goI ?_ | (refine Cw.k_cond ?_; first | (refine Cw.cond_dec rfl ?_ ?_ <;> intro hc <;> try omega) | refine Cw.cond_bool rfl ?_ ?_ <;> intro hc) | refine goR ?_ | refine goP ?_ | apply PSeq.cons | apply PSeq.yes rfl rfl rfl | exact goW | fail)
  rw [hd]
  exact Fin.ret (Ent.take goTk) (Outs.one rfl rfl) ⟨_, hn, rfl, rfl⟩
 refine Cw.own_form (List.Perm.refl _) (by omega) ?_
 rintro g rfl hcp hcm
 rw [hLr] at hcp
 obtain ⟨a, ha⟩ := at_lt (l := L) (k := k - 1) (by omega)
 obtain ⟨b, hb⟩ := at_lt (l := L) (k := k) (by omega)
 have ra : (L.map Mv.row)[((k : Int) - 1).toNat]? = some (Mv.row a) := by rw [show ((k : Int) - 1).toNat = k - 1 by omega]; exact rows_at ha
 have rb : (L.map Mv.row)[((k : Nat) : Int).toNat]? = some (Mv.row b) := by rw [Int.toNat_natCast]; exact rows_at hb
 skip
 by_cases hab : b = a
 rotate_left
 ·have hd2 := dd_go hk1 ha hb hd (fun h => hab h.symm)
  have he : decide (b = a) = false := decide_eq_false hab
  repeat' (first | refine goH ?_ | refine goV ?_ | refine goI ?_ | (refine Cw.k_cond ?_; first | (refine Cw.cond_dec rfl ?_ ?_ <;> intro hc <;> try omega) | refine Cw.cond_bool rfl ?_ ?_ <;> intro hc) | (apply OpV.w; apply OpV.k_b_eql; exact OpV.mv_eqv he rfl rfl) | refine goR ?_ | refine goP ?_ | apply PSeq.cons | apply PSeq.yes rfl rfl rfl | exact goW | fail)
  exact ⟨_, _, _, (Ent.mk goSub goTk), ⟨k + 1, rfl, ⟨by omega, by omega, hd2⟩, rfl, rfl⟩, by omega⟩
 subst hab
 have hw := dd_dup hk1 ha hb hd
 have he : decide (b = b) = true := decide_eq_true rfl
 clear ha hb
 repeat' (first | refine goH ?_ | ((fail_if_success refine Ops.k_slice ?_); refine goV ?_) | refine goI ?_ | (refine Cw.k_cond ?_; first | (refine Cw.cond_dec rfl ?_ ?_ <;> intro hc <;> try omega) | refine Cw.cond_bool rfl ?_ ?_ <;> intro hc) | (apply OpV.w; apply OpV.k_b_eql; exact OpV.mv_eqv he rfl rfl) | refine goR ?_ | refine goP ?_ | apply PSeq.cons | apply PSeq.yes rfl rfl rfl | exact goW | fail)
 clear he
 refine Ops.k_slice ?_
 refine Ops.sliceR_l rfl rfl (by omega) (by omega) rfl ?_
 clear ra rb
 rw [show Tr.raw (Value.slice (some ⟨g, 0 + ((k : Nat) : Int).toNat * 5, none⟩) (n - ((k : Nat) : Int).toNat) (cap - ((k : Nat) : Int).toNat)) = Tr.qsl (some ⟨g, 0, none⟩) k 5 (n - k) (cap - k) by unfold Tr.qsl; rw [Int.toNat_natCast, Nat.zero_add]; rfl]
 repeat' (first | refine goH ?_ | refine goV ?_ | refine goI ?_ | (refine Cw.k_cond ?_; first | (refine Cw.cond_dec rfl ?_ ?_ <;> intro hc <;> try omega) | refine Cw.cond_bool rfl ?_ ?_ <;> intro hc) | refine goR ?_ | refine goP ?_ | apply PSeq.cons | apply PSeq.yes rfl rfl rfl | exact goW | fail)
 refine Cw.loopI [(0, _), (4, _)] _ (fun q e cc => ∃ (i m : Nat) (W : List Mv), q = n - i ∧ (1 ≤ i ∧ k + i ≤ n ∧ Cpt L W m (k + i)) ∧ e = [(3, .int m), (5, .int i)] ∧ cc = [Chunk.own (some ⟨g, 0, none⟩) cap 5 43 (W.map Mv.row)]) ⟨_, _, _, (Ent.mkP goSub goPm), 1, k, L, rfl, ⟨by omega, by omega, hw⟩, rfl, rfl⟩ ?_
 clear hw
 rintro _ _ _ ⟨i, m, W, rfl, ⟨hi1, hik, hw⟩, rfl, rfl⟩
 have hWl : (W.map Mv.row).length = n := by rw [List.length_map, hw.len, hn]
 have hmlt := hw.lt
 by_cases hin : k + i < n
 ·obtain ⟨a, ha⟩ := at_lt (l := L) (k := k + i - 1) (by omega)
  obtain ⟨b, hb⟩ := at_lt (l := L) (k := k + i) (by omega)
  have ra : (W.map Mv.row)[k + ((i : Int) - 1).toNat]? = some (Mv.row a) := by rw [show k + ((i : Int) - 1).toNat = k + i - 1 by omega]; exact rows_at ((hw.at0 (by omega)).trans ha)
  have rb : (W.map Mv.row)[k + ((i : Nat) : Int).toNat]? = some (Mv.row b) := by rw [Int.toNat_natCast]; exact rows_at ((hw.at0 (by omega)).trans hb)
  skip
  by_cases hab : b = a
  ·subst hab
   have hw2 := hw.same ha hb
   have he : decide (b = b) = true := decide_eq_true rfl
   clear ha hb hw
   repeat' (first | refine goH ?_ | (refine Ops.k_indexAddr ?_; first | (refine Ops.indexAddr_sub rfl rfl goPk (by omega) (by omega) (by omega) rfl ?_)) | refine goV ?_ | refine goI ?_ | (refine Cw.k_cond ?_; first | (refine Cw.cond_dec rfl ?_ ?_ <;> intro hc <;> try omega) | refine Cw.cond_bool rfl ?_ ?_ <;> intro hc) | (apply OpV.w; apply OpV.k_indexAddr; exact OpV.indexAddr_sub rfl rfl goPk (by omega) (by omega) (by omega)) | (apply OpV.w; apply OpV.k_b_neq; exact OpV.mv_nev he rfl rfl) | refine goR ?_ | refine goP ?_ | apply PSeq.cons | apply PSeq.yes rfl rfl rfl | exact goW | fail)
   exact ⟨_, _, _, (Ent.mk goSub goTk), ⟨i + 1, m, W, rfl, ⟨by omega, by omega, hw2⟩, rfl, rfl⟩, by omega⟩
  ·have hw2 := hw.new ha hb (fun h => hab h.symm)
   have he : decide (b = a) = false := decide_eq_false hab
   have hset : (W.map Mv.row).set m (Mv.row b) = (W.set m b).map Mv.row := by rw [List.map_set]
   obtain ⟨c, hc⟩ := at_lt (l := W) (k := m) (by rw [hw.len]; omega)
   have rc : (W.map Mv.row)[((m : Nat) : Int).toNat]? = some (Mv.row c) := by rw [Int.toNat_natCast]; exact rows_at hc
   try simp only at rc hset
   clear ha hb hw hc
   repeat' (first | refine goH ?_ | (refine Ops.k_indexAddr ?_; first | (refine Ops.indexAddr_sub rfl rfl goPk (by omega) (by omega) (by omega) rfl ?_)) | refine goV ?_ | refine goI ?_ | (refine Cw.k_cond ?_; first | (refine Cw.cond_dec rfl ?_ ?_ <;> intro hc <;> try omega) | refine Cw.cond_bool rfl ?_ ?_ <;> intro hc) | (apply OpV.w; apply OpV.k_indexAddr; exact OpV.indexAddr_sub rfl rfl goPk (by omega) (by omega) (by omega)) | (apply OpV.w; apply OpV.k_b_neq; exact OpV.mv_nev he rfl rfl) | refine goR ?_ | refine goP ?_ | apply PSeq.cons | apply PSeq.yes rfl rfl rfl | exact goW | fail)
   erw [hset]
   exact ⟨_, _, _, (Ent.mk goSub goTk), ⟨i + 1, m + 1, _, rfl, ⟨by omega, by omega, hw2⟩, rfl, rfl⟩, by omega⟩
 have hie : k + i = n := by omega
 have hdone := hw.done
 have hm := hw.hm
 rw [hie, hn, List.take_length] at hdone hm
 clear hw
 repeat' (first | refine goH ?_ | (refine Ops.k_slice ?_; first | (refine Ops.sliceR_l rfl rfl (by omega) (by omega) rfl ?_)) | ((fail_if_success refine Ops.k_c_clear ?_); refine goV ?_) | refine goI ?_ | (refine Cw.k_cond ?_; first | (refine Cw.cond_dec rfl ?_ ?_ <;> intro hc <;> try omega) | refine Cw.cond_bool rfl ?_ ?_ <;> intro hc) | refine goR ?_ | refine goP ?_ | apply PSeq.cons | apply PSeq.yes rfl rfl rfl | exact goW | fail)
 refine Ops.k_c_clear ?_
 refine Ops.clear_part (o := m) rfl (List.Perm.refl _) (by rw [Int.toNat_natCast, Nat.zero_add]; rfl) (by omega) (by omega) ?_
 rw [Int.toNat_natCast]
 have hz : ((W.map Mv.row).take m ++ List.replicate (n - m) (List.map Tr.raw [Value.string ByteArray.empty, Value.int .i64 0, Value.int .i64 0, Value.string ByteArray.empty, Value.int .i64 0])).take m = (dd L).map Mv.row := by
  rw [List.take_append_of_le_length (by rw [List.length_take, hWl]; omega), List.take_take, Nat.min_self, ← List.map_take, hdone]
 have hzl : ((W.map Mv.row).take m ++ List.replicate (n - m) (List.map Tr.raw [Value.string ByteArray.empty, Value.int .i64 0, Value.int .i64 0, Value.string ByteArray.empty, Value.int .i64 0])).length = n := by rw [List.length_append, List.length_take, hWl, List.length_replicate]; omega
 generalize (W.map Mv.row).take m ++ List.replicate (n - m) (List.map Tr.raw [Value.string ByteArray.empty, Value.int .i64 0, Value.int .i64 0, Value.string ByteArray.empty, Value.int .i64 0]) = Z at *
 repeat' (first | refine goH ?_ | refine goV ?_ | refine goI ?_ | (refine Cw.k_cond ?_; first | (refine Cw.cond_dec rfl ?_ ?_ <;> intro hc <;> try omega) | refine Cw.cond_bool rfl ?_ ?_ <;> intro hc) | refine goR ?_ | refine goP ?_ | apply PSeq.cons | apply PSeq.yes rfl rfl rfl | exact goW | fail)
 rw [Int.toNat_natCast, hz]
 exact Fin.ret (Ent.take goTk) (Outs.one rfl rfl) ⟨_, List.length_map _, rfl, rfl⟩

/-- slices.Grow of nil, slices.Concat: a slice of its own -/
theorem grow_mv (n : Nat) (hn : n ≤ 1000000) : PFnO Tryz.prog 72 [Tr.raw (.slice none 0 0), .int n] 5 43 (· = []) := by
 unfold PFnO
 refine Spec.body Tryz.func72 rfl rfl (Tryz.ntmps72) rfl fun w0 own0 M => ?_
 refine Cw.ent (Ent.nil 5 43) ?_
 by_cases h0 : 0 < n
 ·repeat' (first | refine goH ?_ | refine goV ?_ | refine goC (fun ad cap => ?_) | refine goI ?_ | (refine Cw.k_cond ?_; first | (refine Cw.cond_dec rfl ?_ ?_ <;> intro hc <;> try omega) | refine Cw.cond_bool rfl ?_ ?_ <;> intro hc) | (refine Ops.val' rfl (OpV.cap Tryz.underlying44 rfl) ?_) | (refine Ops.append_zeros (n := n) Tryz.underlying3 rfl ?_ h0 (by omega) (by omega) rfl (fun ad cap => ?_)) | fail)
  ·show some (Tr.int ((n : Int) - (((0 : Nat) : Int) - ((0 : Nat) : Int)))) = some (Tr.int (n : Int))
   rw [show (n : Int) - (((0 : Nat) : Int) - ((0 : Nat) : Int)) = (n : Int) by omega]
  ·exact Fin.ret (Ent.take goTk) (Outs.one rfl rfl) ⟨_, _, [], rfl, rfl, rfl⟩
 ·repeat' (first | refine goH ?_ | refine goV ?_ | refine goC (fun ad cap => ?_) | refine goI ?_ | (refine Cw.k_cond ?_; first | (refine Cw.cond_dec rfl ?_ ?_ <;> intro hc <;> try omega) | refine Cw.cond_bool rfl ?_ ?_ <;> intro hc) | (refine Ops.val' rfl (OpV.cap Tryz.underlying44 rfl) ?_) | fail)
  exact Fin.ret (Ent.take goTk) (Outs.one rfl rfl) ⟨none, 0, [], rfl, rfl, rfl⟩
theorem concat_mv (L : List (List (List Tr))) (h1 : L.length ≤ 1000) (h2 : L.flatten.length ≤ 1000000) : PFnO Tryz.prog 36 [.sl 1 (L.map fun l => [Tr.sl 5 l])] 5 43 (· = L.flatten) := by
 have hL : (L.map fun l => [Tr.sl 5 l]).length = L.length := List.length_map _
 have fl_take : ∀ {k : Nat} {l : List (List Tr)}, L[k]? = some l → (L.take (k + 1)).flatten = (L.take k).flatten ++ l := fun h => by rw [take_at h, List.flatten_append]; simp
 have fl_le : ∀ k, (L.take k).flatten.length ≤ L.flatten.length := fun k => by
  have h := List.take_append_drop k L
  have h2 := congrArg (fun l => l.flatten.length) h
  simp only [List.flatten_append, List.length_append] at h2
  omega
 unfold PFnO
 refine Spec.body Tryz.func36 rfl rfl (Tryz.ntmps36) rfl fun w0 own0 M => ?_
 repeat' (first | refine goH ?_ | refine goV ?_ | refine goC (fun ad cap => ?_) | refine goI ?_ | (refine Cw.k_cond ?_; first | (refine Cw.cond_dec rfl ?_ ?_ <;> intro hc <;> try omega) | refine Cw.cond_bool rfl ?_ ?_ <;> intro hc) | fail)
 refine Cw.loopI [(0, _), (9, _), (10, _)] _ (fun q e cc => ∃ (k : Nat), q = L.length - k ∧ (k ≤ L.length) ∧ e = [(3, .int ((L.take k).flatten.length : Nat)), (11, .int k)] ∧ cc = []) ⟨_, _, _, (Ent.mkP goSub goPm), 0, rfl, by omega, rfl, rfl⟩ ?_
 rintro _ _ _ ⟨k, rfl, hk, rfl, rfl⟩
 by_cases hkl : k < L.length
 ·obtain ⟨l, hl⟩ := at_lt hkl
  have hrow : (L.map fun l => [Tr.sl 5 l])[k]? = some [Tr.sl 5 l] := rows_at hl
  have hst := congrArg List.length (fl_take hl)
  rw [List.length_append] at hst
  have hb := fl_le (k + 1)
  clear fl_take fl_le
  repeat' (first | refine goH ?_ | refine goV ?_ | refine goC (fun ad cap => ?_) | refine goI ?_ | (refine Cw.k_cond ?_; first | (refine Cw.cond_dec rfl ?_ ?_ <;> intro hc <;> try omega) | refine Cw.cond_bool rfl ?_ ?_ <;> intro hc) | fail)
  exact ⟨_, _, _, Ent.mk (by first | (refine Sub.cons (by show some (Tr.int _) = some (Tr.int _); congr 2; omega) ?_; repeat' (first | exact Sub.nil | refine Sub.cons rfl ?_))) goTk, ⟨k + 1, rfl, by omega, rfl, rfl⟩, by omega⟩
 ·have hkk : k = L.length := by omega
  subst hkk
  have hg := grow_mv L.flatten.length h2
  rw [List.take_of_length_le (Nat.le_refl _)]
  generalize hN : L.flatten.length = N at *
  repeat' (first | refine goH ?_ | refine goV ?_ | refine goC (fun ad cap => ?_) | refine goI ?_ | (refine Cw.k_cond ?_; first | (refine Cw.cond_dec rfl ?_ ?_ <;> intro hc <;> try omega) | refine Cw.cond_bool rfl ?_ ?_ <;> intro hc) | (refine Ops.k_calla ?_; first | (refine Ops.k_callf 72 ?_; (refine Ops.callO hg (Evs.cons rfl (Evs.cons rfl Evs.nil)) rfl (fun ad cap rows hr => ?_); subst hr))) | fail)
  refine Cw.loopI [(25, _), (26, _)] _ (fun q e cc => ∃ (k : Nat) (ad : Option Addr) (cap : Nat) (rows : List (List Tr)), q = L.length - k ∧ (k ≤ L.length ∧ rows = (L.take k).flatten ∧ rows.length ≤ N) ∧ e = [(6, Tr.raw (.slice ad rows.length cap)), (27, .int k)] ∧ cc = [Chunk.own ad cap 5 43 rows])
   ⟨_, _, _, (Ent.mkP goSub goPm), 0, ad, cap, [], rfl, ⟨by omega, rfl, by simp⟩, rfl, rfl⟩ ?_
  clear ad cap
  rintro _ _ _ ⟨k, ad, cap, rows, rfl, ⟨hk, hrows, hrl⟩, rfl, rfl⟩
  by_cases hkl : k < L.length
  ·obtain ⟨l, hl⟩ := at_lt hkl
   have hrow : (L.map fun l => [Tr.sl 5 l])[k]? = some [Tr.sl 5 l] := rows_at hl
   have hst := fl_take hl
   have hb := fl_le (k + 1)
   have key : rows ++ l = (L.take (k + 1)).flatten := by rw [hst, hrows]
   have hkl2 := congrArg List.length key
   rw [List.length_append] at hkl2
   clear fl_take fl_le hst
   repeat' (first | refine goH ?_ | refine goV ?_ | refine goC (fun ad cap => ?_) | refine goI ?_ | (refine Cw.k_cond ?_; first | (refine Cw.cond_dec rfl ?_ ?_ <;> intro hc <;> try omega) | refine Cw.cond_bool rfl ?_ ?_ <;> intro hc) | fail)
   exact ⟨_, _, _, (Ent.mk goSub goTk), ⟨k + 1, _, _, _, rfl, ⟨by omega, key, by rw [List.length_append]; omega⟩, rfl, rfl⟩, by omega⟩
  ·rw [List.take_of_length_le (by omega)] at hrows
   repeat' (first | refine goH ?_ | refine goV ?_ | refine goC (fun ad cap => ?_) | refine goI ?_ | (refine Cw.k_cond ?_; first | (refine Cw.cond_dec rfl ?_ ?_ <;> intro hc <;> try omega) | refine Cw.cond_bool rfl ?_ ?_ <;> intro hc) | fail)
   exact Fin.ret (Ent.take goTk) (Outs.one rfl rfl) ⟨ad, cap, rows, rfl, rfl, hrows⟩

/-- insertion sort, of a slice of one's own, by a function that only reads -/
theorem insSort_mv {n : Nat} {xs : List Mv} {ad : Option Addr} {cap : Nat} {g : Nat} {caps : List Value} {cin : List Chunk} {lt : Mv → Mv → Bool} {cf : Mv → Mv → Int} (hlt : ∀ a b, lt a b = decide (cf a b < 0)) (hl : xs.length ≤ 1000000) (hn : n = xs.length)
  (hs : ∀ a b, a ∈ xs → b ∈ xs → Spec Tryz.prog g ([(fun x : Mv => Tr.agg x.row) a, (fun x : Mv => Tr.agg x.row) b] ++ caps.map Tr.raw) cin (fun r cs => r = Tr.int (cf a b) ∧ cs = cin)) :
  Spec Tryz.prog 115 [Tr.raw (.slice ad n cap), .int 0, .int n, Tr.raw (.func (.func g) #[] caps.toArray)] (Chunk.own ad cap 5 43 (xs.map Mv.row) :: cin) (fun r cs => r = Tr.tup [] ∧ cs = Chunk.own ad cap 5 43 ((isort lt xs).map Mv.row) :: cin) := by
 refine Spec.body Tryz.func115 rfl rfl (Tryz.ntmps115) rfl fun w0 own0 M => ?_
 repeat' (first | refine goH ?_ | refine goV ?_ | refine goG ?_ | (refine Ops.k_guard ?_; first | (refine Ops.guard_dec rfl rfl ?_ ?_ <;> intro hc <;> try omega) | refine Ops.guard_split rfl rfl ?_ ?_ <;> intro hc) | refine goI ?_ | (refine Cw.k_cond ?_; first | (refine Cw.cond_dec rfl ?_ ?_ <;> intro hc <;> try omega) | refine Cw.cond_bool rfl ?_ ?_ <;> intro hc) | refine goR ?_ | refine goP ?_ | apply PSeq.cons | apply PSeq.yes rfl rfl rfl | exact goW | fail)
 refine Cw.loopI [(0, _), (1, _), (2, _), (3, _)] cin (fun q e c => ∃ (i : Nat) (rows : List (List Tr)), q = n - i ∧ (1 ≤ i ∧ i ≤ max 1 n ∧ rows = (isort lt (xs.take i) ++ xs.drop i).map Mv.row ∧ rows.length = n) ∧ e = [(8, .int i)] ∧ c = [Chunk.own ad cap 5 43 rows])
  ⟨_, _, _, (Ent.mkP goSub goPm), 1, xs.map Mv.row, rfl, ⟨by omega, by omega, by rw [isort_take1, List.take_append_drop], by rw [List.length_map, hn]⟩, rfl, rfl⟩ ?_
 rintro _ _ _ ⟨i, rows, rfl, ⟨hi1, hi2, hrows, hrl⟩, rfl, rfl⟩
 by_cases hil : i < n
 ·obtain ⟨x, hx⟩ : ∃ x, xs[i]? = some x := at_lt (by omega)
  obtain ⟨S, hS⟩ : ∃ S, S = isort lt (xs.take i) := ⟨_, rfl⟩
  have hSl : S.length = i := by rw [hS, isort_len, List.length_take]; omega
  have hSm : ∀ y ∈ S, y ∈ xs := fun y hy => List.mem_of_mem_take ((isort_perm lt (xs.take i)).mem_iff.1 (by rw [← hS]; exact hy))
  have hxm : x ∈ xs := List.mem_of_getElem? hx
  have hnext : isort lt (xs.take (i + 1)) = insB lt x S := by rw [take_at hx, isort_snoc, ← hS]
  rw [← hS, drop_at hx] at hrows
  repeat' (first | refine goH ?_ | refine goV ?_ | refine goG ?_ | (refine Ops.k_guard ?_; first | (refine Ops.guard_dec rfl rfl ?_ ?_ <;> intro hc <;> try omega) | refine Ops.guard_split rfl rfl ?_ ?_ <;> intro hc) | refine goI ?_ | (refine Cw.k_cond ?_; first | (refine Cw.cond_dec rfl ?_ ?_ <;> intro hc <;> try omega) | refine Cw.cond_bool rfl ?_ ?_ <;> intro hc) | refine goR ?_ | refine goP ?_ | apply PSeq.cons | apply PSeq.yes rfl rfl rfl | exact goW | fail)
  refine Cw.loopI [(0, _), (1, _), (2, _), (3, _), (8, _)] cin (fun q e c => ∃ (f m : List Mv) (rows : List (List Tr)) (j : Nat), q = f.length ∧ (f.length = j ∧ S = f ++ m ∧ insB lt x S = insB lt x f ++ m ∧ rows = (f ++ x :: (m ++ xs.drop (i + 1))).map Mv.row ∧ rows.length = n) ∧ e = [(9, .int j)] ∧ c = [Chunk.own ad cap 5 43 rows])
   ⟨_, _, _, (Ent.mkP goSub goPm), S, [], rows, i, rfl, ⟨hSl, by simp, by simp, by rw [hrows]; simp, hrl⟩, rfl, rfl⟩ ?_
  clear hrows hrl
  rintro _ _ _ ⟨f, m, rows, j, rfl, ⟨hj, hfm, hins, hrows, hrl⟩, rfl, rfl⟩
  have hfl : j ≤ i := by rw [← hSl, hfm, List.length_append]; omega
  have hx0 : rows[((j : Nat) : Int).toNat]? = some [.str x.site, .int x.no, .int x.day, .str x.ware, .int x.many] := by rw [hrows]; exact rows_at (by simp [← hj])
  have fin : ∀ rows' : List (List Tr), rows' = (f ++ x :: (m ++ xs.drop (i + 1))).map Mv.row → insB lt x f = f ++ [x] → rows' = (isort lt (xs.take (i + 1)) ++ xs.drop (i + 1)).map Mv.row := by
   intro rows' h1 h2
   rw [h1, hnext, hins, h2]
   simp
  rcases List.eq_nil_or_concat f with rfl | ⟨f', y, rfl⟩
  ·rw [List.length_nil] at hj
   subst hj
   have h0 := fin rows hrows (insB_nil lt x)
   repeat' (first | refine goH ?_ | refine goV ?_ | refine goG ?_ | (refine Ops.k_guard ?_; first | (refine Ops.guard_dec rfl rfl ?_ ?_ <;> intro hc <;> try omega) | refine Ops.guard_split rfl rfl ?_ ?_ <;> intro hc) | refine goI ?_ | (refine Cw.k_cond ?_; first | (refine Cw.cond_dec rfl ?_ ?_ <;> intro hc <;> try omega) | refine Cw.cond_bool rfl ?_ ?_ <;> intro hc) | refine goR ?_ | refine goP ?_ | apply PSeq.cons | apply PSeq.yes rfl rfl rfl | exact goW | fail)
   exact ⟨_, _, _, (Ent.mkP goSub goPm), ⟨i + 1, rows, rfl, ⟨by omega, by omega, h0, hrl⟩, rfl, rfl⟩, by omega⟩
  ·rw [List.concat_eq_append] at *
   have hym : y ∈ xs := hSm y (by rw [hfm]; simp)
   have hspec := hs x y hxm hym
   have hjl : (f' ++ [y]).length = f'.length + 1 := by simp
   rw [hjl] at hj
   subst hj
   have hy0 : rows[(((f'.length + 1 : Nat) : Int) - 1).toNat]? = some [.str y.site, .int y.no, .int y.day, .str y.ware, .int y.many] := by
    rw [hrows, show (((f'.length + 1 : Nat) : Int) - 1).toNat = f'.length by omega]
    exact rows_at (by simp)
   cases hc0 : lt x y
   ·have hcf : ¬ cf x y < 0 := by rw [hlt] at hc0; simpa using hc0
    have h0 := fin rows hrows (insB_ge lt hc0)
    repeat' (first | refine goH ?_ | refine goV ?_ | refine goG ?_ | (refine Ops.k_guard ?_; first | (refine Ops.guard_dec rfl rfl ?_ ?_ <;> intro hc <;> try omega) | refine Ops.guard_split rfl rfl ?_ ?_ <;> intro hc) | refine goI ?_ | (refine Cw.k_cond ?_; first | (refine Cw.cond_dec rfl ?_ ?_ <;> intro hc <;> try omega) | refine Cw.cond_bool rfl ?_ ?_ <;> intro hc) | exact OpW.callS_fn rfl hspec (Evs.cons rfl (Evs.cons rfl Evs.nil)) List.perm_append_comm | refine goR ?_ | refine goP ?_ | apply PSeq.cons | apply PSeq.yes rfl rfl rfl | exact goW | fail)
    exact ⟨_, _, _, (Ent.mkP goSub goPm), ⟨i + 1, rows, rfl, ⟨by omega, by omega, h0, hrl⟩, rfl, rfl⟩, by omega⟩
   ·have hcf : cf x y < 0 := by rw [hlt] at hc0; simpa using hc0
    have hset : (rows.set ((f'.length + 1 : Nat) : Int).toNat [.str y.site, .int y.no, .int y.day, .str y.ware, .int y.many])[(((f'.length + 1 : Nat) : Int) - 1).toNat]? = some [.str y.site, .int y.no, .int y.day, .str y.ware, .int y.many] := by
     rw [List.getElem?_set_ne (by omega)]
     exact hy0
    have hlen2 : (rows.set ((f'.length + 1 : Nat) : Int).toNat [.str y.site, .int y.no, .int y.day, .str y.ware, .int y.many]).length = n := by rw [List.length_set]; exact hrl
    have hres : (rows.set ((f'.length + 1 : Nat) : Int).toNat [.str y.site, .int y.no, .int y.day, .str y.ware, .int y.many]).set (((f'.length + 1 : Nat) : Int) - 1).toNat [.str x.site, .int x.no, .int x.day, .str x.ware, .int x.many] = (f' ++ x :: (y :: m ++ xs.drop (i + 1))).map Mv.row := by
     rw [hrows, show (((f'.length + 1 : Nat) : Int) - 1).toNat = f'.length by omega, show ((f'.length + 1 : Nat) : Int).toNat = f'.length + 1 by omega]
     simp [List.set_append]
     all_goals (try exact ⟨rfl, rfl⟩)
    have hm : S = f' ++ (y :: m) := by rw [hfm]; simp
    have hins2 : insB lt x S = insB lt x f' ++ (y :: m) := by rw [hins, insB_lt lt hc0]; simp
    clear fin hnext hS hSl hSm hfm hins hrows
    repeat' (first | refine goH ?_ | refine goV ?_ | refine goG ?_ | (refine Ops.k_guard ?_; first | (refine Ops.guard_dec rfl rfl ?_ ?_ <;> intro hc <;> try omega) | refine Ops.guard_split rfl rfl ?_ ?_ <;> intro hc) | refine goI ?_ | (refine Cw.k_cond ?_; first | (refine Cw.cond_dec rfl ?_ ?_ <;> intro hc <;> try omega) | refine Cw.cond_bool rfl ?_ ?_ <;> intro hc) | exact OpW.callS_fn rfl hspec (Evs.cons rfl (Evs.cons rfl Evs.nil)) List.perm_append_comm | refine goR ?_ | refine goP ?_ | apply PSeq.cons | apply PSeq.yes rfl rfl rfl | exact goW | fail)
    refine Cw.region_seqF (m := 15) [2, 3, 4] rfl (by decide +kernel) rfl (fun a w d => ?_) ?_
    ·have h9 := rd_raw (d.env 9 _ rfl)
     have hs : a.tmps.size = 53 := d.tmps
     have h9' : a.tmps[9]'(by omega) = .int .i64 ((f'.length + 1 : Nat) : Int) := by simpa [hs] using h9
     exact FlRun.move rfl rfl rfl rfl (FlRun.move rfl rfl rfl rfl (FlRun.sub1 (p := ((f'.length + 1 : Nat) : Int)) rfl rfl rfl rfl (by simp [Act.put, Act.eval, hs, h9']) FlRun.nil))
    repeat' (first | refine goH ?_ | refine goV ?_ | refine goG ?_ | (refine Ops.k_guard ?_; first | (refine Ops.guard_dec rfl rfl ?_ ?_ <;> intro hc <;> try omega) | refine Ops.guard_split rfl rfl ?_ ?_ <;> intro hc) | refine goI ?_ | (refine Cw.k_cond ?_; first | (refine Cw.cond_dec rfl ?_ ?_ <;> intro hc <;> try omega) | refine Cw.cond_bool rfl ?_ ?_ <;> intro hc) | refine NoP.norm ?_ | refine goR ?_ | refine goP ?_ | apply PSeq.cons | apply PSeq.yes rfl rfl rfl | exact goW | fail)
    refine ⟨_, _, _, ?_, ⟨f', y :: m, _, f'.length, rfl, ⟨rfl, hm, hins2, hres, by rw [List.length_set]; exact hlen2⟩, rfl, rfl⟩, by simp⟩
    rw [show ((f'.length + 1 : Nat) : Int) - 1 = (f'.length : Int) by omega]
    exact (Ent.mkP goSub goPm)
 ·have hin : xs.take i = xs := List.take_of_length_le (by omega)
  rw [hin, List.drop_eq_nil_of_le (by omega), List.append_nil] at hrows
  subst hrows
  repeat' (first | refine goH ?_ | refine goV ?_ | refine goG ?_ | (refine Ops.k_guard ?_; first | (refine Ops.guard_dec rfl rfl ?_ ?_ <;> intro hc <;> try omega) | refine Ops.guard_split rfl rfl ?_ ?_ <;> intro hc) | refine goI ?_ | (refine Cw.k_cond ?_; first | (refine Cw.cond_dec rfl ?_ ?_ <;> intro hc <;> try omega) | refine Cw.cond_bool rfl ?_ ?_ <;> intro hc) | refine goR ?_ | refine goP ?_ | apply PSeq.cons | apply PSeq.yes rfl rfl rfl | exact goW | fail)
  exact Fin.norm (Ent.mkP goSub goPm) (Outs.zero rfl) ⟨rfl, rfl⟩

/-- slices.SortStableFunc on a short slice -/
theorem stable_mv {n : Nat} {xs : List Mv} {ad : Option Addr} {cap : Nat} {g : Nat} {caps : List Value} {cin : List Chunk} {lt : Mv → Mv → Bool} {cf : Mv → Mv → Int} (hlt : ∀ a b, lt a b = decide (cf a b < 0)) (hl : xs.length < 20) (hn : n = xs.length)
  (hs : ∀ a b, a ∈ xs → b ∈ xs → Spec Tryz.prog g ([(fun x : Mv => Tr.agg x.row) a, (fun x : Mv => Tr.agg x.row) b] ++ caps.map Tr.raw) cin (fun r cs => r = Tr.int (cf a b) ∧ cs = cin)) :
  Spec Tryz.prog 73 [Tr.raw (.slice ad n cap), .int n, Tr.raw (.func (.func g) #[] caps.toArray)] (Chunk.own ad cap 5 43 (xs.map Mv.row) :: cin) (fun r cs => r = Tr.tup [] ∧ cs = Chunk.own ad cap 5 43 ((isort lt xs).map Mv.row) :: cin) := by
 have hi := insSort_mv (ad := ad) (cap := cap) hlt (show xs.length ≤ 1000000 by omega) hn hs
 refine Spec.body Tryz.func73 rfl rfl (Tryz.ntmps73) rfl fun w0 own0 M => ?_
 repeat' (first | refine goH ?_ | refine goV ?_ | refine goI ?_ | (refine Cw.k_cond ?_; first | (refine Cw.cond_dec rfl ?_ ?_ <;> intro hc <;> try omega) | refine Cw.cond_bool rfl ?_ ?_ <;> intro hc) | fail)
 refine Cw.loopI [(0, _), (1, _), (2, _), (6, _)] _ (fun q e c => q = 0 ∧ e = [(7, .int 0), (8, .int 20)] ∧ c = []) ⟨_, _, _, (Ent.mkP goSub goPm), rfl, rfl, rfl⟩ ?_
 rintro _ _ _ ⟨rfl, rfl, rfl⟩
 repeat' (first | refine goH ?_ | refine goV ?_ | refine goI ?_ | (refine Cw.k_cond ?_; first | (refine Cw.cond_dec rfl ?_ ?_ <;> intro hc <;> try omega) | refine Cw.cond_bool rfl ?_ ?_ <;> intro hc) | (refine Ops.k_calla ?_; first | (refine Ops.call (cf := []) hi (Evs.cons rfl (Evs.cons rfl (Evs.cons rfl (Evs.cons rfl Evs.nil)))) (by simp) rfl ?_; rintro r cs' ⟨rfl, rfl⟩)) | fail)
 refine Cw.loopI [(0, _), (1, _), (2, _)] _ (fun q e c => q = 0 ∧ e = [(6, .int 20)] ∧ c = []) ⟨_, _, _, (Ent.mkP goSub goPm), rfl, rfl, rfl⟩ ?_
 rintro _ _ _ ⟨rfl, rfl, rfl⟩
 repeat' (first | refine goH ?_ | refine goV ?_ | refine goI ?_ | (refine Cw.k_cond ?_; first | (refine Cw.cond_dec rfl ?_ ?_ <;> intro hc <;> try omega) | refine Cw.cond_bool rfl ?_ ?_ <;> intro hc) | fail)
 exact Fin.norm (Ent.mkP goSub (by simp)) (Outs.zero rfl) ⟨rfl, rfl⟩
theorem sortStable_mv {n : Nat} {xs : List Mv} {ad : Option Addr} {cap : Nat} {g : Nat} {caps : List Value} {cin : List Chunk} {lt : Mv → Mv → Bool} {cf : Mv → Mv → Int} (hlt : ∀ a b, lt a b = decide (cf a b < 0)) (hl : xs.length < 20) (hn : n = xs.length)
  (hs : ∀ a b, a ∈ xs → b ∈ xs → Spec Tryz.prog g ([(fun x : Mv => Tr.agg x.row) a, (fun x : Mv => Tr.agg x.row) b] ++ caps.map Tr.raw) cin (fun r cs => r = Tr.int (cf a b) ∧ cs = cin)) :
  Spec Tryz.prog 37 [Tr.raw (.slice ad n cap), Tr.raw (.func (.func g) #[] caps.toArray)] (Chunk.own ad cap 5 43 (xs.map Mv.row) :: cin) (fun r cs => r = Tr.tup [] ∧ cs = Chunk.own ad cap 5 43 ((isort lt xs).map Mv.row) :: cin) := by
 have hi := stable_mv (ad := ad) (cap := cap) hlt hl hn hs
 refine Spec.body Tryz.func37 rfl rfl (Tryz.ntmps37) rfl fun w0 own0 M => ?_
 repeat' (first | refine goH ?_ | refine goV ?_ | refine goI ?_ | (refine Cw.k_cond ?_; first | (refine Cw.cond_dec rfl ?_ ?_ <;> intro hc <;> try omega) | refine Cw.cond_bool rfl ?_ ?_ <;> intro hc) | (refine Ops.k_calla ?_; first | (refine Ops.call (cf := []) hi (Evs.cons rfl (Evs.cons rfl (Evs.cons rfl Evs.nil))) (by simp) rfl ?_; rintro r cs' ⟨rfl, rfl⟩)) | fail)
 exact Fin.norm (Ent.mkP goSub (by simp)) (Outs.zero rfl) ⟨rfl, rfl⟩

/-- slices.SortStableFunc on a slice of exactly 20 elements: one block, and an empty one -/
theorem insSortZ_mv {xs : List (List Tr)} {ad : Option Addr} {cap : Nat} {g : Nat} {caps : List Value} {cin : List Chunk} :
  Spec Tryz.prog 115 [Tr.raw (.slice ad 20 cap), .int 20, .int 20, Tr.raw (.func (.func g) #[] caps.toArray)] (Chunk.own ad cap 5 43 xs :: cin) (fun r cs => r = Tr.tup [] ∧ cs = Chunk.own ad cap 5 43 xs :: cin) := by
 refine Spec.body Tryz.func115 rfl rfl (Tryz.ntmps115) rfl fun w0 own0 M => ?_
 repeat' (first | refine goH ?_ | refine goV ?_ | refine goG ?_ | (refine Ops.k_guard ?_; first | (refine Ops.guard_dec rfl rfl ?_ ?_ <;> intro hc <;> try omega) | refine Ops.guard_split rfl rfl ?_ ?_ <;> intro hc) | refine goI ?_ | (refine Cw.k_cond ?_; first | (refine Cw.cond_dec rfl ?_ ?_ <;> intro hc <;> try omega) | refine Cw.cond_bool rfl ?_ ?_ <;> intro hc) | refine goR ?_ | refine goP ?_ | apply PSeq.cons | apply PSeq.yes rfl rfl rfl | exact goW | fail)
 refine Cw.loopI [(0, _), (1, _), (2, _), (3, _)] cin (fun q e c => q = 0 ∧ e = [(8, .int 21)] ∧ c = [Chunk.own ad cap 5 43 xs]) ⟨_, _, _, (Ent.mkP goSub goPm), rfl, rfl, rfl⟩ ?_
 rintro _ _ _ ⟨rfl, rfl, rfl⟩
 repeat' (first | refine goH ?_ | refine goV ?_ | refine goG ?_ | (refine Ops.k_guard ?_; first | (refine Ops.guard_dec rfl rfl ?_ ?_ <;> intro hc <;> try omega) | refine Ops.guard_split rfl rfl ?_ ?_ <;> intro hc) | refine goI ?_ | (refine Cw.k_cond ?_; first | (refine Cw.cond_dec rfl ?_ ?_ <;> intro hc <;> try omega) | refine Cw.cond_bool rfl ?_ ?_ <;> intro hc) | refine goR ?_ | refine goP ?_ | apply PSeq.cons | apply PSeq.yes rfl rfl rfl | exact goW | fail)
 exact Fin.norm (Ent.mkP goSub goPm) (Outs.zero rfl) ⟨rfl, rfl⟩
theorem stableT_mv {xs : List Mv} {ad : Option Addr} {cap : Nat} {g : Nat} {caps : List Value} {cin : List Chunk} {lt : Mv → Mv → Bool} {cf : Mv → Mv → Int} (hlt : ∀ a b, lt a b = decide (cf a b < 0)) (hl : xs.length = 20)
  (hs : ∀ a b, a ∈ xs → b ∈ xs → Spec Tryz.prog g ([(fun x : Mv => Tr.agg x.row) a, (fun x : Mv => Tr.agg x.row) b] ++ caps.map Tr.raw) cin (fun r cs => r = Tr.int (cf a b) ∧ cs = cin)) :
  Spec Tryz.prog 73 [Tr.raw (.slice ad 20 cap), .int 20, Tr.raw (.func (.func g) #[] caps.toArray)] (Chunk.own ad cap 5 43 (xs.map Mv.row) :: cin) (fun r cs => r = Tr.tup [] ∧ cs = Chunk.own ad cap 5 43 ((isort lt xs).map Mv.row) :: cin) := by
 have hi := insSort_mv (ad := ad) (cap := cap) (n := 20) hlt (show xs.length ≤ 1000000 by omega) hl.symm hs
 have hz := insSortZ_mv (xs := (isort lt xs).map Mv.row) (ad := ad) (cap := cap) (g := g) (caps := caps) (cin := cin)
 refine Spec.body Tryz.func73 rfl rfl (Tryz.ntmps73) rfl fun w0 own0 M => ?_
 repeat' (first | refine goH ?_ | refine goV ?_ | refine goI ?_ | (refine Cw.k_cond ?_; first | (refine Cw.cond_dec rfl ?_ ?_ <;> intro hc <;> try omega) | refine Cw.cond_bool rfl ?_ ?_ <;> intro hc) | fail)
 refine Cw.loopI [(0, _), (1, _), (2, _), (6, _)] cin (fun q e c => (q = 1 ∧ e = [(7, .int 0), (8, .int 20)] ∧ c = [Chunk.own ad cap 5 43 (xs.map Mv.row)]) ∨ (q = 0 ∧ e = [(7, .int 20), (8, .int 40)] ∧ c = [Chunk.own ad cap 5 43 ((isort lt xs).map Mv.row)])) ⟨_, _, _, (Ent.mkP goSub goPm), .inl ⟨rfl, rfl, rfl⟩⟩ ?_
 rintro _ _ _ (⟨rfl, rfl, rfl⟩ | ⟨rfl, rfl, rfl⟩)
 ·repeat' (first | refine goH ?_ | refine goV ?_ | refine goI ?_ | (refine Cw.k_cond ?_; first | (refine Cw.cond_dec rfl ?_ ?_ <;> intro hc <;> try omega) | refine Cw.cond_bool rfl ?_ ?_ <;> intro hc) | (refine Ops.k_calla ?_; first | (refine Ops.call (cf := []) hi (Evs.cons rfl (Evs.cons rfl (Evs.cons rfl (Evs.cons rfl Evs.nil)))) (by simp) rfl ?_; rintro r cs' ⟨rfl, rfl⟩)) | fail)
  exact ⟨_, _, _, by simpa using (Ent.mkP goSub goPm), .inr ⟨rfl, rfl, rfl⟩, by omega⟩
 ·repeat' (first | refine goH ?_ | refine goV ?_ | refine goI ?_ | (refine Cw.k_cond ?_; first | (refine Cw.cond_dec rfl ?_ ?_ <;> intro hc <;> try omega) | refine Cw.cond_bool rfl ?_ ?_ <;> intro hc) | (refine Ops.k_calla ?_; first | (refine Ops.call (cf := []) hz (Evs.cons rfl (Evs.cons rfl (Evs.cons rfl (Evs.cons rfl Evs.nil)))) (by simp) rfl ?_; rintro r cs' ⟨rfl, rfl⟩)) | fail)
  refine Cw.loopI [(0, _), (1, _), (2, _)] _ (fun q e c => q = 0 ∧ e = [(6, .int 20)] ∧ c = []) ⟨_, _, _, (Ent.mkP goSub goPm), rfl, rfl, rfl⟩ ?_
  rintro _ _ _ ⟨rfl, rfl, rfl⟩
  repeat' (first | refine goH ?_ | refine goV ?_ | refine goI ?_ | (refine Cw.k_cond ?_; first | (refine Cw.cond_dec rfl ?_ ?_ <;> intro hc <;> try omega) | refine Cw.cond_bool rfl ?_ ?_ <;> intro hc) | fail)
  exact Fin.norm (Ent.mkP goSub (by simp)) (Outs.zero rfl) ⟨rfl, rfl⟩
theorem sortStable20_mv {n : Nat} {xs : List Mv} {ad : Option Addr} {cap : Nat} {g : Nat} {caps : List Value} {cin : List Chunk} {lt : Mv → Mv → Bool} {cf : Mv → Mv → Int} (hlt : ∀ a b, lt a b = decide (cf a b < 0)) (hl : xs.length ≤ 20) (hn : n = xs.length)
  (hs : ∀ a b, a ∈ xs → b ∈ xs → Spec Tryz.prog g ([(fun x : Mv => Tr.agg x.row) a, (fun x : Mv => Tr.agg x.row) b] ++ caps.map Tr.raw) cin (fun r cs => r = Tr.int (cf a b) ∧ cs = cin)) :
  Spec Tryz.prog 37 [Tr.raw (.slice ad n cap), Tr.raw (.func (.func g) #[] caps.toArray)] (Chunk.own ad cap 5 43 (xs.map Mv.row) :: cin) (fun r cs => r = Tr.tup [] ∧ cs = Chunk.own ad cap 5 43 ((isort lt xs).map Mv.row) :: cin) := by
 by_cases h20 : xs.length < 20
 ·exact sortStable_mv hlt h20 hn hs
 have h20 : xs.length = 20 := by omega
 have hn20 : n = 20 := by omega
 subst hn20
 have hi := stableT_mv (ad := ad) (cap := cap) hlt h20 hs
 refine Spec.body Tryz.func37 rfl rfl (Tryz.ntmps37) rfl fun w0 own0 M => ?_
 repeat' (first | refine goH ?_ | refine goV ?_ | refine goI ?_ | (refine Cw.k_cond ?_; first | (refine Cw.cond_dec rfl ?_ ?_ <;> intro hc <;> try omega) | refine Cw.cond_bool rfl ?_ ?_ <;> intro hc) | (refine Ops.k_calla ?_; first | (refine Ops.call (cf := []) hi (Evs.cons rfl (Evs.cons rfl (Evs.cons rfl Evs.nil))) (by simp) rfl ?_; rintro r cs' ⟨rfl, rfl⟩)) | fail)
 exact Fin.norm (Ent.mkP goSub (by simp)) (Outs.zero rfl) ⟨rfl, rfl⟩


instance : Inhabited Mv := ⟨⟨⟨#[]⟩, 0, 0, ⟨#[]⟩, 0⟩⟩
end Lg
end
section
set_option linter.all false
set_option maxRecDepth 100000
set_option maxHeartbeats 8000000
namespace Lg
open Go Go.Proofs

/-! ### Together -/
abbrev tgD (c : List Mv) : List Mv := dd (isort ltM c)
def togX (c : List Mv) : List Mv × Int := if adjC (tgD c) = true then ([], 13) else if (mvsE (tgD c)).2 ≠ 0 then ([], (mvsE (tgD c)).2) else (tgD c, 0)
def togR (a b : List Mv) : List Mv × Int := if (mvsE a).2 ≠ 0 then ([], (mvsE a).2) else togX (a ++ b)
theorem adjC_at {D : List Mv} {i : Nat} {x y : Mv} (hi : 1 ≤ i) (hx : D[i - 1]? = some x) (hy : D[i]? = some y) : adjC (D.drop (i - 1)) = (decide (cfM x y = 0) || adjC (D.drop i)) := by
 obtain ⟨j, rfl⟩ : ∃ j, i = j + 1 := ⟨i - 1, by omega⟩
 rw [show j + 1 - 1 = j by omega] at *
 rw [drop_at hx, drop_at hy, adjC]
theorem adjC_end {D : List Mv} {i : Nat} (hi : D.length ≤ i) : adjC (D.drop (i - 1)) = false := by
 have : (D.drop (i - 1)).length ≤ 1 := by rw [List.length_drop]; omega
 rcases hd : D.drop (i - 1) with _ | ⟨a, _ | ⟨b, l⟩⟩
 ·rfl
 ·rfl
 ·rw [hd] at this; simp at this
theorem NoBd.sub {a b : List Mv} (h : NoBd a) (hs : ∀ x ∈ b, x ∈ a) : NoBd b := fun x hx => h x (hs x hx)
theorem tgD_len (c : List Mv) : (tgD c).length ≤ c.length := by
 have := dd_le (isort ltM c)
 rwa [isort_len] at this
theorem concatA (a b : List Mv) (hl : a.length + b.length ≤ 20) : PFnO Tryz.prog 36 [.sl 1 [[.mvs a], [.mvs b]]] 5 43 (· = (a ++ b).map Mv.row) := by
 have h := concat_mv [a.map Mv.row, b.map Mv.row] (by simp) (by simp; omega)
 simp only [List.map_cons, List.map_nil, List.flatten_cons, List.flatten_nil, List.append_nil] at h
 rw [← List.map_append] at h
 exact h
theorem together_fn (a b : List Mv) (hl : a.length + b.length ≤ 20) (hna : NoBd a) (hnb : NoBd b) : PFn Tryz.prog 12 [.mvs a, .mvs b] (· = .tup [.mvs (togR a b).1, .int (togR a b).2]) := by
 have k1 := checkShelf_fn a (by omega) hna
 have hLb : (b.map Mv.row).length = b.length := List.length_map _
 unfold togR
 by_cases h0 : (mvsE a).2 ≠ 0
 ·rw [if_pos h0]
  generalize mvsE a = E at *
  refine PFn.mk (Spec.body Tryz.func12 rfl rfl (Tryz.ntmps12) rfl fun w0 own0 M => ?_)
  repeat' (first | refine goH ?_ | refine goV ?_ | refine goI ?_ | (refine Cw.k_cond ?_; first | (refine Cw.cond_dec rfl ?_ ?_ <;> intro hc <;> try omega) | refine Cw.cond_bool rfl ?_ ?_ <;> intro hc) | (refine Ops.k_calla ?_; first | (refine Ops.k_callf 35 ?_; refine Ops.callV k1 (Evs.cons rfl Evs.nil) rfl ?_)) | (apply OpW.k_call; first | (apply OpW.k_callf 35; exact OpW.callV k1 (Evs.cons rfl Evs.nil))) | refine goR ?_ | refine goP ?_ | apply PSeq.cons | apply PSeq.yes rfl rfl rfl | exact goW | fail)
  refine Fin.ret (Ent.trans (Ent.nilsl 5 (s := 4) rfl) (Ent.take goTk)) (Outs.many rfl (OutL.cons goOe (OutL.cons goOe OutL.nil)) rfl) ⟨rfl, rfl⟩
 rw [if_neg h0]
 replace h0 : (mvsE a).2 = 0 := by omega
 rw [h0] at k1
 have hcc := concatA a b hl
 have hcl : (a ++ b).length ≤ 20 := by rw [List.length_append]; omega
 have hnc : NoBd (a ++ b) := fun x hx => (List.mem_append.1 hx).elim (hna x) (hnb x)
 have hcr : ((a ++ b).map Mv.row).length = (a ++ b).length := List.length_map _
 generalize a ++ b = c at *
 have hso := fun (ad : Option Addr) (cap : Nat) => sortStable20_mv (ad := ad) (cap := cap) (n := c.length) (xs := c) (g := 38) (caps := []) (cin := []) (lt := ltM) (cf := cfM) (fun a b => rfl) hcl rfl (fun x y _ _ => (byMove_fn x y).lend)
 have hcp := fun (ad : Option Addr) (cap : Nat) => compact_mv (ad := ad) (cap := cap) (n := c.length) (isort ltM c) (isort_len _ c).symm (by omega)
 have hDl := tgD_len c
 have kD := checkShelf_fn (tgD c) (by omega) (hnc.sub fun x hx => (ddM_mem c x).1 hx)
 unfold togX
 generalize hD : tgD c = D at *
 unfold tgD at hD
 rw [hD] at hcp
 have hDr : (D.map Mv.row).length = D.length := List.length_map _
 refine PFn.mk (Spec.body Tryz.func12 rfl rfl (Tryz.ntmps12) rfl fun w0 own0 M => ?_)
 repeat' (first | refine goH ?_ | refine goV ?_ | refine goI ?_ | (refine Cw.k_cond ?_; first | (refine Cw.cond_dec rfl ?_ ?_ <;> intro hc <;> try omega) | refine Cw.cond_bool rfl ?_ ?_ <;> intro hc) | (refine Ops.k_calla ?_; first | (refine Ops.k_callf 35 ?_; refine Ops.callV k1 (Evs.cons rfl Evs.nil) rfl ?_) | (refine Ops.k_callf 36 ?_; (refine Ops.callO hcc (Evs.cons rfl Evs.nil) rfl (fun ad cap rows hr => ?_); subst hr; rw [hcr])) | (refine Ops.k_callf 37 ?_; (refine Ops.call (hso _ _) (Evs.cons rfl (Evs.cons rfl Evs.nil)) goPm rfl ?_; rintro r cs' ⟨rfl, rfl⟩)) | (refine Ops.k_callf 39 ?_; (refine Ops.call (hcp _ _) (Evs.cons rfl Evs.nil) goPm rfl ?_; rintro r cs' ⟨np, hnp, rfl, rfl⟩))) | (apply OpW.k_call; first | (apply OpW.k_callf 35; exact OpW.callV k1 (Evs.cons rfl Evs.nil))) | refine goR ?_ | refine goP ?_ | apply PSeq.cons | apply PSeq.yes rfl rfl rfl | exact goW | fail)
 rw [← hDr] at hnp
 subst hnp
 refine Cw.ent (Ent.settle (s := 8) rfl goPk rfl) ?_
 clear hcp hso hcc
 refine Cw.loopI [(8, _)] _ (fun q e cc => ∃ (i : Nat), q = D.length - i ∧ (1 ≤ i ∧ adjC D = adjC (D.drop (i - 1))) ∧ e = [(9, .int i)] ∧ cc = []) ⟨_, _, _, (Ent.mkP goSub goPm), 1, rfl, ⟨Nat.le_refl _, rfl⟩, rfl, rfl⟩ ?_
 rintro _ _ _ ⟨i, rfl, ⟨hi, hA⟩, rfl, rfl⟩
 by_cases hil : i < D.length
 ·obtain ⟨x, hx⟩ := at_lt (l := D) (k := i - 1) (by omega)
  obtain ⟨y, hy⟩ := at_lt (l := D) (k := i) hil
  have rx : (D.map Mv.row)[((i : Int) - 1).toNat]? = some [.str x.site, .int x.no, .int x.day, .str x.ware, .int x.many] := by rw [show ((i : Int) - 1).toNat = i - 1 by omega]; exact rows_at hx
  have ry : (D.map Mv.row)[((i : Nat) : Int).toNat]? = some [.str y.site, .int y.no, .int y.day, .str y.ware, .int y.many] := by rw [Int.toNat_natCast]; exact rows_at hy
  have kb := byMove_fn x y
  unfold Mv.row at kb
  rw [adjC_at hi hx hy] at hA
  clear hx hy
  by_cases h1 : cfM x y = 0
  ·rw [decide_eq_true h1, Bool.true_or] at hA
   rw [if_pos hA]
   rw [h1] at kb
   clear kD
   repeat' (first | refine goH ?_ | refine goV ?_ | refine goI ?_ | (refine Cw.k_cond ?_; first | (refine Cw.cond_dec rfl ?_ ?_ <;> intro hc <;> try omega) | refine Cw.cond_bool rfl ?_ ?_ <;> intro hc) | (refine Ops.k_calla ?_; first | (refine Ops.k_callf 38 ?_; refine Ops.callV kb (Evs.cons rfl (Evs.cons rfl Evs.nil)) rfl ?_)) | (apply OpW.k_call; first | (apply OpW.k_callf 38; exact OpW.callV kb (Evs.cons rfl (Evs.cons rfl Evs.nil)))) | refine goR ?_ | refine goP ?_ | apply PSeq.cons | apply PSeq.yes rfl rfl rfl | exact goW | fail)
   refine Fin.ret (Ent.trans (Ent.nilsl 5 (s := 4) rfl) (Ent.take goTk)) (Outs.many rfl (OutL.cons goOe (OutL.cons goOe OutL.nil)) rfl) ⟨rfl, rfl⟩
  ·rw [decide_eq_false h1, Bool.false_or] at hA
   generalize cfM x y = o at *
   repeat' (first | refine goH ?_ | refine goV ?_ | refine goI ?_ | (refine Cw.k_cond ?_; first | (refine Cw.cond_dec rfl ?_ ?_ <;> intro hc <;> try omega) | refine Cw.cond_bool rfl ?_ ?_ <;> intro hc) | (refine Ops.k_calla ?_; first | (refine Ops.k_callf 38 ?_; refine Ops.callV kb (Evs.cons rfl (Evs.cons rfl Evs.nil)) rfl ?_)) | (apply OpW.k_call; first | (apply OpW.k_callf 38; exact OpW.callV kb (Evs.cons rfl (Evs.cons rfl Evs.nil)))) | refine goR ?_ | refine goP ?_ | apply PSeq.cons | apply PSeq.yes rfl rfl rfl | exact goW | fail)
   exact ⟨_, _, _, (Ent.mk goSub goTk), ⟨i + 1, rfl, ⟨by omega, hA⟩, rfl, rfl⟩, by omega⟩
 ·rw [adjC_end (by omega)] at hA
  rw [if_neg (by rw [hA]; simp)]
  by_cases hE : (mvsE D).2 ≠ 0
  ·rw [if_pos hE]
   generalize mvsE D = E at *
   repeat' (first | refine goH ?_ | refine goV ?_ | refine goI ?_ | (refine Cw.k_cond ?_; first | (refine Cw.cond_dec rfl ?_ ?_ <;> intro hc <;> try omega) | refine Cw.cond_bool rfl ?_ ?_ <;> intro hc) | (refine Ops.k_calla ?_; first | (refine Ops.k_callf 35 ?_; refine Ops.callV kD (Evs.cons rfl Evs.nil) rfl ?_)) | (apply OpW.k_call; first | (apply OpW.k_callf 35; exact OpW.callV kD (Evs.cons rfl Evs.nil))) | refine goR ?_ | refine goP ?_ | apply PSeq.cons | apply PSeq.yes rfl rfl rfl | exact goW | fail)
   refine Fin.ret (Ent.trans (Ent.nilsl 5 (s := 4) rfl) (Ent.take goTk)) (Outs.many rfl (OutL.cons goOe (OutL.cons goOe OutL.nil)) rfl) ⟨rfl, rfl⟩
  ·rw [if_neg hE]
   have hE0 : (mvsE D).2 = 0 := by omega
   rw [hE0] at kD
   repeat' (first | refine goH ?_ | refine goV ?_ | refine goI ?_ | (refine Cw.k_cond ?_; first | (refine Cw.cond_dec rfl ?_ ?_ <;> intro hc <;> try omega) | refine Cw.cond_bool rfl ?_ ?_ <;> intro hc) | (refine Ops.k_calla ?_; first | (refine Ops.k_callf 35 ?_; refine Ops.callV kD (Evs.cons rfl Evs.nil) rfl ?_)) | (apply OpW.k_call; first | (apply OpW.k_callf 35; exact OpW.callV kD (Evs.cons rfl Evs.nil))) | refine goR ?_ | refine goP ?_ | apply PSeq.cons | apply PSeq.yes rfl rfl rfl | exact goW | fail)
   refine Fin.ret (Ent.take goTk) (Outs.many rfl (OutL.cons goOe (OutL.cons goOe OutL.nil)) rfl) ⟨rfl, rfl⟩
/-! ### the reference -/

end Lg
end
