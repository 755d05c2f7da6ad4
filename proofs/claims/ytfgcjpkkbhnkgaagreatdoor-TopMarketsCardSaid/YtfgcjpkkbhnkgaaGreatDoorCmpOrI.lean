/- A part of the proof of a law of this seat: it adds no condition. By an AI agent. -/
import Derived.Test.YtfgcjpkkbhnkgaaGreatDoorLgMk
import Derived.Test.YtfgcjpkkbhnkgaaGreatDoorLst
section
set_option linter.all false
set_option maxRecDepth 100000
set_option maxHeartbeats 4000000
namespace Lg
open Go Go.Proofs

/-- insertion sort, of a slice of one's own, by a function that only reads -/
theorem insSort_int {n : Nat} {xs : List Int} {ad : Option Addr} {cap : Nat} {g : Nat} {caps : List Value} {cin : List Chunk} {lt : Int → Int → Bool} {cf : Int → Int → Int} (hlt : ∀ a b, lt a b = decide (cf a b < 0)) (hl : xs.length ≤ 1000000) (hn : n = xs.length)
  (hs : ∀ a b, a ∈ xs → b ∈ xs → Spec Tryz.prog g ([Tr.int a, Tr.int b] ++ caps.map Tr.raw) cin (fun r cs => r = Tr.int (cf a b) ∧ cs = cin)) :
  Spec Tryz.prog 102 [Tr.raw (.slice ad n cap), .int 0, .int n, Tr.raw (.func (.func g) #[] caps.toArray)] (Chunk.own ad cap 1 3 (xs.map (fun x => [Tr.int x])) :: cin) (fun r cs => r = Tr.tup [] ∧ cs = Chunk.own ad cap 1 3 ((isort lt xs).map (fun x => [Tr.int x])) :: cin) := by
 refine Spec.body Tryz.func102 rfl rfl (Tryz.ntmps102) rfl fun w0 own0 M => ?_
 repeat' (first | refine goH ?_ | refine goV ?_ | refine goG ?_ | (refine Ops.k_guard ?_; first | (refine Ops.guard_dec rfl rfl ?_ ?_ <;> intro hc <;> try omega) | refine Ops.guard_split rfl rfl ?_ ?_ <;> intro hc) | refine goI ?_ | (refine Cw.k_cond ?_; first | (refine Cw.cond_dec rfl ?_ ?_ <;> intro hc <;> try omega) | refine Cw.cond_bool rfl ?_ ?_ <;> intro hc) | refine goR ?_ | refine goP ?_ | apply PSeq.cons | apply PSeq.yes rfl rfl rfl | exact goW | fail)
 refine Cw.loopI [(0, _), (1, _), (2, _), (3, _)] cin (fun q e c => ∃ (i : Nat) (rows : List (List Tr)), q = n - i ∧ (1 ≤ i ∧ i ≤ max 1 n ∧ rows = (isort lt (xs.take i) ++ xs.drop i).map (fun x => [Tr.int x]) ∧ rows.length = n) ∧ e = [(8, .int i)] ∧ c = [Chunk.own ad cap 1 3 rows])
  ⟨_, _, _, (Ent.mkP goSub goPm), 1, xs.map (fun x => [Tr.int x]), rfl, ⟨by omega, by omega, by rw [isort_take1, List.take_append_drop], by rw [List.length_map, hn]⟩, rfl, rfl⟩ ?_
 rintro _ _ _ ⟨i, rows, rfl, ⟨hi1, hi2, hrows, hrl⟩, rfl, rfl⟩
 by_cases hil : i < n
 ·obtain ⟨x, hx⟩ : ∃ x, xs[i]? = some x := at_lt (by omega)
  obtain ⟨S, hS⟩ : ∃ S, S = isort lt (xs.take i) := ⟨_, rfl⟩
  have hSl : S.length = i := by rw [hS, isort_len, List.length_take]; omega
  have hSm : ∀ y ∈ S, y ∈ xs := fun y hy => List.mem_of_mem_take ((isort_perm lt (xs.take i)).mem_iff.1 (by rw [← hS]; exact hy))
  have hxm : x ∈ xs := List.mem_of_getElem? hx
  have hnext : isort lt (xs.take (i + 1)) = insB lt x S := by rw [take_at hx, isort_snoc, ← hS]
  rw [← hS, drop_at hx] at hrows
  repeat' (first | refine goH ?_ | refine goV ?_ | refine goG ?_ | (refine Ops.k_guard ?_; first | (refine Ops.guard_dec rfl rfl ?_ ?_ <;> intro hc <;> try omega) | refine Ops.guard_split rfl rfl ?_ ?_ <;> intro hc) | refine goI ?_ | (refine Cw.k_cond ?_; first | (refine Cw.cond_dec rfl ?_ ?_ <;> intro hc <;> try omega) | refine Cw.cond_bool rfl ?_ ?_ <;> intro hc) | refine goR ?_ | refine goP ?_ | apply PSeq.cons | apply PSeq.yes rfl rfl rfl | exact goW | fail)
  refine Cw.loopI [(0, _), (1, _), (2, _), (3, _), (8, _)] cin (fun q e c => ∃ (f m : List Int) (rows : List (List Tr)) (j : Nat), q = f.length ∧ (f.length = j ∧ S = f ++ m ∧ insB lt x S = insB lt x f ++ m ∧ rows = (f ++ x :: (m ++ xs.drop (i + 1))).map (fun x => [Tr.int x]) ∧ rows.length = n) ∧ e = [(9, .int j)] ∧ c = [Chunk.own ad cap 1 3 rows])
   ⟨_, _, _, (Ent.mkP goSub goPm), S, [], rows, i, rfl, ⟨hSl, by simp, by simp, by rw [hrows]; simp, hrl⟩, rfl, rfl⟩ ?_
  clear hrows hrl
  rintro _ _ _ ⟨f, m, rows, j, rfl, ⟨hj, hfm, hins, hrows, hrl⟩, rfl, rfl⟩
  have hfl : j ≤ i := by rw [← hSl, hfm, List.length_append]; omega
  have hx0 : rows[((j : Nat) : Int).toNat]? = some [Tr.int x] := by rw [hrows]; exact rows_at (by simp [← hj])
  have fin : ∀ rows' : List (List Tr), rows' = (f ++ x :: (m ++ xs.drop (i + 1))).map (fun x => [Tr.int x]) → insB lt x f = f ++ [x] → rows' = (isort lt (xs.take (i + 1)) ++ xs.drop (i + 1)).map (fun x => [Tr.int x]) := by
   intro rows' h1 h2
   rw [h1, hnext, hins, h2]
   simp
  rcases List.eq_nil_or_concat f with rfl | ⟨f', y, rfl⟩
  ·rw [List.length_nil] at hj
   subst hj
   have h0 := fin rows hrows (insB_nil lt x)
   repeat' (first | refine goH ?_ | refine goV ?_ | refine goG ?_ | (refine Ops.k_guard ?_; first | (refine Ops.guard_dec rfl rfl ?_ ?_ <;> intro hc <;> try omega) | refine Ops.guard_split rfl rfl ?_ ?_ <;> intro hc) | refine goI ?_ | (refine Cw.k_cond ?_; first | (refine Cw.cond_dec rfl ?_ ?_ <;> intro hc <;> try omega) | refine Cw.cond_bool rfl ?_ ?_ <;> intro hc) | refine goR ?_ | refine goP ?_ | apply PSeq.cons | apply PSeq.yes rfl rfl rfl | exact goW | fail)
   exact ⟨_, _, _, (Ent.mkP goSub goPm), ⟨i + 1, rows, rfl, ⟨by omega, by omega, h0, hrl⟩, rfl, rfl⟩, by omega⟩
  ·rw [List.concat_eq_append] at *
   have hym : y ∈ xs := hSm y (by rw [hfm]; simp)
   have hspec := hs x y hxm hym
   have hjl : (f' ++ [y]).length = f'.length + 1 := by simp
   rw [hjl] at hj
   subst hj
   have hy0 : rows[(((f'.length + 1 : Nat) : Int) - 1).toNat]? = some [Tr.int y] := by
    rw [hrows, show (((f'.length + 1 : Nat) : Int) - 1).toNat = f'.length by omega]
    exact rows_at (by simp)
   cases hc0 : lt x y
   ·have hcf : ¬ cf x y < 0 := by rw [hlt] at hc0; simpa using hc0
    have h0 := fin rows hrows (insB_ge lt hc0)
    repeat' (first | refine goH ?_ | refine goV ?_ | refine goG ?_ | (refine Ops.k_guard ?_; first | (refine Ops.guard_dec rfl rfl ?_ ?_ <;> intro hc <;> try omega) | refine Ops.guard_split rfl rfl ?_ ?_ <;> intro hc) | refine goI ?_ | (refine Cw.k_cond ?_; first | (refine Cw.cond_dec rfl ?_ ?_ <;> intro hc <;> try omega) | refine Cw.cond_bool rfl ?_ ?_ <;> intro hc) | exact OpW.callS_fn rfl hspec (Evs.cons rfl (Evs.cons rfl Evs.nil)) List.perm_append_comm | refine goR ?_ | refine goP ?_ | apply PSeq.cons | apply PSeq.yes rfl rfl rfl | exact goW | fail)
    exact ⟨_, _, _, (Ent.mkP goSub goPm), ⟨i + 1, rows, rfl, ⟨by omega, by omega, h0, hrl⟩, rfl, rfl⟩, by omega⟩
   ·have hcf : cf x y < 0 := by rw [hlt] at hc0; simpa using hc0
    have hset : (rows.set ((f'.length + 1 : Nat) : Int).toNat [Tr.int y])[(((f'.length + 1 : Nat) : Int) - 1).toNat]? = some [Tr.int y] := by
     rw [List.getElem?_set_ne (by omega)]
     exact hy0
    have hlen2 : (rows.set ((f'.length + 1 : Nat) : Int).toNat [Tr.int y]).length = n := by rw [List.length_set]; exact hrl
    have hres : (rows.set ((f'.length + 1 : Nat) : Int).toNat [Tr.int y]).set (((f'.length + 1 : Nat) : Int) - 1).toNat [Tr.int x] = (f' ++ x :: (y :: m ++ xs.drop (i + 1))).map (fun x => [Tr.int x]) := by
     rw [hrows, show (((f'.length + 1 : Nat) : Int) - 1).toNat = f'.length by omega, show ((f'.length + 1 : Nat) : Int).toNat = f'.length + 1 by omega]
     simp [List.set_append]
     all_goals (try exact ⟨rfl, rfl⟩)
    have hm : S = f' ++ (y :: m) := by rw [hfm]; simp
    have hins2 : insB lt x S = insB lt x f' ++ (y :: m) := by rw [hins, insB_lt lt hc0]; simp
    clear fin hnext hS hSl hSm hfm hins hrows
    repeat' (first | refine goH ?_ | refine goV ?_ | refine goG ?_ | (refine Ops.k_guard ?_; first | (refine Ops.guard_dec rfl rfl ?_ ?_ <;> intro hc <;> try omega) | refine Ops.guard_split rfl rfl ?_ ?_ <;> intro hc) | refine goI ?_ | (refine Cw.k_cond ?_; first | (refine Cw.cond_dec rfl ?_ ?_ <;> intro hc <;> try omega) | refine Cw.cond_bool rfl ?_ ?_ <;> intro hc) | exact OpW.callS_fn rfl hspec (Evs.cons rfl (Evs.cons rfl Evs.nil)) List.perm_append_comm | refine goR ?_ | refine goP ?_ | apply PSeq.cons | apply PSeq.yes rfl rfl rfl | exact goW | fail)
    refine Cw.region_seqF (m := 15) [2, 3, 4] rfl (by decide +kernel) rfl (fun a w d => ?_) ?_
    ·have h9 := rd_raw (d.env 9 _ rfl)
     have hs : a.tmps.size = 53 := d.tmps
     have h9' : a.tmps[9]'(by omega) = .int .i64 ((f'.length + 1 : Nat) : Int) := by simpa [hs] using h9
     exact FlRun.move rfl rfl rfl rfl (FlRun.move rfl rfl rfl rfl (FlRun.sub1 (p := ((f'.length + 1 : Nat) : Int)) rfl rfl rfl rfl (by simp [Act.put, Act.eval, hs, h9']) FlRun.nil))
    repeat' (first | refine goH ?_ | refine goV ?_ | refine goG ?_ | (refine Ops.k_guard ?_; first | (refine Ops.guard_dec rfl rfl ?_ ?_ <;> intro hc <;> try omega) | refine Ops.guard_split rfl rfl ?_ ?_ <;> intro hc) | refine goI ?_ | (refine Cw.k_cond ?_; first | (refine Cw.cond_dec rfl ?_ ?_ <;> intro hc <;> try omega) | refine Cw.cond_bool rfl ?_ ?_ <;> intro hc) | refine NoP.norm ?_ | refine goR ?_ | refine goP ?_ | apply PSeq.cons | apply PSeq.yes rfl rfl rfl | exact goW | fail)
    refine ⟨_, _, _, ?_, ⟨f', y :: m, _, f'.length, rfl, ⟨rfl, hm, hins2, hres, by rw [List.length_set]; exact hlen2⟩, rfl, rfl⟩, by simp⟩
    rw [show ((f'.length + 1 : Nat) : Int) - 1 = (f'.length : Int) by omega]
    exact (Ent.mkP goSub goPm)
 ·have hin : xs.take i = xs := List.take_of_length_le (by omega)
  rw [hin, List.drop_eq_nil_of_le (by omega), List.append_nil] at hrows
  subst hrows
  repeat' (first | refine goH ?_ | refine goV ?_ | refine goG ?_ | (refine Ops.k_guard ?_; first | (refine Ops.guard_dec rfl rfl ?_ ?_ <;> intro hc <;> try omega) | refine Ops.guard_split rfl rfl ?_ ?_ <;> intro hc) | refine goI ?_ | (refine Cw.k_cond ?_; first | (refine Cw.cond_dec rfl ?_ ?_ <;> intro hc <;> try omega) | refine Cw.cond_bool rfl ?_ ?_ <;> intro hc) | refine goR ?_ | refine goP ?_ | apply PSeq.cons | apply PSeq.yes rfl rfl rfl | exact goW | fail)
  exact Fin.norm (Ent.mkP goSub goPm) (Outs.zero rfl) ⟨rfl, rfl⟩

/-- slices.SortStableFunc on a short slice -/
theorem stable_int {n : Nat} {xs : List Int} {ad : Option Addr} {cap : Nat} {g : Nat} {caps : List Value} {cin : List Chunk} {lt : Int → Int → Bool} {cf : Int → Int → Int} (hlt : ∀ a b, lt a b = decide (cf a b < 0)) (hl : xs.length < 20) (hn : n = xs.length)
  (hs : ∀ a b, a ∈ xs → b ∈ xs → Spec Tryz.prog g ([Tr.int a, Tr.int b] ++ caps.map Tr.raw) cin (fun r cs => r = Tr.int (cf a b) ∧ cs = cin)) :
  Spec Tryz.prog 152 [Tr.raw (.slice ad n cap), .int n, Tr.raw (.func (.func g) #[] caps.toArray)] (Chunk.own ad cap 1 3 (xs.map (fun x => [Tr.int x])) :: cin) (fun r cs => r = Tr.tup [] ∧ cs = Chunk.own ad cap 1 3 ((isort lt xs).map (fun x => [Tr.int x])) :: cin) := by
 have hi := insSort_int (ad := ad) (cap := cap) hlt (show xs.length ≤ 1000000 by omega) hn hs
 refine Spec.body Tryz.func152 rfl rfl (Tryz.ntmps152) rfl fun w0 own0 M => ?_
 repeat' (first | refine goH ?_ | refine goV ?_ | refine goI ?_ | (refine Cw.k_cond ?_; first | (refine Cw.cond_dec rfl ?_ ?_ <;> intro hc <;> try omega) | refine Cw.cond_bool rfl ?_ ?_ <;> intro hc) | fail)
 refine Cw.loopI [(0, _), (1, _), (2, _), (6, _)] _ (fun q e c => q = 0 ∧ e = [(7, .int 0), (8, .int 20)] ∧ c = []) ⟨_, _, _, (Ent.mkP goSub goPm), rfl, rfl, rfl⟩ ?_
 rintro _ _ _ ⟨rfl, rfl, rfl⟩
 repeat' (first | refine goH ?_ | refine goV ?_ | refine goI ?_ | (refine Cw.k_cond ?_; first | (refine Cw.cond_dec rfl ?_ ?_ <;> intro hc <;> try omega) | refine Cw.cond_bool rfl ?_ ?_ <;> intro hc) | (refine Ops.k_calla ?_; first | (refine Ops.call (cf := []) hi (Evs.cons rfl (Evs.cons rfl (Evs.cons rfl (Evs.cons rfl Evs.nil)))) (by simp) rfl ?_; rintro r cs' ⟨rfl, rfl⟩)) | fail)
 refine Cw.loopI [(0, _), (1, _), (2, _)] _ (fun q e c => q = 0 ∧ e = [(6, .int 20)] ∧ c = []) ⟨_, _, _, (Ent.mkP goSub goPm), rfl, rfl, rfl⟩ ?_
 rintro _ _ _ ⟨rfl, rfl, rfl⟩
 repeat' (first | refine goH ?_ | refine goV ?_ | refine goI ?_ | (refine Cw.k_cond ?_; first | (refine Cw.cond_dec rfl ?_ ?_ <;> intro hc <;> try omega) | refine Cw.cond_bool rfl ?_ ?_ <;> intro hc) | fail)
 exact Fin.norm (Ent.mkP goSub (by simp)) (Outs.zero rfl) ⟨rfl, rfl⟩
theorem sortStable_int {n : Nat} {xs : List Int} {ad : Option Addr} {cap : Nat} {g : Nat} {caps : List Value} {cin : List Chunk} {lt : Int → Int → Bool} {cf : Int → Int → Int} (hlt : ∀ a b, lt a b = decide (cf a b < 0)) (hl : xs.length < 20) (hn : n = xs.length)
  (hs : ∀ a b, a ∈ xs → b ∈ xs → Spec Tryz.prog g ([Tr.int a, Tr.int b] ++ caps.map Tr.raw) cin (fun r cs => r = Tr.int (cf a b) ∧ cs = cin)) :
  Spec Tryz.prog 119 [Tr.raw (.slice ad n cap), Tr.raw (.func (.func g) #[] caps.toArray)] (Chunk.own ad cap 1 3 (xs.map (fun x => [Tr.int x])) :: cin) (fun r cs => r = Tr.tup [] ∧ cs = Chunk.own ad cap 1 3 ((isort lt xs).map (fun x => [Tr.int x])) :: cin) := by
 have hi := stable_int (ad := ad) (cap := cap) hlt hl hn hs
 refine Spec.body Tryz.func119 rfl rfl (Tryz.ntmps119) rfl fun w0 own0 M => ?_
 repeat' (first | refine goH ?_ | refine goV ?_ | refine goI ?_ | (refine Cw.k_cond ?_; first | (refine Cw.cond_dec rfl ?_ ?_ <;> intro hc <;> try omega) | refine Cw.cond_bool rfl ?_ ?_ <;> intro hc) | (refine Ops.k_calla ?_; first | (refine Ops.call (cf := []) hi (Evs.cons rfl (Evs.cons rfl (Evs.cons rfl Evs.nil))) (by simp) rfl ?_; rintro r cs' ⟨rfl, rfl⟩)) | fail)
 exact Fin.norm (Ent.mkP goSub (by simp)) (Outs.zero rfl) ⟨rfl, rfl⟩


def cmpI (a b : Int) : Int := if a < b then -1 else if b < a then 1 else 0
theorem cmpI_lt (a b : Int) : (cmpI a b < 0) ↔ a < b := by unfold cmpI; split <;> (try split) <;> omega
theorem isNaN_fn (x : Int) : PFn Tryz.prog 64 [.int x] (· = .bool false) := by
 refine PFn.mk (Spec.body Tryz.func64 rfl rfl (Tryz.ntmps64) rfl fun w0 own0 M => ?_)
 repeat' (first | refine goH ?_ | (refine Ops.k_b_neq ?_; first | (refine Ops.val' rfl (OpV.neq_f rfl rfl (by omega)) ?_)) | refine goV ?_ | refine goI ?_ | (refine Cw.k_cond ?_; first | (refine Cw.cond_dec rfl ?_ ?_ <;> intro hc <;> try omega) | refine Cw.cond_bool rfl ?_ ?_ <;> intro hc) | fail)
 exact Fin.ret (Ent.take goTk) (Outs.one rfl rfl) ⟨rfl, rfl⟩
theorem compare_fn (a b : Int) : PFn Tryz.prog 31 [.int a, .int b] (· = .int (cmpI a b)) := by
 refine PFn.mk (Spec.body Tryz.func31 rfl rfl (Tryz.ntmps31) rfl fun w0 own0 M => ?_)
 unfold cmpI
 repeat' (first | refine goH ?_ | refine goV ?_ | refine goI ?_ | (refine Cw.k_cond ?_; first | (refine Cw.cond_dec rfl ?_ ?_ <;> intro hc <;> try omega) | refine Cw.cond_bool rfl ?_ ?_ <;> intro hc) | (refine Ops.k_calla ?_; first | (refine Ops.k_callf 64 ?_; refine Ops.callV (isNaN_fn _) (Evs.cons rfl Evs.nil) rfl ?_)) | fail)
 all_goals (refine Fin.ret (Ent.take goTk) (Outs.one rfl rfl) ⟨rfl, congrArg Tr.int ?_⟩)
 all_goals (repeat' split)
 all_goals omega
end Lg
end
section
set_option linter.all false
set_option maxRecDepth 100000
set_option maxHeartbeats 2000000
namespace Lg
open Go Go.Proofs
def orI : List Int → Int
 |[] => 0
 |x :: l => if x ≠ 0 then x else orI l
theorem orI_cons (x : Int) (l : List Int) : orI (x :: l) = if x ≠ 0 then x else orI l := rfl
theorem cmpOr_fn (l : List Int) (hl : l.length ≤ 1000) : PFn Tryz.prog 24 [.ints l] (· = .int (orI l)) := by
 refine PFn.mk (Spec.body Tryz.func24 rfl rfl (Tryz.ntmps24) rfl fun w0 own0 M => ?_)
 have hL := intRows_len l
 repeat' (first | refine goH ?_ | refine goV ?_ | refine goI ?_ | (refine Cw.k_cond ?_; first | (refine Cw.cond_dec rfl ?_ ?_ <;> intro hc <;> try omega) | refine Cw.cond_bool rfl ?_ ?_ <;> intro hc) | fail)
 refine Cw.loop (ι := Nat) (fun k => k ≤ l.length ∧ orI (l.drop k) = orI l) (fun k => [(3, .int 0), (6, .ints l), (7, .int (intRows l).length), (8, .int k)]) (fun _ => []) (fun k => l.length - k) ⟨0, ⟨by omega, rfl⟩, (Ent.mk goSub goTk)⟩ ?_
 rintro k ⟨hk, h1⟩
 by_cases hkl : k < l.length
 ·obtain ⟨x, hx⟩ := at_lt hkl
  have hrow := intRows_at hx
  rw [drop_at hx, orI_cons] at h1
  by_cases hz : x = 0
  ·rw [if_neg (by omega)] at h1
   repeat' (first | refine goH ?_ | refine goV ?_ | refine goI ?_ | (refine Cw.k_cond ?_; first | (refine Cw.cond_dec rfl ?_ ?_ <;> intro hc <;> try omega) | refine Cw.cond_bool rfl ?_ ?_ <;> intro hc) | fail)
   exact ⟨k + 1, ⟨by omega, h1⟩, by omega, (Ent.mk goSub goTk)⟩
  ·rw [if_pos hz] at h1
   repeat' (first | refine goH ?_ | refine goV ?_ | refine goI ?_ | (refine Cw.k_cond ?_; first | (refine Cw.cond_dec rfl ?_ ?_ <;> intro hc <;> try omega) | refine Cw.cond_bool rfl ?_ ?_ <;> intro hc) | fail)
   exact Fin.ret Ent.refl (Outs.one rfl rfl) ⟨rfl, congrArg Tr.int h1⟩
 ·rw [List.drop_eq_nil_of_le (by omega), orI] at h1
  repeat' (first | refine goH ?_ | refine goV ?_ | refine goI ?_ | (refine Cw.k_cond ?_; first | (refine Cw.cond_dec rfl ?_ ?_ <;> intro hc <;> try omega) | refine Cw.cond_bool rfl ?_ ?_ <;> intro hc) | fail)
  exact Fin.ret Ent.refl (Outs.one rfl rfl) ⟨rfl, congrArg Tr.int h1⟩
end Lg
end
section
set_option linter.all false
set_option maxRecDepth 100000
set_option maxHeartbeats 4000000
namespace Lg
open Go Go.Proofs

theorem cmpOrI_fn (l : List Int) (hl : l.length ≤ 1000) : PFn Tryz.prog 74 [.ints l] (· = .int (orI l)) := by
 refine PFn.mk (Spec.body Tryz.func74 rfl rfl (Tryz.ntmps74) rfl fun w0 own0 M => ?_)
 have hL := intRows_len l
 repeat' (first | refine goH ?_ | refine goV ?_ | refine goI ?_ | (refine Cw.k_cond ?_; first | (refine Cw.cond_dec rfl ?_ ?_ <;> intro hc <;> try omega) | refine Cw.cond_bool rfl ?_ ?_ <;> intro hc) | fail)
 refine Cw.loop (ι := Nat) (fun k => k ≤ l.length ∧ orI (l.drop k) = orI l) (fun k => [(3, .int 0), (6, .ints l), (7, .int (intRows l).length), (8, .int k)]) (fun _ => []) (fun k => l.length - k) ⟨0, ⟨by omega, rfl⟩, (Ent.mk goSub goTk)⟩ ?_
 rintro k ⟨hk, h1⟩
 by_cases hkl : k < l.length
 ·obtain ⟨x, hx⟩ := at_lt hkl
  have hrow := intRows_at hx
  rw [drop_at hx, orI_cons] at h1
  by_cases hz : x = 0
  ·rw [if_neg (by omega)] at h1
   repeat' (first | refine goH ?_ | refine goV ?_ | refine goI ?_ | (refine Cw.k_cond ?_; first | (refine Cw.cond_dec rfl ?_ ?_ <;> intro hc <;> try omega) | refine Cw.cond_bool rfl ?_ ?_ <;> intro hc) | fail)
   exact ⟨k + 1, ⟨by omega, h1⟩, by omega, (Ent.mk goSub goTk)⟩
  ·rw [if_pos hz] at h1
   repeat' (first | refine goH ?_ | refine goV ?_ | refine goI ?_ | (refine Cw.k_cond ?_; first | (refine Cw.cond_dec rfl ?_ ?_ <;> intro hc <;> try omega) | refine Cw.cond_bool rfl ?_ ?_ <;> intro hc) | fail)
   exact Fin.ret Ent.refl (Outs.one rfl rfl) ⟨rfl, congrArg Tr.int h1⟩
 ·rw [List.drop_eq_nil_of_le (by omega), orI] at h1
  repeat' (first | refine goH ?_ | refine goV ?_ | refine goI ?_ | (refine Cw.k_cond ?_; first | (refine Cw.cond_dec rfl ?_ ?_ <;> intro hc <;> try omega) | refine Cw.cond_bool rfl ?_ ?_ <;> intro hc) | fail)
  exact Fin.ret Ent.refl (Outs.one rfl rfl) ⟨rfl, congrArg Tr.int h1⟩
end Lg
end
