/- A part of the proof of a law of this seat: it adds no condition. By an AI agent. -/
import Derived.Test.YtjndncefoiniiaaGreatDoorEqI
section
set_option linter.all false
set_option maxRecDepth 100000
set_option maxHeartbeats 4000000
namespace Lg
open Go Go.Proofs

/-- insertion sort, of a slice of one's own, by a function that only reads -/
theorem insSort_int {n : Nat} {xs : List Int} {ad : Option Addr} {cap : Nat} {g : Nat} {caps : List Value} {cin : List Chunk} {lt : Int → Int → Bool} {cf : Int → Int → Int} (hlt : ∀ a b, lt a b = decide (cf a b < 0)) (hl : xs.length ≤ 1000000) (hn : n = xs.length)
    (hs : ∀ a b, a ∈ xs → b ∈ xs → Spec Tryz.prog g ([Tr.int a, Tr.int b] ++ caps.map Tr.raw) cin (fun r cs => r = Tr.int (cf a b) ∧ cs = cin)) :
    Spec Tryz.prog 112 [Tr.raw (.slice ad n cap), .int 0, .int n, Tr.raw (.func (.func g) #[] caps.toArray)] (Chunk.own ad cap 1 3 (xs.map (fun x => [Tr.int x])) :: cin) (fun r cs => r = Tr.tup [] ∧ cs = Chunk.own ad cap 1 3 ((isort lt xs).map (fun x => [Tr.int x])) :: cin) := by
  refine Spec.body Tryz.func112 rfl rfl (Tryz.ntmps112) rfl fun w0 own0 M => ?_
  repeat' (first | refine goH ?_ | refine goV ?_ | refine goG ?_ | (refine Ops.k_guard ?_; first | (refine Ops.guard_dec rfl rfl (fun hc => ?_) (fun hc => ?_) <;> try (exfalso; omega)) | refine Ops.guard_split rfl rfl (fun hc => ?_) (fun hc => ?_)) | refine goI ?_ | (refine Cw.k_cond ?_; first | (refine Cw.cond_dec rfl (fun hc => ?_) (fun hc => ?_) <;> try (exfalso; omega)) | refine Cw.cond_bool rfl (fun hc => ?_) (fun hc => ?_)) | refine goR ?_ | refine goP ?_ | apply PSeq.cons | apply PSeq.yes rfl rfl rfl | exact goW | fail)
  refine Cw.loopI [(0, _), (1, _), (2, _), (3, _)] cin (fun q e c => ∃ (i : Nat) (rows : List (List Tr)), q = n - i ∧ (1 ≤ i ∧ i ≤ max 1 n ∧ rows = (isort lt (xs.take i) ++ xs.drop i).map (fun x => [Tr.int x]) ∧ rows.length = n) ∧ e = [(8, .int i)] ∧ c = [Chunk.own ad cap 1 3 rows])
    ⟨_, _, _, (Ent.mkP goSub goPm), 1, xs.map (fun x => [Tr.int x]), rfl, ⟨by omega, by omega, by rw [isort_take1, List.take_append_drop], by rw [List.length_map, hn]⟩, rfl, rfl⟩ ?_
  rintro _ _ _ ⟨i, rows, rfl, ⟨hi1, hi2, hrows, hrl⟩, rfl, rfl⟩
  by_cases hil : i < n
  · obtain ⟨x, hx⟩ : ∃ x, xs[i]? = some x := at_lt (by omega)
    obtain ⟨S, hS⟩ : ∃ S, S = isort lt (xs.take i) := ⟨_, rfl⟩
    have hSl : S.length = i := by rw [hS, isort_len, List.length_take]; omega
    have hSm : ∀ y ∈ S, y ∈ xs := fun y hy => List.mem_of_mem_take ((isort_perm lt (xs.take i)).mem_iff.1 (by rw [← hS]; exact hy))
    have hxm : x ∈ xs := List.mem_of_getElem? hx
    have hnext : isort lt (xs.take (i + 1)) = insB lt x S := by rw [take_at hx, isort_snoc, ← hS]
    rw [← hS, drop_at hx] at hrows
    repeat' (first | refine goH ?_ | refine goV ?_ | refine goG ?_ | (refine Ops.k_guard ?_; first | (refine Ops.guard_dec rfl rfl (fun hc => ?_) (fun hc => ?_) <;> try (exfalso; omega)) | refine Ops.guard_split rfl rfl (fun hc => ?_) (fun hc => ?_)) | refine goI ?_ | (refine Cw.k_cond ?_; first | (refine Cw.cond_dec rfl (fun hc => ?_) (fun hc => ?_) <;> try (exfalso; omega)) | refine Cw.cond_bool rfl (fun hc => ?_) (fun hc => ?_)) | refine goR ?_ | refine goP ?_ | apply PSeq.cons | apply PSeq.yes rfl rfl rfl | exact goW | fail)
    refine Cw.loopI [(0, _), (1, _), (2, _), (3, _), (8, _)] cin (fun q e c => ∃ (f m : List Int) (rows : List (List Tr)) (j : Nat), q = f.length ∧ (f.length = j ∧ S = f ++ m ∧ insB lt x S = insB lt x f ++ m ∧ rows = (f ++ x :: (m ++ xs.drop (i + 1))).map (fun x => [Tr.int x]) ∧ rows.length = n) ∧ e = [(9, .int j)] ∧ c = [Chunk.own ad cap 1 3 rows])
      ⟨_, _, _, (Ent.mkP goSub goPm), S, [], rows, i, rfl, ⟨hSl, by simp, by simp, by rw [hrows]; simp, hrl⟩, rfl, rfl⟩ ?_
    clear hrows hrl
    rintro _ _ _ ⟨f, m, rows, j, rfl, ⟨hj, hfm, hins, hrows, hrl⟩, rfl, rfl⟩
    have hfl : j ≤ i := by rw [← hSl, hfm, List.length_append]; omega
    have hx0 : rows[((j : Nat) : Int).toNat]? = some [Tr.int x] := by rw [hrows]; exact rows_at (by simp [← hj])
    have fin : ∀ rows' : List (List Tr), rows' = (f ++ x :: (m ++ xs.drop (i + 1))).map (fun x => [Tr.int x]) → insB lt x f = f ++ [x] → rows' = (isort lt (xs.take (i + 1)) ++ xs.drop (i + 1)).map (fun x => [Tr.int x]) := by
      intro rows' h1 h2
      rw [h1, hnext, hins, h2]
      simp
    rcases List.eq_nil_or_concat f with rfl | ⟨f', y, rfl⟩
    · rw [List.length_nil] at hj
      subst hj
      have h0 := fin rows hrows (insB_nil lt x)
      repeat' (first | refine goH ?_ | refine goV ?_ | refine goG ?_ | (refine Ops.k_guard ?_; first | (refine Ops.guard_dec rfl rfl (fun hc => ?_) (fun hc => ?_) <;> try (exfalso; omega)) | refine Ops.guard_split rfl rfl (fun hc => ?_) (fun hc => ?_)) | refine goI ?_ | (refine Cw.k_cond ?_; first | (refine Cw.cond_dec rfl (fun hc => ?_) (fun hc => ?_) <;> try (exfalso; omega)) | refine Cw.cond_bool rfl (fun hc => ?_) (fun hc => ?_)) | refine goR ?_ | refine goP ?_ | apply PSeq.cons | apply PSeq.yes rfl rfl rfl | exact goW | fail)
      exact ⟨_, _, _, (Ent.mkP goSub goPm), ⟨i + 1, rows, rfl, ⟨by omega, by omega, h0, hrl⟩, rfl, rfl⟩, by omega⟩
    · rw [List.concat_eq_append] at *
      have hym : y ∈ xs := hSm y (by rw [hfm]; simp)
      have hspec := hs x y hxm hym
      have hjl : (f' ++ [y]).length = f'.length + 1 := by simp
      rw [hjl] at hj
      subst hj
      have hy0 : rows[(((f'.length + 1 : Nat) : Int) - 1).toNat]? = some [Tr.int y] := by
        rw [hrows, show (((f'.length + 1 : Nat) : Int) - 1).toNat = f'.length by omega]
        exact rows_at (by simp)
      cases hc0 : lt x y
      · have hcf : ¬ cf x y < 0 := by rw [hlt] at hc0; simpa using hc0
        have h0 := fin rows hrows (insB_ge lt hc0)
        repeat' (first | refine goH ?_ | refine goV ?_ | refine goG ?_ | (refine Ops.k_guard ?_; first | (refine Ops.guard_dec rfl rfl (fun hc => ?_) (fun hc => ?_) <;> try (exfalso; omega)) | refine Ops.guard_split rfl rfl (fun hc => ?_) (fun hc => ?_)) | refine goI ?_ | (refine Cw.k_cond ?_; first | (refine Cw.cond_dec rfl (fun hc => ?_) (fun hc => ?_) <;> try (exfalso; omega)) | refine Cw.cond_bool rfl (fun hc => ?_) (fun hc => ?_)) | exact OpW.callS_fn rfl hspec (Evs.cons rfl (Evs.cons rfl Evs.nil)) List.perm_append_comm | refine goR ?_ | refine goP ?_ | apply PSeq.cons | apply PSeq.yes rfl rfl rfl | exact goW | fail)
        exact ⟨_, _, _, (Ent.mkP goSub goPm), ⟨i + 1, rows, rfl, ⟨by omega, by omega, h0, hrl⟩, rfl, rfl⟩, by omega⟩
      · have hcf : cf x y < 0 := by rw [hlt] at hc0; simpa using hc0
        have hset : (rows.set ((f'.length + 1 : Nat) : Int).toNat [Tr.int y])[(((f'.length + 1 : Nat) : Int) - 1).toNat]? = some [Tr.int y] := by
          rw [List.getElem?_set_ne (by omega)]
          exact hy0
        have hlen2 : (rows.set ((f'.length + 1 : Nat) : Int).toNat [Tr.int y]).length = n := by rw [List.length_set]; exact hrl
        have hres : (rows.set ((f'.length + 1 : Nat) : Int).toNat [Tr.int y]).set (((f'.length + 1 : Nat) : Int) - 1).toNat [Tr.int x] = (f' ++ x :: (y :: m ++ xs.drop (i + 1))).map (fun x => [Tr.int x]) := by
          rw [hrows, show (((f'.length + 1 : Nat) : Int) - 1).toNat = f'.length by omega, show ((f'.length + 1 : Nat) : Int).toNat = f'.length + 1 by omega]
          simp [List.set_append]
          all_goals (try exact ⟨rfl, rfl⟩)
        have hm : S = f' ++ (y :: m) := by rw [hfm]; simp
        have hins2 : insB lt x S = insB lt x f' ++ (y :: m) := by rw [hins, insB_lt lt hc0]; simp
        clear fin hnext hS hSl hSm hfm hins hrows
        repeat' (first | refine goH ?_ | refine goV ?_ | refine goG ?_ | (refine Ops.k_guard ?_; first | (refine Ops.guard_dec rfl rfl (fun hc => ?_) (fun hc => ?_) <;> try (exfalso; omega)) | refine Ops.guard_split rfl rfl (fun hc => ?_) (fun hc => ?_)) | refine goI ?_ | (refine Cw.k_cond ?_; first | (refine Cw.cond_dec rfl (fun hc => ?_) (fun hc => ?_) <;> try (exfalso; omega)) | refine Cw.cond_bool rfl (fun hc => ?_) (fun hc => ?_)) | exact OpW.callS_fn rfl hspec (Evs.cons rfl (Evs.cons rfl Evs.nil)) List.perm_append_comm | refine goR ?_ | refine goP ?_ | apply PSeq.cons | apply PSeq.yes rfl rfl rfl | exact goW | fail)
        refine Cw.region_seqF (m := 15) [2, 3, 4] rfl (by decide +kernel) rfl (fun a w d => ?_) ?_
        · have h9 := rd_raw (d.env 9 _ rfl)
          have hs : a.tmps.size = 53 := d.tmps
          have h9' : a.tmps[9]'(by omega) = .int .i64 ((f'.length + 1 : Nat) : Int) := by simpa [hs] using h9
          exact FlRun.move rfl rfl rfl rfl (FlRun.move rfl rfl rfl rfl (FlRun.sub1 (p := ((f'.length + 1 : Nat) : Int)) rfl rfl rfl rfl (by simp [Act.put, Act.eval, hs, h9']) FlRun.nil))
        repeat' (first | refine goH ?_ | refine goV ?_ | refine goG ?_ | (refine Ops.k_guard ?_; first | (refine Ops.guard_dec rfl rfl (fun hc => ?_) (fun hc => ?_) <;> try (exfalso; omega)) | refine Ops.guard_split rfl rfl (fun hc => ?_) (fun hc => ?_)) | refine goI ?_ | (refine Cw.k_cond ?_; first | (refine Cw.cond_dec rfl (fun hc => ?_) (fun hc => ?_) <;> try (exfalso; omega)) | refine Cw.cond_bool rfl (fun hc => ?_) (fun hc => ?_)) | refine NoP.norm ?_ | refine goR ?_ | refine goP ?_ | apply PSeq.cons | apply PSeq.yes rfl rfl rfl | exact goW | fail)
        refine ⟨_, _, _, ?_, ⟨f', y :: m, _, f'.length, rfl, ⟨rfl, hm, hins2, hres, by rw [List.length_set]; exact hlen2⟩, rfl, rfl⟩, by simp⟩
        rw [show ((f'.length + 1 : Nat) : Int) - 1 = (f'.length : Int) by omega]
        exact (Ent.mkP goSub goPm)
  · have hin : xs.take i = xs := List.take_of_length_le (by omega)
    rw [hin, List.drop_eq_nil_of_le (by omega), List.append_nil] at hrows
    subst hrows
    repeat' (first | refine goH ?_ | refine goV ?_ | refine goG ?_ | (refine Ops.k_guard ?_; first | (refine Ops.guard_dec rfl rfl (fun hc => ?_) (fun hc => ?_) <;> try (exfalso; omega)) | refine Ops.guard_split rfl rfl (fun hc => ?_) (fun hc => ?_)) | refine goI ?_ | (refine Cw.k_cond ?_; first | (refine Cw.cond_dec rfl (fun hc => ?_) (fun hc => ?_) <;> try (exfalso; omega)) | refine Cw.cond_bool rfl (fun hc => ?_) (fun hc => ?_)) | refine goR ?_ | refine goP ?_ | apply PSeq.cons | apply PSeq.yes rfl rfl rfl | exact goW | fail)
    exact Fin.norm (Ent.mkP goSub goPm) (Outs.zero rfl) ⟨rfl, rfl⟩

/-- slices.SortStableFunc on a short slice -/
theorem stable_int {n : Nat} {xs : List Int} {ad : Option Addr} {cap : Nat} {g : Nat} {caps : List Value} {cin : List Chunk} {lt : Int → Int → Bool} {cf : Int → Int → Int} (hlt : ∀ a b, lt a b = decide (cf a b < 0)) (hl : xs.length < 20) (hn : n = xs.length)
    (hs : ∀ a b, a ∈ xs → b ∈ xs → Spec Tryz.prog g ([Tr.int a, Tr.int b] ++ caps.map Tr.raw) cin (fun r cs => r = Tr.int (cf a b) ∧ cs = cin)) :
    Spec Tryz.prog 96 [Tr.raw (.slice ad n cap), .int n, Tr.raw (.func (.func g) #[] caps.toArray)] (Chunk.own ad cap 1 3 (xs.map (fun x => [Tr.int x])) :: cin) (fun r cs => r = Tr.tup [] ∧ cs = Chunk.own ad cap 1 3 ((isort lt xs).map (fun x => [Tr.int x])) :: cin) := by
  have hi := insSort_int (ad := ad) (cap := cap) hlt (show xs.length ≤ 1000000 by omega) hn hs
  refine Spec.body Tryz.func96 rfl rfl (Tryz.ntmps96) rfl fun w0 own0 M => ?_
  repeat' (first | refine goH ?_ | refine goV ?_ | refine goI ?_ | (refine Cw.k_cond ?_; first | (refine Cw.cond_dec rfl (fun hc => ?_) (fun hc => ?_) <;> try (exfalso; omega)) | refine Cw.cond_bool rfl (fun hc => ?_) (fun hc => ?_)) | fail)
  refine Cw.loopI [(0, _), (1, _), (2, _), (6, _)] _ (fun q e c => q = 0 ∧ e = [(7, .int 0), (8, .int 20)] ∧ c = []) ⟨_, _, _, (Ent.mkP goSub goPm), rfl, rfl, rfl⟩ ?_
  rintro _ _ _ ⟨rfl, rfl, rfl⟩
  repeat' (first | refine goH ?_ | refine goV ?_ | refine goI ?_ | (refine Cw.k_cond ?_; first | (refine Cw.cond_dec rfl (fun hc => ?_) (fun hc => ?_) <;> try (exfalso; omega)) | refine Cw.cond_bool rfl (fun hc => ?_) (fun hc => ?_)) | (refine Ops.k_calla ?_; first | (refine Ops.call (cf := []) hi (Evs.cons rfl (Evs.cons rfl (Evs.cons rfl (Evs.cons rfl Evs.nil)))) (by simp) rfl ?_; rintro r cs' ⟨rfl, rfl⟩)) | fail)
  refine Cw.loopI [(0, _), (1, _), (2, _)] _ (fun q e c => q = 0 ∧ e = [(6, .int 20)] ∧ c = []) ⟨_, _, _, (Ent.mkP goSub goPm), rfl, rfl, rfl⟩ ?_
  rintro _ _ _ ⟨rfl, rfl, rfl⟩
  repeat' (first | refine goH ?_ | refine goV ?_ | refine goI ?_ | (refine Cw.k_cond ?_; first | (refine Cw.cond_dec rfl (fun hc => ?_) (fun hc => ?_) <;> try (exfalso; omega)) | refine Cw.cond_bool rfl (fun hc => ?_) (fun hc => ?_)) | fail)
  exact Fin.norm (Ent.mkP goSub (by simp)) (Outs.zero rfl) ⟨rfl, rfl⟩
theorem sortStable_int {n : Nat} {xs : List Int} {ad : Option Addr} {cap : Nat} {g : Nat} {caps : List Value} {cin : List Chunk} {lt : Int → Int → Bool} {cf : Int → Int → Int} (hlt : ∀ a b, lt a b = decide (cf a b < 0)) (hl : xs.length < 20) (hn : n = xs.length)
    (hs : ∀ a b, a ∈ xs → b ∈ xs → Spec Tryz.prog g ([Tr.int a, Tr.int b] ++ caps.map Tr.raw) cin (fun r cs => r = Tr.int (cf a b) ∧ cs = cin)) :
    Spec Tryz.prog 76 [Tr.raw (.slice ad n cap), Tr.raw (.func (.func g) #[] caps.toArray)] (Chunk.own ad cap 1 3 (xs.map (fun x => [Tr.int x])) :: cin) (fun r cs => r = Tr.tup [] ∧ cs = Chunk.own ad cap 1 3 ((isort lt xs).map (fun x => [Tr.int x])) :: cin) := by
  have hi := stable_int (ad := ad) (cap := cap) hlt hl hn hs
  refine Spec.body Tryz.func76 rfl rfl (Tryz.ntmps76) rfl fun w0 own0 M => ?_
  repeat' (first | refine goH ?_ | refine goV ?_ | refine goI ?_ | (refine Cw.k_cond ?_; first | (refine Cw.cond_dec rfl (fun hc => ?_) (fun hc => ?_) <;> try (exfalso; omega)) | refine Cw.cond_bool rfl (fun hc => ?_) (fun hc => ?_)) | (refine Ops.k_calla ?_; first | (refine Ops.call (cf := []) hi (Evs.cons rfl (Evs.cons rfl (Evs.cons rfl Evs.nil))) (by simp) rfl ?_; rintro r cs' ⟨rfl, rfl⟩)) | fail)
  exact Fin.norm (Ent.mkP goSub (by simp)) (Outs.zero rfl) ⟨rfl, rfl⟩


def cmpI (a b : Int) : Int := if a < b then -1 else if b < a then 1 else 0
theorem isNaN_fn (x : Int) : PFn Tryz.prog 97 [.int x] (· = .bool false) := by
  refine PFn.mk (Spec.body Tryz.func97 rfl rfl (Tryz.ntmps97) rfl fun w0 own0 M => ?_)
  repeat' (first | refine goH ?_ | (refine Ops.k_b_neq ?_; first | (refine Ops.val' rfl (OpV.neq_f rfl rfl (by omega)) ?_)) | refine goV ?_ | refine goI ?_ | (refine Cw.k_cond ?_; first | (refine Cw.cond_dec rfl (fun hc => ?_) (fun hc => ?_) <;> try (exfalso; omega)) | refine Cw.cond_bool rfl (fun hc => ?_) (fun hc => ?_)) | fail)
  exact Fin.ret (Ent.take goTk) (Outs.one rfl rfl) ⟨rfl, rfl⟩
theorem compare_fn (a b : Int) : PFn Tryz.prog 78 [.int a, .int b] (· = .int (cmpI a b)) := by
  refine PFn.mk (Spec.body Tryz.func78 rfl rfl (Tryz.ntmps78) rfl fun w0 own0 M => ?_)
  unfold cmpI
  repeat' (first | refine goH ?_ | refine goV ?_ | refine goI ?_ | (refine Cw.k_cond ?_; first | (refine Cw.cond_dec rfl (fun hc => ?_) (fun hc => ?_) <;> try (exfalso; omega)) | refine Cw.cond_bool rfl (fun hc => ?_) (fun hc => ?_)) | (refine Ops.k_calla ?_; first | (refine Ops.k_callf 97 ?_; refine Ops.callV (isNaN_fn _) (Evs.cons rfl Evs.nil) rfl ?_)) | fail)
  all_goals (refine Fin.ret (Ent.take goTk) (Outs.one rfl rfl) ⟨rfl, congrArg Tr.int ?_⟩)
  all_goals (repeat' split)
  all_goals omega
end Lg
end
section
set_option linter.all false
set_option maxRecDepth 100000
set_option maxHeartbeats 8000000
namespace Lg
open Go Go.Proofs

/-! ### meter.Share of 3 among 1 and 2 -/
theorem sharedLt_fn (b3 b4 b5 : Nat) (a b : Int) (ha : a = 0 ∨ a = 1) (hb : b = 0 ∨ b = 1) : Spec Tryz.prog 77 ([.int a, .int b] ++ [Value.pointer (some ⟨b3, 0, none⟩), Value.pointer (some ⟨b4, 0, none⟩), Value.pointer (some ⟨b5, 0, none⟩)].map Tr.raw) [Chunk.box b3 3 [.int 3], Chunk.box b4 22 [.sl 1 [[Tr.int 1], [Tr.int 2]]], Chunk.box b5 3 [.int 3]] (fun r cs => r = .int 0 ∧ cs = [Chunk.box b3 3 [.int 3], Chunk.box b4 22 [.sl 1 [[Tr.int 1], [Tr.int 2]]], Chunk.box b5 3 [.int 3]]) := by
  have hc : PFn Tryz.prog 78 [.int 0, .int 0] (· = .int 0) := compare_fn 0 0
  have r0 : ([[Tr.int 1], [Tr.int 2]] : List (List Tr))[0]? = some [Tr.int 1] := rfl
  have r1 : ([[Tr.int 1], [Tr.int 2]] : List (List Tr))[1]? = some [Tr.int 2] := rfl
  refine Spec.body Tryz.func77 rfl rfl (Tryz.ntmps77) rfl fun w0 own0 M => ?_
  rcases ha with rfl | rfl <;> rcases hb with rfl | rfl
  all_goals
    repeat' (first | refine goH ?_ | refine goV ?_ | refine goI ?_ | (refine Cw.k_cond ?_; first | (refine Cw.cond_dec rfl (fun hc => ?_) (fun hc => ?_) <;> try (exfalso; omega)) | refine Cw.cond_bool rfl (fun hc => ?_) (fun hc => ?_)) | (refine Ops.k_calla ?_; first | (refine Ops.k_callf 78 ?_; refine Ops.callV hc (Evs.cons rfl (Evs.cons rfl Evs.nil)) rfl ?_)) | (apply OpW.k_call; first | (apply OpW.k_callf 78; exact OpW.callV hc (Evs.cons rfl (Evs.cons rfl Evs.nil)))) | refine goR ?_ | refine goP ?_ | apply PSeq.cons | apply PSeq.yes rfl rfl rfl | exact goW | fail)
    exact Fin.ret (Ent.take goTk) (Outs.one rfl rfl) ⟨rfl, rfl⟩
theorem shared12_fn : PFn Tryz.prog 59 [.int 3, .sl 1 [[Tr.int 1], [Tr.int 2]], .int 3] (· = .sl 1 [[Tr.int 1], [Tr.int 2]]) := by
  have kS : ∀ (b3 b4 b5 : Nat) (ad : Option Addr) (cap : Nat), Spec Tryz.prog 76 [Tr.raw (.slice ad 2 cap), Tr.raw (.func (.func 77) #[] [Value.pointer (some ⟨b3, 0, none⟩), Value.pointer (some ⟨b4, 0, none⟩), Value.pointer (some ⟨b5, 0, none⟩)].toArray)] [Chunk.own ad cap 1 3 [[.int 0], [.int 1]], Chunk.box b3 3 [.int 3], Chunk.box b4 22 [.sl 1 [[Tr.int 1], [Tr.int 2]]], Chunk.box b5 3 [.int 3]] (fun r cs => r = Tr.tup [] ∧ cs = [Chunk.own ad cap 1 3 [[.int 0], [.int 1]], Chunk.box b3 3 [.int 3], Chunk.box b4 22 [.sl 1 [[Tr.int 1], [Tr.int 2]]], Chunk.box b5 3 [.int 3]]) := fun b3 b4 b5 ad cap => sortStable_int (xs := [0, 1]) (lt := fun _ _ => false) (cf := fun _ _ => 0) (caps := [.pointer (some ⟨b3, 0, none⟩), .pointer (some ⟨b4, 0, none⟩), .pointer (some ⟨b5, 0, none⟩)]) (cin := [Chunk.box b3 3 [.int 3], Chunk.box b4 22 [.sl 1 [[Tr.int 1], [Tr.int 2]]], Chunk.box b5 3 [.int 3]]) (fun a b => rfl) (by simp) rfl (fun a b ha hb => sharedLt_fn b3 b4 b5 a b (by simpa using ha) (by simpa using hb))
  have r0 : ([[Tr.int 1], [Tr.int 2]] : List (List Tr))[0]? = some [Tr.int 1] := rfl
  have r1 : ([[Tr.int 1], [Tr.int 2]] : List (List Tr))[1]? = some [Tr.int 2] := rfl
  refine PFn.mk (Spec.body Tryz.func59 rfl rfl (Tryz.ntmps59) rfl fun w0 own0 M => ?_)
  have hL2 : ((([[Tr.int 1], [Tr.int 2]] : List (List Tr)).length : Nat) : Int) = 2 := rfl
  have hn2 : ((([[Tr.int 1], [Tr.int 2]] : List (List Tr)).length : Nat) : Int).toNat = 2 := rfl
  have hrep : List.replicate 2 (List.map Tr.raw [Value.int .i64 0]) = [[Tr.int 0], [Tr.int 0]] := rfl
  repeat' (first | refine goH ?_ | (refine Ops.k_makeSlice ?_; first | (refine Ops.makeSlice rfl rfl (by omega) (by omega) (by omega) rfl (fun ad cap => ?_); rw [hn2, hrep])) | refine goV ?_ | refine goB (fun b => ?_) | refine goC (fun ad cap => ?_) | refine goI ?_ | (refine Cw.k_cond ?_; first | (refine Cw.cond_dec rfl (fun hc => ?_) (fun hc => ?_) <;> try (exfalso; omega)) | refine Cw.cond_bool rfl (fun hc => ?_) (fun hc => ?_)) | fail)
  rename_i b3 b4 ad1 cap1
  rw [hL2]
  refine Cw.loopI [(3, _), (4, _), (5, _), (7, _), (8, _), (21, _), (22, _)] _ (fun q e cc => ∃ (k : Nat) (p0 p1 q1 z : Int), q = 2 - k ∧ ((k = 0 ∧ p0 = 0 ∧ p1 = 0 ∧ q1 = 0 ∧ z = 3) ∨ (k = 1 ∧ p0 = 1 ∧ p1 = 0 ∧ q1 = 0 ∧ z = 2) ∨ (k = 2 ∧ p0 = 1 ∧ p1 = 2 ∧ q1 = 1 ∧ z = 0)) ∧ e = [(9, .int z), (23, .int k)] ∧ cc = [Chunk.own ad1 cap1 1 3 [[.int p0], [.int p1]], Chunk.own ad cap 1 3 [[.int 0], [.int q1]]])
    ⟨_, _, _, (Ent.mkP goSub goPm), 0, 0, 0, 0, 3, rfl, .inl ⟨rfl, rfl, rfl, rfl, rfl⟩, rfl, rfl⟩ ?_
  rintro _ _ _ ⟨k, p0, p1, q1, z, rfl, ⟨rfl, rfl, rfl, rfl, rfl⟩ | ⟨rfl, rfl, rfl, rfl, rfl⟩ | ⟨rfl, rfl, rfl, rfl, rfl⟩, rfl, rfl⟩
  · repeat' (first | refine goH ?_ | refine goV ?_ | refine goB (fun b => ?_) | refine goC (fun ad cap => ?_) | refine goI ?_ | (refine Cw.k_cond ?_; first | (refine Cw.cond_dec rfl (fun hc => ?_) (fun hc => ?_) <;> try (exfalso; omega)) | refine Cw.cond_bool rfl (fun hc => ?_) (fun hc => ?_)) | fail)
    exact ⟨_, _, _, (Ent.mk goSub goTk), ⟨1, 1, 0, 0, 2, rfl, .inr (.inl ⟨rfl, rfl, rfl, rfl, rfl⟩), rfl, rfl⟩, by omega⟩
  · repeat' (first | refine goH ?_ | refine goV ?_ | refine goB (fun b => ?_) | refine goC (fun ad cap => ?_) | refine goI ?_ | (refine Cw.k_cond ?_; first | (refine Cw.cond_dec rfl (fun hc => ?_) (fun hc => ?_) <;> try (exfalso; omega)) | refine Cw.cond_bool rfl (fun hc => ?_) (fun hc => ?_)) | fail)
    exact ⟨_, _, _, (Ent.mk goSub goTk), ⟨2, 1, 2, 1, 0, rfl, .inr (.inr ⟨rfl, rfl, rfl, rfl, rfl⟩), rfl, rfl⟩, by omega⟩
  · repeat' (first | refine goH ?_ | refine goV ?_ | refine goB (fun b => ?_) | refine goC (fun ad cap => ?_) | refine goI ?_ | (refine Cw.k_cond ?_; first | (refine Cw.cond_dec rfl (fun hc => ?_) (fun hc => ?_) <;> try (exfalso; omega)) | refine Cw.cond_bool rfl (fun hc => ?_) (fun hc => ?_)) | (refine Ops.k_calla ?_; first | (refine Ops.k_callf 76 ?_; (refine Ops.call (kS _ _ _ _ _) (Evs.cons rfl (Evs.cons rfl Evs.nil)) goPm rfl ?_; rintro r cs' ⟨rfl, rfl⟩))) | fail)
    refine Cw.loopI [(7, _), (52, _), (53, _)] _ (fun q e cc => q = 0 ∧ e = [(54, .int 0)] ∧ cc = []) ⟨_, _, _, (Ent.mkP goSub goPm), rfl, rfl, rfl⟩ ?_
    rintro _ _ _ ⟨rfl, rfl, rfl⟩
    repeat' (first | refine goH ?_ | refine goV ?_ | refine goB (fun b => ?_) | refine goC (fun ad cap => ?_) | refine goI ?_ | (refine Cw.k_cond ?_; first | (refine Cw.cond_dec rfl (fun hc => ?_) (fun hc => ?_) <;> try (exfalso; omega)) | refine Cw.cond_bool rfl (fun hc => ?_) (fun hc => ?_)) | fail)
    refine Fin.ret (Ent.trans (Ent.settle (s := 6) rfl goPk rfl) (Ent.take goTk)) (Outs.sole rfl goOe) ⟨rfl, rfl⟩
theorem share12_fn : PFn Tryz.prog 36 [.int 3, .sl 1 [[Tr.int 1], [Tr.int 2]]] (· = .tup [.sl 1 [[Tr.int 1], [Tr.int 2]], .int 0]) := by
  have hL2 : ((([[Tr.int 1], [Tr.int 2]] : List (List Tr)).length : Nat) : Int) = 2 := rfl
  have k0 : PFn Tryz.prog 21 [.int 3, .int 0, .int 1000000000] (· = .bool false) := out_fn 3 0 1000000000
  have k1 : PFn Tryz.prog 21 [.int 1, .int 0, .int 1000000] (· = .bool false) := out_fn 1 0 1000000
  have k2 : PFn Tryz.prog 21 [.int 2, .int 0, .int 1000000] (· = .bool false) := out_fn 2 0 1000000
  have k3 := shared12_fn
  have r0 : ([[Tr.int 1], [Tr.int 2]] : List (List Tr))[0]? = some [Tr.int 1] := rfl
  have r1 : ([[Tr.int 1], [Tr.int 2]] : List (List Tr))[1]? = some [Tr.int 2] := rfl
  refine PFn.mk (Spec.body Tryz.func36 rfl rfl (Tryz.ntmps36) rfl fun w0 own0 M => ?_)
  repeat' (first | refine goH ?_ | refine goV ?_ | refine goI ?_ | (refine Cw.k_cond ?_; first | (refine Cw.cond_dec rfl (fun hc => ?_) (fun hc => ?_) <;> try (exfalso; omega)) | refine Cw.cond_bool rfl (fun hc => ?_) (fun hc => ?_)) | (refine Ops.k_calla ?_; first | (refine Ops.k_callf 21 ?_; refine Ops.callV k0 (Evs.cons rfl (Evs.cons rfl (Evs.cons rfl Evs.nil))) rfl ?_)) | fail)
  rw [hL2]
  refine Cw.loopI [(0, _), (1, _), (20, _), (21, _)] _ (fun q e cc => ∃ (k : Nat) (z : Int), q = 2 - k ∧ ((k = 0 ∧ z = 0) ∨ (k = 1 ∧ z = 1) ∨ (k = 2 ∧ z = 3)) ∧ e = [(6, .int z), (22, .int k)] ∧ cc = [])
    ⟨_, _, _, (Ent.mkP goSub goPm), 0, 0, rfl, .inl ⟨rfl, rfl⟩, rfl, rfl⟩ ?_
  rintro _ _ _ ⟨k, z, rfl, ⟨rfl, rfl⟩ | ⟨rfl, rfl⟩ | ⟨rfl, rfl⟩, rfl, rfl⟩
  · repeat' (first | refine goH ?_ | refine goV ?_ | refine goI ?_ | (refine Cw.k_cond ?_; first | (refine Cw.cond_dec rfl (fun hc => ?_) (fun hc => ?_) <;> try (exfalso; omega)) | refine Cw.cond_bool rfl (fun hc => ?_) (fun hc => ?_)) | (refine Ops.k_calla ?_; first | (refine Ops.k_callf 21 ?_; refine Ops.callV k1 (Evs.cons rfl (Evs.cons rfl (Evs.cons rfl Evs.nil))) rfl ?_)) | fail)
    exact ⟨_, _, _, (Ent.mk goSub goTk), ⟨1, 1, rfl, .inr (.inl ⟨rfl, rfl⟩), rfl, rfl⟩, by omega⟩
  · repeat' (first | refine goH ?_ | refine goV ?_ | refine goI ?_ | (refine Cw.k_cond ?_; first | (refine Cw.cond_dec rfl (fun hc => ?_) (fun hc => ?_) <;> try (exfalso; omega)) | refine Cw.cond_bool rfl (fun hc => ?_) (fun hc => ?_)) | (refine Ops.k_calla ?_; first | (refine Ops.k_callf 21 ?_; refine Ops.callV k2 (Evs.cons rfl (Evs.cons rfl (Evs.cons rfl Evs.nil))) rfl ?_)) | fail)
    exact ⟨_, _, _, (Ent.mk goSub goTk), ⟨2, 3, rfl, .inr (.inr ⟨rfl, rfl⟩), rfl, rfl⟩, by omega⟩
  · repeat' (first | refine goH ?_ | refine goV ?_ | refine goI ?_ | (refine Cw.k_cond ?_; first | (refine Cw.cond_dec rfl (fun hc => ?_) (fun hc => ?_) <;> try (exfalso; omega)) | refine Cw.cond_bool rfl (fun hc => ?_) (fun hc => ?_)) | (refine Ops.k_calla ?_; first | (refine Ops.k_callf 59 ?_; refine Ops.callV k3 (Evs.cons rfl (Evs.cons rfl (Evs.cons rfl Evs.nil))) rfl ?_)) | fail)
    exact Fin.ret (Ent.take goTk) (Outs.two rfl rfl rfl) ⟨rfl, rfl⟩
theorem meters_fn : PFn Tryz.prog 12 [] (· = .bool true) := by
  have k1 := share12_fn
  have k2 : PFn Tryz.prog 37 [.sl 1 [[Tr.int 1], [Tr.int 2]], .sl 1 [[Tr.int 1], [Tr.int 2]]] (· = .bool true) := equalInts_fn [1, 2] [1, 2] (by simp) (by simp)
  refine PFn.mk (Spec.body Tryz.func12 rfl rfl (Tryz.ntmps12) rfl fun w0 own0 M => ?_)
  repeat' (first | refine goH ?_ | refine goV ?_ | refine goG ?_ | (refine Ops.k_guard ?_; first | (refine Ops.guard_dec rfl rfl (fun hc => ?_) (fun hc => ?_) <;> try (exfalso; omega)) | refine Ops.guard_split rfl rfl (fun hc => ?_) (fun hc => ?_)) | refine goI ?_ | (refine Cw.k_cond ?_; first | (refine Cw.cond_dec rfl (fun hc => ?_) (fun hc => ?_) <;> try (exfalso; omega)) | refine Cw.cond_bool rfl (fun hc => ?_) (fun hc => ?_)) | (refine Ops.k_calla ?_; first | (refine Ops.k_callf 36 ?_; refine Ops.callV k1 (Evs.cons rfl (Evs.cons rfl Evs.nil)) rfl ?_) | (refine Ops.k_callf 37 ?_; refine Ops.callV k2 (Evs.cons rfl (Evs.cons rfl Evs.nil)) rfl ?_)) | fail)
  exact Fin.ret (Ent.take goTk) (Outs.one rfl rfl) ⟨rfl, rfl⟩
end Lg
end
section
set_option linter.all false
set_option maxRecDepth 100000
set_option maxHeartbeats 4000000
namespace Lg
open Go Go.Proofs

/-! ### a changed text -/
theorem enc_sz (p : Int) : (Utf8.encode p).size ≤ 4 := by
  unfold Utf8.encode
  dsimp only
  repeat' split
  all_goals first | exact (show 1 ≤ 4 by omega) | exact (show 2 ≤ 4 by omega) | exact (show 3 ≤ 4 by omega) | exact (show 4 ≤ 4 by omega)
theorem changed_gen (t w : ByteArray) (ht : t.size ≤ 1000000000) (hw : w.size ≤ 1000000) : Gen Tryz.prog 25 28 [.str t, .str w] 3 (fun r => ∃ s, r = .str s ∧ s.size ≤ t.size + w.size + 4) := by
  unfold Gen
  intro b xs N hN
  refine Spec.body Tryz.func28 rfl rfl (Tryz.ntmps28) rfl fun w0 own0 M => ?_
  by_cases h1 : t = ⟨#[]⟩
  · repeat' (first | refine goH ?_ | refine goV ?_ | refine goG ?_ | (refine Ops.k_guard ?_; first | (refine Ops.guard_dec rfl rfl (fun hc => ?_) (fun hc => ?_) <;> try (exfalso; omega)) | refine Ops.guard_split rfl rfl (fun hc => ?_) (fun hc => ?_)) | refine goI ?_ | (refine Cw.k_cond ?_; first | (refine Cw.cond_dec rfl (fun hc => ?_) (fun hc => ?_) <;> try (exfalso; omega)) | refine Cw.cond_bool rfl (fun hc => ?_) (fun hc => ?_)) | refine goR ?_ | refine goP ?_ | apply PSeq.cons | apply PSeq.yes rfl rfl rfl | exact goW | fail)
    all_goals first | (exfalso; contradiction) | (refine Fin.ret (Ent.strm_only goPk (by omega)) (Outs.sole rfl goOe) ⟨rfl, w, rfl, by omega⟩)
  by_cases h2 : w = ⟨#[]⟩
  · repeat' (first | refine goH ?_ | refine goV ?_ | refine goG ?_ | (refine Ops.k_guard ?_; first | (refine Ops.guard_dec rfl rfl (fun hc => ?_) (fun hc => ?_) <;> try (exfalso; omega)) | refine Ops.guard_split rfl rfl (fun hc => ?_) (fun hc => ?_)) | refine goI ?_ | (refine Cw.k_cond ?_; first | (refine Cw.cond_dec rfl (fun hc => ?_) (fun hc => ?_) <;> try (exfalso; omega)) | refine Cw.cond_bool rfl (fun hc => ?_) (fun hc => ?_)) | refine goR ?_ | refine goP ?_ | apply PSeq.cons | apply PSeq.yes rfl rfl rfl | exact goW | fail)
    all_goals first | (exfalso; contradiction) | (refine Fin.ret (Ent.strm_only goPk (by omega)) (Outs.sole rfl goOe) ⟨rfl, w, rfl, by omega⟩)
  have ht0 : 0 < t.size := Nat.pos_of_ne_zero fun h => h1 ((str_empty t).2 h)
  have hw0 : 0 < w.size := Nat.pos_of_ne_zero fun h => h2 ((str_empty w).2 h)
  have e4 : ∀ p, (Utf8.encode p).size ≤ 4 := enc_sz
  repeat' (first | refine goH ?_ | (refine Ops.k_index ?_; first | (refine Ops.indexS rfl rfl rfl (by omega) rfl ?_)) | refine goV ?_ | refine goG ?_ | (refine Ops.k_guard ?_; first | (refine Ops.guard_dec rfl rfl (fun hc => ?_) (fun hc => ?_) <;> try (exfalso; omega)) | refine Ops.guard_split rfl rfl (fun hc => ?_) (fun hc => ?_)) | refine goI ?_ | (refine Cw.k_cond ?_; first | (refine Cw.cond_dec rfl (fun hc => ?_) (fun hc => ?_) <;> try (exfalso; omega)) | refine Cw.cond_bool rfl (fun hc => ?_) (fun hc => ?_)) | (refine Ops.k_calla ?_; first | (refine Ops.k_callf 15 ?_; (refine Ops.callG (next_gen ((t.size : Nat) : Int) (by omega)) (Evs.cons rfl (Evs.cons rfl Evs.nil)) goPk (by omega) rfl ?_; rintro r ⟨v1, rfl, hv1⟩; unfold InRange at hv1)) | (refine Ops.k_callf 15 ?_; (refine Ops.callG (next_gen ((w.size : Nat) : Int) (by omega)) (Evs.cons rfl (Evs.cons rfl Evs.nil)) goPk (by omega) rfl ?_; rintro r ⟨v2, rfl, hv2⟩; unfold InRange at hv2)) | (refine Ops.k_callf 15 ?_; (refine Ops.callG (next_gen 3 (by omega)) (Evs.cons rfl (Evs.cons rfl Evs.nil)) goPk (by omega) rfl ?_; rintro r ⟨v3, rfl, hv3⟩; unfold InRange at hv3))) | fail)
  · have h4 := e4 (IntKind.i32.wrap (sby w v2.toNat))
    repeat' (first | refine goH ?_ | refine goV ?_ | refine goG ?_ | (refine Ops.k_guard ?_; first | (refine Ops.guard_dec rfl rfl (fun hc => ?_) (fun hc => ?_) <;> try (exfalso; omega)) | refine Ops.guard_split rfl rfl (fun hc => ?_) (fun hc => ?_)) | refine goI ?_ | (refine Cw.k_cond ?_; first | (refine Cw.cond_dec rfl (fun hc => ?_) (fun hc => ?_) <;> try (exfalso; omega)) | refine Cw.cond_bool rfl (fun hc => ?_) (fun hc => ?_)) | exact OpV.w (OpV.sliceS_l rfl rfl rfl (by omega)) | exact OpV.w (OpV.convI Tryz.underlying5 Tryz.underlying21 rfl) | exact OpV.w (OpV.convS Tryz.underlying21 Tryz.underlying9 rfl) | exact OpV.w (OpV.catB rfl rfl (by simp only [ByteArray.size_append, ByteArray.size_extract]; omega)) | refine goR ?_ | refine goP ?_ | apply PSeq.cons | apply PSeq.yes rfl rfl rfl | exact goW | fail)
    refine Fin.ret (Ent.strm_only goPk (by omega)) (Outs.sole rfl goOe) ⟨rfl, _, rfl, by simp only [ByteArray.size_append, ByteArray.size_extract]; omega⟩
  · have h4 := e4 (IntKind.i32.wrap (sby w v2.toNat))
    repeat' (first | refine goH ?_ | refine goV ?_ | refine goG ?_ | (refine Ops.k_guard ?_; first | (refine Ops.guard_dec rfl rfl (fun hc => ?_) (fun hc => ?_) <;> try (exfalso; omega)) | refine Ops.guard_split rfl rfl (fun hc => ?_) (fun hc => ?_)) | refine goI ?_ | (refine Cw.k_cond ?_; first | (refine Cw.cond_dec rfl (fun hc => ?_) (fun hc => ?_) <;> try (exfalso; omega)) | refine Cw.cond_bool rfl (fun hc => ?_) (fun hc => ?_)) | exact OpV.w (OpV.sliceS_l rfl rfl rfl (by omega)) | exact OpV.w (OpV.convI Tryz.underlying5 Tryz.underlying21 rfl) | exact OpV.w (OpV.convS Tryz.underlying21 Tryz.underlying9 rfl) | exact OpV.w (OpV.catB rfl rfl (by simp only [ByteArray.size_append, ByteArray.size_extract]; omega)) | refine goR ?_ | refine goP ?_ | apply PSeq.cons | apply PSeq.yes rfl rfl rfl | exact goW | fail)
    refine Fin.ret (Ent.strm_only goPk (by omega)) (Outs.sole rfl goOe) ⟨rfl, _, rfl, by simp only [ByteArray.size_append, ByteArray.size_extract]; omega⟩
  · repeat' (first | refine goH ?_ | refine goV ?_ | refine goG ?_ | (refine Ops.k_guard ?_; first | (refine Ops.guard_dec rfl rfl (fun hc => ?_) (fun hc => ?_) <;> try (exfalso; omega)) | refine Ops.guard_split rfl rfl (fun hc => ?_) (fun hc => ?_)) | refine goI ?_ | (refine Cw.k_cond ?_; first | (refine Cw.cond_dec rfl (fun hc => ?_) (fun hc => ?_) <;> try (exfalso; omega)) | refine Cw.cond_bool rfl (fun hc => ?_) (fun hc => ?_)) | exact OpV.w (OpV.sliceS_l rfl rfl rfl (by omega)) | exact OpV.w (OpV.catB rfl rfl (by simp only [ByteArray.size_append, ByteArray.size_extract]; omega)) | refine goR ?_ | refine goP ?_ | apply PSeq.cons | apply PSeq.yes rfl rfl rfl | exact goW | fail)
    refine Fin.ret (Ent.strm_only goPk (by omega)) (Outs.sole rfl goOe) ⟨rfl, _, rfl, by simp only [ByteArray.size_append, ByteArray.size_extract]; omega⟩
end Lg
end
