/- A part of the proof of a law of this seat: it adds no condition. By an AI agent. -/
import Derived.Test.YteooghfcfmmkkaaLgGo
import Derived.Test.YteooghfcfmmkkaaLgB
import Derived.Test.YteooghfcfmmkkaaLst
section
set_option linter.all false
set_option maxRecDepth 100000
set_option maxHeartbeats 4000000
namespace Lg
open Go Go.Proofs




def cmpI (a b : Int) : Int := if a < b then -1 else if b < a then 1 else 0
theorem cmpI_lt (a b : Int) : (cmpI a b < 0) ↔ a < b := by unfold cmpI; split <;> (try split) <;> omega
theorem isNaN_fn (x : Int) : PFn Try.prog 54 [.int x] (· = .bool false) := by
  refine PFn.mk (Spec.body Try.func54 rfl rfl (Try.ntmps54) rfl fun w0 own0 M => ?_)
  repeat' (first | refine goH ?_ | (refine Ops.k_b_neq ?_; first | (refine Ops.val' rfl (OpV.neq_f rfl rfl (by omega)) ?_)) | refine goV ?_ | refine goI ?_ | (refine Cw.k_cond ?_; first | (refine Cw.cond_dec rfl (fun hc => ?_) (fun hc => ?_) <;> try (exfalso; omega)) | refine Cw.cond_bool rfl (fun hc => ?_) (fun hc => ?_)) | fail)
  exact Fin.ret (Ent.take goTk) (Outs.one rfl rfl) ⟨rfl, rfl⟩
theorem compare_fn (a b : Int) : PFn Try.prog 42 [.int a, .int b] (· = .int (cmpI a b)) := by
  refine PFn.mk (Spec.body Try.func42 rfl rfl (Try.ntmps42) rfl fun w0 own0 M => ?_)
  unfold cmpI
  repeat' (first | refine goH ?_ | refine goV ?_ | refine goI ?_ | (refine Cw.k_cond ?_; first | (refine Cw.cond_dec rfl (fun hc => ?_) (fun hc => ?_) <;> try (exfalso; omega)) | refine Cw.cond_bool rfl (fun hc => ?_) (fun hc => ?_)) | (refine Ops.k_calla ?_; first | (refine Ops.k_callf 54 ?_; refine Ops.callV (isNaN_fn _) (Evs.cons rfl Evs.nil) rfl ?_)) | fail)
  all_goals (refine Fin.ret (Ent.take goTk) (Outs.one rfl rfl) ⟨rfl, congrArg Tr.int ?_⟩)
  all_goals (repeat' split)
  all_goals omega
end Lg
end
section
set_option linter.all false
set_option maxRecDepth 100000
set_option maxHeartbeats 4000000
namespace Lg
open Go Go.Proofs

/-- the length in bits of a small number: some number -/
theorem len64_fn (n : Int) (hn : 0 ≤ n ∧ n ≤ 200) : PFn Try.prog 67 [Tr.raw (.int .u64 n)] (fun r => ∃ v : Int, r = .int v) := by
  refine PFn.mk (Spec.body Try.func67 rfl rfl (Try.ntmps67) rfl fun w0 own0 M => ?_)
  repeat' (first | refine goH ?_ | (refine Ops.k_convert ?_; first | (refine Ops.convN Try.underlying97 Try.underlying5 rfl (wrap_u8 (by omega)) rfl ?_) | (refine Ops.convN Try.underlying5 Try.underlying3 rfl (wrap_i64 (by omega)) rfl ?_)) | (refine Ops.k_index ?_; first | (refine Ops.indexS_any Try.underlying9 rfl rfl (by refine ⟨by omega, ?_⟩; show n < 256; omega) rfl (fun v hv => ?_))) | refine goV ?_ | refine goI ?_ | (refine Cw.k_cond ?_; first | (refine Cw.cond_dec rfl (fun hc => ?_) (fun hc => ?_) <;> try (exfalso; omega)) | refine Cw.cond_bool rfl (fun hc => ?_) (fun hc => ?_)) | fail)
  exact Fin.ret (Ent.take goTk) (Outs.one rfl rfl) ⟨rfl, _, rfl⟩
theorem bitsLen_fn (n : Int) (hn : 0 ≤ n ∧ n ≤ 200) : PFn Try.prog 53 [Tr.raw (.int .u64 n)] (fun r => ∃ v : Int, r = .int v) := by
  have h := len64_fn n hn
  unfold PFn at h
  refine PFn.mk (Spec.body Try.func53 rfl rfl (Try.ntmps53) rfl fun w0 own0 M => ?_)
  repeat' (first | refine goH ?_ | refine goV ?_ | refine goI ?_ | (refine Cw.k_cond ?_; first | (refine Cw.cond_dec rfl (fun hc => ?_) (fun hc => ?_) <;> try (exfalso; omega)) | refine Cw.cond_bool rfl (fun hc => ?_) (fun hc => ?_)) | (refine Ops.k_calla ?_; first | (refine Ops.call (cf := []) h (Evs.cons rfl Evs.nil) (by simp) rfl ?_; rintro r cs' ⟨rfl, v, rfl⟩)) | fail)
  exact Fin.ret (Ent.take goTk) (Outs.one rfl rfl) ⟨rfl, _, rfl⟩
end Lg
end
section
set_option linter.all false
set_option maxRecDepth 100000
set_option maxHeartbeats 8000000
namespace Lg
open Go Go.Proofs

theorem less_fn (x y : Int) : PFn Try.prog 74 [.int x, .int y] (· = .bool (decide (x < y))) := by
  have k1 := isNaN_fn x
  refine PFn.mk (Spec.body Try.func74 rfl rfl (Try.ntmps74) rfl fun w0 own0 M => ?_)
  repeat' (first | refine goH ?_ | refine goV ?_ | refine goG ?_ | (refine Ops.k_guard ?_; first | (refine Ops.guard_dec rfl rfl (fun hc => ?_) (fun hc => ?_) <;> try (exfalso; omega)) | refine Ops.guard_split rfl rfl (fun hc => ?_) (fun hc => ?_)) | refine goI ?_ | (refine Cw.k_cond ?_; first | (refine Cw.cond_dec rfl (fun hc => ?_) (fun hc => ?_) <;> try (exfalso; omega)) | refine Cw.cond_bool rfl (fun hc => ?_) (fun hc => ?_)) | (refine Ops.k_calla ?_; first | (refine Ops.k_callf 54 ?_; refine Ops.callV k1 (Evs.cons rfl Evs.nil) rfl ?_)) | fail)
  exact Fin.ret (Ent.take goTk) (Outs.one rfl rfl) ⟨rfl, rfl⟩
theorem insSortV {n : Nat} {xs : List Int} {ad : Option Addr} {cap : Nat} (hl : xs.length ≤ 1000000) (hn : n = xs.length) :
    Spec Try.prog 68 [Tr.raw (.slice ad n cap), .int 0, .int n] [Chunk.own ad cap 1 3 (xs.map (fun x => [Tr.int x]))] (fun r cs => r = Tr.tup [] ∧ cs = [Chunk.own ad cap 1 3 ((isort (fun a b => decide (a < b)) xs).map (fun x => [Tr.int x]))]) := by
  obtain ⟨lt, hlt⟩ : ∃ lt : Int → Int → Bool, lt = fun a b => decide (a < b) := ⟨_, rfl⟩
  have hlt2 : ∀ a b, lt a b = decide (a < b) := fun a b => by rw [hlt]
  rw [← hlt]
  clear hlt
  refine Spec.body Try.func68 rfl rfl (Try.ntmps68) rfl fun w0 own0 M => ?_
  repeat' (first | refine goH ?_ | refine goV ?_ | refine goG ?_ | (refine Ops.k_guard ?_; first | (refine Ops.guard_dec rfl rfl (fun hc => ?_) (fun hc => ?_) <;> try (exfalso; omega)) | refine Ops.guard_split rfl rfl (fun hc => ?_) (fun hc => ?_)) | refine goI ?_ | (refine Cw.k_cond ?_; first | (refine Cw.cond_dec rfl (fun hc => ?_) (fun hc => ?_) <;> try (exfalso; omega)) | refine Cw.cond_bool rfl (fun hc => ?_) (fun hc => ?_)) | refine goR ?_ | refine goP ?_ | apply PSeq.cons | apply PSeq.yes rfl rfl rfl | exact goW | fail)
  refine Cw.loopI [(0, _), (1, _), (2, _)] _ (fun q e c => ∃ (i : Nat) (rows : List (List Tr)), q = n - i ∧ (1 ≤ i ∧ i ≤ max 1 n ∧ rows = (isort lt (xs.take i) ++ xs.drop i).map (fun x => [Tr.int x]) ∧ rows.length = n) ∧ e = [(6, .int i)] ∧ c = [Chunk.own ad cap 1 3 rows])
    ⟨_, _, _, (Ent.mkP goSub goPm), 1, xs.map (fun x => [Tr.int x]), rfl, ⟨by omega, by omega, by rw [isort_take1, List.take_append_drop], by rw [List.length_map, hn]⟩, rfl, rfl⟩ ?_
  rintro _ _ _ ⟨i, rows, rfl, ⟨hi1, hi2, hrows, hrl⟩, rfl, rfl⟩
  by_cases hil : i < n
  · obtain ⟨x, hx⟩ : ∃ x, xs[i]? = some x := at_lt (by omega)
    obtain ⟨S, hS⟩ : ∃ S, S = isort lt (xs.take i) := ⟨_, rfl⟩
    have hSl : S.length = i := by rw [hS, isort_len, List.length_take]; omega
    have hSm : ∀ y ∈ S, y ∈ xs := fun y hy => List.mem_of_mem_take ((isort_perm lt (xs.take i)).mem_iff.1 (by rw [← hS]; exact hy))
    have hxm : x ∈ xs := List.mem_of_getElem? hx
    have hnext : isort lt (xs.take (i + 1)) = insB lt x S := by rw [take_at hx, isort_snoc, ← hS]
    rw [← hS, drop_at hx] at hrows
    repeat' (first | refine goH ?_ | refine goV ?_ | refine goG ?_ | (refine Ops.k_guard ?_; first | (refine Ops.guard_dec rfl rfl (fun hc => ?_) (fun hc => ?_) <;> try (exfalso; omega)) | refine Ops.guard_split rfl rfl (fun hc => ?_) (fun hc => ?_)) | refine goI ?_ | (refine Cw.k_cond ?_; first | (refine Cw.cond_dec rfl (fun hc => ?_) (fun hc => ?_) <;> try (exfalso; omega)) | refine Cw.cond_bool rfl (fun hc => ?_) (fun hc => ?_)) | refine goR ?_ | refine goP ?_ | apply PSeq.cons | apply PSeq.yes rfl rfl rfl | exact goW | fail)
    refine Cw.loopI [(0, _), (1, _), (2, _), (6, _)] _ (fun q e c => ∃ (f m : List Int) (rows : List (List Tr)) (j : Nat), q = f.length ∧ (f.length = j ∧ S = f ++ m ∧ insB lt x S = insB lt x f ++ m ∧ rows = (f ++ x :: (m ++ xs.drop (i + 1))).map (fun x => [Tr.int x]) ∧ rows.length = n) ∧ e = [(7, .int j)] ∧ c = [Chunk.own ad cap 1 3 rows])
      ⟨_, _, _, (Ent.mkP goSub goPm), S, [], rows, i, rfl, ⟨hSl, by simp, by simp, by rw [hrows]; simp, hrl⟩, rfl, rfl⟩ ?_
    clear hrows hrl
    rintro _ _ _ ⟨f, m, rows, j, rfl, ⟨hj, hfm, hins, hrows, hrl⟩, rfl, rfl⟩
    have hfl : j ≤ i := by rw [← hSl, hfm, List.length_append]; omega
    have hx0 : rows[((j : Nat) : Int).toNat]? = some [Tr.int x] := by rw [hrows]; exact rows_at (by simp [← hj])
    have fin : ∀ rows' : List (List Tr), rows' = (f ++ x :: (m ++ xs.drop (i + 1))).map (fun x => [Tr.int x]) → insB lt x f = f ++ [x] → rows' = (isort lt (xs.take (i + 1)) ++ xs.drop (i + 1)).map (fun x => [Tr.int x]) := by
      intro rows' h1 h2
      rw [h1, hnext, hins, h2]
      simp
    rcases List.eq_nil_or_concat f with rfl | ⟨f', y, rfl⟩
    · rw [List.length_nil] at hj
      subst hj
      have h0 := fin rows hrows (insB_nil lt x)
      repeat' (first | refine goH ?_ | refine goV ?_ | refine goG ?_ | (refine Ops.k_guard ?_; first | (refine Ops.guard_dec rfl rfl (fun hc => ?_) (fun hc => ?_) <;> try (exfalso; omega)) | refine Ops.guard_split rfl rfl (fun hc => ?_) (fun hc => ?_)) | refine goI ?_ | (refine Cw.k_cond ?_; first | (refine Cw.cond_dec rfl (fun hc => ?_) (fun hc => ?_) <;> try (exfalso; omega)) | refine Cw.cond_bool rfl (fun hc => ?_) (fun hc => ?_)) | refine goR ?_ | refine goP ?_ | apply PSeq.cons | apply PSeq.yes rfl rfl rfl | exact goW | fail)
      exact ⟨_, _, _, (Ent.mkP goSub goPm), ⟨i + 1, rows, rfl, ⟨by omega, by omega, h0, hrl⟩, rfl, rfl⟩, by omega⟩
    · rw [List.concat_eq_append] at *
      have hym : y ∈ xs := hSm y (by rw [hfm]; simp)
      have kL := less_fn x y
      have hjl : (f' ++ [y]).length = f'.length + 1 := by simp
      rw [hjl] at hj
      subst hj
      have hy0 : rows[(((f'.length + 1 : Nat) : Int) - 1).toNat]? = some [Tr.int y] := by
        rw [hrows, show (((f'.length + 1 : Nat) : Int) - 1).toNat = f'.length by omega]
        exact rows_at (by simp)
      cases hc0 : lt x y
      · have hcf : ¬ x < y := by rw [hlt2] at hc0; simpa using hc0
        rw [decide_eq_false hcf] at kL
        have h0 := fin rows hrows (insB_ge lt hc0)
        repeat' (first | refine goH ?_ | refine goV ?_ | refine goG ?_ | (refine Ops.k_guard ?_; first | (refine Ops.guard_dec rfl rfl (fun hc => ?_) (fun hc => ?_) <;> try (exfalso; omega)) | refine Ops.guard_split rfl rfl (fun hc => ?_) (fun hc => ?_)) | refine goI ?_ | (refine Cw.k_cond ?_; first | (refine Cw.cond_dec rfl (fun hc => ?_) (fun hc => ?_) <;> try (exfalso; omega)) | refine Cw.cond_bool rfl (fun hc => ?_) (fun hc => ?_)) | (refine Ops.k_calla ?_; first | (refine Ops.k_callf 74 ?_; refine Ops.callV kL (Evs.cons rfl (Evs.cons rfl Evs.nil)) rfl ?_)) | (apply OpW.k_call; first | (apply OpW.k_callf 74; exact OpW.callV kL (Evs.cons rfl (Evs.cons rfl Evs.nil)))) | refine goR ?_ | refine goP ?_ | apply PSeq.cons | apply PSeq.yes rfl rfl rfl | exact goW | fail)
        exact ⟨_, _, _, (Ent.mkP goSub goPm), ⟨i + 1, rows, rfl, ⟨by omega, by omega, h0, hrl⟩, rfl, rfl⟩, by omega⟩
      · have hcf : x < y := by rw [hlt2] at hc0; simpa using hc0
        rw [decide_eq_true hcf] at kL
        have hset : (rows.set ((f'.length + 1 : Nat) : Int).toNat [Tr.int y])[(((f'.length + 1 : Nat) : Int) - 1).toNat]? = some [Tr.int y] := by
          rw [List.getElem?_set_ne (by omega)]
          exact hy0
        have hlen2 : (rows.set ((f'.length + 1 : Nat) : Int).toNat [Tr.int y]).length = n := by rw [List.length_set]; exact hrl
        have hres : (rows.set ((f'.length + 1 : Nat) : Int).toNat [Tr.int y]).set (((f'.length + 1 : Nat) : Int) - 1).toNat [Tr.int x] = (f' ++ x :: (y :: m ++ xs.drop (i + 1))).map (fun x => [Tr.int x]) := by
          rw [hrows, show (((f'.length + 1 : Nat) : Int) - 1).toNat = f'.length by omega, show ((f'.length + 1 : Nat) : Int).toNat = f'.length + 1 by omega]
          simp [List.set_append]
          all_goals (try exact ⟨rfl, rfl⟩)
        have hm : S = f' ++ (y :: m) := by rw [hfm]; simp
        have hins2 : insB lt x S = insB lt x f' ++ (y :: m) := by rw [hins, insB_lt lt hc0]; simp
        clear fin hnext hS hSl hSm hfm hins hrows
        repeat' (first | refine goH ?_ | refine goV ?_ | refine goG ?_ | (refine Ops.k_guard ?_; first | (refine Ops.guard_dec rfl rfl (fun hc => ?_) (fun hc => ?_) <;> try (exfalso; omega)) | refine Ops.guard_split rfl rfl (fun hc => ?_) (fun hc => ?_)) | refine goI ?_ | (refine Cw.k_cond ?_; first | (refine Cw.cond_dec rfl (fun hc => ?_) (fun hc => ?_) <;> try (exfalso; omega)) | refine Cw.cond_bool rfl (fun hc => ?_) (fun hc => ?_)) | (refine Ops.k_calla ?_; first | (refine Ops.k_callf 74 ?_; refine Ops.callV kL (Evs.cons rfl (Evs.cons rfl Evs.nil)) rfl ?_)) | (apply OpW.k_call; first | (apply OpW.k_callf 74; exact OpW.callV kL (Evs.cons rfl (Evs.cons rfl Evs.nil)))) | refine goR ?_ | refine goP ?_ | apply PSeq.cons | apply PSeq.yes rfl rfl rfl | exact goW | fail)
        refine Cw.region_seqF (m := 15) [2, 3, 4] rfl (by decide +kernel) rfl (fun a w d => ?_) ?_
        · have h9 := rd_raw (d.env 7 _ rfl)
          have hs : a.tmps.size = 49 := d.tmps
          have h9' : a.tmps[7]'(by omega) = .int .i64 ((f'.length + 1 : Nat) : Int) := by simpa [hs] using h9
          exact FlRun.move rfl rfl rfl rfl (FlRun.move rfl rfl rfl rfl (FlRun.sub1 (p := ((f'.length + 1 : Nat) : Int)) rfl rfl rfl rfl (by simp [Act.put, Act.eval, hs, h9']) FlRun.nil))
        repeat' (first | refine goH ?_ | refine goV ?_ | refine goG ?_ | (refine Ops.k_guard ?_; first | (refine Ops.guard_dec rfl rfl (fun hc => ?_) (fun hc => ?_) <;> try (exfalso; omega)) | refine Ops.guard_split rfl rfl (fun hc => ?_) (fun hc => ?_)) | refine goI ?_ | (refine Cw.k_cond ?_; first | (refine Cw.cond_dec rfl (fun hc => ?_) (fun hc => ?_) <;> try (exfalso; omega)) | refine Cw.cond_bool rfl (fun hc => ?_) (fun hc => ?_)) | refine NoP.norm ?_ | refine goR ?_ | refine goP ?_ | apply PSeq.cons | apply PSeq.yes rfl rfl rfl | exact goW | fail)
        refine ⟨_, _, _, ?_, ⟨f', y :: m, _, f'.length, rfl, ⟨rfl, hm, hins2, hres, by rw [List.length_set]; exact hlen2⟩, rfl, rfl⟩, by simp⟩
        rw [show ((f'.length + 1 : Nat) : Int) - 1 = (f'.length : Int) by omega]
        exact (Ent.mkP goSub goPm)
  · have hin : xs.take i = xs := List.take_of_length_le (by omega)
    rw [hin, List.drop_eq_nil_of_le (by omega), List.append_nil] at hrows
    subst hrows
    repeat' (first | refine goH ?_ | refine goV ?_ | refine goG ?_ | (refine Ops.k_guard ?_; first | (refine Ops.guard_dec rfl rfl (fun hc => ?_) (fun hc => ?_) <;> try (exfalso; omega)) | refine Ops.guard_split rfl rfl (fun hc => ?_) (fun hc => ?_)) | refine goI ?_ | (refine Cw.k_cond ?_; first | (refine Cw.cond_dec rfl (fun hc => ?_) (fun hc => ?_) <;> try (exfalso; omega)) | refine Cw.cond_bool rfl (fun hc => ?_) (fun hc => ?_)) | refine goR ?_ | refine goP ?_ | apply PSeq.cons | apply PSeq.yes rfl rfl rfl | exact goW | fail)
    exact Fin.norm (Ent.mkP goSub goPm) (Outs.zero rfl) ⟨rfl, rfl⟩
theorem pdqV {n : Nat} {d : Int} {xs : List Int} {ad : Option Addr} {cap : Nat} (hl : xs.length ≤ 12) (hn : n = xs.length) :
    Spec Try.prog 57 [Tr.raw (.slice ad n cap), .int 0, .int n, .int d] [Chunk.own ad cap 1 3 (xs.map (fun x => [Tr.int x]))] (fun r cs => r = Tr.tup [] ∧ cs = [Chunk.own ad cap 1 3 ((isort (fun a b => decide (a < b)) xs).map (fun x => [Tr.int x]))]) := by
  have hi := insSortV (ad := ad) (cap := cap) (show xs.length ≤ 1000000 by omega) hn
  refine Spec.body Try.func57 rfl rfl (Try.ntmps57) rfl fun w0 own0 M => ?_
  repeat' (first | refine goH ?_ | refine goV ?_ | refine goG ?_ | (refine Ops.k_guard ?_; first | (refine Ops.guard_dec rfl rfl (fun hc => ?_) (fun hc => ?_) <;> try (exfalso; omega)) | refine Ops.guard_split rfl rfl (fun hc => ?_) (fun hc => ?_)) | refine goI ?_ | (refine Cw.k_cond ?_; first | (refine Cw.cond_dec rfl (fun hc => ?_) (fun hc => ?_) <;> try (exfalso; omega)) | refine Cw.cond_bool rfl (fun hc => ?_) (fun hc => ?_)) | refine goR ?_ | refine goP ?_ | apply PSeq.cons | apply PSeq.yes rfl rfl rfl | exact goW | fail)
  refine Cw.loopI [(0, _)] _ (fun q e c => q = 0 ∧ e = [(1, .int 0), (2, .int n), (3, .int d), (8, .bool true), (9, .bool true)] ∧ c = [Chunk.own ad cap 1 3 (xs.map (fun x => [Tr.int x]))]) ⟨_, _, _, (Ent.mkP goSub goPm), rfl, rfl, rfl⟩ ?_
  rintro _ _ _ ⟨rfl, rfl, rfl⟩
  repeat' (first | refine goH ?_ | refine goV ?_ | refine goG ?_ | (refine Ops.k_guard ?_; first | (refine Ops.guard_dec rfl rfl (fun hc => ?_) (fun hc => ?_) <;> try (exfalso; omega)) | refine Ops.guard_split rfl rfl (fun hc => ?_) (fun hc => ?_)) | refine goI ?_ | (refine Cw.k_cond ?_; first | (refine Cw.cond_dec rfl (fun hc => ?_) (fun hc => ?_) <;> try (exfalso; omega)) | refine Cw.cond_bool rfl (fun hc => ?_) (fun hc => ?_)) | (refine Ops.k_calla ?_; first | (refine Ops.k_callf 68 ?_; (refine Ops.call hi (Evs.cons rfl (Evs.cons rfl (Evs.cons rfl Evs.nil))) goPm rfl ?_; rintro r cs' ⟨rfl, rfl⟩))) | refine goR ?_ | refine goP ?_ | apply PSeq.cons | apply PSeq.yes rfl rfl rfl | exact goW | fail)
  first | exact Fin.norm (Ent.mkP goSub (by simp)) (Outs.zero rfl) ⟨rfl, rfl⟩ | exact Fin.ret (Ent.mkP goSub (by simp)) (Outs.zero rfl) ⟨rfl, rfl⟩
theorem sortV_fn {n : Nat} {xs : List Int} {ad : Option Addr} {cap : Nat} (hl : xs.length ≤ 12) (hn : n = xs.length) :
    Spec Try.prog 48 [Tr.raw (.slice ad n cap)] [Chunk.own ad cap 1 3 (xs.map (fun x => [Tr.int x]))] (fun r cs => r = Tr.tup [] ∧ cs = [Chunk.own ad cap 1 3 ((isort (fun a b => decide (a < b)) xs).map (fun x => [Tr.int x]))]) := by
  have hi := fun d => pdqV (d := d) (ad := ad) (cap := cap) hl hn
  have hb := bitsLen_fn n (by omega)
  unfold PFn at hb
  refine Spec.body Try.func48 rfl rfl (Try.ntmps48) rfl fun w0 own0 M => ?_
  repeat' (first | refine goH ?_ | (refine Ops.k_convert ?_; first | (refine Ops.convN Try.underlying3 Try.underlying82 rfl (wrap_u64 (by omega)) rfl ?_)) | refine goV ?_ | refine goI ?_ | (refine Cw.k_cond ?_; first | (refine Cw.cond_dec rfl (fun hc => ?_) (fun hc => ?_) <;> try (exfalso; omega)) | refine Cw.cond_bool rfl (fun hc => ?_) (fun hc => ?_)) | (refine Ops.k_calla ?_; first | (refine Ops.k_callf 53 ?_; (refine Ops.call hb (Evs.cons rfl Evs.nil) (by rw [List.nil_append]) rfl ?_; rintro r cs' ⟨rfl, v, rfl⟩; rw [List.nil_append])) | (refine Ops.k_callf 57 ?_; (refine Ops.call (hi _) (Evs.cons rfl (Evs.cons rfl (Evs.cons rfl (Evs.cons rfl Evs.nil)))) goPm rfl ?_; rintro r cs' ⟨rfl, rfl⟩))) | fail)
  first | exact Fin.norm (Ent.mkP goSub (by simp)) (Outs.zero rfl) ⟨rfl, rfl⟩ | exact Fin.ret (Ent.mkP goSub (by simp)) (Outs.zero rfl) ⟨rfl, rfl⟩
end Lg
end
