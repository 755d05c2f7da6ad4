/- A part of the proof of a law of this seat: it adds no condition. By an AI agent. -/
import Derived.Test.YtkmelphaecmfmaaGreatDy3
section
set_option linter.all false
set_option maxRecDepth 100000
set_option maxHeartbeats 8000000
namespace Lg
open Go Go.Proofs

theorem less_fn (x y : Int) : PFn Tryz.prog 103 [.int x, .int y] (· = .bool (decide (x < y))) := by
  have k1 := isNaN_fn x
  refine PFn.mk (Spec.body Tryz.func103 rfl rfl (Tryz.ntmps103) rfl fun w0 own0 M => ?_)
  repeat' (first | refine goH ?_ | refine goV ?_ | refine goG ?_ | (refine Ops.k_guard ?_; first | (refine Ops.guard_dec rfl rfl (fun hc => ?_) (fun hc => ?_) <;> try (exfalso; omega)) | refine Ops.guard_split rfl rfl (fun hc => ?_) (fun hc => ?_)) | refine goI ?_ | (refine Cw.k_cond ?_; first | (refine Cw.cond_dec rfl (fun hc => ?_) (fun hc => ?_) <;> try (exfalso; omega)) | refine Cw.cond_bool rfl (fun hc => ?_) (fun hc => ?_)) | (refine Ops.k_calla ?_; first | (refine Ops.k_callf 64 ?_; refine Ops.callV k1 (Evs.cons rfl Evs.nil) rfl ?_)) | fail)
  exact Fin.ret (Ent.take goTk) (Outs.one rfl rfl) ⟨rfl, rfl⟩
theorem insSortV {n : Nat} {xs : List Int} {ad : Option Addr} {cap : Nat} (hl : xs.length ≤ 1000000) (hn : n = xs.length) :
    Spec Tryz.prog 97 [Tr.raw (.slice ad n cap), .int 0, .int n] [Chunk.own ad cap 1 3 (xs.map (fun x => [Tr.int x]))] (fun r cs => r = Tr.tup [] ∧ cs = [Chunk.own ad cap 1 3 ((isort (fun a b => decide (a < b)) xs).map (fun x => [Tr.int x]))]) := by
  obtain ⟨lt, hlt⟩ : ∃ lt : Int → Int → Bool, lt = fun a b => decide (a < b) := ⟨_, rfl⟩
  have hlt2 : ∀ a b, lt a b = decide (a < b) := fun a b => by rw [hlt]
  rw [← hlt]
  clear hlt
  refine Spec.body Tryz.func97 rfl rfl (Tryz.ntmps97) rfl fun w0 own0 M => ?_
  repeat' (first | refine goH ?_ | refine goV ?_ | refine goG ?_ | (refine Ops.k_guard ?_; first | (refine Ops.guard_dec rfl rfl (fun hc => ?_) (fun hc => ?_) <;> try (exfalso; omega)) | refine Ops.guard_split rfl rfl (fun hc => ?_) (fun hc => ?_)) | refine goI ?_ | (refine Cw.k_cond ?_; first | (refine Cw.cond_dec rfl (fun hc => ?_) (fun hc => ?_) <;> try (exfalso; omega)) | refine Cw.cond_bool rfl (fun hc => ?_) (fun hc => ?_)) | refine goR ?_ | refine goP ?_ | apply PSeq.cons | apply PSeq.yes rfl rfl rfl | exact goW | fail)
  refine Cw.loopI [(0, _), (1, _), (2, _)] _ (fun q e c => ∃ (i : Nat) (rows : List (List Tr)), q = n - i ∧ (1 ≤ i ∧ i ≤ max 1 n ∧ rows = (isort lt (xs.take i) ++ xs.drop i).map (fun x => [Tr.int x]) ∧ rows.length = n) ∧ e = [(6, .int i)] ∧ c = [Chunk.own ad cap 1 3 rows])
    ⟨_, _, _, (Ent.mkP goSub goPm), 1, xs.map (fun x => [Tr.int x]), rfl, ⟨by omega, by omega, by rw [isort_take1, List.take_append_drop], by rw [List.length_map, hn]⟩, rfl, rfl⟩ ?_
  rintro _ _ _ ⟨i, rows, rfl, ⟨hi1, hi2, hrows, hrl⟩, rfl, rfl⟩
  by_cases hil : i < n
  · obtain ⟨x, hx⟩ : ∃ x, xs[i]? = some x := at_lt (by omega)
    obtain ⟨S, hS⟩ : ∃ S, S = isort lt (xs.take i) := ⟨_, rfl⟩
    have hSl : S.length = i := by rw [hS, isort_len, List.length_take]; omega
    have hSm : ∀ y ∈ S, y ∈ xs := fun y hy => List.mem_of_mem_take ((isort_perm lt (xs.take i)).mem_iff.1 (by rw [← hS]; exact hy))
    have hxm : x ∈ xs := List.mem_of_getElem? hx
    have hnext : isort lt (xs.take (i + 1)) = insB lt x S := by rw [take_at hx, isort_snoc, ← hS]
    rw [← hS, drop_at hx] at hrows
    repeat' (first | refine goH ?_ | refine goV ?_ | refine goG ?_ | (refine Ops.k_guard ?_; first | (refine Ops.guard_dec rfl rfl (fun hc => ?_) (fun hc => ?_) <;> try (exfalso; omega)) | refine Ops.guard_split rfl rfl (fun hc => ?_) (fun hc => ?_)) | refine goI ?_ | (refine Cw.k_cond ?_; first | (refine Cw.cond_dec rfl (fun hc => ?_) (fun hc => ?_) <;> try (exfalso; omega)) | refine Cw.cond_bool rfl (fun hc => ?_) (fun hc => ?_)) | refine goR ?_ | refine goP ?_ | apply PSeq.cons | apply PSeq.yes rfl rfl rfl | exact goW | fail)
    refine Cw.loopI [(0, _), (1, _), (2, _), (6, _)] _ (fun q e c => ∃ (f m : List Int) (rows : List (List Tr)) (j : Nat), q = f.length ∧ (f.length = j ∧ S = f ++ m ∧ insB lt x S = insB lt x f ++ m ∧ rows = (f ++ x :: (m ++ xs.drop (i + 1))).map (fun x => [Tr.int x]) ∧ rows.length = n) ∧ e = [(7, .int j)] ∧ c = [Chunk.own ad cap 1 3 rows])
      ⟨_, _, _, (Ent.mkP goSub goPm), S, [], rows, i, rfl, ⟨hSl, by simp, by simp, by rw [hrows]; simp, hrl⟩, rfl, rfl⟩ ?_
    clear hrows hrl
    rintro _ _ _ ⟨f, m, rows, j, rfl, ⟨hj, hfm, hins, hrows, hrl⟩, rfl, rfl⟩
    have hfl : j ≤ i := by rw [← hSl, hfm, List.length_append]; omega
    have hx0 : rows[((j : Nat) : Int).toNat]? = some [Tr.int x] := by rw [hrows]; exact rows_at (by simp [← hj])
    have fin : ∀ rows' : List (List Tr), rows' = (f ++ x :: (m ++ xs.drop (i + 1))).map (fun x => [Tr.int x]) → insB lt x f = f ++ [x] → rows' = (isort lt (xs.take (i + 1)) ++ xs.drop (i + 1)).map (fun x => [Tr.int x]) := by
      intro rows' h1 h2
      rw [h1, hnext, hins, h2]
      simp
    rcases List.eq_nil_or_concat f with rfl | ⟨f', y, rfl⟩
    · rw [List.length_nil] at hj
      subst hj
      have h0 := fin rows hrows (insB_nil lt x)
      repeat' (first | refine goH ?_ | refine goV ?_ | refine goG ?_ | (refine Ops.k_guard ?_; first | (refine Ops.guard_dec rfl rfl (fun hc => ?_) (fun hc => ?_) <;> try (exfalso; omega)) | refine Ops.guard_split rfl rfl (fun hc => ?_) (fun hc => ?_)) | refine goI ?_ | (refine Cw.k_cond ?_; first | (refine Cw.cond_dec rfl (fun hc => ?_) (fun hc => ?_) <;> try (exfalso; omega)) | refine Cw.cond_bool rfl (fun hc => ?_) (fun hc => ?_)) | refine goR ?_ | refine goP ?_ | apply PSeq.cons | apply PSeq.yes rfl rfl rfl | exact goW | fail)
      exact ⟨_, _, _, (Ent.mkP goSub goPm), ⟨i + 1, rows, rfl, ⟨by omega, by omega, h0, hrl⟩, rfl, rfl⟩, by omega⟩
    · rw [List.concat_eq_append] at *
      have hym : y ∈ xs := hSm y (by rw [hfm]; simp)
      have kL := less_fn x y
      have hjl : (f' ++ [y]).length = f'.length + 1 := by simp
      rw [hjl] at hj
      subst hj
      have hy0 : rows[(((f'.length + 1 : Nat) : Int) - 1).toNat]? = some [Tr.int y] := by
        rw [hrows, show (((f'.length + 1 : Nat) : Int) - 1).toNat = f'.length by omega]
        exact rows_at (by simp)
      cases hc0 : lt x y
      · have hcf : ¬ x < y := by rw [hlt2] at hc0; simpa using hc0
        rw [decide_eq_false hcf] at kL
        have h0 := fin rows hrows (insB_ge lt hc0)
        repeat' (first | refine goH ?_ | refine goV ?_ | refine goG ?_ | (refine Ops.k_guard ?_; first | (refine Ops.guard_dec rfl rfl (fun hc => ?_) (fun hc => ?_) <;> try (exfalso; omega)) | refine Ops.guard_split rfl rfl (fun hc => ?_) (fun hc => ?_)) | refine goI ?_ | (refine Cw.k_cond ?_; first | (refine Cw.cond_dec rfl (fun hc => ?_) (fun hc => ?_) <;> try (exfalso; omega)) | refine Cw.cond_bool rfl (fun hc => ?_) (fun hc => ?_)) | (refine Ops.k_calla ?_; first | (refine Ops.k_callf 103 ?_; refine Ops.callV kL (Evs.cons rfl (Evs.cons rfl Evs.nil)) rfl ?_)) | (apply OpW.k_call; first | (apply OpW.k_callf 103; exact OpW.callV kL (Evs.cons rfl (Evs.cons rfl Evs.nil)))) | refine goR ?_ | refine goP ?_ | apply PSeq.cons | apply PSeq.yes rfl rfl rfl | exact goW | fail)
        exact ⟨_, _, _, (Ent.mkP goSub goPm), ⟨i + 1, rows, rfl, ⟨by omega, by omega, h0, hrl⟩, rfl, rfl⟩, by omega⟩
      · have hcf : x < y := by rw [hlt2] at hc0; simpa using hc0
        rw [decide_eq_true hcf] at kL
        have hset : (rows.set ((f'.length + 1 : Nat) : Int).toNat [Tr.int y])[(((f'.length + 1 : Nat) : Int) - 1).toNat]? = some [Tr.int y] := by
          rw [List.getElem?_set_ne (by omega)]
          exact hy0
        have hlen2 : (rows.set ((f'.length + 1 : Nat) : Int).toNat [Tr.int y]).length = n := by rw [List.length_set]; exact hrl
        have hres : (rows.set ((f'.length + 1 : Nat) : Int).toNat [Tr.int y]).set (((f'.length + 1 : Nat) : Int) - 1).toNat [Tr.int x] = (f' ++ x :: (y :: m ++ xs.drop (i + 1))).map (fun x => [Tr.int x]) := by
          rw [hrows, show (((f'.length + 1 : Nat) : Int) - 1).toNat = f'.length by omega, show ((f'.length + 1 : Nat) : Int).toNat = f'.length + 1 by omega]
          simp [List.set_append]
          all_goals (try exact ⟨rfl, rfl⟩)
        have hm : S = f' ++ (y :: m) := by rw [hfm]; simp
        have hins2 : insB lt x S = insB lt x f' ++ (y :: m) := by rw [hins, insB_lt lt hc0]; simp
        clear fin hnext hS hSl hSm hfm hins hrows
        repeat' (first | refine goH ?_ | refine goV ?_ | refine goG ?_ | (refine Ops.k_guard ?_; first | (refine Ops.guard_dec rfl rfl (fun hc => ?_) (fun hc => ?_) <;> try (exfalso; omega)) | refine Ops.guard_split rfl rfl (fun hc => ?_) (fun hc => ?_)) | refine goI ?_ | (refine Cw.k_cond ?_; first | (refine Cw.cond_dec rfl (fun hc => ?_) (fun hc => ?_) <;> try (exfalso; omega)) | refine Cw.cond_bool rfl (fun hc => ?_) (fun hc => ?_)) | (refine Ops.k_calla ?_; first | (refine Ops.k_callf 103 ?_; refine Ops.callV kL (Evs.cons rfl (Evs.cons rfl Evs.nil)) rfl ?_)) | (apply OpW.k_call; first | (apply OpW.k_callf 103; exact OpW.callV kL (Evs.cons rfl (Evs.cons rfl Evs.nil)))) | refine goR ?_ | refine goP ?_ | apply PSeq.cons | apply PSeq.yes rfl rfl rfl | exact goW | fail)
        refine Cw.region_seqF (m := 15) [2, 3, 4] rfl (by decide +kernel) rfl (fun a w d => ?_) ?_
        · have h9 := rd_raw (d.env 7 _ rfl)
          have hs : a.tmps.size = 49 := d.tmps
          have h9' : a.tmps[7]'(by omega) = .int .i64 ((f'.length + 1 : Nat) : Int) := by simpa [hs] using h9
          exact FlRun.move rfl rfl rfl rfl (FlRun.move rfl rfl rfl rfl (FlRun.sub1 (p := ((f'.length + 1 : Nat) : Int)) rfl rfl rfl rfl (by simp [Act.put, Act.eval, hs, h9']) FlRun.nil))
        repeat' (first | refine goH ?_ | refine goV ?_ | refine goG ?_ | (refine Ops.k_guard ?_; first | (refine Ops.guard_dec rfl rfl (fun hc => ?_) (fun hc => ?_) <;> try (exfalso; omega)) | refine Ops.guard_split rfl rfl (fun hc => ?_) (fun hc => ?_)) | refine goI ?_ | (refine Cw.k_cond ?_; first | (refine Cw.cond_dec rfl (fun hc => ?_) (fun hc => ?_) <;> try (exfalso; omega)) | refine Cw.cond_bool rfl (fun hc => ?_) (fun hc => ?_)) | refine NoP.norm ?_ | refine goR ?_ | refine goP ?_ | apply PSeq.cons | apply PSeq.yes rfl rfl rfl | exact goW | fail)
        refine ⟨_, _, _, ?_, ⟨f', y :: m, _, f'.length, rfl, ⟨rfl, hm, hins2, hres, by rw [List.length_set]; exact hlen2⟩, rfl, rfl⟩, by simp⟩
        rw [show ((f'.length + 1 : Nat) : Int) - 1 = (f'.length : Int) by omega]
        exact (Ent.mkP goSub goPm)
  · have hin : xs.take i = xs := List.take_of_length_le (by omega)
    rw [hin, List.drop_eq_nil_of_le (by omega), List.append_nil] at hrows
    subst hrows
    repeat' (first | refine goH ?_ | refine goV ?_ | refine goG ?_ | (refine Ops.k_guard ?_; first | (refine Ops.guard_dec rfl rfl (fun hc => ?_) (fun hc => ?_) <;> try (exfalso; omega)) | refine Ops.guard_split rfl rfl (fun hc => ?_) (fun hc => ?_)) | refine goI ?_ | (refine Cw.k_cond ?_; first | (refine Cw.cond_dec rfl (fun hc => ?_) (fun hc => ?_) <;> try (exfalso; omega)) | refine Cw.cond_bool rfl (fun hc => ?_) (fun hc => ?_)) | refine goR ?_ | refine goP ?_ | apply PSeq.cons | apply PSeq.yes rfl rfl rfl | exact goW | fail)
    exact Fin.norm (Ent.mkP goSub goPm) (Outs.zero rfl) ⟨rfl, rfl⟩
theorem pdqV {n : Nat} {d : Int} {xs : List Int} {ad : Option Addr} {cap : Nat} (hl : xs.length ≤ 12) (hn : n = xs.length) :
    Spec Tryz.prog 71 [Tr.raw (.slice ad n cap), .int 0, .int n, .int d] [Chunk.own ad cap 1 3 (xs.map (fun x => [Tr.int x]))] (fun r cs => r = Tr.tup [] ∧ cs = [Chunk.own ad cap 1 3 ((isort (fun a b => decide (a < b)) xs).map (fun x => [Tr.int x]))]) := by
  have hi := insSortV (ad := ad) (cap := cap) (show xs.length ≤ 1000000 by omega) hn
  refine Spec.body Tryz.func71 rfl rfl (Tryz.ntmps71) rfl fun w0 own0 M => ?_
  repeat' (first | refine goH ?_ | refine goV ?_ | refine goG ?_ | (refine Ops.k_guard ?_; first | (refine Ops.guard_dec rfl rfl (fun hc => ?_) (fun hc => ?_) <;> try (exfalso; omega)) | refine Ops.guard_split rfl rfl (fun hc => ?_) (fun hc => ?_)) | refine goI ?_ | (refine Cw.k_cond ?_; first | (refine Cw.cond_dec rfl (fun hc => ?_) (fun hc => ?_) <;> try (exfalso; omega)) | refine Cw.cond_bool rfl (fun hc => ?_) (fun hc => ?_)) | refine goR ?_ | refine goP ?_ | apply PSeq.cons | apply PSeq.yes rfl rfl rfl | exact goW | fail)
  refine Cw.loopI [(0, _)] _ (fun q e c => q = 0 ∧ e = [(1, .int 0), (2, .int n), (3, .int d), (8, .bool true), (9, .bool true)] ∧ c = [Chunk.own ad cap 1 3 (xs.map (fun x => [Tr.int x]))]) ⟨_, _, _, (Ent.mkP goSub goPm), rfl, rfl, rfl⟩ ?_
  rintro _ _ _ ⟨rfl, rfl, rfl⟩
  repeat' (first | refine goH ?_ | refine goV ?_ | refine goG ?_ | (refine Ops.k_guard ?_; first | (refine Ops.guard_dec rfl rfl (fun hc => ?_) (fun hc => ?_) <;> try (exfalso; omega)) | refine Ops.guard_split rfl rfl (fun hc => ?_) (fun hc => ?_)) | refine goI ?_ | (refine Cw.k_cond ?_; first | (refine Cw.cond_dec rfl (fun hc => ?_) (fun hc => ?_) <;> try (exfalso; omega)) | refine Cw.cond_bool rfl (fun hc => ?_) (fun hc => ?_)) | (refine Ops.k_calla ?_; first | (refine Ops.k_callf 97 ?_; (refine Ops.call hi (Evs.cons rfl (Evs.cons rfl (Evs.cons rfl Evs.nil))) goPm rfl ?_; rintro r cs' ⟨rfl, rfl⟩))) | refine goR ?_ | refine goP ?_ | apply PSeq.cons | apply PSeq.yes rfl rfl rfl | exact goW | fail)
  first | exact Fin.norm (Ent.mkP goSub (by simp)) (Outs.zero rfl) ⟨rfl, rfl⟩ | exact Fin.ret (Ent.mkP goSub (by simp)) (Outs.zero rfl) ⟨rfl, rfl⟩
theorem sortV_fn {n : Nat} {xs : List Int} {ad : Option Addr} {cap : Nat} (hl : xs.length ≤ 12) (hn : n = xs.length) :
    Spec Tryz.prog 52 [Tr.raw (.slice ad n cap)] [Chunk.own ad cap 1 3 (xs.map (fun x => [Tr.int x]))] (fun r cs => r = Tr.tup [] ∧ cs = [Chunk.own ad cap 1 3 ((isort (fun a b => decide (a < b)) xs).map (fun x => [Tr.int x]))]) := by
  have hi := fun d => pdqV (d := d) (ad := ad) (cap := cap) hl hn
  have hb := bitsLen_fn n (by omega)
  unfold PFn at hb
  refine Spec.body Tryz.func52 rfl rfl (Tryz.ntmps52) rfl fun w0 own0 M => ?_
  repeat' (first | refine goH ?_ | (refine Ops.k_convert ?_; first | (refine Ops.convN Tryz.underlying3 Tryz.underlying103 rfl (wrap_u64 (by omega)) rfl ?_)) | refine goV ?_ | refine goI ?_ | (refine Cw.k_cond ?_; first | (refine Cw.cond_dec rfl (fun hc => ?_) (fun hc => ?_) <;> try (exfalso; omega)) | refine Cw.cond_bool rfl (fun hc => ?_) (fun hc => ?_)) | (refine Ops.k_calla ?_; first | (refine Ops.k_callf 67 ?_; (refine Ops.call hb (Evs.cons rfl Evs.nil) (by rw [List.nil_append]) rfl ?_; rintro r cs' ⟨rfl, v, rfl⟩; rw [List.nil_append])) | (refine Ops.k_callf 71 ?_; (refine Ops.call (hi _) (Evs.cons rfl (Evs.cons rfl (Evs.cons rfl (Evs.cons rfl Evs.nil)))) goPm rfl ?_; rintro r cs' ⟨rfl, rfl⟩))) | fail)
  first | exact Fin.norm (Ent.mkP goSub (by simp)) (Outs.zero rfl) ⟨rfl, rfl⟩ | exact Fin.ret (Ent.mkP goSub (by simp)) (Outs.zero rfl) ⟨rfl, rfl⟩
end Lg
end
section
set_option linter.all false
set_option maxRecDepth 100000
set_option maxHeartbeats 8000000
namespace Lg
open Go Go.Proofs

/-! ### gaps -/
def badM (r : Rdg) : Bool := !decide (0 ≤ r.t ∧ r.t < 5761440)
def gapE (l : List Rdg) (lg : Int) : Int := if l.length > 2000 then 2 else if l.any badM = true ∨ (lg < 0 ∨ 5761440 < lg) then 1 else 0
abbrev srI (l : List Int) : List Int := isort (fun a b => decide (a < b)) l
/-- the windows among the first k of S -/
def gpK (lg : Int) (S : List Int) : Nat → List (Int × Int)
  | 0 => []
  | k + 1 => gpK lg S k ++ (if lg < ix S (k + 1) - ix S k then [(ix S k, ix S (k + 1))] else [])
theorem gpK_len (lg : Int) (S : List Int) : ∀ k, (gpK lg S k).length ≤ k
  | 0 => by simp [gpK]
  | k + 1 => by
    have := gpK_len lg S k
    unfold gpK
    rw [List.length_append]
    split <;> simp <;> omega
abbrev gapV (l : List Rdg) (lg : Int) : List (Int × Int) := gpK lg (srI (l.map Rdg.t)) (l.length - 1)
theorem gapC_fn (r : Rdg) : PFn Tryz.prog 54 [.rdg r] (· = .bool (badM r)) := by
  have k := momentR_fn r.t
  unfold badM
  generalize decide (0 ≤ r.t ∧ r.t < 5761440) = b at *
  refine PFn.mk (Spec.body Tryz.func54 rfl rfl (Tryz.ntmps54) rfl fun w0 own0 M => ?_)
  repeat' (first | refine goH ?_ | refine goV ?_ | refine goB (fun b => ?_) | refine goI ?_ | (refine Cw.k_cond ?_; first | (refine Cw.cond_dec rfl (fun hc => ?_) (fun hc => ?_) <;> try (exfalso; omega)) | refine Cw.cond_bool rfl (fun hc => ?_) (fun hc => ?_)) | (refine Ops.k_calla ?_; first | (refine Ops.k_callf 55 ?_; refine Ops.callV k (Evs.cons rfl Evs.nil) rfl ?_)) | fail)
  exact Fin.ret (Ent.take goTk) (Outs.one rfl rfl) ⟨rfl, rfl⟩
theorem gapsFault_fn (l : List Rdg) (hl : l.length ≤ 1000) (lg : Int) : PFn Tryz.prog 17 [.sl 2 (l.map Rdg.row), .int lg] (· = .int (gapE l lg)) := by
  have k3 : Spec Tryz.prog 53 [.sl 2 (l.map Rdg.row), Tr.raw (.func (.func 54) #[] #[])] [] (fun x cs => x = .bool (l.any badM) ∧ cs = []) := containsFunc_rdg (p := badM) (caps := []) (cin := []) (l := l) (by omega) (fun x _ => (gapC_fn x).lend)
  have hL : (l.map Rdg.row).length = l.length := List.length_map _
  unfold gapE
  rw [if_neg (by omega)]
  refine PFn.mk (Spec.body Tryz.func17 rfl rfl (Tryz.ntmps17) rfl fun w0 own0 M => ?_)
  generalize l.any badM = b at *
  repeat' (first | refine goH ?_ | refine goV ?_ | refine goG ?_ | (refine Ops.k_guard ?_; first | (refine Ops.guard_dec rfl rfl (fun hc => ?_) (fun hc => ?_) <;> try (exfalso; omega)) | refine Ops.guard_split rfl rfl (fun hc => ?_) (fun hc => ?_)) | refine goI ?_ | (refine Cw.k_cond ?_; first | (refine Cw.cond_dec rfl (fun hc => ?_) (fun hc => ?_) <;> try (exfalso; omega)) | refine Cw.cond_bool rfl (fun hc => ?_) (fun hc => ?_)) | (refine Ops.k_calla ?_; first | (refine Ops.k_callf 53 ?_; refine Ops.callS k3 (Evs.cons rfl (Evs.cons rfl Evs.nil)) (List.Perm.refl _) rfl ?_)) | fail)
  all_goals (refine Fin.ret (Ent.take goTk) (Outs.one rfl rfl) ⟨rfl, ?_⟩; first | (rw [if_pos (.inl (by assumption))]; done) | (rw [if_pos (.inr (by omega))]; done) | (rw [if_neg (fun h => h.elim (fun h => by simp_all) (fun h => by omega))]; done))
theorem srI_len (l : List Int) : (srI l).length = l.length := isort_len _ l
theorem srI_bd {l : List Rdg} (h : ∀ r ∈ l, 0 ≤ r.t ∧ r.t < 5761440) {i : Nat} (hi : i < l.length) : 0 ≤ ix (srI (l.map Rdg.t)) i ∧ ix (srI (l.map Rdg.t)) i < 5761440 := by
  have h1 : ix (srI (l.map Rdg.t)) i ∈ srI (l.map Rdg.t) := List.mem_of_getElem? (ix_lt (by rw [srI_len, List.length_map]; exact hi))
  obtain ⟨r, hr, e⟩ := List.mem_map.1 ((isort_perm _ _).mem_iff.1 h1)
  rw [← e]
  exact h r hr
theorem gapsR_fn (l : List Rdg) (hl : l.length ≤ 12) (lg : Int) (hg : gapE l lg = 0) : PFn Tryz.prog 19 [.sl 2 (l.map Rdg.row), .int lg] (· = .sl 2 ((gapV l lg).map prD)) := by
  have hL : (l.map Rdg.row).length = l.length := List.length_map _
  unfold gapE at hg
  rw [if_neg (by omega)] at hg
  have hb : ¬ (l.any badM = true ∨ (lg < 0 ∨ 5761440 < lg)) := fun h => by rw [if_pos h] at hg; cases hg
  have hb1 : ∀ r ∈ l, 0 ≤ r.t ∧ r.t < 5761440 := fun r hr => by
    have h1 : badM r = false := by
      cases h : badM r
      · rfl
      · exact absurd (.inl (List.any_eq_true.2 ⟨r, hr, h⟩)) hb
    unfold badM at h1
    simpa using h1
  have hlg : ¬ (lg < 0 ∨ 5761440 < lg) := fun h => hb (.inr h)
  have kO := out_fn lg 0 5761440
  rw [show outB lg 0 5761440 = false by simp [outB]; omega] at kO
  clear hg hb
  refine PFn.mk (Spec.body Tryz.func19 rfl rfl (Tryz.ntmps19) rfl fun w0 own0 M => ?_)
  repeat' (first | refine goH ?_ | refine goV ?_ | refine goB (fun b => ?_) | refine goC (fun ad cap => ?_) | refine goI ?_ | (refine Cw.k_cond ?_; first | (refine Cw.cond_dec rfl (fun hc => ?_) (fun hc => ?_) <;> try (exfalso; omega)) | refine Cw.cond_bool rfl (fun hc => ?_) (fun hc => ?_)) | refine goR ?_ | refine goP ?_ | apply PSeq.cons | apply PSeq.yes rfl rfl rfl | exact goW | fail)
  refine Cw.loopI [(1, _), (10, _), (11, _)] _ (fun q e cc => ∃ (k : Nat) (ad : Option Addr) (cap n : Nat) (rows : List (List Tr)), q = l.length - k ∧ (k ≤ l.length ∧ rows = intRows ((l.take k).map Rdg.t) ∧ n = k) ∧ e = [(5, Tr.raw (.slice ad n cap)), (12, .int k)] ∧ cc = [Chunk.own ad cap 1 3 rows])
    ⟨_, _, _, Ent.trans (Ent.nil 1 3) (Ent.mkP goSub goPm), 0, none, 0, 0, [], rfl, ⟨by omega, rfl, rfl⟩, rfl, rfl⟩ ?_
  rintro _ _ _ ⟨k, ad, cap, n, rows, rfl, ⟨hk, hrows, hn⟩, rfl, rfl⟩
  have hrl : rows.length = n := by rw [hrows, intRows_len, List.length_map, List.length_take, hn]; omega
  by_cases hkl : k < l.length
  · obtain ⟨x, hx⟩ := at_lt hkl
    have hrow : (l.map Rdg.row)[k]? = some [.int x.t, .ints x.vs] := rows_at hx
    have hxb := hb1 x (List.mem_of_getElem? hx)
    have kM := momentD_fn x.t
    rw [decide_eq_true hxb] at kM
    have hr2 : rows ++ [[Tr.int x.t]] = intRows ((l.take (k + 1)).map Rdg.t) := by rw [take_at hx, List.map_append, intRows_app, hrows]; rfl
    have hl2 : (rows ++ [[Tr.int x.t]]).length = k + 1 := by rw [List.length_append, hrl, hn]; rfl
    clear hx hb1 hrows
    repeat' (first | refine goH ?_ | refine goV ?_ | refine goB (fun b => ?_) | refine goC (fun ad cap => ?_) | refine goI ?_ | (refine Cw.k_cond ?_; first | (refine Cw.cond_dec rfl (fun hc => ?_) (fun hc => ?_) <;> try (exfalso; omega)) | refine Cw.cond_bool rfl (fun hc => ?_) (fun hc => ?_)) | (refine Ops.k_calla ?_; first | (refine Ops.k_callf 51 ?_; refine Ops.callV kM (Evs.cons rfl Evs.nil) rfl ?_)) | (apply OpW.k_call; first | (apply OpW.k_callf 51; exact OpW.callV kM (Evs.cons rfl Evs.nil))) | refine goR ?_ | refine goP ?_ | apply PSeq.cons | apply PSeq.yes rfl rfl rfl | exact goW | fail)
    exact ⟨_, _, _, (Ent.mk goSub goTk), ⟨k + 1, _, _, _, _, rfl, ⟨by omega, hr2, hl2⟩, rfl, rfl⟩, by omega⟩
  have hke : k = l.length := by omega
  rw [hke, List.take_length] at hrows
  have hnl : n = (l.map Rdg.t).length := by rw [List.length_map, hn, hke]
  have kS := fun ad cap => sortV_fn (ad := ad) (cap := cap) (n := n) (xs := l.map Rdg.t) (by rw [List.length_map]; omega) hnl
  have hsl : (srI (l.map Rdg.t)).length = l.length := by rw [srI_len, List.length_map]
  have hix := fun i (hi : i < l.length) => srI_bd hb1 hi
  unfold gapV
  generalize hS : srI (l.map Rdg.t) = S at *
  have hS2 : isort (fun a b => decide (a < b)) (l.map Rdg.t) = S := hS
  rw [hS2] at kS
  rw [show rows = (l.map Rdg.t).map (fun x => [Tr.int x]) from hrows] at *
  clear hrows hrl
  repeat' (first | refine goH ?_ | refine goV ?_ | refine goB (fun b => ?_) | refine goC (fun ad cap => ?_) | refine goI ?_ | (refine Cw.k_cond ?_; first | (refine Cw.cond_dec rfl (fun hc => ?_) (fun hc => ?_) <;> try (exfalso; omega)) | refine Cw.cond_bool rfl (fun hc => ?_) (fun hc => ?_)) | (refine Ops.k_calla ?_; first | (refine Ops.k_callf 28 ?_; refine Ops.callV kO (Evs.cons rfl (Evs.cons rfl (Evs.cons rfl Evs.nil))) rfl ?_) | (refine Ops.k_callf 52 ?_; (refine Ops.call (kS _ _) (Evs.cons rfl Evs.nil) goPm rfl ?_; rintro r cs' ⟨rfl, rfl⟩))) | (apply OpW.k_call; first | (apply OpW.k_callf 28; exact OpW.callV kO (Evs.cons rfl (Evs.cons rfl (Evs.cons rfl Evs.nil))))) | refine goR ?_ | refine goP ?_ | apply PSeq.cons | apply PSeq.yes rfl rfl rfl | exact goW | fail)
  rw [show S.map (fun x => [Tr.int x]) = intRows S from rfl]
  have hsr := intRows_len S
  refine Cw.ent (Ent.settle (s := 5) rfl goPk (by rw [hsr, hsl, hn, hke])) ?_
  refine Cw.loopI [(1, _), (5, _)] _ (fun q e cc => ∃ (i : Nat) (ad : Option Addr) (cap n : Nat) (rows : List (List Tr)), q = l.length - i ∧ (1 ≤ i ∧ (i ≤ l.length ∨ i = 1) ∧ rows = (gpK lg S (i - 1)).map prD ∧ n = rows.length) ∧ e = [(8, Tr.raw (.slice ad n cap)), (9, .int i)] ∧ cc = [Chunk.own ad cap 2 54 rows])
    ⟨_, _, _, Ent.trans (Ent.nil 2 54) (Ent.mkP goSub goPm), 1, none, 0, 0, [], rfl, ⟨by omega, .inr rfl, rfl, rfl⟩, rfl, rfl⟩ ?_
  clear kS hb1 kO
  rintro _ _ _ ⟨i, ad, cap, n, rows, rfl, ⟨hi, hil, hrows, hn2⟩, rfl, rfl⟩
  by_cases hik : i < l.length
  · have r1 : (intRows S)[((i : Nat) : Int).toNat]? = some [Tr.int (ix S i)] := by rw [Int.toNat_natCast]; exact ixR (by omega)
    have r2 : (intRows S)[((i : Int) - 1).toNat]? = some [Tr.int (ix S (i - 1))] := by rw [show ((i : Int) - 1).toNat = i - 1 by omega]; exact ixR (by omega)
    have b1 := hix i hik
    have b2 := hix (i - 1) (by omega)
    have hgl := gpK_len lg S (i - 1)
    have hrn : rows.length ≤ 12 := by rw [hrows, List.length_map]; omega
    have hst : gpK lg S (i + 1 - 1) = gpK lg S (i - 1) ++ (if lg < ix S i - ix S (i - 1) then [(ix S (i - 1), ix S i)] else []) := by
      obtain ⟨j, rfl⟩ : ∃ j, i = j + 1 := ⟨i - 1, by omega⟩
      rfl
    by_cases hc : lg < ix S i - ix S (i - 1)
    · rw [if_pos hc] at hst
      have hr2 : rows ++ [[Tr.int (ix S (i - 1)), Tr.int (ix S i)]] = (gpK lg S (i + 1 - 1)).map prD := by rw [hst, List.map_append, hrows]; rfl
      generalize ix S (i - 1) = y at *
      generalize ix S i = x at *
      clear hst hix hrows
      repeat' (first | refine goH ?_ | refine goV ?_ | refine goB (fun b => ?_) | refine goC (fun ad cap => ?_) | refine goI ?_ | (refine Cw.k_cond ?_; first | (refine Cw.cond_dec rfl (fun hc => ?_) (fun hc => ?_) <;> try (exfalso; omega)) | refine Cw.cond_bool rfl (fun hc => ?_) (fun hc => ?_)) | refine goR ?_ | refine goP ?_ | apply PSeq.cons | apply PSeq.yes rfl rfl rfl | exact goW | fail)
      exact ⟨_, _, _, (Ent.mk goSub goTk), ⟨i + 1, _, _, _, _, rfl, ⟨by omega, .inl hik, hr2, rfl⟩, rfl, rfl⟩, by omega⟩
    · rw [if_neg hc, List.append_nil] at hst
      rw [← hst] at hrows
      generalize ix S (i - 1) = y at *
      generalize ix S i = x at *
      clear hst hix
      repeat' (first | refine goH ?_ | refine goV ?_ | refine goB (fun b => ?_) | refine goC (fun ad cap => ?_) | refine goI ?_ | (refine Cw.k_cond ?_; first | (refine Cw.cond_dec rfl (fun hc => ?_) (fun hc => ?_) <;> try (exfalso; omega)) | refine Cw.cond_bool rfl (fun hc => ?_) (fun hc => ?_)) | refine goR ?_ | refine goP ?_ | apply PSeq.cons | apply PSeq.yes rfl rfl rfl | exact goW | fail)
      exact ⟨_, _, _, (Ent.mk goSub goTk), ⟨i + 1, _, _, _, _, rfl, ⟨by omega, .inl hik, hrows, hn2⟩, rfl, rfl⟩, by omega⟩
  · rw [show i - 1 = l.length - 1 by omega] at hrows
    subst hn2
    subst hrows
    repeat' (first | refine goH ?_ | refine goV ?_ | refine goB (fun b => ?_) | refine goC (fun ad cap => ?_) | refine goI ?_ | (refine Cw.k_cond ?_; first | (refine Cw.cond_dec rfl (fun hc => ?_) (fun hc => ?_) <;> try (exfalso; omega)) | refine Cw.cond_bool rfl (fun hc => ?_) (fun hc => ?_)) | refine goR ?_ | refine goP ?_ | apply PSeq.cons | apply PSeq.yes rfl rfl rfl | exact goW | fail)
    refine Fin.ret (Ent.trans (Ent.settle (s := 4) rfl goPk rfl) (Ent.take goTk)) (Outs.sole rfl goOe) ⟨rfl, rfl⟩
theorem gapsD_fn (l : List Rdg) (hl : l.length ≤ 12) (lg : Int) (hg : gapE l lg = 0) : PFn Tryz.prog 16 [.sl 2 (l.map Rdg.row), .int lg] (· = .tup [.sl 2 ((gapV l lg).map prD), .int 0]) := by
  have hL : (l.map Rdg.row).length = l.length := List.length_map _
  unfold gapE at hg
  rw [if_neg (by omega)] at hg
  have hb : ¬ (l.any badM = true ∨ (lg < 0 ∨ 5761440 < lg)) := fun h => by rw [if_pos h] at hg; cases hg
  have hb1 : ∀ r ∈ l, 0 ≤ r.t ∧ r.t < 5761440 := fun r hr => by
    have h1 : badM r = false := by
      cases h : badM r
      · rfl
      · exact absurd (.inl (List.any_eq_true.2 ⟨r, hr, h⟩)) hb
    unfold badM at h1
    simpa using h1
  have hlg : ¬ (lg < 0 ∨ 5761440 < lg) := fun h => hb (.inr h)
  have kO := out_fn lg 0 5761440
  rw [show outB lg 0 5761440 = false by simp [outB]; omega] at kO
  clear hg hb
  refine PFn.mk (Spec.body Tryz.func16 rfl rfl (Tryz.ntmps16) rfl fun w0 own0 M => ?_)
  repeat' (first | refine goH ?_ | refine goV ?_ | refine goB (fun b => ?_) | refine goC (fun ad cap => ?_) | refine goI ?_ | (refine Cw.k_cond ?_; first | (refine Cw.cond_dec rfl (fun hc => ?_) (fun hc => ?_) <;> try (exfalso; omega)) | refine Cw.cond_bool rfl (fun hc => ?_) (fun hc => ?_)) | refine goR ?_ | refine goP ?_ | apply PSeq.cons | apply PSeq.yes rfl rfl rfl | exact goW | fail)
  refine Cw.loopI [(1, _), (14, _), (15, _)] _ (fun q e cc => ∃ (k : Nat) (ad : Option Addr) (cap n : Nat) (rows : List (List Tr)), q = l.length - k ∧ (k ≤ l.length ∧ rows = intRows ((l.take k).map Rdg.t) ∧ n = k) ∧ e = [(6, Tr.raw (.slice ad n cap)), (16, .int k)] ∧ cc = [Chunk.own ad cap 1 3 rows])
    ⟨_, _, _, Ent.trans (Ent.nil 1 3) (Ent.mkP goSub goPm), 0, none, 0, 0, [], rfl, ⟨by omega, rfl, rfl⟩, rfl, rfl⟩ ?_
  rintro _ _ _ ⟨k, ad, cap, n, rows, rfl, ⟨hk, hrows, hn⟩, rfl, rfl⟩
  have hrl : rows.length = n := by rw [hrows, intRows_len, List.length_map, List.length_take, hn]; omega
  by_cases hkl : k < l.length
  · obtain ⟨x, hx⟩ := at_lt hkl
    have hrow : (l.map Rdg.row)[k]? = some [.int x.t, .ints x.vs] := rows_at hx
    have hxb := hb1 x (List.mem_of_getElem? hx)
    have kM := momentD_fn x.t
    rw [decide_eq_true hxb] at kM
    have hr2 : rows ++ [[Tr.int x.t]] = intRows ((l.take (k + 1)).map Rdg.t) := by rw [take_at hx, List.map_append, intRows_app, hrows]; rfl
    have hl2 : (rows ++ [[Tr.int x.t]]).length = k + 1 := by rw [List.length_append, hrl, hn]; rfl
    clear hx hb1 hrows
    repeat' (first | refine goH ?_ | refine goV ?_ | refine goB (fun b => ?_) | refine goC (fun ad cap => ?_) | refine goI ?_ | (refine Cw.k_cond ?_; first | (refine Cw.cond_dec rfl (fun hc => ?_) (fun hc => ?_) <;> try (exfalso; omega)) | refine Cw.cond_bool rfl (fun hc => ?_) (fun hc => ?_)) | (refine Ops.k_calla ?_; first | (refine Ops.k_callf 51 ?_; refine Ops.callV kM (Evs.cons rfl Evs.nil) rfl ?_)) | (apply OpW.k_call; first | (apply OpW.k_callf 51; exact OpW.callV kM (Evs.cons rfl Evs.nil))) | refine goR ?_ | refine goP ?_ | apply PSeq.cons | apply PSeq.yes rfl rfl rfl | exact goW | fail)
    exact ⟨_, _, _, (Ent.mk goSub goTk), ⟨k + 1, _, _, _, _, rfl, ⟨by omega, hr2, hl2⟩, rfl, rfl⟩, by omega⟩
  have hke : k = l.length := by omega
  rw [hke, List.take_length] at hrows
  have hnl : n = (l.map Rdg.t).length := by rw [List.length_map, hn, hke]
  have kS := fun ad cap => sortV_fn (ad := ad) (cap := cap) (n := n) (xs := l.map Rdg.t) (by rw [List.length_map]; omega) hnl
  have hsl : (srI (l.map Rdg.t)).length = l.length := by rw [srI_len, List.length_map]
  have hix := fun i (hi : i < l.length) => srI_bd hb1 hi
  unfold gapV
  generalize hS : srI (l.map Rdg.t) = S at *
  have hS2 : isort (fun a b => decide (a < b)) (l.map Rdg.t) = S := hS
  rw [hS2] at kS
  rw [show rows = (l.map Rdg.t).map (fun x => [Tr.int x]) from hrows] at *
  clear hrows hrl
  repeat' (first | refine goH ?_ | refine goV ?_ | refine goB (fun b => ?_) | refine goC (fun ad cap => ?_) | refine goI ?_ | (refine Cw.k_cond ?_; first | (refine Cw.cond_dec rfl (fun hc => ?_) (fun hc => ?_) <;> try (exfalso; omega)) | refine Cw.cond_bool rfl (fun hc => ?_) (fun hc => ?_)) | (refine Ops.k_calla ?_; first | (refine Ops.k_callf 28 ?_; refine Ops.callV kO (Evs.cons rfl (Evs.cons rfl (Evs.cons rfl Evs.nil))) rfl ?_) | (refine Ops.k_callf 52 ?_; (refine Ops.call (kS _ _) (Evs.cons rfl Evs.nil) goPm rfl ?_; rintro r cs' ⟨rfl, rfl⟩))) | (apply OpW.k_call; first | (apply OpW.k_callf 28; exact OpW.callV kO (Evs.cons rfl (Evs.cons rfl (Evs.cons rfl Evs.nil))))) | refine goR ?_ | refine goP ?_ | apply PSeq.cons | apply PSeq.yes rfl rfl rfl | exact goW | fail)
  rw [show S.map (fun x => [Tr.int x]) = intRows S from rfl]
  have hsr := intRows_len S
  refine Cw.ent (Ent.settle (s := 6) rfl goPk (by rw [hsr, hsl, hn, hke])) ?_
  refine Cw.loopI [(1, _), (6, _)] _ (fun q e cc => ∃ (i : Nat) (ad : Option Addr) (cap n : Nat) (rows : List (List Tr)), q = l.length - i ∧ (1 ≤ i ∧ (i ≤ l.length ∨ i = 1) ∧ rows = (gpK lg S (i - 1)).map prD ∧ n = rows.length) ∧ e = [(9, Tr.raw (.slice ad n cap)), (10, .int i)] ∧ cc = [Chunk.own ad cap 2 54 rows])
    ⟨_, _, _, Ent.trans (Ent.nil 2 54) (Ent.mkP goSub goPm), 1, none, 0, 0, [], rfl, ⟨by omega, .inr rfl, rfl, rfl⟩, rfl, rfl⟩ ?_
  clear kS hb1 kO
  rintro _ _ _ ⟨i, ad, cap, n, rows, rfl, ⟨hi, hil, hrows, hn2⟩, rfl, rfl⟩
  by_cases hik : i < l.length
  · have r1 : (intRows S)[((i : Nat) : Int).toNat]? = some [Tr.int (ix S i)] := by rw [Int.toNat_natCast]; exact ixR (by omega)
    have r2 : (intRows S)[((i : Int) - 1).toNat]? = some [Tr.int (ix S (i - 1))] := by rw [show ((i : Int) - 1).toNat = i - 1 by omega]; exact ixR (by omega)
    have b1 := hix i hik
    have b2 := hix (i - 1) (by omega)
    have hgl := gpK_len lg S (i - 1)
    have hrn : rows.length ≤ 12 := by rw [hrows, List.length_map]; omega
    have hst : gpK lg S (i + 1 - 1) = gpK lg S (i - 1) ++ (if lg < ix S i - ix S (i - 1) then [(ix S (i - 1), ix S i)] else []) := by
      obtain ⟨j, rfl⟩ : ∃ j, i = j + 1 := ⟨i - 1, by omega⟩
      rfl
    by_cases hc : lg < ix S i - ix S (i - 1)
    · rw [if_pos hc] at hst
      have hr2 : rows ++ [[Tr.int (ix S (i - 1)), Tr.int (ix S i)]] = (gpK lg S (i + 1 - 1)).map prD := by rw [hst, List.map_append, hrows]; rfl
      generalize ix S (i - 1) = y at *
      generalize ix S i = x at *
      clear hst hix hrows
      repeat' (first | refine goH ?_ | refine goV ?_ | refine goB (fun b => ?_) | refine goC (fun ad cap => ?_) | refine goI ?_ | (refine Cw.k_cond ?_; first | (refine Cw.cond_dec rfl (fun hc => ?_) (fun hc => ?_) <;> try (exfalso; omega)) | refine Cw.cond_bool rfl (fun hc => ?_) (fun hc => ?_)) | refine goR ?_ | refine goP ?_ | apply PSeq.cons | apply PSeq.yes rfl rfl rfl | exact goW | fail)
      exact ⟨_, _, _, (Ent.mk goSub goTk), ⟨i + 1, _, _, _, _, rfl, ⟨by omega, .inl hik, hr2, rfl⟩, rfl, rfl⟩, by omega⟩
    · rw [if_neg hc, List.append_nil] at hst
      rw [← hst] at hrows
      generalize ix S (i - 1) = y at *
      generalize ix S i = x at *
      clear hst hix
      repeat' (first | refine goH ?_ | refine goV ?_ | refine goB (fun b => ?_) | refine goC (fun ad cap => ?_) | refine goI ?_ | (refine Cw.k_cond ?_; first | (refine Cw.cond_dec rfl (fun hc => ?_) (fun hc => ?_) <;> try (exfalso; omega)) | refine Cw.cond_bool rfl (fun hc => ?_) (fun hc => ?_)) | refine goR ?_ | refine goP ?_ | apply PSeq.cons | apply PSeq.yes rfl rfl rfl | exact goW | fail)
      exact ⟨_, _, _, (Ent.mk goSub goTk), ⟨i + 1, _, _, _, _, rfl, ⟨by omega, .inl hik, hrows, hn2⟩, rfl, rfl⟩, by omega⟩
  · rw [show i - 1 = l.length - 1 by omega] at hrows
    subst hn2
    subst hrows
    repeat' (first | refine goH ?_ | refine goV ?_ | refine goB (fun b => ?_) | refine goC (fun ad cap => ?_) | refine goI ?_ | (refine Cw.k_cond ?_; first | (refine Cw.cond_dec rfl (fun hc => ?_) (fun hc => ?_) <;> try (exfalso; omega)) | refine Cw.cond_bool rfl (fun hc => ?_) (fun hc => ?_)) | refine goR ?_ | refine goP ?_ | apply PSeq.cons | apply PSeq.yes rfl rfl rfl | exact goW | fail)
    refine Fin.ret (Ent.trans (Ent.settle (s := 4) rfl goPk rfl) (Ent.take goTk)) (Outs.many rfl (OutL.cons goOe (OutL.cons goOe OutL.nil)) rfl) ⟨rfl, rfl⟩
end Lg
end
