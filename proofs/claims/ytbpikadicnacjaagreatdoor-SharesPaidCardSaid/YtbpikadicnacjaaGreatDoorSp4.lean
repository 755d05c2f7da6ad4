/- A part of the proof of a law of this seat: it adds no condition. By an AI agent. -/
import Derived.Test.YtbpikadicnacjaaGreatDoorLgOrd
import Derived.Test.YtbpikadicnacjaaGreatDoorKey
section
set_option linter.all false
set_option maxRecDepth 100000
set_option maxHeartbeats 4000000
namespace Lg
open Go Go.Proofs

/-- the length in bits of a small number: some number -/
theorem len64_fn (n : Int) (hn : 0 ≤ n ∧ n ≤ 200) : PFn Tryz.prog 114 [Tr.raw (.int .u64 n)] (fun r => ∃ v : Int, r = .int v) := by
  refine PFn.mk (Spec.body Tryz.func114 rfl rfl (Tryz.ntmps114) rfl fun w0 own0 M => ?_)
  repeat' (first | refine goH ?_ | (refine Ops.k_convert ?_; first | (refine Ops.convN Tryz.underlying101 Tryz.underlying5 rfl (wrap_u8 (by omega)) rfl ?_) | (refine Ops.convN Tryz.underlying5 Tryz.underlying3 rfl (wrap_i64 (by omega)) rfl ?_)) | (refine Ops.k_index ?_; first | (refine Ops.indexS_any Tryz.underlying9 rfl rfl (by refine ⟨by omega, ?_⟩; show n < 256; omega) rfl (fun v hv => ?_))) | refine goV ?_ | refine goI ?_ | (refine Cw.k_cond ?_; first | (refine Cw.cond_dec rfl (fun hc => ?_) (fun hc => ?_) <;> try (exfalso; omega)) | refine Cw.cond_bool rfl (fun hc => ?_) (fun hc => ?_)) | fail)
  exact Fin.ret (Ent.take goTk) (Outs.one rfl rfl) ⟨rfl, _, rfl⟩
theorem bitsLen_fn (n : Int) (hn : 0 ≤ n ∧ n ≤ 200) : PFn Tryz.prog 84 [Tr.raw (.int .u64 n)] (fun r => ∃ v : Int, r = .int v) := by
  have h := len64_fn n hn
  unfold PFn at h
  refine PFn.mk (Spec.body Tryz.func84 rfl rfl (Tryz.ntmps84) rfl fun w0 own0 M => ?_)
  repeat' (first | refine goH ?_ | refine goV ?_ | refine goI ?_ | (refine Cw.k_cond ?_; first | (refine Cw.cond_dec rfl (fun hc => ?_) (fun hc => ?_) <;> try (exfalso; omega)) | refine Cw.cond_bool rfl (fun hc => ?_) (fun hc => ?_)) | (refine Ops.k_calla ?_; first | (refine Ops.call (cf := []) h (Evs.cons rfl Evs.nil) (by simp) rfl ?_; rintro r cs' ⟨rfl, v, rfl⟩)) | fail)
  exact Fin.ret (Ent.take goTk) (Outs.one rfl rfl) ⟨rfl, _, rfl⟩
end Lg
end
section
set_option linter.all false
set_option maxRecDepth 100000
set_option maxHeartbeats 8000000
namespace Lg
open Go Go.Proofs

/-! ### charges and taxes -/
structure Chg where
  rt : Int
  gr : Int
def Chg.row (x : Chg) : List Tr := [.int x.rt, .int x.gr]
abbrev Tr.chgs (l : List Chg) : Tr := Tr.sl 2 (l.map Chg.row)
structure Txd where
  rt : Int
  gr : Int
  net : Int
  tax : Int
def Txd.row (x : Txd) : List Tr := [.int x.rt, .int x.gr, .int x.net, .int x.tax]
def chBad (x : Chg) : Bool := decide (x.rt < 0 ∨ 10000 < x.rt ∨ x.gr < 0 ∨ 10000000 < x.gr)
def txF (m : List (Int × Int)) : List Chg → List (Int × Int)
  | [] => m
  | c :: l => txF (mAdd c.rt c.gr m) l
def mkTx (p : Int × Int) : Txd := ⟨p.1, p.2, evn (p.2 * 10000) (10000 + p.1), p.2 - evn (p.2 * 10000) (10000 + p.1)⟩
def txLt (a b : Txd) : Bool := decide (a.rt < b.rt)
def txT (l : List Chg) : Tr := if l.length > 500 then .tup [.sl 4 [], .int 2] else if l.any chBad = true then .tup [.sl 4 [], .int 1] else .tup [.sl 4 ((isort txLt ((txF [] l).map mkTx)).map Txd.row), .int 0]

instance : TyMap Tryz.prog 78 3 3 (.int .i64 0) := ⟨Tryz.underlying78, ⟨_, rfl, rfl⟩⟩
instance : KeyTy Tryz.prog 3 (Value.int .i64) := KeyTy.int Tryz.underlying3
/-- insertion sort, of a slice of one's own, by a function that only reads -/
theorem insSort_txd {n : Nat} {xs : List Txd} {ad : Option Addr} {cap : Nat} {g : Nat} {caps : List Value} {cin : List Chunk} {lt : Txd → Txd → Bool} {cf : Txd → Txd → Int} (hlt : ∀ a b, lt a b = decide (cf a b < 0)) (hl : xs.length ≤ 1000000) (hn : n = xs.length)
    (hs : ∀ a b, a ∈ xs → b ∈ xs → Spec Tryz.prog g ([(fun x : Txd => Tr.agg x.row) a, (fun x : Txd => Tr.agg x.row) b] ++ caps.map Tr.raw) cin (fun r cs => r = Tr.int (cf a b) ∧ cs = cin)) :
    Spec Tryz.prog 105 [Tr.raw (.slice ad n cap), .int 0, .int n, Tr.raw (.func (.func g) #[] caps.toArray)] (Chunk.own ad cap 4 49 (xs.map Txd.row) :: cin) (fun r cs => r = Tr.tup [] ∧ cs = Chunk.own ad cap 4 49 ((isort lt xs).map Txd.row) :: cin) := by
  refine Spec.body Tryz.func105 rfl rfl (Tryz.ntmps105) rfl fun w0 own0 M => ?_
  repeat' (first | refine goH ?_ | refine goV ?_ | refine goG ?_ | (refine Ops.k_guard ?_; first | (refine Ops.guard_dec rfl rfl (fun hc => ?_) (fun hc => ?_) <;> try (exfalso; omega)) | refine Ops.guard_split rfl rfl (fun hc => ?_) (fun hc => ?_)) | refine goI ?_ | (refine Cw.k_cond ?_; first | (refine Cw.cond_dec rfl (fun hc => ?_) (fun hc => ?_) <;> try (exfalso; omega)) | refine Cw.cond_bool rfl (fun hc => ?_) (fun hc => ?_)) | refine goR ?_ | refine goP ?_ | apply PSeq.cons | apply PSeq.yes rfl rfl rfl | exact goW | fail)
  refine Cw.loopI [(0, _), (1, _), (2, _), (3, _)] cin (fun q e c => ∃ (i : Nat) (rows : List (List Tr)), q = n - i ∧ (1 ≤ i ∧ i ≤ max 1 n ∧ rows = (isort lt (xs.take i) ++ xs.drop i).map Txd.row ∧ rows.length = n) ∧ e = [(8, .int i)] ∧ c = [Chunk.own ad cap 4 49 rows])
    ⟨_, _, _, (Ent.mkP goSub goPm), 1, xs.map Txd.row, rfl, ⟨by omega, by omega, by rw [isort_take1, List.take_append_drop], by rw [List.length_map, hn]⟩, rfl, rfl⟩ ?_
  rintro _ _ _ ⟨i, rows, rfl, ⟨hi1, hi2, hrows, hrl⟩, rfl, rfl⟩
  by_cases hil : i < n
  · obtain ⟨x, hx⟩ : ∃ x, xs[i]? = some x := at_lt (by omega)
    obtain ⟨S, hS⟩ : ∃ S, S = isort lt (xs.take i) := ⟨_, rfl⟩
    have hSl : S.length = i := by rw [hS, isort_len, List.length_take]; omega
    have hSm : ∀ y ∈ S, y ∈ xs := fun y hy => List.mem_of_mem_take ((isort_perm lt (xs.take i)).mem_iff.1 (by rw [← hS]; exact hy))
    have hxm : x ∈ xs := List.mem_of_getElem? hx
    have hnext : isort lt (xs.take (i + 1)) = insB lt x S := by rw [take_at hx, isort_snoc, ← hS]
    rw [← hS, drop_at hx] at hrows
    repeat' (first | refine goH ?_ | refine goV ?_ | refine goG ?_ | (refine Ops.k_guard ?_; first | (refine Ops.guard_dec rfl rfl (fun hc => ?_) (fun hc => ?_) <;> try (exfalso; omega)) | refine Ops.guard_split rfl rfl (fun hc => ?_) (fun hc => ?_)) | refine goI ?_ | (refine Cw.k_cond ?_; first | (refine Cw.cond_dec rfl (fun hc => ?_) (fun hc => ?_) <;> try (exfalso; omega)) | refine Cw.cond_bool rfl (fun hc => ?_) (fun hc => ?_)) | refine goR ?_ | refine goP ?_ | apply PSeq.cons | apply PSeq.yes rfl rfl rfl | exact goW | fail)
    refine Cw.loopI [(0, _), (1, _), (2, _), (3, _), (8, _)] cin (fun q e c => ∃ (f m : List Txd) (rows : List (List Tr)) (j : Nat), q = f.length ∧ (f.length = j ∧ S = f ++ m ∧ insB lt x S = insB lt x f ++ m ∧ rows = (f ++ x :: (m ++ xs.drop (i + 1))).map Txd.row ∧ rows.length = n) ∧ e = [(9, .int j)] ∧ c = [Chunk.own ad cap 4 49 rows])
      ⟨_, _, _, (Ent.mkP goSub goPm), S, [], rows, i, rfl, ⟨hSl, by simp, by simp, by rw [hrows]; simp, hrl⟩, rfl, rfl⟩ ?_
    clear hrows hrl
    rintro _ _ _ ⟨f, m, rows, j, rfl, ⟨hj, hfm, hins, hrows, hrl⟩, rfl, rfl⟩
    have hfl : j ≤ i := by rw [← hSl, hfm, List.length_append]; omega
    have hx0 : rows[((j : Nat) : Int).toNat]? = some [.int x.rt, .int x.gr, .int x.net, .int x.tax] := by rw [hrows]; exact rows_at (by simp [← hj])
    have fin : ∀ rows' : List (List Tr), rows' = (f ++ x :: (m ++ xs.drop (i + 1))).map Txd.row → insB lt x f = f ++ [x] → rows' = (isort lt (xs.take (i + 1)) ++ xs.drop (i + 1)).map Txd.row := by
      intro rows' h1 h2
      rw [h1, hnext, hins, h2]
      simp
    rcases List.eq_nil_or_concat f with rfl | ⟨f', y, rfl⟩
    · rw [List.length_nil] at hj
      subst hj
      have h0 := fin rows hrows (insB_nil lt x)
      repeat' (first | refine goH ?_ | refine goV ?_ | refine goG ?_ | (refine Ops.k_guard ?_; first | (refine Ops.guard_dec rfl rfl (fun hc => ?_) (fun hc => ?_) <;> try (exfalso; omega)) | refine Ops.guard_split rfl rfl (fun hc => ?_) (fun hc => ?_)) | refine goI ?_ | (refine Cw.k_cond ?_; first | (refine Cw.cond_dec rfl (fun hc => ?_) (fun hc => ?_) <;> try (exfalso; omega)) | refine Cw.cond_bool rfl (fun hc => ?_) (fun hc => ?_)) | refine goR ?_ | refine goP ?_ | apply PSeq.cons | apply PSeq.yes rfl rfl rfl | exact goW | fail)
      exact ⟨_, _, _, (Ent.mkP goSub goPm), ⟨i + 1, rows, rfl, ⟨by omega, by omega, h0, hrl⟩, rfl, rfl⟩, by omega⟩
    · rw [List.concat_eq_append] at *
      have hym : y ∈ xs := hSm y (by rw [hfm]; simp)
      have hspec := hs x y hxm hym
      have hjl : (f' ++ [y]).length = f'.length + 1 := by simp
      rw [hjl] at hj
      subst hj
      have hy0 : rows[(((f'.length + 1 : Nat) : Int) - 1).toNat]? = some [.int y.rt, .int y.gr, .int y.net, .int y.tax] := by
        rw [hrows, show (((f'.length + 1 : Nat) : Int) - 1).toNat = f'.length by omega]
        exact rows_at (by simp)
      cases hc0 : lt x y
      · have hcf : ¬ cf x y < 0 := by rw [hlt] at hc0; simpa using hc0
        have h0 := fin rows hrows (insB_ge lt hc0)
        repeat' (first | refine goH ?_ | refine goV ?_ | refine goG ?_ | (refine Ops.k_guard ?_; first | (refine Ops.guard_dec rfl rfl (fun hc => ?_) (fun hc => ?_) <;> try (exfalso; omega)) | refine Ops.guard_split rfl rfl (fun hc => ?_) (fun hc => ?_)) | refine goI ?_ | (refine Cw.k_cond ?_; first | (refine Cw.cond_dec rfl (fun hc => ?_) (fun hc => ?_) <;> try (exfalso; omega)) | refine Cw.cond_bool rfl (fun hc => ?_) (fun hc => ?_)) | exact OpW.callS_fn rfl hspec (Evs.cons rfl (Evs.cons rfl Evs.nil)) List.perm_append_comm | refine goR ?_ | refine goP ?_ | apply PSeq.cons | apply PSeq.yes rfl rfl rfl | exact goW | fail)
        exact ⟨_, _, _, (Ent.mkP goSub goPm), ⟨i + 1, rows, rfl, ⟨by omega, by omega, h0, hrl⟩, rfl, rfl⟩, by omega⟩
      · have hcf : cf x y < 0 := by rw [hlt] at hc0; simpa using hc0
        have hset : (rows.set ((f'.length + 1 : Nat) : Int).toNat [.int y.rt, .int y.gr, .int y.net, .int y.tax])[(((f'.length + 1 : Nat) : Int) - 1).toNat]? = some [.int y.rt, .int y.gr, .int y.net, .int y.tax] := by
          rw [List.getElem?_set_ne (by omega)]
          exact hy0
        have hlen2 : (rows.set ((f'.length + 1 : Nat) : Int).toNat [.int y.rt, .int y.gr, .int y.net, .int y.tax]).length = n := by rw [List.length_set]; exact hrl
        have hres : (rows.set ((f'.length + 1 : Nat) : Int).toNat [.int y.rt, .int y.gr, .int y.net, .int y.tax]).set (((f'.length + 1 : Nat) : Int) - 1).toNat [.int x.rt, .int x.gr, .int x.net, .int x.tax] = (f' ++ x :: (y :: m ++ xs.drop (i + 1))).map Txd.row := by
          rw [hrows, show (((f'.length + 1 : Nat) : Int) - 1).toNat = f'.length by omega, show ((f'.length + 1 : Nat) : Int).toNat = f'.length + 1 by omega]
          simp [List.set_append]
          all_goals (try exact ⟨rfl, rfl⟩)
        have hm : S = f' ++ (y :: m) := by rw [hfm]; simp
        have hins2 : insB lt x S = insB lt x f' ++ (y :: m) := by rw [hins, insB_lt lt hc0]; simp
        clear fin hnext hS hSl hSm hfm hins hrows
        repeat' (first | refine goH ?_ | refine goV ?_ | refine goG ?_ | (refine Ops.k_guard ?_; first | (refine Ops.guard_dec rfl rfl (fun hc => ?_) (fun hc => ?_) <;> try (exfalso; omega)) | refine Ops.guard_split rfl rfl (fun hc => ?_) (fun hc => ?_)) | refine goI ?_ | (refine Cw.k_cond ?_; first | (refine Cw.cond_dec rfl (fun hc => ?_) (fun hc => ?_) <;> try (exfalso; omega)) | refine Cw.cond_bool rfl (fun hc => ?_) (fun hc => ?_)) | exact OpW.callS_fn rfl hspec (Evs.cons rfl (Evs.cons rfl Evs.nil)) List.perm_append_comm | refine goR ?_ | refine goP ?_ | apply PSeq.cons | apply PSeq.yes rfl rfl rfl | exact goW | fail)
        refine Cw.region_seqF (m := 15) [2, 3, 4] rfl (by decide +kernel) rfl (fun a w d => ?_) ?_
        · have h9 := rd_raw (d.env 9 _ rfl)
          have hs : a.tmps.size = 53 := d.tmps
          have h9' : a.tmps[9]'(by omega) = .int .i64 ((f'.length + 1 : Nat) : Int) := by simpa [hs] using h9
          exact FlRun.move rfl rfl rfl rfl (FlRun.move rfl rfl rfl rfl (FlRun.sub1 (p := ((f'.length + 1 : Nat) : Int)) rfl rfl rfl rfl (by simp [Act.put, Act.eval, hs, h9']) FlRun.nil))
        repeat' (first | refine goH ?_ | refine goV ?_ | refine goG ?_ | (refine Ops.k_guard ?_; first | (refine Ops.guard_dec rfl rfl (fun hc => ?_) (fun hc => ?_) <;> try (exfalso; omega)) | refine Ops.guard_split rfl rfl (fun hc => ?_) (fun hc => ?_)) | refine goI ?_ | (refine Cw.k_cond ?_; first | (refine Cw.cond_dec rfl (fun hc => ?_) (fun hc => ?_) <;> try (exfalso; omega)) | refine Cw.cond_bool rfl (fun hc => ?_) (fun hc => ?_)) | refine NoP.norm ?_ | refine goR ?_ | refine goP ?_ | apply PSeq.cons | apply PSeq.yes rfl rfl rfl | exact goW | fail)
        refine ⟨_, _, _, ?_, ⟨f', y :: m, _, f'.length, rfl, ⟨rfl, hm, hins2, hres, by rw [List.length_set]; exact hlen2⟩, rfl, rfl⟩, by simp⟩
        rw [show ((f'.length + 1 : Nat) : Int) - 1 = (f'.length : Int) by omega]
        exact (Ent.mkP goSub goPm)
  · have hin : xs.take i = xs := List.take_of_length_le (by omega)
    rw [hin, List.drop_eq_nil_of_le (by omega), List.append_nil] at hrows
    subst hrows
    repeat' (first | refine goH ?_ | refine goV ?_ | refine goG ?_ | (refine Ops.k_guard ?_; first | (refine Ops.guard_dec rfl rfl (fun hc => ?_) (fun hc => ?_) <;> try (exfalso; omega)) | refine Ops.guard_split rfl rfl (fun hc => ?_) (fun hc => ?_)) | refine goI ?_ | (refine Cw.k_cond ?_; first | (refine Cw.cond_dec rfl (fun hc => ?_) (fun hc => ?_) <;> try (exfalso; omega)) | refine Cw.cond_bool rfl (fun hc => ?_) (fun hc => ?_)) | refine goR ?_ | refine goP ?_ | apply PSeq.cons | apply PSeq.yes rfl rfl rfl | exact goW | fail)
    exact Fin.norm (Ent.mkP goSub goPm) (Outs.zero rfl) ⟨rfl, rfl⟩

/-- slices.SortFunc on at most 12 elements -/
theorem pdq_txd {n : Nat} {d : Int} {xs : List Txd} {ad : Option Addr} {cap : Nat} {g : Nat} {caps : List Value} {cin : List Chunk} {lt : Txd → Txd → Bool} {cf : Txd → Txd → Int} (hlt : ∀ a b, lt a b = decide (cf a b < 0)) (hl : xs.length ≤ 12) (hn : n = xs.length)
    (hs : ∀ a b, a ∈ xs → b ∈ xs → Spec Tryz.prog g ([(fun x : Txd => Tr.agg x.row) a, (fun x : Txd => Tr.agg x.row) b] ++ caps.map Tr.raw) cin (fun r cs => r = Tr.int (cf a b) ∧ cs = cin)) :
    Spec Tryz.prog 83 [Tr.raw (.slice ad n cap), .int 0, .int n, .int d, Tr.raw (.func (.func g) #[] caps.toArray)] (Chunk.own ad cap 4 49 (xs.map Txd.row) :: cin) (fun r cs => r = Tr.tup [] ∧ cs = Chunk.own ad cap 4 49 ((isort lt xs).map Txd.row) :: cin) := by
  have hi := insSort_txd (ad := ad) (cap := cap) hlt (show xs.length ≤ 1000000 by omega) hn hs
  refine Spec.body Tryz.func83 rfl rfl (Tryz.ntmps83) rfl fun w0 own0 M => ?_
  repeat' (first | refine goH ?_ | refine goV ?_ | refine goG ?_ | (refine Ops.k_guard ?_; first | (refine Ops.guard_dec rfl rfl (fun hc => ?_) (fun hc => ?_) <;> try (exfalso; omega)) | refine Ops.guard_split rfl rfl (fun hc => ?_) (fun hc => ?_)) | refine goI ?_ | (refine Cw.k_cond ?_; first | (refine Cw.cond_dec rfl (fun hc => ?_) (fun hc => ?_) <;> try (exfalso; omega)) | refine Cw.cond_bool rfl (fun hc => ?_) (fun hc => ?_)) | refine goR ?_ | refine goP ?_ | apply PSeq.cons | apply PSeq.yes rfl rfl rfl | exact goW | fail)
  refine Cw.loopI [(0, _), (4, _)] _ (fun q e c => q = 0 ∧ e = [(1, .int 0), (2, .int n), (3, .int d), (10, .bool true), (11, .bool true)] ∧ c = []) ⟨_, _, _, (Ent.mkP goSub goPm), rfl, rfl, rfl⟩ ?_
  rintro _ _ _ ⟨rfl, rfl, rfl⟩
  repeat' (first | refine goH ?_ | refine goV ?_ | refine goG ?_ | (refine Ops.k_guard ?_; first | (refine Ops.guard_dec rfl rfl (fun hc => ?_) (fun hc => ?_) <;> try (exfalso; omega)) | refine Ops.guard_split rfl rfl (fun hc => ?_) (fun hc => ?_)) | refine goI ?_ | (refine Cw.k_cond ?_; first | (refine Cw.cond_dec rfl (fun hc => ?_) (fun hc => ?_) <;> try (exfalso; omega)) | refine Cw.cond_bool rfl (fun hc => ?_) (fun hc => ?_)) | (refine Ops.k_calla ?_; first | (refine Ops.call (cf := []) hi (Evs.cons rfl (Evs.cons rfl (Evs.cons rfl (Evs.cons rfl Evs.nil)))) (by simp) rfl ?_; rintro r cs' ⟨rfl, rfl⟩)) | refine goR ?_ | refine goP ?_ | apply PSeq.cons | apply PSeq.yes rfl rfl rfl | exact goW | fail)
  first | exact Fin.norm (Ent.mkP goSub (by simp)) (Outs.zero rfl) ⟨rfl, rfl⟩ | exact Fin.ret (Ent.mkP goSub (by simp)) (Outs.zero rfl) ⟨rfl, rfl⟩
theorem sortFunc_txd {n : Nat} {xs : List Txd} {ad : Option Addr} {cap : Nat} {g : Nat} {caps : List Value} {cin : List Chunk} {lt : Txd → Txd → Bool} {cf : Txd → Txd → Int} (hlt : ∀ a b, lt a b = decide (cf a b < 0)) (hl : xs.length ≤ 12) (hn : n = xs.length)
    (hs : ∀ a b, a ∈ xs → b ∈ xs → Spec Tryz.prog g ([(fun x : Txd => Tr.agg x.row) a, (fun x : Txd => Tr.agg x.row) b] ++ caps.map Tr.raw) cin (fun r cs => r = Tr.int (cf a b) ∧ cs = cin)) :
    Spec Tryz.prog 43 [Tr.raw (.slice ad n cap), Tr.raw (.func (.func g) #[] caps.toArray)] (Chunk.own ad cap 4 49 (xs.map Txd.row) :: cin) (fun r cs => r = Tr.tup [] ∧ cs = Chunk.own ad cap 4 49 ((isort lt xs).map Txd.row) :: cin) := by
  have hi := fun d => pdq_txd (d := d) (ad := ad) (cap := cap) hlt hl hn hs
  have hb := bitsLen_fn n (by omega)
  unfold PFn at hb
  refine Spec.body Tryz.func43 rfl rfl (Tryz.ntmps43) rfl fun w0 own0 M => ?_
  repeat' (first | refine goH ?_ | (refine Ops.k_convert ?_; first | (refine Ops.convN Tryz.underlying3 Tryz.underlying112 rfl (wrap_u64 (by omega)) rfl ?_)) | refine goV ?_ | refine goI ?_ | (refine Cw.k_cond ?_; first | (refine Cw.cond_dec rfl (fun hc => ?_) (fun hc => ?_) <;> try (exfalso; omega)) | refine Cw.cond_bool rfl (fun hc => ?_) (fun hc => ?_)) | (refine Ops.k_calla ?_; first | (refine Ops.k_callf 84 ?_; (refine Ops.call hb (Evs.cons rfl Evs.nil) (by rw [List.nil_append]) rfl ?_; rintro r cs' ⟨rfl, v, rfl⟩; rw [List.nil_append])) | (refine Ops.call (cf := []) (hi _) (Evs.cons rfl (Evs.cons rfl (Evs.cons rfl (Evs.cons rfl (Evs.cons rfl Evs.nil))))) (by simp) rfl ?_; rintro r cs' ⟨rfl, rfl⟩)) | fail)
  first | exact Fin.norm (Ent.mkP goSub (by simp)) (Outs.zero rfl) ⟨rfl, rfl⟩ | exact Fin.ret (Ent.mkP goSub (by simp)) (Outs.zero rfl) ⟨rfl, rfl⟩

theorem txLtD_fn (x y : Txd) : PFn Tryz.prog 44 [.agg x.row, .agg y.row] (· = .int (cmpI x.rt y.rt)) := by
  have k1 := compare_fn x.rt y.rt
  unfold Txd.row
  refine PFn.mk (Spec.body Tryz.func44 rfl rfl (Tryz.ntmps44) rfl fun w0 own0 M => ?_)
  repeat' (first | refine goH ?_ | refine goV ?_ | refine goB (fun b => ?_) | refine goI ?_ | (refine Cw.k_cond ?_; first | (refine Cw.cond_dec rfl (fun hc => ?_) (fun hc => ?_) <;> try (exfalso; omega)) | refine Cw.cond_bool rfl (fun hc => ?_) (fun hc => ?_)) | (refine Ops.k_calla ?_; first | (refine Ops.k_callf 45 ?_; refine Ops.callV k1 (Evs.cons rfl (Evs.cons rfl Evs.nil)) rfl ?_)) | fail)
  exact Fin.ret (Ent.take goTk) (Outs.one rfl rfl) ⟨rfl, rfl⟩
theorem txLtD_fnS {n : Nat} {xs : List Txd} {ad : Option Addr} {cap : Nat} (hl : xs.length ≤ 12) (hn : n = xs.length) : Spec Tryz.prog 43 [Tr.raw (.slice ad n cap), Tr.raw (.func (.func 44) #[] #[])] [Chunk.own ad cap 4 49 (xs.map Txd.row)] (fun r cs => r = Tr.tup [] ∧ cs = [Chunk.own ad cap 4 49 ((isort txLt xs).map Txd.row)]) :=
  sortFunc_txd (lt := txLt) (cf := fun a b => cmpI a.rt b.rt) (caps := []) (cin := []) (fun a b => by unfold txLt; rw [Bool.eq_iff_iff, decide_eq_true_iff, decide_eq_true_iff]; exact (cmpI_lt _ _).symm) hl hn (fun a b _ _ => (txLtD_fn a b).lend)
theorem txLtR_fn (x y : Txd) : PFn Tryz.prog 48 [.agg x.row, .agg y.row] (· = .int (cmpI x.rt y.rt)) := by
  have k1 := compare_fn x.rt y.rt
  unfold Txd.row
  refine PFn.mk (Spec.body Tryz.func48 rfl rfl (Tryz.ntmps48) rfl fun w0 own0 M => ?_)
  repeat' (first | refine goH ?_ | refine goV ?_ | refine goB (fun b => ?_) | refine goI ?_ | (refine Cw.k_cond ?_; first | (refine Cw.cond_dec rfl (fun hc => ?_) (fun hc => ?_) <;> try (exfalso; omega)) | refine Cw.cond_bool rfl (fun hc => ?_) (fun hc => ?_)) | (refine Ops.k_calla ?_; first | (refine Ops.k_callf 45 ?_; refine Ops.callV k1 (Evs.cons rfl (Evs.cons rfl Evs.nil)) rfl ?_)) | fail)
  exact Fin.ret (Ent.take goTk) (Outs.one rfl rfl) ⟨rfl, rfl⟩
theorem txLtR_fnS {n : Nat} {xs : List Txd} {ad : Option Addr} {cap : Nat} (hl : xs.length ≤ 12) (hn : n = xs.length) : Spec Tryz.prog 43 [Tr.raw (.slice ad n cap), Tr.raw (.func (.func 48) #[] #[])] [Chunk.own ad cap 4 49 (xs.map Txd.row)] (fun r cs => r = Tr.tup [] ∧ cs = [Chunk.own ad cap 4 49 ((isort txLt xs).map Txd.row)]) :=
  sortFunc_txd (lt := txLt) (cf := fun a b => cmpI a.rt b.rt) (caps := []) (cin := []) (fun a b => by unfold txLt; rw [Bool.eq_iff_iff, decide_eq_true_iff, decide_eq_true_iff]; exact (cmpI_lt _ _).symm) hl hn (fun a b _ _ => (txLtR_fn a b).lend)
theorem chBad_f {x : Chg} (h : chBad x = false) : 0 ≤ x.rt ∧ x.rt ≤ 10000 ∧ 0 ≤ x.gr ∧ x.gr ≤ 10000000 := by
  unfold chBad at h
  simp only [decide_eq_false_iff_not] at h
  omega
/-- what holds of the sums on the way -/
def TxOk (k : Nat) (m : List (Int × Int)) : Prop := (m.map Prod.fst).Nodup ∧ m.length ≤ k ∧ ∀ q ∈ m, 0 ≤ q.1 ∧ q.1 ≤ 10000 ∧ 0 ≤ q.2 ∧ q.2 ≤ (k : Int) * 10000000
theorem TxOk.val {k : Nat} {m : List (Int × Int)} (h : TxOk k m) (a : Int) : 0 ≤ mI a m ∧ mI a m ≤ (k : Int) * 10000000 :=
  mI_all (p := fun v => 0 ≤ v ∧ v ≤ (k : Int) * 10000000) (by omega) (fun q hq => (h.2.2 q hq).2.2)
theorem TxOk.add {k : Nat} {m : List (Int × Int)} (h : TxOk k m) {x : Chg} (hx : chBad x = false) : TxOk (k + 1) (mAdd x.rt x.gr m) := by
  have hb := chBad_f hx
  have hv := h.val x.rt
  refine ⟨mUp_nodup h.1, Nat.le_trans (mUp_len _ _ _) (by have := h.2.1; omega), ?_⟩
  refine mAll_up ?_ (fun q hq => ?_)
  · simp only
    omega
  · have := h.2.2 q hq
    omega
theorem txF_ok : ∀ {l : List Chg} {k : Nat} {m : List (Int × Int)}, TxOk k m → l.any chBad = false → TxOk (k + l.length) (txF m l)
  | [], k, m, h, _ => h
  | c :: l, k, m, h, hb => by
    rw [List.any_cons, Bool.or_eq_false_iff] at hb
    have := txF_ok (l := l) (h.add hb.1) hb.2
    rw [txF, List.length_cons]
    rwa [show k + (l.length + 1) = k + 1 + l.length by omega]
theorem txOk0 : TxOk 0 [] := ⟨List.nodup_nil, by simp, fun q hq => by cases hq⟩
theorem mkTx_len (l : List Chg) (h : l.any chBad = false) (hl : l.length ≤ 12) : ((txF [] l).map mkTx).length ≤ 12 := by
  have := (txF_ok txOk0 h).2.1
  rw [List.length_map]
  omega
theorem tx_uniq {g m : List (Int × Int)} (hp : m.Perm g) (hn : (m.map Prod.fst).Nodup) : isort txLt (g.map mkTx) = isort txLt (m.map mkTx) := by
  refine isortI_uniq (key := Txd.rt) ((hp.symm).map mkTx) ?_
  rw [List.map_map]
  exact (hp.map Prod.fst).nodup_iff.1 hn
theorem nil_tx : ([] : List (List Tr)) = (([] : List (Int × Int)).map mkTx).map Txd.row := rfl
theorem snoc_tx (g : List (Int × Int)) (p : Int × Int) : (g.map mkTx).map Txd.row ++ [(mkTx p).row] = ((g ++ [p]).map mkTx).map Txd.row := by simp
attribute [local irreducible] evn
theorem taxes_fn (l : List Chg) (hl : l.length ≤ 12) : PFn Tryz.prog 17 [.chgs l] (· = txT l) := by
  have hL : (l.map Chg.row).length = l.length := List.length_map _
  unfold txT
  rw [if_neg (by omega)]
  refine PFn.mk (Spec.body Tryz.func17 rfl rfl (Tryz.ntmps17) rfl fun w0 own0 M => ?_)
  repeat' (first | refine goH ?_ | (refine Ops.k_makeMap ?_; first | (refine Ops.makeMap (Value.int .i64) rfl (fun b => ?_))) | refine goV ?_ | refine goB (fun b => ?_) | refine goC (fun ad cap => ?_) | refine goG ?_ | (refine Ops.k_guard ?_; first | (refine Ops.guard_dec rfl rfl (fun hc => ?_) (fun hc => ?_) <;> try (exfalso; omega)) | refine Ops.guard_split rfl rfl (fun hc => ?_) (fun hc => ?_)) | refine goI ?_ | (refine Cw.k_cond ?_; first | (refine Cw.cond_dec rfl (fun hc => ?_) (fun hc => ?_) <;> try (exfalso; omega)) | refine Cw.cond_bool rfl (fun hc => ?_) (fun hc => ?_)) | fail)
  refine Cw.loopI [(4, _), (15, _), (16, _)] _ (fun q e c => ∃ (k : Nat) (m : List (Int × Int)), q = l.length - k ∧ (k ≤ l.length ∧ l.any chBad = (l.drop k).any chBad ∧ txF [] l = txF m (l.drop k) ∧ TxOk k m) ∧ e = [(17, .int k)] ∧ c = [Chunk.mp (Value.int .i64) b (tkv m)])
    ⟨_, _, _, (Ent.mkP goSub goPm), 0, [], rfl, ⟨by omega, rfl, rfl, txOk0⟩, rfl, rfl⟩ ?_
  rintro _ _ _ ⟨k, m, rfl, ⟨hk, hA, hV, hm⟩, rfl, rfl⟩
  by_cases hkl : k < l.length
  · obtain ⟨x, hx⟩ := at_lt hkl
    have hrow : (l.map Chg.row)[k]? = some [.int x.rt, .int x.gr] := rows_at hx
    rw [drop_at hx, List.any_cons] at hA
    have o1 := out_fn x.rt 0 10000
    have o2 := out_fn x.gr 0 10000000
    cases hb : chBad x
    · rw [hb, Bool.false_or] at hA
      have hbb := chBad_f hb
      have hadd := hm.add hb
      have hvv := hm.val x.rt
      rw [drop_at hx, txF] at hV
      unfold mAdd at hadd hV
      rw [show outB x.rt 0 10000 = false by simp [outB]; omega] at o1
      rw [show outB x.gr 0 10000000 = false by simp [outB]; omega] at o2
      clear hm hx
      repeat' (first | refine goH ?_ | (refine Ops.k_lookup ?_; first | (refine Ops.lookup rfl rfl goPk rfl ?_; rw [tkv_read])) | (refine Ops.k_mapUpdate ?_; first | (refine Ops.mapUpdate rfl rfl rfl goPk ?_; rw [tkv_set])) | refine goV ?_ | refine goB (fun b => ?_) | refine goC (fun ad cap => ?_) | refine goG ?_ | (refine Ops.k_guard ?_; first | (refine Ops.guard_dec rfl rfl (fun hc => ?_) (fun hc => ?_) <;> try (exfalso; omega)) | refine Ops.guard_split rfl rfl (fun hc => ?_) (fun hc => ?_)) | refine goI ?_ | (refine Cw.k_cond ?_; first | (refine Cw.cond_dec rfl (fun hc => ?_) (fun hc => ?_) <;> try (exfalso; omega)) | refine Cw.cond_bool rfl (fun hc => ?_) (fun hc => ?_)) | (refine Ops.k_calla ?_; first | (refine Ops.k_callf 40 ?_; refine Ops.callV o1 (Evs.cons rfl (Evs.cons rfl (Evs.cons rfl Evs.nil))) rfl ?_) | (refine Ops.k_callf 40 ?_; refine Ops.callV o2 (Evs.cons rfl (Evs.cons rfl (Evs.cons rfl Evs.nil))) rfl ?_)) | fail)
      all_goals first | exact ⟨_, _, _, (Ent.mk goSub goTk), ⟨k + 1, _, rfl, ⟨by omega, hA, hV, hadd⟩, rfl, rfl⟩, by omega⟩ | (exfalso; omega)
    · rw [hb, Bool.true_or] at hA
      rw [if_pos hA]
      unfold chBad at hb
      simp only [decide_eq_true_eq] at hb
      by_cases h1 : x.rt < 0 ∨ 10000 < x.rt
      · rw [show outB x.rt 0 10000 = true by simp [outB]; omega] at o1
        repeat' (first | refine goH ?_ | refine goV ?_ | refine goB (fun b => ?_) | refine goC (fun ad cap => ?_) | refine goG ?_ | (refine Ops.k_guard ?_; first | (refine Ops.guard_dec rfl rfl (fun hc => ?_) (fun hc => ?_) <;> try (exfalso; omega)) | refine Ops.guard_split rfl rfl (fun hc => ?_) (fun hc => ?_)) | refine goI ?_ | (refine Cw.k_cond ?_; first | (refine Cw.cond_dec rfl (fun hc => ?_) (fun hc => ?_) <;> try (exfalso; omega)) | refine Cw.cond_bool rfl (fun hc => ?_) (fun hc => ?_)) | (refine Ops.k_calla ?_; first | (refine Ops.k_callf 40 ?_; refine Ops.callV o1 (Evs.cons rfl (Evs.cons rfl (Evs.cons rfl Evs.nil))) rfl ?_) | (refine Ops.k_callf 40 ?_; refine Ops.callV o2 (Evs.cons rfl (Evs.cons rfl (Evs.cons rfl Evs.nil))) rfl ?_)) | fail)
        refine Fin.ret (Ent.trans (Ent.nilsl 4 (s := 2) rfl) (Ent.take goTk)) (Outs.many rfl (OutL.cons goOe (OutL.cons goOe OutL.nil)) rfl) ⟨rfl, rfl⟩
      · rw [show outB x.rt 0 10000 = false by simp [outB]; omega] at o1
        rw [show outB x.gr 0 10000000 = true by simp [outB]; omega] at o2
        repeat' (first | refine goH ?_ | refine goV ?_ | refine goB (fun b => ?_) | refine goC (fun ad cap => ?_) | refine goG ?_ | (refine Ops.k_guard ?_; first | (refine Ops.guard_dec rfl rfl (fun hc => ?_) (fun hc => ?_) <;> try (exfalso; omega)) | refine Ops.guard_split rfl rfl (fun hc => ?_) (fun hc => ?_)) | refine goI ?_ | (refine Cw.k_cond ?_; first | (refine Cw.cond_dec rfl (fun hc => ?_) (fun hc => ?_) <;> try (exfalso; omega)) | refine Cw.cond_bool rfl (fun hc => ?_) (fun hc => ?_)) | (refine Ops.k_calla ?_; first | (refine Ops.k_callf 40 ?_; refine Ops.callV o1 (Evs.cons rfl (Evs.cons rfl (Evs.cons rfl Evs.nil))) rfl ?_) | (refine Ops.k_callf 40 ?_; refine Ops.callV o2 (Evs.cons rfl (Evs.cons rfl (Evs.cons rfl Evs.nil))) rfl ?_)) | fail)
        refine Fin.ret (Ent.trans (Ent.nilsl 4 (s := 2) rfl) (Ent.take goTk)) (Outs.many rfl (OutL.cons goOe (OutL.cons goOe OutL.nil)) rfl) ⟨rfl, rfl⟩
  · rw [List.drop_of_length_le (by omega)] at hA hV
    rw [txF] at hV
    rw [if_neg (by rw [hA]; simp), hV]
    obtain ⟨hm1, hm2, hm3⟩ := hm
    clear hV hA
    repeat' (first | refine goH ?_ | (refine Ops.k_range ?_; first | (refine Ops.range rfl goPk rfl (fun r => ?_))) | refine goV ?_ | refine goB (fun b => ?_) | refine goC (fun ad cap => ?_) | refine goG ?_ | (refine Ops.k_guard ?_; first | (refine Ops.guard_dec rfl rfl (fun hc => ?_) (fun hc => ?_) <;> try (exfalso; omega)) | refine Ops.guard_split rfl rfl (fun hc => ?_) (fun hc => ?_)) | refine goI ?_ | (refine Cw.k_cond ?_; first | (refine Cw.cond_dec rfl (fun hc => ?_) (fun hc => ?_) <;> try (exfalso; omega)) | refine Cw.cond_bool rfl (fun hc => ?_) (fun hc => ?_)) | fail)
    refine Cw.loopI [(38, _)] _ (fun q e c => ∃ (g left : List (Int × Int)) (ad : Option Addr) (cap : Nat) (rows : List (List Tr)), q = left.length ∧ (m.Perm (g ++ left) ∧ rows = (g.map mkTx).map Txd.row ∧ rows.length = g.length) ∧ e = [(7, Tr.raw (.slice ad rows.length cap))] ∧ c = [Chunk.rg (Value.int .i64) b r (tkv m) (tkv left), Chunk.own ad cap 4 49 rows])
      ⟨_, _, _, Ent.trans (Ent.nil 4 49) (Ent.mkP goSub goPm), [], m, none, 0, [], rfl, ⟨List.Perm.refl _, rfl, rfl⟩, rfl, rfl⟩ ?_
    rintro _ _ _ ⟨g, left, ad, cap, rows, rfl, ⟨hp, hrows, hrl⟩, rfl, rfl⟩
    have hgl : g.length ≤ 12 := by have := hp.length_eq; simp at this; omega
    repeat' (first | refine goH ?_ | ((fail_if_success refine Ops.k_next ?_); refine goV ?_) | ((fail_if_success refine Ops.k_next ?_); refine goB (fun b => ?_)) | ((fail_if_success refine Ops.k_next ?_); refine goC (fun ad cap => ?_)) | refine goG ?_ | (refine Ops.k_guard ?_; first | (refine Ops.guard_dec rfl rfl (fun hc => ?_) (fun hc => ?_) <;> try (exfalso; omega)) | refine Ops.guard_split rfl rfl (fun hc => ?_) (fun hc => ?_)) | refine goI ?_ | (refine Cw.k_cond ?_; first | (refine Cw.cond_dec rfl (fun hc => ?_) (fun hc => ?_) <;> try (exfalso; omega)) | refine Cw.cond_bool rfl (fun hc => ?_) (fun hc => ?_)) | fail)
    refine Ops.k_next ?_
    refine Ops.nextC rfl goPk rfl (fun hl0 => ?_) (fun j a t hj => ?_)
    · have hl0 := tkv_nil hl0
      subst hl0
      rw [List.append_nil] at hp
      have kS := fun ad cap => txLtD_fnS (n := rows.length) (xs := g.map mkTx) (ad := ad) (cap := cap) (by rw [List.length_map]; omega) (by rw [hrl, List.length_map])
      rw [← tx_uniq hp hm1]
      subst hrows
      repeat' (first | refine goH ?_ | refine goV ?_ | refine goB (fun b => ?_) | refine goC (fun ad cap => ?_) | refine goG ?_ | (refine Ops.k_guard ?_; first | (refine Ops.guard_dec rfl rfl (fun hc => ?_) (fun hc => ?_) <;> try (exfalso; omega)) | refine Ops.guard_split rfl rfl (fun hc => ?_) (fun hc => ?_)) | refine goI ?_ | (refine Cw.k_cond ?_; first | (refine Cw.cond_dec rfl (fun hc => ?_) (fun hc => ?_) <;> try (exfalso; omega)) | refine Cw.cond_bool rfl (fun hc => ?_) (fun hc => ?_)) | (refine Ops.k_calla ?_; first | (refine Ops.k_callf 43 ?_; (refine Ops.call (kS _ _) (Evs.cons rfl (Evs.cons rfl Evs.nil)) goPm rfl ?_; rintro r cs' ⟨rfl, rfl⟩))) | fail)
      have hlen : ((g.map mkTx).map Txd.row).length = ((isort txLt (g.map mkTx)).map Txd.row).length := by simp [isort_len]
      rw [hlen]
      refine Fin.ret (Ent.trans (Ent.settle (s := 2) rfl goPk rfl) (Ent.take goTk)) (Outs.many rfl (OutL.cons goOe (OutL.cons goOe OutL.nil)) rfl) ⟨rfl, rfl⟩
    · obtain ⟨v, hjv, rfl⟩ := tkv_at hj
      rw [tkv_erase]
      have hp2 := eraseIdx_snoc hp hjv
      have hlen := eraseIdx_len hjv
      have hmem := hm3 (a, v) (hp.mem_iff.2 (List.mem_append.2 (.inr (List.mem_of_getElem? hjv))))
      simp only at hmem
      have k1 := evenD_fn (v * 10000) (10000 + a) (by omega) (by omega)
      have k2 := evn_bd (n := v * 10000) (d := 10000 + a) (by omega) (by omega)
      have hrow := snoc_tx g (a, v)
      rw [← hrows] at hrow
      simp only [mkTx, Txd.row] at hrow
      generalize hE : evn (v * 10000) (10000 + a) = ee at *
      repeat' (first | refine goH ?_ | (refine Ops.k_entry ?_; first | (refine Ops.entry rfl goPk rfl ?_)) | refine goV ?_ | refine goB (fun b => ?_) | refine goC (fun ad cap => ?_) | refine goG ?_ | (refine Ops.k_guard ?_; first | (refine Ops.guard_dec rfl rfl (fun hc => ?_) (fun hc => ?_) <;> try (exfalso; omega)) | refine Ops.guard_split rfl rfl (fun hc => ?_) (fun hc => ?_)) | refine goI ?_ | (refine Cw.k_cond ?_; first | (refine Cw.cond_dec rfl (fun hc => ?_) (fun hc => ?_) <;> try (exfalso; omega)) | refine Cw.cond_bool rfl (fun hc => ?_) (fun hc => ?_)) | (refine Ops.k_calla ?_; first | (refine Ops.k_callf 41 ?_; refine Ops.callV k1 (Evs.cons rfl (Evs.cons rfl Evs.nil)) rfl ?_)) | fail)
      exact ⟨_, _, _, (Ent.mk goSub goTk), ⟨g ++ [(a, v)], _, _, _, _, rfl, ⟨hp2, hrow, by simp [hrl]⟩, rfl, rfl⟩, by omega⟩
end Lg
end
