/- A part of the proof of a law of this seat: it adds no condition. By an AI agent. -/
import Derived.Test.YtbpikadicnacjaaGreatDoorShareI
section
set_option linter.all false
set_option maxRecDepth 100000
set_option maxHeartbeats 8000000
namespace Lg
open Go Go.Proofs

/-! ### strings compared; names with numbers -/
theorem cmpString_fn (a b : ByteArray) : PFn Tryz.prog 87 [.str a, .str b] (· = .int (cmpS a b)) := by
  have hx : ∀ w, (callFunc 123 #[.string a, .string b]).run Tryz.prog w = .ok (.value (.int .i64 (cmpS a b))) w := fun w => by
    rw [run_callFunc_extern Tryz.func123 (by kernel_rfl) (by kernel_rfl) (by kernel_rfl) (e := Extern.BytealgCompare.compare) (by kernel_rfl), Lib.run_compareString, cmpS_cb]
    rfl
  refine PFn.mk (Spec.body Tryz.func87 rfl rfl (Tryz.ntmps87) rfl fun w0 own0 M => ?_)
  repeat' (first | refine goH ?_ | refine goV ?_ | refine goI ?_ | (refine Cw.k_cond ?_; first | (refine Cw.cond_dec rfl (fun hc => ?_) (fun hc => ?_) <;> try (exfalso; omega)) | refine Cw.cond_bool rfl (fun hc => ?_) (fun hc => ?_)) | refine Ops.ext2 hx rfl rfl rfl ?_ | fail)
  exact Fin.ret (Ent.take goTk) (Outs.one rfl rfl) ⟨rfl, rfl⟩
theorem compareS_fn (a b : ByteArray) : PFn Tryz.prog 56 [.str a, .str b] (· = .int (cmpS a b)) := by
  have k1 := cmpString_fn a b
  refine PFn.mk (Spec.body Tryz.func56 rfl rfl (Tryz.ntmps56) rfl fun w0 own0 M => ?_)
  repeat' (first | refine goH ?_ | refine goV ?_ | refine goI ?_ | (refine Cw.k_cond ?_; first | (refine Cw.cond_dec rfl (fun hc => ?_) (fun hc => ?_) <;> try (exfalso; omega)) | refine Cw.cond_bool rfl (fun hc => ?_) (fun hc => ?_)) | (refine Ops.k_calla ?_; first | (refine Ops.k_callf 87 ?_; refine Ops.callV k1 (Evs.cons rfl (Evs.cons rfl Evs.nil)) rfl ?_)) | fail)
  exact Fin.ret (Ent.take goTk) (Outs.one rfl rfl) ⟨rfl, rfl⟩
structure Nm where
  key : ByteArray
  many : Int
def Nm.row (x : Nm) : List Tr := [.str x.key, .int x.many]
abbrev Tr.nms (l : List Nm) : Tr := Tr.sl 2 (l.map Nm.row)
def nm0 : Nm := ⟨⟨#[]⟩, 0⟩
def nmLt (a b : Nm) : Bool := strLt a.key b.key
/-- insertion sort, of a slice of one's own, by a function that only reads -/
theorem insSort_nm {n : Nat} {xs : List Nm} {ad : Option Addr} {cap : Nat} {g : Nat} {caps : List Value} {cin : List Chunk} {lt : Nm → Nm → Bool} {cf : Nm → Nm → Int} (hlt : ∀ a b, lt a b = decide (cf a b < 0)) (hl : xs.length ≤ 1000000) (hn : n = xs.length)
    (hs : ∀ a b, a ∈ xs → b ∈ xs → Spec Tryz.prog g ([(fun x : Nm => Tr.agg x.row) a, (fun x : Nm => Tr.agg x.row) b] ++ caps.map Tr.raw) cin (fun r cs => r = Tr.int (cf a b) ∧ cs = cin)) :
    Spec Tryz.prog 127 [Tr.raw (.slice ad n cap), .int 0, .int n, Tr.raw (.func (.func g) #[] caps.toArray)] (Chunk.own ad cap 2 69 (xs.map Nm.row) :: cin) (fun r cs => r = Tr.tup [] ∧ cs = Chunk.own ad cap 2 69 ((isort lt xs).map Nm.row) :: cin) := by
  refine Spec.body Tryz.func127 rfl rfl (Tryz.ntmps127) rfl fun w0 own0 M => ?_
  repeat' (first | refine goH ?_ | refine goV ?_ | refine goG ?_ | (refine Ops.k_guard ?_; first | (refine Ops.guard_dec rfl rfl (fun hc => ?_) (fun hc => ?_) <;> try (exfalso; omega)) | refine Ops.guard_split rfl rfl (fun hc => ?_) (fun hc => ?_)) | refine goI ?_ | (refine Cw.k_cond ?_; first | (refine Cw.cond_dec rfl (fun hc => ?_) (fun hc => ?_) <;> try (exfalso; omega)) | refine Cw.cond_bool rfl (fun hc => ?_) (fun hc => ?_)) | refine goR ?_ | refine goP ?_ | apply PSeq.cons | apply PSeq.yes rfl rfl rfl | exact goW | fail)
  refine Cw.loopI [(0, _), (1, _), (2, _), (3, _)] cin (fun q e c => ∃ (i : Nat) (rows : List (List Tr)), q = n - i ∧ (1 ≤ i ∧ i ≤ max 1 n ∧ rows = (isort lt (xs.take i) ++ xs.drop i).map Nm.row ∧ rows.length = n) ∧ e = [(8, .int i)] ∧ c = [Chunk.own ad cap 2 69 rows])
    ⟨_, _, _, (Ent.mkP goSub goPm), 1, xs.map Nm.row, rfl, ⟨by omega, by omega, by rw [isort_take1, List.take_append_drop], by rw [List.length_map, hn]⟩, rfl, rfl⟩ ?_
  rintro _ _ _ ⟨i, rows, rfl, ⟨hi1, hi2, hrows, hrl⟩, rfl, rfl⟩
  by_cases hil : i < n
  · obtain ⟨x, hx⟩ : ∃ x, xs[i]? = some x := at_lt (by omega)
    obtain ⟨S, hS⟩ : ∃ S, S = isort lt (xs.take i) := ⟨_, rfl⟩
    have hSl : S.length = i := by rw [hS, isort_len, List.length_take]; omega
    have hSm : ∀ y ∈ S, y ∈ xs := fun y hy => List.mem_of_mem_take ((isort_perm lt (xs.take i)).mem_iff.1 (by rw [← hS]; exact hy))
    have hxm : x ∈ xs := List.mem_of_getElem? hx
    have hnext : isort lt (xs.take (i + 1)) = insB lt x S := by rw [take_at hx, isort_snoc, ← hS]
    rw [← hS, drop_at hx] at hrows
    repeat' (first | refine goH ?_ | refine goV ?_ | refine goG ?_ | (refine Ops.k_guard ?_; first | (refine Ops.guard_dec rfl rfl (fun hc => ?_) (fun hc => ?_) <;> try (exfalso; omega)) | refine Ops.guard_split rfl rfl (fun hc => ?_) (fun hc => ?_)) | refine goI ?_ | (refine Cw.k_cond ?_; first | (refine Cw.cond_dec rfl (fun hc => ?_) (fun hc => ?_) <;> try (exfalso; omega)) | refine Cw.cond_bool rfl (fun hc => ?_) (fun hc => ?_)) | refine goR ?_ | refine goP ?_ | apply PSeq.cons | apply PSeq.yes rfl rfl rfl | exact goW | fail)
    refine Cw.loopI [(0, _), (1, _), (2, _), (3, _), (8, _)] cin (fun q e c => ∃ (f m : List Nm) (rows : List (List Tr)) (j : Nat), q = f.length ∧ (f.length = j ∧ S = f ++ m ∧ insB lt x S = insB lt x f ++ m ∧ rows = (f ++ x :: (m ++ xs.drop (i + 1))).map Nm.row ∧ rows.length = n) ∧ e = [(9, .int j)] ∧ c = [Chunk.own ad cap 2 69 rows])
      ⟨_, _, _, (Ent.mkP goSub goPm), S, [], rows, i, rfl, ⟨hSl, by simp, by simp, by rw [hrows]; simp, hrl⟩, rfl, rfl⟩ ?_
    clear hrows hrl
    rintro _ _ _ ⟨f, m, rows, j, rfl, ⟨hj, hfm, hins, hrows, hrl⟩, rfl, rfl⟩
    have hfl : j ≤ i := by rw [← hSl, hfm, List.length_append]; omega
    have hx0 : rows[((j : Nat) : Int).toNat]? = some [.str x.key, .int x.many] := by rw [hrows]; exact rows_at (by simp [← hj])
    have fin : ∀ rows' : List (List Tr), rows' = (f ++ x :: (m ++ xs.drop (i + 1))).map Nm.row → insB lt x f = f ++ [x] → rows' = (isort lt (xs.take (i + 1)) ++ xs.drop (i + 1)).map Nm.row := by
      intro rows' h1 h2
      rw [h1, hnext, hins, h2]
      simp
    rcases List.eq_nil_or_concat f with rfl | ⟨f', y, rfl⟩
    · rw [List.length_nil] at hj
      subst hj
      have h0 := fin rows hrows (insB_nil lt x)
      repeat' (first | refine goH ?_ | refine goV ?_ | refine goG ?_ | (refine Ops.k_guard ?_; first | (refine Ops.guard_dec rfl rfl (fun hc => ?_) (fun hc => ?_) <;> try (exfalso; omega)) | refine Ops.guard_split rfl rfl (fun hc => ?_) (fun hc => ?_)) | refine goI ?_ | (refine Cw.k_cond ?_; first | (refine Cw.cond_dec rfl (fun hc => ?_) (fun hc => ?_) <;> try (exfalso; omega)) | refine Cw.cond_bool rfl (fun hc => ?_) (fun hc => ?_)) | refine goR ?_ | refine goP ?_ | apply PSeq.cons | apply PSeq.yes rfl rfl rfl | exact goW | fail)
      exact ⟨_, _, _, (Ent.mkP goSub goPm), ⟨i + 1, rows, rfl, ⟨by omega, by omega, h0, hrl⟩, rfl, rfl⟩, by omega⟩
    · rw [List.concat_eq_append] at *
      have hym : y ∈ xs := hSm y (by rw [hfm]; simp)
      have hspec := hs x y hxm hym
      have hjl : (f' ++ [y]).length = f'.length + 1 := by simp
      rw [hjl] at hj
      subst hj
      have hy0 : rows[(((f'.length + 1 : Nat) : Int) - 1).toNat]? = some [.str y.key, .int y.many] := by
        rw [hrows, show (((f'.length + 1 : Nat) : Int) - 1).toNat = f'.length by omega]
        exact rows_at (by simp)
      cases hc0 : lt x y
      · have hcf : ¬ cf x y < 0 := by rw [hlt] at hc0; simpa using hc0
        have h0 := fin rows hrows (insB_ge lt hc0)
        repeat' (first | refine goH ?_ | refine goV ?_ | refine goG ?_ | (refine Ops.k_guard ?_; first | (refine Ops.guard_dec rfl rfl (fun hc => ?_) (fun hc => ?_) <;> try (exfalso; omega)) | refine Ops.guard_split rfl rfl (fun hc => ?_) (fun hc => ?_)) | refine goI ?_ | (refine Cw.k_cond ?_; first | (refine Cw.cond_dec rfl (fun hc => ?_) (fun hc => ?_) <;> try (exfalso; omega)) | refine Cw.cond_bool rfl (fun hc => ?_) (fun hc => ?_)) | exact OpW.callS_fn rfl hspec (Evs.cons rfl (Evs.cons rfl Evs.nil)) List.perm_append_comm | refine goR ?_ | refine goP ?_ | apply PSeq.cons | apply PSeq.yes rfl rfl rfl | exact goW | fail)
        exact ⟨_, _, _, (Ent.mkP goSub goPm), ⟨i + 1, rows, rfl, ⟨by omega, by omega, h0, hrl⟩, rfl, rfl⟩, by omega⟩
      · have hcf : cf x y < 0 := by rw [hlt] at hc0; simpa using hc0
        have hset : (rows.set ((f'.length + 1 : Nat) : Int).toNat [.str y.key, .int y.many])[(((f'.length + 1 : Nat) : Int) - 1).toNat]? = some [.str y.key, .int y.many] := by
          rw [List.getElem?_set_ne (by omega)]
          exact hy0
        have hlen2 : (rows.set ((f'.length + 1 : Nat) : Int).toNat [.str y.key, .int y.many]).length = n := by rw [List.length_set]; exact hrl
        have hres : (rows.set ((f'.length + 1 : Nat) : Int).toNat [.str y.key, .int y.many]).set (((f'.length + 1 : Nat) : Int) - 1).toNat [.str x.key, .int x.many] = (f' ++ x :: (y :: m ++ xs.drop (i + 1))).map Nm.row := by
          rw [hrows, show (((f'.length + 1 : Nat) : Int) - 1).toNat = f'.length by omega, show ((f'.length + 1 : Nat) : Int).toNat = f'.length + 1 by omega]
          simp [List.set_append]
          all_goals (try exact ⟨rfl, rfl⟩)
        have hm : S = f' ++ (y :: m) := by rw [hfm]; simp
        have hins2 : insB lt x S = insB lt x f' ++ (y :: m) := by rw [hins, insB_lt lt hc0]; simp
        clear fin hnext hS hSl hSm hfm hins hrows
        repeat' (first | refine goH ?_ | refine goV ?_ | refine goG ?_ | (refine Ops.k_guard ?_; first | (refine Ops.guard_dec rfl rfl (fun hc => ?_) (fun hc => ?_) <;> try (exfalso; omega)) | refine Ops.guard_split rfl rfl (fun hc => ?_) (fun hc => ?_)) | refine goI ?_ | (refine Cw.k_cond ?_; first | (refine Cw.cond_dec rfl (fun hc => ?_) (fun hc => ?_) <;> try (exfalso; omega)) | refine Cw.cond_bool rfl (fun hc => ?_) (fun hc => ?_)) | exact OpW.callS_fn rfl hspec (Evs.cons rfl (Evs.cons rfl Evs.nil)) List.perm_append_comm | refine goR ?_ | refine goP ?_ | apply PSeq.cons | apply PSeq.yes rfl rfl rfl | exact goW | fail)
        refine Cw.region_seqF (m := 15) [2, 3, 4] rfl (by decide +kernel) rfl (fun a w d => ?_) ?_
        · have h9 := rd_raw (d.env 9 _ rfl)
          have hs : a.tmps.size = 53 := d.tmps
          have h9' : a.tmps[9]'(by omega) = .int .i64 ((f'.length + 1 : Nat) : Int) := by simpa [hs] using h9
          exact FlRun.move rfl rfl rfl rfl (FlRun.move rfl rfl rfl rfl (FlRun.sub1 (p := ((f'.length + 1 : Nat) : Int)) rfl rfl rfl rfl (by simp [Act.put, Act.eval, hs, h9']) FlRun.nil))
        repeat' (first | refine goH ?_ | refine goV ?_ | refine goG ?_ | (refine Ops.k_guard ?_; first | (refine Ops.guard_dec rfl rfl (fun hc => ?_) (fun hc => ?_) <;> try (exfalso; omega)) | refine Ops.guard_split rfl rfl (fun hc => ?_) (fun hc => ?_)) | refine goI ?_ | (refine Cw.k_cond ?_; first | (refine Cw.cond_dec rfl (fun hc => ?_) (fun hc => ?_) <;> try (exfalso; omega)) | refine Cw.cond_bool rfl (fun hc => ?_) (fun hc => ?_)) | refine NoP.norm ?_ | refine goR ?_ | refine goP ?_ | apply PSeq.cons | apply PSeq.yes rfl rfl rfl | exact goW | fail)
        refine ⟨_, _, _, ?_, ⟨f', y :: m, _, f'.length, rfl, ⟨rfl, hm, hins2, hres, by rw [List.length_set]; exact hlen2⟩, rfl, rfl⟩, by simp⟩
        rw [show ((f'.length + 1 : Nat) : Int) - 1 = (f'.length : Int) by omega]
        exact (Ent.mkP goSub goPm)
  · have hin : xs.take i = xs := List.take_of_length_le (by omega)
    rw [hin, List.drop_eq_nil_of_le (by omega), List.append_nil] at hrows
    subst hrows
    repeat' (first | refine goH ?_ | refine goV ?_ | refine goG ?_ | (refine Ops.k_guard ?_; first | (refine Ops.guard_dec rfl rfl (fun hc => ?_) (fun hc => ?_) <;> try (exfalso; omega)) | refine Ops.guard_split rfl rfl (fun hc => ?_) (fun hc => ?_)) | refine goI ?_ | (refine Cw.k_cond ?_; first | (refine Cw.cond_dec rfl (fun hc => ?_) (fun hc => ?_) <;> try (exfalso; omega)) | refine Cw.cond_bool rfl (fun hc => ?_) (fun hc => ?_)) | refine goR ?_ | refine goP ?_ | apply PSeq.cons | apply PSeq.yes rfl rfl rfl | exact goW | fail)
    exact Fin.norm (Ent.mkP goSub goPm) (Outs.zero rfl) ⟨rfl, rfl⟩

/-- slices.SortFunc on at most 12 elements -/
theorem pdq_nm {n : Nat} {d : Int} {xs : List Nm} {ad : Option Addr} {cap : Nat} {g : Nat} {caps : List Value} {cin : List Chunk} {lt : Nm → Nm → Bool} {cf : Nm → Nm → Int} (hlt : ∀ a b, lt a b = decide (cf a b < 0)) (hl : xs.length ≤ 12) (hn : n = xs.length)
    (hs : ∀ a b, a ∈ xs → b ∈ xs → Spec Tryz.prog g ([(fun x : Nm => Tr.agg x.row) a, (fun x : Nm => Tr.agg x.row) b] ++ caps.map Tr.raw) cin (fun r cs => r = Tr.int (cf a b) ∧ cs = cin)) :
    Spec Tryz.prog 97 [Tr.raw (.slice ad n cap), .int 0, .int n, .int d, Tr.raw (.func (.func g) #[] caps.toArray)] (Chunk.own ad cap 2 69 (xs.map Nm.row) :: cin) (fun r cs => r = Tr.tup [] ∧ cs = Chunk.own ad cap 2 69 ((isort lt xs).map Nm.row) :: cin) := by
  have hi := insSort_nm (ad := ad) (cap := cap) hlt (show xs.length ≤ 1000000 by omega) hn hs
  refine Spec.body Tryz.func97 rfl rfl (Tryz.ntmps97) rfl fun w0 own0 M => ?_
  repeat' (first | refine goH ?_ | refine goV ?_ | refine goG ?_ | (refine Ops.k_guard ?_; first | (refine Ops.guard_dec rfl rfl (fun hc => ?_) (fun hc => ?_) <;> try (exfalso; omega)) | refine Ops.guard_split rfl rfl (fun hc => ?_) (fun hc => ?_)) | refine goI ?_ | (refine Cw.k_cond ?_; first | (refine Cw.cond_dec rfl (fun hc => ?_) (fun hc => ?_) <;> try (exfalso; omega)) | refine Cw.cond_bool rfl (fun hc => ?_) (fun hc => ?_)) | refine goR ?_ | refine goP ?_ | apply PSeq.cons | apply PSeq.yes rfl rfl rfl | exact goW | fail)
  refine Cw.loopI [(0, _), (4, _)] _ (fun q e c => q = 0 ∧ e = [(1, .int 0), (2, .int n), (3, .int d), (10, .bool true), (11, .bool true)] ∧ c = []) ⟨_, _, _, (Ent.mkP goSub goPm), rfl, rfl, rfl⟩ ?_
  rintro _ _ _ ⟨rfl, rfl, rfl⟩
  repeat' (first | refine goH ?_ | refine goV ?_ | refine goG ?_ | (refine Ops.k_guard ?_; first | (refine Ops.guard_dec rfl rfl (fun hc => ?_) (fun hc => ?_) <;> try (exfalso; omega)) | refine Ops.guard_split rfl rfl (fun hc => ?_) (fun hc => ?_)) | refine goI ?_ | (refine Cw.k_cond ?_; first | (refine Cw.cond_dec rfl (fun hc => ?_) (fun hc => ?_) <;> try (exfalso; omega)) | refine Cw.cond_bool rfl (fun hc => ?_) (fun hc => ?_)) | (refine Ops.k_calla ?_; first | (refine Ops.call (cf := []) hi (Evs.cons rfl (Evs.cons rfl (Evs.cons rfl (Evs.cons rfl Evs.nil)))) (by simp) rfl ?_; rintro r cs' ⟨rfl, rfl⟩)) | refine goR ?_ | refine goP ?_ | apply PSeq.cons | apply PSeq.yes rfl rfl rfl | exact goW | fail)
  first | exact Fin.norm (Ent.mkP goSub (by simp)) (Outs.zero rfl) ⟨rfl, rfl⟩ | exact Fin.ret (Ent.mkP goSub (by simp)) (Outs.zero rfl) ⟨rfl, rfl⟩
theorem sortFunc_nm {n : Nat} {xs : List Nm} {ad : Option Addr} {cap : Nat} {g : Nat} {caps : List Value} {cin : List Chunk} {lt : Nm → Nm → Bool} {cf : Nm → Nm → Int} (hlt : ∀ a b, lt a b = decide (cf a b < 0)) (hl : xs.length ≤ 12) (hn : n = xs.length)
    (hs : ∀ a b, a ∈ xs → b ∈ xs → Spec Tryz.prog g ([(fun x : Nm => Tr.agg x.row) a, (fun x : Nm => Tr.agg x.row) b] ++ caps.map Tr.raw) cin (fun r cs => r = Tr.int (cf a b) ∧ cs = cin)) :
    Spec Tryz.prog 73 [Tr.raw (.slice ad n cap), Tr.raw (.func (.func g) #[] caps.toArray)] (Chunk.own ad cap 2 69 (xs.map Nm.row) :: cin) (fun r cs => r = Tr.tup [] ∧ cs = Chunk.own ad cap 2 69 ((isort lt xs).map Nm.row) :: cin) := by
  have hi := fun d => pdq_nm (d := d) (ad := ad) (cap := cap) hlt hl hn hs
  have hb := bitsLen_fn n (by omega)
  unfold PFn at hb
  refine Spec.body Tryz.func73 rfl rfl (Tryz.ntmps73) rfl fun w0 own0 M => ?_
  repeat' (first | refine goH ?_ | (refine Ops.k_convert ?_; first | (refine Ops.convN Tryz.underlying3 Tryz.underlying112 rfl (wrap_u64 (by omega)) rfl ?_)) | refine goV ?_ | refine goI ?_ | (refine Cw.k_cond ?_; first | (refine Cw.cond_dec rfl (fun hc => ?_) (fun hc => ?_) <;> try (exfalso; omega)) | refine Cw.cond_bool rfl (fun hc => ?_) (fun hc => ?_)) | (refine Ops.k_calla ?_; first | (refine Ops.k_callf 84 ?_; (refine Ops.call hb (Evs.cons rfl Evs.nil) (by rw [List.nil_append]) rfl ?_; rintro r cs' ⟨rfl, v, rfl⟩; rw [List.nil_append])) | (refine Ops.call (cf := []) (hi _) (Evs.cons rfl (Evs.cons rfl (Evs.cons rfl (Evs.cons rfl (Evs.cons rfl Evs.nil))))) (by simp) rfl ?_; rintro r cs' ⟨rfl, rfl⟩)) | fail)
  first | exact Fin.norm (Ent.mkP goSub (by simp)) (Outs.zero rfl) ⟨rfl, rfl⟩ | exact Fin.ret (Ent.mkP goSub (by simp)) (Outs.zero rfl) ⟨rfl, rfl⟩

theorem nmLtR_fn (x y : Nm) : PFn Tryz.prog 90 [.agg x.row, .agg y.row] (· = .int (cmpS x.key y.key)) := by
  have k1 := compareS_fn x.key y.key
  unfold Nm.row
  refine PFn.mk (Spec.body Tryz.func90 rfl rfl (Tryz.ntmps90) rfl fun w0 own0 M => ?_)
  repeat' (first | refine goH ?_ | refine goV ?_ | refine goB (fun b => ?_) | refine goI ?_ | (refine Cw.k_cond ?_; first | (refine Cw.cond_dec rfl (fun hc => ?_) (fun hc => ?_) <;> try (exfalso; omega)) | refine Cw.cond_bool rfl (fun hc => ?_) (fun hc => ?_)) | (refine Ops.k_calla ?_; first | (refine Ops.k_callf 56 ?_; refine Ops.callV k1 (Evs.cons rfl (Evs.cons rfl Evs.nil)) rfl ?_)) | fail)
  exact Fin.ret (Ent.take goTk) (Outs.one rfl rfl) ⟨rfl, rfl⟩
theorem nmLt_c (a b : Nm) : nmLt a b = decide (cmpS a.key b.key < 0) := by
  unfold nmLt
  rw [Bool.eq_iff_iff, decide_eq_true_iff]
  exact (cmpS_lt _ _).symm
theorem sortedNamed_fn {n : Nat} {xs : List Nm} {ad : Option Addr} {cap : Nat} (hl : xs.length ≤ 12) (hn : n = xs.length) : Spec Tryz.prog 60 [Tr.raw (.slice ad n cap)] [Chunk.own ad cap 2 69 (xs.map Nm.row)] (fun r cs => r = Tr.raw (.slice ad n cap) ∧ cs = [Chunk.own ad cap 2 69 ((isort nmLt xs).map Nm.row)]) := by
  have k1 : ∀ (ad : Option Addr) (cap : Nat), Spec Tryz.prog 73 [Tr.raw (.slice ad n cap), Tr.raw (.func (.func 90) #[] #[])] [Chunk.own ad cap 2 69 (xs.map Nm.row)] (fun r cs => r = Tr.tup [] ∧ cs = [Chunk.own ad cap 2 69 ((isort nmLt xs).map Nm.row)]) := fun ad cap => sortFunc_nm (lt := nmLt) (cf := fun a b => cmpS a.key b.key) (caps := []) (cin := []) nmLt_c hl hn (fun a b _ _ => (nmLtR_fn a b).lend)
  refine Spec.body Tryz.func60 rfl rfl (Tryz.ntmps60) rfl fun w0 own0 M => ?_
  repeat' (first | refine goH ?_ | refine goV ?_ | refine goI ?_ | (refine Cw.k_cond ?_; first | (refine Cw.cond_dec rfl (fun hc => ?_) (fun hc => ?_) <;> try (exfalso; omega)) | refine Cw.cond_bool rfl (fun hc => ?_) (fun hc => ?_)) | (refine Ops.k_calla ?_; first | (refine Ops.k_callf 73 ?_; (refine Ops.call (k1 _ _) (Evs.cons rfl (Evs.cons rfl Evs.nil)) goPm rfl ?_; rintro r cs' ⟨rfl, rfl⟩))) | fail)
  exact Fin.ret (Ent.take goTk) (Outs.one rfl rfl) ⟨rfl, rfl⟩
end Lg
end
section
set_option linter.all false
set_option maxRecDepth 100000
set_option maxHeartbeats 8000000
namespace Lg
open Go Go.Proofs

/-! ### shares of partners, in plain terms -/
def nmE (l : List Nm) (k : Nat) : Int := match l[k]? with
  | none => 0
  | some x => if isKey x.key = false then 5 else if (l.take k).any (fun y => decide (y.key = x.key)) then 6 else 0
def nmsE (l : List Nm) : Int := firstE (nmE l) 0 l.length
def sortN (l : List Nm) : List Nm := isort nmLt l
def wtsN (l : List Nm) : List Int := (sortN l).map Nm.many
def tgtN (l : List Nm) (P : List Int) : List Int := l.map fun x => P.getD (idxFrom (fun y : Nm => decide (y.key = x.key)) (sortN l) 0).toNat 0
def shrT (t : Int) (l : List Nm) : Tr := if l.length > 50 then .tup [.sl 1 [], .int 2] else if nmsE l ≠ 0 then .tup [.sl 1 [], .int (nmsE l)] else if shE t (wtsN l) ≠ 0 then .tup [.sl 1 [], .int (shE t (wtsN l))] else .tup [.ints (tgtN l (shOf t (wtsN l))), .int 0]
theorem nms_nodup {l : List Nm} (h : nmsE l = 0) : (l.map Nm.key).Nodup := by
  unfold List.Nodup
  rw [List.pairwise_iff_getElem]
  intro i j hi hj hij e
  rw [List.length_map] at hi hj
  have h1 := firstE_zero h j (by omega) (by omega)
  unfold nmE at h1
  rw [List.getElem?_eq_getElem hj] at h1
  simp only at h1
  split at h1
  · omega
  · split at h1
    · omega
    · rename_i h2
      apply h2
      rw [List.any_eq_true]
      refine ⟨l[i], ?_, ?_⟩
      · rw [List.mem_take_iff_getElem]
        exact ⟨i, by omega, rfl⟩
      · simpa using e
theorem idx_uniq : ∀ {S : List Nm} {k : Nat} {x : Nm} {m : Int}, (S.map Nm.key).Nodup → S[k]? = some x → idxFrom (fun y : Nm => decide (y.key = x.key)) S m = m + k
  | [], k, x, m, _, h => by simp at h
  | y :: S, k, x, m, hn, h => by
    rw [List.map_cons, List.nodup_cons] at hn
    cases k with
    | zero =>
      simp at h
      subst h
      simp [idxFrom]
    | succ k =>
      simp only [List.getElem?_cons_succ] at h
      have hne : y.key ≠ x.key := fun e => hn.1 (e ▸ List.mem_map.2 ⟨x, List.mem_of_getElem? h, rfl⟩)
      simp only [idxFrom, decide_eq_false hne]
      have := idx_uniq (m := m + 1) hn.2 h
      simp only [Bool.false_eq_true, if_false]
      rw [this]
      omega
def keyAt (l : List Nm) (i : Int) : ByteArray := (l.getD i.toNat nm0).key
def ordN (l : List Nm) : List Int := isort (fun a b => strLt (keyAt l a) (keyAt l b)) (upto l.length)
theorem upto_map (l : List Nm) : (upto l.length).map (fun i => l.getD i.toNat nm0) = l := by
  refine List.ext_getElem? fun i => ?_
  rw [List.getElem?_map]
  by_cases h : i < l.length
  · rw [upto_at h]
    simp [h]
  · rw [List.getElem?_eq_none (by rw [upto_len]; omega), List.getElem?_eq_none (by omega)]
    rfl
theorem sort_ord (l : List Nm) : sortN l = (ordN l).map fun i => l.getD i.toNat nm0 := by
  have h := isort_map (lt := fun a b => strLt (keyAt l a) (keyAt l b)) (lt2 := nmLt) (f := fun i : Int => l.getD i.toNat nm0) (fun a b => rfl) (upto l.length)
  rw [upto_map] at h
  exact h
theorem ord_len (l : List Nm) : (ordN l).length = l.length := by unfold ordN; rw [isort_len, upto_len]
theorem ord_mem {l : List Nm} {x : Int} (h : x ∈ ordN l) : 0 ≤ x ∧ x < l.length := upto_mem ((isort_perm _ _).mem_iff.1 h)
theorem ord_nodup (l : List Nm) : (ordN l).Nodup := by
  refine (isort_perm _ (upto l.length)).nodup_iff.2 ?_
  unfold upto
  unfold List.Nodup
  rw [List.pairwise_map]
  exact List.Pairwise.imp (fun h e => h (by exact_mod_cast e)) List.nodup_range
def PutN (l : List Nm) (P : List Int) (k : Nat) (out : List Int) : Prop := ∀ (j : Nat) (i : Int), j < k → (ordN l)[j]? = some i → out[i.toNat]? = P[j]?
theorem PutN.step {l : List Nm} {P out : List Int} {k : Nat} {i v : Int} (h : PutN l P k out) (hi : (ordN l)[k]? = some i) (hv : P[k]? = some v) (ho : i.toNat < out.length) : PutN l P (k + 1) (out.set i.toNat v) := by
  intro j i2 hj hi2
  by_cases e : j = k
  · subst e
    rw [hi] at hi2
    cases hi2
    rw [List.getElem?_set_self ho, hv]
  · have hne : i.toNat ≠ i2.toNat := by
      intro e2
      have h1 := ord_mem (List.mem_of_getElem? hi)
      have h2 := ord_mem (List.mem_of_getElem? hi2)
      have e3 : i = i2 := by omega
      subst e3
      obtain ⟨a1, a2⟩ := List.getElem?_eq_some_iff.1 hi
      obtain ⟨b1, b2⟩ := List.getElem?_eq_some_iff.1 hi2
      exact e ((List.getElem_inj (ord_nodup l)).1 (b2.trans a2.symm))
    rw [List.getElem?_set_ne hne]
    exact h j i2 (by omega) hi2
theorem wts_at {l : List Nm} {k : Nat} {i : Int} {x : Nm} (h : (ordN l)[k]? = some i) (hx : l[i.toNat]? = some x) : (wtsN l)[k]? = some x.many := by
  unfold wtsN
  rw [sort_ord, List.map_map, List.getElem?_map, h]
  simp [List.getD_eq_getElem?_getD, hx]
theorem wts_len (l : List Nm) : (wtsN l).length = l.length := by unfold wtsN sortN; rw [List.length_map, isort_len]
theorem tgt_of {l : List Nm} {P out : List Int} (hn : (l.map Nm.key).Nodup) (hP : P.length = l.length) (ho : out.length = l.length) (h : ∀ (k : Nat) (i : Int), (ordN l)[k]? = some i → out[i.toNat]? = P[k]?) : out = tgtN l P := by
  refine List.ext_getElem? fun i => ?_
  unfold tgtN
  rw [List.getElem?_map]
  by_cases hi : i < l.length
  · have hm : (i : Int) ∈ ordN l := (isort_perm _ _).mem_iff.2 (List.mem_of_getElem? (upto_at hi))
    obtain ⟨k, hk, hke⟩ := List.getElem_of_mem hm
    have hk2 : (ordN l)[k]? = some (i : Int) := by rw [List.getElem?_eq_getElem hk, hke]
    have hkl : k < l.length := by rw [ord_len] at hk; exact hk
    have h1 := h k i hk2
    rw [Int.toNat_natCast] at h1
    have hS : (sortN l)[k]? = some l[i] := by
      rw [sort_ord, List.getElem?_map, hk2]
      simp [hi]
    have hSn : ((sortN l).map Nm.key).Nodup := ((isort_perm nmLt l).map Nm.key).nodup_iff.2 hn
    have h2 := idx_uniq (m := 0) hSn hS
    rw [h1, List.getElem?_eq_getElem hi, Option.map_some]
    rw [h2, Int.zero_add, Int.toNat_natCast, List.getD_eq_getElem?_getD, List.getElem?_eq_getElem (by omega)]
    rfl
  · rw [List.getElem?_eq_none (by omega), List.getElem?_eq_none (by omega)]
    rfl
end Lg
end
