/- A part of the proof of a law of this seat: it adds no condition. By an AI agent. -/
import Derived.Shelf.SlSortCmp.WholeK
import Derived.Test.YteooghfcfmmkkaaLgSort
import Derived.Test.YteooghfcfmmkkaaCo9
import Derived.Test.YteooghfcfmmkkaaShelf2
section
set_option linter.all false
set_option maxRecDepth 100000
set_option maxHeartbeats 4000000
namespace Lg
open Go Go.Proofs Go.Sort Go.Shelf

/-- a function of weaker arguments -/
theorem PFn.impA {P : Program} {f : FuncId} {ts ts' : List Tr} {R : Tr → Prop} (hi : ImpL ts ts') (h : PFn P f ts' R) : PFn P f ts R := by
  unfold PFn Spec at h ⊢
  exact ⟨h.1, fun M w vs hv => h.2 M w vs (hi.rdl hv)⟩
theorem Imp.agg2 {v1 v2 : Value} (h1 : v1.oneCell' = true) (h2 : v2.oneCell' = true) : Imp (Tr.raw (.agg [v1, v2].toArray)) (.agg [Tr.raw v1, Tr.raw v2]) := by
  intro w A v h
  have := rd_raw h
  subst this
  unfold Tr.agg
  refine ⟨[v1, v2], rfl, ?_⟩
  exact rdc_raw (vs := [v1, v2]) fun u hu => by
    rcases List.mem_cons.1 hu with rfl | hu
    · exact h1
    · rcases List.mem_cons.1 hu with rfl | hu
      · exact h2
      · cases hu
def cfD (a b : Dbt) : Int := orI [cmpI a.p b.p, cmpI a.v b.v]
theorem cfD_lt (a b : Dbt) : cfD a b < 0 ↔ a.lt b := by
  unfold cfD Dbt.lt
  rw [orI_cons, orI_cons]
  have h1 := cmpI_lt a.p b.p
  have h2 := cmpI_lt a.v b.v
  have h3 : cmpI a.p b.p = 0 ↔ a.p = b.p := by unfold cmpI; split <;> (try split) <;> omega
  split
  · rename_i h
    rw [h1]
    constructor
    · exact fun h => .inl h
    · rintro (h4 | ⟨h4, _⟩)
      · exact h4
      · exact absurd (h3.2 h4) h
  · rename_i h
    have h5 : a.p = b.p := h3.1 (by omega)
    split
    · rw [h2]
      constructor
      · exact fun h => .inr ⟨h5, h⟩
      · rintro (h4 | ⟨_, h4⟩)
        · omega
        · exact h4
    · rename_i h6
      have h7 : ¬ a.v < b.v := fun h => by have := h2.2 h; omega
      constructor
      · intro h; exact absurd h (by unfold orI; omega)
      · rintro (h4 | ⟨_, h4⟩)
        · omega
        · exact absurd h4 h7
theorem ltD_iff (a b : Dbt) : ltOf cfD a b = true ↔ a.lt b := by
  unfold ltOf
  rw [decide_eq_true_iff, cfD_lt]
theorem ltD_nf (a b : Dbt) : ltOf cfD a b = false ↔ ¬ a.lt b := by
  rw [← ltD_iff, Bool.not_eq_true]
theorem swo_D : SWO (ltOf cfD) := by
  refine ⟨fun x => ?_, fun x y z h1 h2 => ?_, fun x y z h1 h2 => ?_⟩
  · rw [ltD_nf]; exact x.lt_irrefl
  · rw [ltD_iff] at *; exact x.lt_trans y z h1 h2
  · rw [ltD_nf] at *
    unfold Dbt.lt at *
    omega
abbrev encD (d : Dbt) : List Value := [.int .i64 d.p, .int .i64 d.v]
theorem dofC_fn (a b : Dbt) : PFn Try.prog 40 [.agg a.row, .agg b.row] (· = .int (cfD a b)) := by
  have kp := compare_fn a.p b.p
  have kv := compare_fn a.v b.v
  have ko := cmpOrI_fn [cmpI a.p b.p, cmpI a.v b.v] (by simp)
  unfold cfD
  generalize orI [cmpI a.p b.p, cmpI a.v b.v] = o at *
  unfold Dbt.row
  generalize a.p = ap at *
  generalize a.v = av at *
  generalize b.p = bp at *
  generalize b.v = bv at *
  refine PFn.mk (Spec.body Try.func40 rfl rfl (Try.ntmps40) rfl fun w0 own0 M => ?_)
  repeat' (first | refine goH ?_ | refine goV ?_ | refine goB (fun b => ?_) | refine goI ?_ | (refine Cw.k_cond ?_; first | (refine Cw.cond_dec rfl (fun hc => ?_) (fun hc => ?_) <;> try (exfalso; omega)) | refine Cw.cond_bool rfl (fun hc => ?_) (fun hc => ?_)) | (refine Ops.k_calla ?_; first | (refine Ops.k_callf 42 ?_; refine Ops.callV kp (Evs.cons rfl (Evs.cons rfl Evs.nil)) rfl ?_) | (refine Ops.k_callf 42 ?_; refine Ops.callV kv (Evs.cons rfl (Evs.cons rfl Evs.nil)) rfl ?_) | (refine Ops.k_callf 41 ?_; refine Ops.callV ko (Evs.cons rfl Evs.nil) rfl ?_)) | (apply OpW.k_call; first | (apply OpW.k_callf 42; exact OpW.callV kp (Evs.cons rfl (Evs.cons rfl Evs.nil))) | (apply OpW.k_callf 42; exact OpW.callV kv (Evs.cons rfl (Evs.cons rfl Evs.nil))) | (apply OpW.k_callf 41; exact OpW.callV ko (Evs.cons rfl Evs.nil))) | refine goR ?_ | refine goP ?_ | apply PSeq.cons | apply PSeq.yes rfl rfl rfl | exact goW | fail)
  exact Fin.ret (Ent.take goTk) (Outs.one rfl rfl) ⟨rfl, rfl⟩
/-- insertion sort, of a slice of one's own, by a function that only reads -/
theorem insSort_dbt {n : Nat} {xs : List Dbt} {ad : Option Addr} {cap : Nat} {g : Nat} {caps : List Value} {cin : List Chunk} {lt : Dbt → Dbt → Bool} {cf : Dbt → Dbt → Int} (hlt : ∀ a b, lt a b = decide (cf a b < 0)) (hl : xs.length ≤ 1000000) (hn : n = xs.length)
    (hs : ∀ a b, a ∈ xs → b ∈ xs → Spec Try.prog g ([(fun x : Dbt => Tr.agg x.row) a, (fun x : Dbt => Tr.agg x.row) b] ++ caps.map Tr.raw) cin (fun r cs => r = Tr.int (cf a b) ∧ cs = cin)) :
    Spec Try.prog 58 [Tr.raw (.slice ad n cap), .int 0, .int n, Tr.raw (.func (.func g) #[] caps.toArray)] (Chunk.own ad cap 2 50 (xs.map Dbt.row) :: cin) (fun r cs => r = Tr.tup [] ∧ cs = Chunk.own ad cap 2 50 ((isort lt xs).map Dbt.row) :: cin) := by
  refine Spec.body Try.func58 rfl rfl (Try.ntmps58) rfl fun w0 own0 M => ?_
  repeat' (first | refine goH ?_ | refine goV ?_ | refine goG ?_ | (refine Ops.k_guard ?_; first | (refine Ops.guard_dec rfl rfl (fun hc => ?_) (fun hc => ?_) <;> try (exfalso; omega)) | refine Ops.guard_split rfl rfl (fun hc => ?_) (fun hc => ?_)) | refine goI ?_ | (refine Cw.k_cond ?_; first | (refine Cw.cond_dec rfl (fun hc => ?_) (fun hc => ?_) <;> try (exfalso; omega)) | refine Cw.cond_bool rfl (fun hc => ?_) (fun hc => ?_)) | refine goR ?_ | refine goP ?_ | apply PSeq.cons | apply PSeq.yes rfl rfl rfl | exact goW | fail)
  refine Cw.loopI [(0, _), (1, _), (2, _), (3, _)] cin (fun q e c => ∃ (i : Nat) (rows : List (List Tr)), q = n - i ∧ (1 ≤ i ∧ i ≤ max 1 n ∧ rows = (isort lt (xs.take i) ++ xs.drop i).map Dbt.row ∧ rows.length = n) ∧ e = [(8, .int i)] ∧ c = [Chunk.own ad cap 2 50 rows])
    ⟨_, _, _, (Ent.mkP goSub goPm), 1, xs.map Dbt.row, rfl, ⟨by omega, by omega, by rw [isort_take1, List.take_append_drop], by rw [List.length_map, hn]⟩, rfl, rfl⟩ ?_
  rintro _ _ _ ⟨i, rows, rfl, ⟨hi1, hi2, hrows, hrl⟩, rfl, rfl⟩
  by_cases hil : i < n
  · obtain ⟨x, hx⟩ : ∃ x, xs[i]? = some x := at_lt (by omega)
    obtain ⟨S, hS⟩ : ∃ S, S = isort lt (xs.take i) := ⟨_, rfl⟩
    have hSl : S.length = i := by rw [hS, isort_len, List.length_take]; omega
    have hSm : ∀ y ∈ S, y ∈ xs := fun y hy => List.mem_of_mem_take ((isort_perm lt (xs.take i)).mem_iff.1 (by rw [← hS]; exact hy))
    have hxm : x ∈ xs := List.mem_of_getElem? hx
    have hnext : isort lt (xs.take (i + 1)) = insB lt x S := by rw [take_at hx, isort_snoc, ← hS]
    rw [← hS, drop_at hx] at hrows
    repeat' (first | refine goH ?_ | refine goV ?_ | refine goG ?_ | (refine Ops.k_guard ?_; first | (refine Ops.guard_dec rfl rfl (fun hc => ?_) (fun hc => ?_) <;> try (exfalso; omega)) | refine Ops.guard_split rfl rfl (fun hc => ?_) (fun hc => ?_)) | refine goI ?_ | (refine Cw.k_cond ?_; first | (refine Cw.cond_dec rfl (fun hc => ?_) (fun hc => ?_) <;> try (exfalso; omega)) | refine Cw.cond_bool rfl (fun hc => ?_) (fun hc => ?_)) | refine goR ?_ | refine goP ?_ | apply PSeq.cons | apply PSeq.yes rfl rfl rfl | exact goW | fail)
    refine Cw.loopI [(0, _), (1, _), (2, _), (3, _), (8, _)] cin (fun q e c => ∃ (f m : List Dbt) (rows : List (List Tr)) (j : Nat), q = f.length ∧ (f.length = j ∧ S = f ++ m ∧ insB lt x S = insB lt x f ++ m ∧ rows = (f ++ x :: (m ++ xs.drop (i + 1))).map Dbt.row ∧ rows.length = n) ∧ e = [(9, .int j)] ∧ c = [Chunk.own ad cap 2 50 rows])
      ⟨_, _, _, (Ent.mkP goSub goPm), S, [], rows, i, rfl, ⟨hSl, by simp, by simp, by rw [hrows]; simp, hrl⟩, rfl, rfl⟩ ?_
    clear hrows hrl
    rintro _ _ _ ⟨f, m, rows, j, rfl, ⟨hj, hfm, hins, hrows, hrl⟩, rfl, rfl⟩
    have hfl : j ≤ i := by rw [← hSl, hfm, List.length_append]; omega
    have hx0 : rows[((j : Nat) : Int).toNat]? = some [.int x.p, .int x.v] := by rw [hrows]; exact rows_at (by simp [← hj])
    have fin : ∀ rows' : List (List Tr), rows' = (f ++ x :: (m ++ xs.drop (i + 1))).map Dbt.row → insB lt x f = f ++ [x] → rows' = (isort lt (xs.take (i + 1)) ++ xs.drop (i + 1)).map Dbt.row := by
      intro rows' h1 h2
      rw [h1, hnext, hins, h2]
      simp
    rcases List.eq_nil_or_concat f with rfl | ⟨f', y, rfl⟩
    · rw [List.length_nil] at hj
      subst hj
      have h0 := fin rows hrows (insB_nil lt x)
      repeat' (first | refine goH ?_ | refine goV ?_ | refine goG ?_ | (refine Ops.k_guard ?_; first | (refine Ops.guard_dec rfl rfl (fun hc => ?_) (fun hc => ?_) <;> try (exfalso; omega)) | refine Ops.guard_split rfl rfl (fun hc => ?_) (fun hc => ?_)) | refine goI ?_ | (refine Cw.k_cond ?_; first | (refine Cw.cond_dec rfl (fun hc => ?_) (fun hc => ?_) <;> try (exfalso; omega)) | refine Cw.cond_bool rfl (fun hc => ?_) (fun hc => ?_)) | refine goR ?_ | refine goP ?_ | apply PSeq.cons | apply PSeq.yes rfl rfl rfl | exact goW | fail)
      exact ⟨_, _, _, (Ent.mkP goSub goPm), ⟨i + 1, rows, rfl, ⟨by omega, by omega, h0, hrl⟩, rfl, rfl⟩, by omega⟩
    · rw [List.concat_eq_append] at *
      have hym : y ∈ xs := hSm y (by rw [hfm]; simp)
      have hspec := hs x y hxm hym
      have hjl : (f' ++ [y]).length = f'.length + 1 := by simp
      rw [hjl] at hj
      subst hj
      have hy0 : rows[(((f'.length + 1 : Nat) : Int) - 1).toNat]? = some [.int y.p, .int y.v] := by
        rw [hrows, show (((f'.length + 1 : Nat) : Int) - 1).toNat = f'.length by omega]
        exact rows_at (by simp)
      cases hc0 : lt x y
      · have hcf : ¬ cf x y < 0 := by rw [hlt] at hc0; simpa using hc0
        have h0 := fin rows hrows (insB_ge lt hc0)
        repeat' (first | refine goH ?_ | refine goV ?_ | refine goG ?_ | (refine Ops.k_guard ?_; first | (refine Ops.guard_dec rfl rfl (fun hc => ?_) (fun hc => ?_) <;> try (exfalso; omega)) | refine Ops.guard_split rfl rfl (fun hc => ?_) (fun hc => ?_)) | refine goI ?_ | (refine Cw.k_cond ?_; first | (refine Cw.cond_dec rfl (fun hc => ?_) (fun hc => ?_) <;> try (exfalso; omega)) | refine Cw.cond_bool rfl (fun hc => ?_) (fun hc => ?_)) | exact OpW.callS_fn rfl hspec (Evs.cons rfl (Evs.cons rfl Evs.nil)) List.perm_append_comm | refine goR ?_ | refine goP ?_ | apply PSeq.cons | apply PSeq.yes rfl rfl rfl | exact goW | fail)
        exact ⟨_, _, _, (Ent.mkP goSub goPm), ⟨i + 1, rows, rfl, ⟨by omega, by omega, h0, hrl⟩, rfl, rfl⟩, by omega⟩
      · have hcf : cf x y < 0 := by rw [hlt] at hc0; simpa using hc0
        have hset : (rows.set ((f'.length + 1 : Nat) : Int).toNat [.int y.p, .int y.v])[(((f'.length + 1 : Nat) : Int) - 1).toNat]? = some [.int y.p, .int y.v] := by
          rw [List.getElem?_set_ne (by omega)]
          exact hy0
        have hlen2 : (rows.set ((f'.length + 1 : Nat) : Int).toNat [.int y.p, .int y.v]).length = n := by rw [List.length_set]; exact hrl
        have hres : (rows.set ((f'.length + 1 : Nat) : Int).toNat [.int y.p, .int y.v]).set (((f'.length + 1 : Nat) : Int) - 1).toNat [.int x.p, .int x.v] = (f' ++ x :: (y :: m ++ xs.drop (i + 1))).map Dbt.row := by
          rw [hrows, show (((f'.length + 1 : Nat) : Int) - 1).toNat = f'.length by omega, show ((f'.length + 1 : Nat) : Int).toNat = f'.length + 1 by omega]
          simp [List.set_append]
          all_goals (try exact ⟨rfl, rfl⟩)
        have hm : S = f' ++ (y :: m) := by rw [hfm]; simp
        have hins2 : insB lt x S = insB lt x f' ++ (y :: m) := by rw [hins, insB_lt lt hc0]; simp
        clear fin hnext hS hSl hSm hfm hins hrows
        repeat' (first | refine goH ?_ | refine goV ?_ | refine goG ?_ | (refine Ops.k_guard ?_; first | (refine Ops.guard_dec rfl rfl (fun hc => ?_) (fun hc => ?_) <;> try (exfalso; omega)) | refine Ops.guard_split rfl rfl (fun hc => ?_) (fun hc => ?_)) | refine goI ?_ | (refine Cw.k_cond ?_; first | (refine Cw.cond_dec rfl (fun hc => ?_) (fun hc => ?_) <;> try (exfalso; omega)) | refine Cw.cond_bool rfl (fun hc => ?_) (fun hc => ?_)) | exact OpW.callS_fn rfl hspec (Evs.cons rfl (Evs.cons rfl Evs.nil)) List.perm_append_comm | refine goR ?_ | refine goP ?_ | apply PSeq.cons | apply PSeq.yes rfl rfl rfl | exact goW | fail)
        refine Cw.region_seqF (m := 15) [2, 3, 4] rfl (by decide +kernel) rfl (fun a w d => ?_) ?_
        · have h9 := rd_raw (d.env 9 _ rfl)
          have hs : a.tmps.size = 53 := d.tmps
          have h9' : a.tmps[9]'(by omega) = .int .i64 ((f'.length + 1 : Nat) : Int) := by simpa [hs] using h9
          exact FlRun.move rfl rfl rfl rfl (FlRun.move rfl rfl rfl rfl (FlRun.sub1 (p := ((f'.length + 1 : Nat) : Int)) rfl rfl rfl rfl (by simp [Act.put, Act.eval, hs, h9']) FlRun.nil))
        repeat' (first | refine goH ?_ | refine goV ?_ | refine goG ?_ | (refine Ops.k_guard ?_; first | (refine Ops.guard_dec rfl rfl (fun hc => ?_) (fun hc => ?_) <;> try (exfalso; omega)) | refine Ops.guard_split rfl rfl (fun hc => ?_) (fun hc => ?_)) | refine goI ?_ | (refine Cw.k_cond ?_; first | (refine Cw.cond_dec rfl (fun hc => ?_) (fun hc => ?_) <;> try (exfalso; omega)) | refine Cw.cond_bool rfl (fun hc => ?_) (fun hc => ?_)) | refine NoP.norm ?_ | refine goR ?_ | refine goP ?_ | apply PSeq.cons | apply PSeq.yes rfl rfl rfl | exact goW | fail)
        refine ⟨_, _, _, ?_, ⟨f', y :: m, _, f'.length, rfl, ⟨rfl, hm, hins2, hres, by rw [List.length_set]; exact hlen2⟩, rfl, rfl⟩, by simp⟩
        rw [show ((f'.length + 1 : Nat) : Int) - 1 = (f'.length : Int) by omega]
        exact (Ent.mkP goSub goPm)
  · have hin : xs.take i = xs := List.take_of_length_le (by omega)
    rw [hin, List.drop_eq_nil_of_le (by omega), List.append_nil] at hrows
    subst hrows
    repeat' (first | refine goH ?_ | refine goV ?_ | refine goG ?_ | (refine Ops.k_guard ?_; first | (refine Ops.guard_dec rfl rfl (fun hc => ?_) (fun hc => ?_) <;> try (exfalso; omega)) | refine Ops.guard_split rfl rfl (fun hc => ?_) (fun hc => ?_)) | refine goI ?_ | (refine Cw.k_cond ?_; first | (refine Cw.cond_dec rfl (fun hc => ?_) (fun hc => ?_) <;> try (exfalso; omega)) | refine Cw.cond_bool rfl (fun hc => ?_) (fun hc => ?_)) | refine goR ?_ | refine goP ?_ | apply PSeq.cons | apply PSeq.yes rfl rfl rfl | exact goW | fail)
    exact Fin.norm (Ent.mkP goSub goPm) (Outs.zero rfl) ⟨rfl, rfl⟩

/-- slices.SortFunc on at most 12 elements -/
theorem pdq_dbt {n : Nat} {d : Int} {xs : List Dbt} {ad : Option Addr} {cap : Nat} {g : Nat} {caps : List Value} {cin : List Chunk} {lt : Dbt → Dbt → Bool} {cf : Dbt → Dbt → Int} (hlt : ∀ a b, lt a b = decide (cf a b < 0)) (hl : xs.length ≤ 12) (hn : n = xs.length)
    (hs : ∀ a b, a ∈ xs → b ∈ xs → Spec Try.prog g ([(fun x : Dbt => Tr.agg x.row) a, (fun x : Dbt => Tr.agg x.row) b] ++ caps.map Tr.raw) cin (fun r cs => r = Tr.int (cf a b) ∧ cs = cin)) :
    Spec Try.prog 52 [Tr.raw (.slice ad n cap), .int 0, .int n, .int d, Tr.raw (.func (.func g) #[] caps.toArray)] (Chunk.own ad cap 2 50 (xs.map Dbt.row) :: cin) (fun r cs => r = Tr.tup [] ∧ cs = Chunk.own ad cap 2 50 ((isort lt xs).map Dbt.row) :: cin) := by
  have hi := insSort_dbt (ad := ad) (cap := cap) hlt (show xs.length ≤ 1000000 by omega) hn hs
  refine Spec.body Try.func52 rfl rfl (Try.ntmps52) rfl fun w0 own0 M => ?_
  repeat' (first | refine goH ?_ | refine goV ?_ | refine goG ?_ | (refine Ops.k_guard ?_; first | (refine Ops.guard_dec rfl rfl (fun hc => ?_) (fun hc => ?_) <;> try (exfalso; omega)) | refine Ops.guard_split rfl rfl (fun hc => ?_) (fun hc => ?_)) | refine goI ?_ | (refine Cw.k_cond ?_; first | (refine Cw.cond_dec rfl (fun hc => ?_) (fun hc => ?_) <;> try (exfalso; omega)) | refine Cw.cond_bool rfl (fun hc => ?_) (fun hc => ?_)) | refine goR ?_ | refine goP ?_ | apply PSeq.cons | apply PSeq.yes rfl rfl rfl | exact goW | fail)
  refine Cw.loopI [(0, _), (4, _)] _ (fun q e c => q = 0 ∧ e = [(1, .int 0), (2, .int n), (3, .int d), (10, .bool true), (11, .bool true)] ∧ c = []) ⟨_, _, _, (Ent.mkP goSub goPm), rfl, rfl, rfl⟩ ?_
  rintro _ _ _ ⟨rfl, rfl, rfl⟩
  repeat' (first | refine goH ?_ | refine goV ?_ | refine goG ?_ | (refine Ops.k_guard ?_; first | (refine Ops.guard_dec rfl rfl (fun hc => ?_) (fun hc => ?_) <;> try (exfalso; omega)) | refine Ops.guard_split rfl rfl (fun hc => ?_) (fun hc => ?_)) | refine goI ?_ | (refine Cw.k_cond ?_; first | (refine Cw.cond_dec rfl (fun hc => ?_) (fun hc => ?_) <;> try (exfalso; omega)) | refine Cw.cond_bool rfl (fun hc => ?_) (fun hc => ?_)) | (refine Ops.k_calla ?_; first | (refine Ops.call (cf := []) hi (Evs.cons rfl (Evs.cons rfl (Evs.cons rfl (Evs.cons rfl Evs.nil)))) (by simp) rfl ?_; rintro r cs' ⟨rfl, rfl⟩)) | refine goR ?_ | refine goP ?_ | apply PSeq.cons | apply PSeq.yes rfl rfl rfl | exact goW | fail)
  first | exact Fin.norm (Ent.mkP goSub (by simp)) (Outs.zero rfl) ⟨rfl, rfl⟩ | exact Fin.ret (Ent.mkP goSub (by simp)) (Outs.zero rfl) ⟨rfl, rfl⟩
theorem sortFunc_dbt {n : Nat} {xs : List Dbt} {ad : Option Addr} {cap : Nat} {g : Nat} {caps : List Value} {cin : List Chunk} {lt : Dbt → Dbt → Bool} {cf : Dbt → Dbt → Int} (hlt : ∀ a b, lt a b = decide (cf a b < 0)) (hl : xs.length ≤ 12) (hn : n = xs.length)
    (hs : ∀ a b, a ∈ xs → b ∈ xs → Spec Try.prog g ([(fun x : Dbt => Tr.agg x.row) a, (fun x : Dbt => Tr.agg x.row) b] ++ caps.map Tr.raw) cin (fun r cs => r = Tr.int (cf a b) ∧ cs = cin)) :
    Spec Try.prog 39 [Tr.raw (.slice ad n cap), Tr.raw (.func (.func g) #[] caps.toArray)] (Chunk.own ad cap 2 50 (xs.map Dbt.row) :: cin) (fun r cs => r = Tr.tup [] ∧ cs = Chunk.own ad cap 2 50 ((isort lt xs).map Dbt.row) :: cin) := by
  have hi := fun d => pdq_dbt (d := d) (ad := ad) (cap := cap) hlt hl hn hs
  have hb := bitsLen_fn n (by omega)
  unfold PFn at hb
  refine Spec.body Try.func39 rfl rfl (Try.ntmps39) rfl fun w0 own0 M => ?_
  repeat' (first | refine goH ?_ | (refine Ops.k_convert ?_; first | (refine Ops.convN Try.underlying3 Try.underlying82 rfl (wrap_u64 (by omega)) rfl ?_)) | refine goV ?_ | refine goI ?_ | (refine Cw.k_cond ?_; first | (refine Cw.cond_dec rfl (fun hc => ?_) (fun hc => ?_) <;> try (exfalso; omega)) | refine Cw.cond_bool rfl (fun hc => ?_) (fun hc => ?_)) | (refine Ops.k_calla ?_; first | (refine Ops.k_callf 53 ?_; (refine Ops.call hb (Evs.cons rfl Evs.nil) (by rw [List.nil_append]) rfl ?_; rintro r cs' ⟨rfl, v, rfl⟩; rw [List.nil_append])) | (refine Ops.call (cf := []) (hi _) (Evs.cons rfl (Evs.cons rfl (Evs.cons rfl (Evs.cons rfl (Evs.cons rfl Evs.nil))))) (by simp) rfl ?_; rintro r cs' ⟨rfl, rfl⟩)) | fail)
  first | exact Fin.norm (Ent.mkP goSub (by simp)) (Outs.zero rfl) ⟨rfl, rfl⟩ | exact Fin.ret (Ent.mkP goSub (by simp)) (Outs.zero rfl) ⟨rfl, rfl⟩

instance : Inhabited Dbt := ⟨⟨0, 0⟩⟩
theorem sortD_fn (us : List Dbt) (hu : us.length ≤ 1000000) (ad : Option Addr) (cap : Nat) : Spec Try.prog 39 [Tr.raw (.slice ad us.length cap), Tr.raw (.func (.func 40) #[] #[])] [Chunk.own ad cap 2 50 (us.map Dbt.row)]
    (fun r cs => ∃ ys : List Dbt, r = Tr.tup [] ∧ cs = [Chunk.own ad cap 2 50 (ys.map Dbt.row)] ∧ ys.Perm us ∧ ys.Pairwise fun x y => ¬ y.lt x) := by
  by_cases h0 : us = []
  · subst h0
    have h := sortFunc_dbt (ad := ad) (cap := cap) (n := 0) (xs := []) (g := 40) (caps := []) (cin := []) (lt := ltOf cfD) (cf := cfD) (fun a b => by unfold ltOf; rfl) (by simp) rfl (fun a b ha hb => by cases ha)
    refine Spec.mono h ?_
    rintro r cs ⟨rfl, rfl⟩
    exact ⟨[], rfl, rfl, List.Perm.refl _, List.Pairwise.nil⟩
  · have hp : 1 ≤ us.length := by
      cases us with
      | nil => exact absurd rfl h0
      | cons a rest => simp
    have h := sortFuncK Try.sortDbt (k := 2) (by omega) Try.isAgg50 Try.sizeOf50 encD (fun _ => rfl) (fun x v hv => by
      rcases List.mem_cons.1 hv with rfl | hv
      · rfl
      · rcases List.mem_cons.1 hv with rfl | hv
        · rfl
        · cases hv) cfD swo_D (g := 40) (bx := []) (fun x y => (dofC_fn x y).impA (.cons (Imp.agg2 rfl rfl) (.cons (Imp.agg2 rfl rfl) .nil))) (ad := ad) (cap := cap) (E := 50) (xs := us) (n := us.length) rfl hp (by omega)
    refine Spec.mono h ?_
    rintro r cs ⟨ys, rfl, rfl, hperm, hsort⟩
    exact ⟨ys, rfl, rfl, hperm, hsort.imp fun h => (ltD_nf _ _).1 h⟩
end Lg
end
section
set_option linter.all false
set_option maxRecDepth 100000
set_option maxHeartbeats 8000000
namespace Lg
open Go Go.Proofs

theorem srt_sorted (l : List Int) : (srt l).Pairwise (· ≤ ·) := isort_key_sorted (fun x : Int => x) l
theorem doubtsOf_fn (l : List Tube) (ho : TbOk l) (p t : List Int) (hp : p.length ≤ 12) (ht : t.length ≤ 12) (h1 : doubt1 p t = 0) : PFn Try.prog 18 [.tubes l, .ints p, .ints t] (· = .dbts (prs (canK l l.length) (dd (srt p)) (dd (srt t)))) := by
  have hP := intRows_len p
  have hT := intRows_len t
  obtain ⟨hp1, ht1, c1, c2⟩ := doubt1_ok h1
  have mp := odB_bd c1
  have mt := odB_bd c2
  have k5 := payable_fn l ho 20000 (by omega)
  have hfin : ∀ {L : List Dbt}, L.Perm (prs (canK l l.length) p t) → (L.Pairwise fun a b => ¬ b.lt a) → dd L = prs (canK l l.length) (dd (srt p)) (dd (srt t)) := fun hp ht => (doubts_eq (isort_perm _ p) (isort_perm _ t) (srt_sorted p) (srt_sorted t) hp ht).symm
  generalize prs (canK l l.length) (dd (srt p)) (dd (srt t)) = res at *
  generalize hcan : canK l l.length = can at *
  clear hcan c1 c2 h1 hp1 ht1
  refine PFn.mk (Spec.body Try.func18 rfl rfl (Try.ntmps18) rfl fun w0 own0 M => ?_)
  repeat' (first | refine goH ?_ | refine goV ?_ | refine goC (fun ad cap => ?_) | refine goG ?_ | (refine Ops.k_guard ?_; first | (refine Ops.guard_dec rfl rfl (fun hc => ?_) (fun hc => ?_) <;> try (exfalso; omega)) | refine Ops.guard_split rfl rfl (fun hc => ?_) (fun hc => ?_)) | refine goI ?_ | (refine Cw.k_cond ?_; first | (refine Cw.cond_dec rfl (fun hc => ?_) (fun hc => ?_) <;> try (exfalso; omega)) | refine Cw.cond_bool rfl (fun hc => ?_) (fun hc => ?_)) | (refine Ops.k_calla ?_; first | (refine Ops.k_callf 38 ?_; refine Ops.callV k5 (Evs.cons rfl (Evs.cons rfl Evs.nil)) rfl ?_)) | fail)
  refine Cw.ent (Ent.nil 2 50) ?_
  refine Cw.loopI [(2, _), (7, _), (15, _), (16, _)] _ (fun q e cc => ∃ (k n : Nat) (ad : Option Addr) (cap : Nat) (rows : List (List Tr)), q = p.length - k ∧ (k ≤ p.length ∧ rows = (prs can (p.take k) t).map Dbt.row ∧ n = rows.length) ∧ e = [(8, .raw (.slice ad n cap)), (17, .int k)] ∧ cc = [Chunk.own ad cap 2 50 rows]) ⟨_, _, _, (Ent.mkP goSub goPm), 0, 0, none, 0, [], rfl, ⟨by omega, rfl, rfl⟩, rfl, rfl⟩ ?_
  rintro _ _ _ ⟨k, n, ad3, cap3, rows, rfl, ⟨hk, hrows, hn⟩, rfl, rfl⟩
  by_cases hkl : k < p.length
  rotate_left
  · have hke : k = p.length := by omega
    subst hke
    rw [List.take_length] at hrows
    have hle : (prs can p t).length ≤ 144 := by
      have := prs_len (can := can) p t
      have x3 : p.length * t.length ≤ 12 * 12 := Nat.mul_le_mul hp ht
      omega
    generalize prs can p t = us at *
    have hn2 : n = us.length := by rw [hn, hrows, List.length_map]
    clear hn
    subst hrows hn2
    have hs := sortD_fn us (by omega) ad3 cap3
    have hcp := fun (ys : List Dbt) (hy : us.length = ys.length) => compact_dbt (ad := ad3) (cap := cap3) ys hy (by omega)
    repeat' (first | refine goH ?_ | refine goV ?_ | refine goC (fun ad cap => ?_) | refine goG ?_ | (refine Ops.k_guard ?_; first | (refine Ops.guard_dec rfl rfl (fun hc => ?_) (fun hc => ?_) <;> try (exfalso; omega)) | refine Ops.guard_split rfl rfl (fun hc => ?_) (fun hc => ?_)) | refine goI ?_ | (refine Cw.k_cond ?_; first | (refine Cw.cond_dec rfl (fun hc => ?_) (fun hc => ?_) <;> try (exfalso; omega)) | refine Cw.cond_bool rfl (fun hc => ?_) (fun hc => ?_)) | (refine Ops.k_calla ?_; first | (refine Ops.k_callf 39 ?_; (refine Ops.call hs (Evs.cons rfl (Evs.cons rfl Evs.nil)) goPm rfl ?_; rintro r cs' ⟨ys, rfl, rfl, hperm, hsort⟩)) | (refine Ops.call (hcp _ hperm.length_eq.symm) (Evs.cons rfl Evs.nil) goPm rfl ?_; rintro r cs' ⟨np, hnp, rfl, rfl⟩)) | fail)
    rw [hfin hperm hsort] at *
    rw [← List.length_map (f := Dbt.row)] at hnp
    subst hnp
    refine Fin.ret (Ent.trans (Ent.settle (s := 6) rfl goPk rfl) (Ent.take goTk)) (Outs.sole rfl goOe) ⟨rfl, rfl⟩
  obtain ⟨p0, hp0⟩ := at_lt (l := p) (k := k) hkl
  have rp : (intRows p)[k]? = some [Tr.int p0] := intRows_at hp0
  have hpb := mp p0 (List.mem_of_getElem? hp0)
  have hnx := prs_snoc (can := can) (T := t) hp0
  clear hp0
  repeat' (first | refine goH ?_ | refine goV ?_ | refine goC (fun ad cap => ?_) | refine goG ?_ | (refine Ops.k_guard ?_; first | (refine Ops.guard_dec rfl rfl (fun hc => ?_) (fun hc => ?_) <;> try (exfalso; omega)) | refine Ops.guard_split rfl rfl (fun hc => ?_) (fun hc => ?_)) | refine goI ?_ | (refine Cw.k_cond ?_; first | (refine Cw.cond_dec rfl (fun hc => ?_) (fun hc => ?_) <;> try (exfalso; omega)) | refine Cw.cond_bool rfl (fun hc => ?_) (fun hc => ?_)) | fail)
  refine Cw.loopI [(7, _), (10, _), (17, _), (21, _), (22, _), (15, _), (16, _), (2, _)] _ (fun q e cc => ∃ (j n : Nat) (ad : Option Addr) (cap : Nat) (rows : List (List Tr)), q = t.length - j ∧ (j ≤ t.length ∧ rows = (prs can (p.take k) t ++ prsI can p0 (t.take j)).map Dbt.row ∧ n = rows.length) ∧ e = [(8, .raw (.slice ad n cap)), (23, .int j)] ∧ cc = [Chunk.own ad cap 2 50 rows]) ⟨_, _, _, (Ent.mkP goSub goPm), 0, n, ad3, cap3, rows, rfl, ⟨by omega, by rw [hrows]; simp [prsI], hn⟩, rfl, rfl⟩ ?_
  clear hrows hn
  rintro _ _ _ ⟨j, n, ad3, cap3, rows, rfl, ⟨hj, hrows, hn⟩, rfl, rfl⟩
  have hgl : (gb can (20000 + 1)).length = 20001 := by simp
  by_cases hjl : j < t.length
  rotate_left
  · have hje : j = t.length := by omega
    subst hje
    rw [List.take_length] at hrows
    repeat' (first | refine goH ?_ | refine goV ?_ | refine goC (fun ad cap => ?_) | refine goG ?_ | (refine Ops.k_guard ?_; first | (refine Ops.guard_dec rfl rfl (fun hc => ?_) (fun hc => ?_) <;> try (exfalso; omega)) | refine Ops.guard_split rfl rfl (fun hc => ?_) (fun hc => ?_)) | refine goI ?_ | (refine Cw.k_cond ?_; first | (refine Cw.cond_dec rfl (fun hc => ?_) (fun hc => ?_) <;> try (exfalso; omega)) | refine Cw.cond_bool rfl (fun hc => ?_) (fun hc => ?_)) | fail)
    exact ⟨_, _, _, (Ent.mk goSub goTk), ⟨k + 1, n, _, _, rows, rfl, ⟨by omega, by rw [hrows, hnx]; rfl, hn⟩, rfl, rfl⟩, by omega⟩
  obtain ⟨v, hv⟩ := at_lt (l := t) (k := j) hjl
  have rv : (intRows t)[j]? = some [Tr.int v] := intRows_at hv
  have hvb := mt v (List.mem_of_getElem? hv)
  by_cases c1 : p0 < v
  rotate_left
  · have hno := prsI_no (can := can) hv (show isD can p0 v = false by unfold isD; rw [decide_eq_false c1]; rfl)
    clear hv
    repeat' (first | refine goH ?_ | refine goV ?_ | refine goC (fun ad cap => ?_) | refine goG ?_ | (refine Ops.k_guard ?_; first | (refine Ops.guard_dec rfl rfl (fun hc => ?_) (fun hc => ?_) <;> try (exfalso; omega)) | refine Ops.guard_split rfl rfl (fun hc => ?_) (fun hc => ?_)) | refine goI ?_ | (refine Cw.k_cond ?_; first | (refine Cw.cond_dec rfl (fun hc => ?_) (fun hc => ?_) <;> try (exfalso; omega)) | refine Cw.cond_bool rfl (fun hc => ?_) (fun hc => ?_)) | fail)
    exact ⟨_, _, _, (Ent.mk goSub goTk), ⟨j + 1, n, _, _, rows, rfl, ⟨by omega, by rw [hrows, hno], hn⟩, rfl, rfl⟩, by omega⟩
  have rg : (gb can (20000 + 1))[(v - p0).toNat]? = some [Tr.bool (can (v - p0).toNat)] := gb_get (by omega)
  cases c2 : can (v - p0).toNat
  · have hyes := prsI_yes (can := can) hv (show isD can p0 v = true by unfold isD; rw [decide_eq_true c1, c2]; rfl)
    rw [c2] at rg
    clear hv
    have hbd : rows.length ≤ 200 := by
      have x1 := prs_len (can := can) (p.take k) t
      have x2 : (prsI can p0 (t.take j)).length ≤ t.length := by
        unfold prsI
        rw [List.length_map]
        have := List.length_filter_le (isD can p0) (t.take j)
        rw [List.length_take] at this
        omega
      have x3 : (p.take k).length * t.length ≤ 12 * 12 := Nat.mul_le_mul (by rw [List.length_take]; omega) ht
      rw [hrows, List.length_map, List.length_append]
      omega
    have hn2 : (rows ++ [[Tr.int p0, Tr.int v]]).length = n + 1 := by rw [List.length_append, ← hn]; rfl
    have hr2 : rows ++ [[Tr.int p0, Tr.int v]] = (prs can (p.take k) t ++ prsI can p0 (t.take (j + 1))).map Dbt.row := by rw [hrows, hyes, ← List.append_assoc]; simp
    repeat' (first | refine goH ?_ | refine goV ?_ | refine goC (fun ad cap => ?_) | refine goG ?_ | (refine Ops.k_guard ?_; first | (refine Ops.guard_dec rfl rfl (fun hc => ?_) (fun hc => ?_) <;> try (exfalso; omega)) | refine Ops.guard_split rfl rfl (fun hc => ?_) (fun hc => ?_)) | refine goI ?_ | (refine Cw.k_cond ?_; first | (refine Cw.cond_dec rfl (fun hc => ?_) (fun hc => ?_) <;> try (exfalso; omega)) | refine Cw.cond_bool rfl (fun hc => ?_) (fun hc => ?_)) | fail)
    exact ⟨_, _, _, (Ent.mk goSub goTk), ⟨j + 1, _, _, _, _, rfl, ⟨by omega, hr2, rfl⟩, rfl, rfl⟩, by omega⟩
  · have hno := prsI_no (can := can) hv (show isD can p0 v = false by unfold isD; rw [c2]; simp)
    rw [c2] at rg
    clear hv
    repeat' (first | refine goH ?_ | refine goV ?_ | refine goC (fun ad cap => ?_) | refine goG ?_ | (refine Ops.k_guard ?_; first | (refine Ops.guard_dec rfl rfl (fun hc => ?_) (fun hc => ?_) <;> try (exfalso; omega)) | refine Ops.guard_split rfl rfl (fun hc => ?_) (fun hc => ?_)) | refine goI ?_ | (refine Cw.k_cond ?_; first | (refine Cw.cond_dec rfl (fun hc => ?_) (fun hc => ?_) <;> try (exfalso; omega)) | refine Cw.cond_bool rfl (fun hc => ?_) (fun hc => ?_)) | fail)
    exact ⟨_, _, _, (Ent.mk goSub goTk), ⟨j + 1, n, _, _, rows, rfl, ⟨by omega, by rw [hrows, hno], hn⟩, rfl, rfl⟩, by omega⟩
end Lg
end
