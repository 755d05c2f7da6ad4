/- A part of the proof of a law of this seat: it adds no condition. By an AI agent. -/
import Derived.Shelf.SlSortCmp.WholeK
import Derived.Test.YtmncgklajohcbaaGreatDoorLgSort2
import Derived.Test.YtmncgklajohcbaaGreatDoorBitsLen
set_option linter.all false
set_option maxRecDepth 100000
set_option maxHeartbeats 8000000
namespace Lg
open Go Go.Proofs Go.Sort Go.Shelf

/-! ### windows sorted and joined -/
theorem Imp.aggV {vs : List Value} (h : ∀ v ∈ vs, v.oneCell' = true) : Imp (Tr.raw (.agg vs.toArray)) (.agg (vs.map Tr.raw)) := by
  intro w A v hv
  have := rd_raw hv
  subst this
  unfold Tr.agg
  exact ⟨vs, rfl, rdc_raw h⟩
theorem PFn.impA {P : Program} {f : FuncId} {ts ts' : List Tr} {R : Tr → Prop} (hi : ImpL ts ts') (h : PFn P f ts' R) : PFn P f ts R := by
  unfold PFn Spec at h ⊢
  exact ⟨h.1, fun M w vs hv => h.2 M w vs (hi.rdl hv)⟩
/-- insertion sort, of a slice of one's own, by a function that only reads -/
theorem insSort_wn {n : Nat} {xs : List Wn} {ad : Option Addr} {cap : Nat} {g : Nat} {caps : List Value} {cin : List Chunk} {lt : Wn → Wn → Bool} {cf : Wn → Wn → Int} (hlt : ∀ a b, lt a b = decide (cf a b < 0)) (hl : xs.length ≤ 1000000) (hn : n = xs.length)
    (hs : ∀ a b, a ∈ xs → b ∈ xs → Spec Tryz.prog g ([(fun x : Wn => Tr.agg x.row) a, (fun x : Wn => Tr.agg x.row) b] ++ caps.map Tr.raw) cin (fun r cs => r = Tr.int (cf a b) ∧ cs = cin)) :
    Spec Tryz.prog 100 [Tr.raw (.slice ad n cap), .int 0, .int n, Tr.raw (.func (.func g) #[] caps.toArray)] (Chunk.own ad cap 2 32 (xs.map Wn.row) :: cin) (fun r cs => r = Tr.tup [] ∧ cs = Chunk.own ad cap 2 32 ((isort lt xs).map Wn.row) :: cin) := by
  refine Spec.body Tryz.func100 rfl rfl (Tryz.ntmps100) rfl fun w0 own0 M => ?_
  repeat' (first | refine goH ?_ | refine goV ?_ | refine goG ?_ | (refine Ops.k_guard ?_; first | (refine Ops.guard_dec rfl rfl (fun hc => ?_) (fun hc => ?_) <;> try (exfalso; omega)) | refine Ops.guard_split rfl rfl (fun hc => ?_) (fun hc => ?_)) | refine goI ?_ | (refine Cw.k_cond ?_; first | (refine Cw.cond_dec rfl (fun hc => ?_) (fun hc => ?_) <;> try (exfalso; omega)) | refine Cw.cond_bool rfl (fun hc => ?_) (fun hc => ?_)) | refine goR ?_ | refine goP ?_ | apply PSeq.cons | apply PSeq.yes rfl rfl rfl | exact goW | fail)
  refine Cw.loopI [(0, _), (1, _), (2, _), (3, _)] cin (fun q e c => ∃ (i : Nat) (rows : List (List Tr)), q = n - i ∧ (1 ≤ i ∧ i ≤ max 1 n ∧ rows = (isort lt (xs.take i) ++ xs.drop i).map Wn.row ∧ rows.length = n) ∧ e = [(8, .int i)] ∧ c = [Chunk.own ad cap 2 32 rows])
    ⟨_, _, _, (Ent.mkP goSub goPm), 1, xs.map Wn.row, rfl, ⟨by omega, by omega, by rw [isort_take1, List.take_append_drop], by rw [List.length_map, hn]⟩, rfl, rfl⟩ ?_
  rintro _ _ _ ⟨i, rows, rfl, ⟨hi1, hi2, hrows, hrl⟩, rfl, rfl⟩
  by_cases hil : i < n
  · obtain ⟨x, hx⟩ : ∃ x, xs[i]? = some x := at_lt (by omega)
    obtain ⟨S, hS⟩ : ∃ S, S = isort lt (xs.take i) := ⟨_, rfl⟩
    have hSl : S.length = i := by rw [hS, isort_len, List.length_take]; omega
    have hSm : ∀ y ∈ S, y ∈ xs := fun y hy => List.mem_of_mem_take ((isort_perm lt (xs.take i)).mem_iff.1 (by rw [← hS]; exact hy))
    have hxm : x ∈ xs := List.mem_of_getElem? hx
    have hnext : isort lt (xs.take (i + 1)) = insB lt x S := by rw [take_at hx, isort_snoc, ← hS]
    rw [← hS, drop_at hx] at hrows
    repeat' (first | refine goH ?_ | refine goV ?_ | refine goG ?_ | (refine Ops.k_guard ?_; first | (refine Ops.guard_dec rfl rfl (fun hc => ?_) (fun hc => ?_) <;> try (exfalso; omega)) | refine Ops.guard_split rfl rfl (fun hc => ?_) (fun hc => ?_)) | refine goI ?_ | (refine Cw.k_cond ?_; first | (refine Cw.cond_dec rfl (fun hc => ?_) (fun hc => ?_) <;> try (exfalso; omega)) | refine Cw.cond_bool rfl (fun hc => ?_) (fun hc => ?_)) | refine goR ?_ | refine goP ?_ | apply PSeq.cons | apply PSeq.yes rfl rfl rfl | exact goW | fail)
    refine Cw.loopI [(0, _), (1, _), (2, _), (3, _), (8, _)] cin (fun q e c => ∃ (f m : List Wn) (rows : List (List Tr)) (j : Nat), q = f.length ∧ (f.length = j ∧ S = f ++ m ∧ insB lt x S = insB lt x f ++ m ∧ rows = (f ++ x :: (m ++ xs.drop (i + 1))).map Wn.row ∧ rows.length = n) ∧ e = [(9, .int j)] ∧ c = [Chunk.own ad cap 2 32 rows])
      ⟨_, _, _, (Ent.mkP goSub goPm), S, [], rows, i, rfl, ⟨hSl, by simp, by simp, by rw [hrows]; simp, hrl⟩, rfl, rfl⟩ ?_
    clear hrows hrl
    rintro _ _ _ ⟨f, m, rows, j, rfl, ⟨hj, hfm, hins, hrows, hrl⟩, rfl, rfl⟩
    have hfl : j ≤ i := by rw [← hSl, hfm, List.length_append]; omega
    have hx0 : rows[((j : Nat) : Int).toNat]? = some [.int x.fr, .int x.to] := by rw [hrows]; exact rows_at (by simp [← hj])
    have fin : ∀ rows' : List (List Tr), rows' = (f ++ x :: (m ++ xs.drop (i + 1))).map Wn.row → insB lt x f = f ++ [x] → rows' = (isort lt (xs.take (i + 1)) ++ xs.drop (i + 1)).map Wn.row := by
      intro rows' h1 h2
      rw [h1, hnext, hins, h2]
      simp
    rcases List.eq_nil_or_concat f with rfl | ⟨f', y, rfl⟩
    · rw [List.length_nil] at hj
      subst hj
      have h0 := fin rows hrows (insB_nil lt x)
      repeat' (first | refine goH ?_ | refine goV ?_ | refine goG ?_ | (refine Ops.k_guard ?_; first | (refine Ops.guard_dec rfl rfl (fun hc => ?_) (fun hc => ?_) <;> try (exfalso; omega)) | refine Ops.guard_split rfl rfl (fun hc => ?_) (fun hc => ?_)) | refine goI ?_ | (refine Cw.k_cond ?_; first | (refine Cw.cond_dec rfl (fun hc => ?_) (fun hc => ?_) <;> try (exfalso; omega)) | refine Cw.cond_bool rfl (fun hc => ?_) (fun hc => ?_)) | refine goR ?_ | refine goP ?_ | apply PSeq.cons | apply PSeq.yes rfl rfl rfl | exact goW | fail)
      exact ⟨_, _, _, (Ent.mkP goSub goPm), ⟨i + 1, rows, rfl, ⟨by omega, by omega, h0, hrl⟩, rfl, rfl⟩, by omega⟩
    · rw [List.concat_eq_append] at *
      have hym : y ∈ xs := hSm y (by rw [hfm]; simp)
      have hspec := hs x y hxm hym
      have hjl : (f' ++ [y]).length = f'.length + 1 := by simp
      rw [hjl] at hj
      subst hj
      have hy0 : rows[(((f'.length + 1 : Nat) : Int) - 1).toNat]? = some [.int y.fr, .int y.to] := by
        rw [hrows, show (((f'.length + 1 : Nat) : Int) - 1).toNat = f'.length by omega]
        exact rows_at (by simp)
      cases hc0 : lt x y
      · have hcf : ¬ cf x y < 0 := by rw [hlt] at hc0; simpa using hc0
        have h0 := fin rows hrows (insB_ge lt hc0)
        repeat' (first | refine goH ?_ | refine goV ?_ | refine goG ?_ | (refine Ops.k_guard ?_; first | (refine Ops.guard_dec rfl rfl (fun hc => ?_) (fun hc => ?_) <;> try (exfalso; omega)) | refine Ops.guard_split rfl rfl (fun hc => ?_) (fun hc => ?_)) | refine goI ?_ | (refine Cw.k_cond ?_; first | (refine Cw.cond_dec rfl (fun hc => ?_) (fun hc => ?_) <;> try (exfalso; omega)) | refine Cw.cond_bool rfl (fun hc => ?_) (fun hc => ?_)) | exact OpW.callS_fn rfl hspec (Evs.cons rfl (Evs.cons rfl Evs.nil)) List.perm_append_comm | refine goR ?_ | refine goP ?_ | apply PSeq.cons | apply PSeq.yes rfl rfl rfl | exact goW | fail)
        exact ⟨_, _, _, (Ent.mkP goSub goPm), ⟨i + 1, rows, rfl, ⟨by omega, by omega, h0, hrl⟩, rfl, rfl⟩, by omega⟩
      · have hcf : cf x y < 0 := by rw [hlt] at hc0; simpa using hc0
        have hset : (rows.set ((f'.length + 1 : Nat) : Int).toNat [.int y.fr, .int y.to])[(((f'.length + 1 : Nat) : Int) - 1).toNat]? = some [.int y.fr, .int y.to] := by
          rw [List.getElem?_set_ne (by omega)]
          exact hy0
        have hlen2 : (rows.set ((f'.length + 1 : Nat) : Int).toNat [.int y.fr, .int y.to]).length = n := by rw [List.length_set]; exact hrl
        have hres : (rows.set ((f'.length + 1 : Nat) : Int).toNat [.int y.fr, .int y.to]).set (((f'.length + 1 : Nat) : Int) - 1).toNat [.int x.fr, .int x.to] = (f' ++ x :: (y :: m ++ xs.drop (i + 1))).map Wn.row := by
          rw [hrows, show (((f'.length + 1 : Nat) : Int) - 1).toNat = f'.length by omega, show ((f'.length + 1 : Nat) : Int).toNat = f'.length + 1 by omega]
          simp [List.set_append]
          all_goals (try exact ⟨rfl, rfl⟩)
        have hm : S = f' ++ (y :: m) := by rw [hfm]; simp
        have hins2 : insB lt x S = insB lt x f' ++ (y :: m) := by rw [hins, insB_lt lt hc0]; simp
        clear fin hnext hS hSl hSm hfm hins hrows
        repeat' (first | refine goH ?_ | refine goV ?_ | refine goG ?_ | (refine Ops.k_guard ?_; first | (refine Ops.guard_dec rfl rfl (fun hc => ?_) (fun hc => ?_) <;> try (exfalso; omega)) | refine Ops.guard_split rfl rfl (fun hc => ?_) (fun hc => ?_)) | refine goI ?_ | (refine Cw.k_cond ?_; first | (refine Cw.cond_dec rfl (fun hc => ?_) (fun hc => ?_) <;> try (exfalso; omega)) | refine Cw.cond_bool rfl (fun hc => ?_) (fun hc => ?_)) | exact OpW.callS_fn rfl hspec (Evs.cons rfl (Evs.cons rfl Evs.nil)) List.perm_append_comm | refine goR ?_ | refine goP ?_ | apply PSeq.cons | apply PSeq.yes rfl rfl rfl | exact goW | fail)
        refine Cw.region_seqF (m := 15) [2, 3, 4] rfl (by decide +kernel) rfl (fun a w d => ?_) ?_
        · have h9 := rd_raw (d.env 9 _ rfl)
          have hs : a.tmps.size = 53 := d.tmps
          have h9' : a.tmps[9]'(by omega) = .int .i64 ((f'.length + 1 : Nat) : Int) := by simpa [hs] using h9
          exact FlRun.move rfl rfl rfl rfl (FlRun.move rfl rfl rfl rfl (FlRun.sub1 (p := ((f'.length + 1 : Nat) : Int)) rfl rfl rfl rfl (by simp [Act.put, Act.eval, hs, h9']) FlRun.nil))
        repeat' (first | refine goH ?_ | refine goV ?_ | refine goG ?_ | (refine Ops.k_guard ?_; first | (refine Ops.guard_dec rfl rfl (fun hc => ?_) (fun hc => ?_) <;> try (exfalso; omega)) | refine Ops.guard_split rfl rfl (fun hc => ?_) (fun hc => ?_)) | refine goI ?_ | (refine Cw.k_cond ?_; first | (refine Cw.cond_dec rfl (fun hc => ?_) (fun hc => ?_) <;> try (exfalso; omega)) | refine Cw.cond_bool rfl (fun hc => ?_) (fun hc => ?_)) | refine NoP.norm ?_ | refine goR ?_ | refine goP ?_ | apply PSeq.cons | apply PSeq.yes rfl rfl rfl | exact goW | fail)
        refine ⟨_, _, _, ?_, ⟨f', y :: m, _, f'.length, rfl, ⟨rfl, hm, hins2, hres, by rw [List.length_set]; exact hlen2⟩, rfl, rfl⟩, by simp⟩
        rw [show ((f'.length + 1 : Nat) : Int) - 1 = (f'.length : Int) by omega]
        exact (Ent.mkP goSub goPm)
  · have hin : xs.take i = xs := List.take_of_length_le (by omega)
    rw [hin, List.drop_eq_nil_of_le (by omega), List.append_nil] at hrows
    subst hrows
    repeat' (first | refine goH ?_ | refine goV ?_ | refine goG ?_ | (refine Ops.k_guard ?_; first | (refine Ops.guard_dec rfl rfl (fun hc => ?_) (fun hc => ?_) <;> try (exfalso; omega)) | refine Ops.guard_split rfl rfl (fun hc => ?_) (fun hc => ?_)) | refine goI ?_ | (refine Cw.k_cond ?_; first | (refine Cw.cond_dec rfl (fun hc => ?_) (fun hc => ?_) <;> try (exfalso; omega)) | refine Cw.cond_bool rfl (fun hc => ?_) (fun hc => ?_)) | refine goR ?_ | refine goP ?_ | apply PSeq.cons | apply PSeq.yes rfl rfl rfl | exact goW | fail)
    exact Fin.norm (Ent.mkP goSub goPm) (Outs.zero rfl) ⟨rfl, rfl⟩

/-- slices.SortFunc on at most 12 elements -/
theorem pdq_wn {n : Nat} {d : Int} {xs : List Wn} {ad : Option Addr} {cap : Nat} {g : Nat} {caps : List Value} {cin : List Chunk} {lt : Wn → Wn → Bool} {cf : Wn → Wn → Int} (hlt : ∀ a b, lt a b = decide (cf a b < 0)) (hl : xs.length ≤ 12) (hn : n = xs.length)
    (hs : ∀ a b, a ∈ xs → b ∈ xs → Spec Tryz.prog g ([(fun x : Wn => Tr.agg x.row) a, (fun x : Wn => Tr.agg x.row) b] ++ caps.map Tr.raw) cin (fun r cs => r = Tr.int (cf a b) ∧ cs = cin)) :
    Spec Tryz.prog 79 [Tr.raw (.slice ad n cap), .int 0, .int n, .int d, Tr.raw (.func (.func g) #[] caps.toArray)] (Chunk.own ad cap 2 32 (xs.map Wn.row) :: cin) (fun r cs => r = Tr.tup [] ∧ cs = Chunk.own ad cap 2 32 ((isort lt xs).map Wn.row) :: cin) := by
  have hi := insSort_wn (ad := ad) (cap := cap) hlt (show xs.length ≤ 1000000 by omega) hn hs
  refine Spec.body Tryz.func79 rfl rfl (Tryz.ntmps79) rfl fun w0 own0 M => ?_
  repeat' (first | refine goH ?_ | refine goV ?_ | refine goG ?_ | (refine Ops.k_guard ?_; first | (refine Ops.guard_dec rfl rfl (fun hc => ?_) (fun hc => ?_) <;> try (exfalso; omega)) | refine Ops.guard_split rfl rfl (fun hc => ?_) (fun hc => ?_)) | refine goI ?_ | (refine Cw.k_cond ?_; first | (refine Cw.cond_dec rfl (fun hc => ?_) (fun hc => ?_) <;> try (exfalso; omega)) | refine Cw.cond_bool rfl (fun hc => ?_) (fun hc => ?_)) | refine goR ?_ | refine goP ?_ | apply PSeq.cons | apply PSeq.yes rfl rfl rfl | exact goW | fail)
  refine Cw.loopI [(0, _), (4, _)] _ (fun q e c => q = 0 ∧ e = [(1, .int 0), (2, .int n), (3, .int d), (10, .bool true), (11, .bool true)] ∧ c = []) ⟨_, _, _, (Ent.mkP goSub goPm), rfl, rfl, rfl⟩ ?_
  rintro _ _ _ ⟨rfl, rfl, rfl⟩
  repeat' (first | refine goH ?_ | refine goV ?_ | refine goG ?_ | (refine Ops.k_guard ?_; first | (refine Ops.guard_dec rfl rfl (fun hc => ?_) (fun hc => ?_) <;> try (exfalso; omega)) | refine Ops.guard_split rfl rfl (fun hc => ?_) (fun hc => ?_)) | refine goI ?_ | (refine Cw.k_cond ?_; first | (refine Cw.cond_dec rfl (fun hc => ?_) (fun hc => ?_) <;> try (exfalso; omega)) | refine Cw.cond_bool rfl (fun hc => ?_) (fun hc => ?_)) | (refine Ops.k_calla ?_; first | (refine Ops.call (cf := []) hi (Evs.cons rfl (Evs.cons rfl (Evs.cons rfl (Evs.cons rfl Evs.nil)))) (by simp) rfl ?_; rintro r cs' ⟨rfl, rfl⟩)) | refine goR ?_ | refine goP ?_ | apply PSeq.cons | apply PSeq.yes rfl rfl rfl | exact goW | fail)
  first | exact Fin.norm (Ent.mkP goSub (by simp)) (Outs.zero rfl) ⟨rfl, rfl⟩ | exact Fin.ret (Ent.mkP goSub (by simp)) (Outs.zero rfl) ⟨rfl, rfl⟩
theorem sortFunc_wn {n : Nat} {xs : List Wn} {ad : Option Addr} {cap : Nat} {g : Nat} {caps : List Value} {cin : List Chunk} {lt : Wn → Wn → Bool} {cf : Wn → Wn → Int} (hlt : ∀ a b, lt a b = decide (cf a b < 0)) (hl : xs.length ≤ 12) (hn : n = xs.length)
    (hs : ∀ a b, a ∈ xs → b ∈ xs → Spec Tryz.prog g ([(fun x : Wn => Tr.agg x.row) a, (fun x : Wn => Tr.agg x.row) b] ++ caps.map Tr.raw) cin (fun r cs => r = Tr.int (cf a b) ∧ cs = cin)) :
    Spec Tryz.prog 70 [Tr.raw (.slice ad n cap), Tr.raw (.func (.func g) #[] caps.toArray)] (Chunk.own ad cap 2 32 (xs.map Wn.row) :: cin) (fun r cs => r = Tr.tup [] ∧ cs = Chunk.own ad cap 2 32 ((isort lt xs).map Wn.row) :: cin) := by
  have hi := fun d => pdq_wn (d := d) (ad := ad) (cap := cap) hlt hl hn hs
  have hb := bitsLen_fn n (by omega)
  unfold PFn at hb
  refine Spec.body Tryz.func70 rfl rfl (Tryz.ntmps70) rfl fun w0 own0 M => ?_
  repeat' (first | refine goH ?_ | (refine Ops.k_convert ?_; first | (refine Ops.convN Tryz.underlying3 Tryz.underlying94 rfl (wrap_u64 (by omega)) rfl ?_)) | refine goV ?_ | refine goI ?_ | (refine Cw.k_cond ?_; first | (refine Cw.cond_dec rfl (fun hc => ?_) (fun hc => ?_) <;> try (exfalso; omega)) | refine Cw.cond_bool rfl (fun hc => ?_) (fun hc => ?_)) | (refine Ops.k_calla ?_; first | (refine Ops.k_callf 73 ?_; (refine Ops.call hb (Evs.cons rfl Evs.nil) (by rw [List.nil_append]) rfl ?_; rintro r cs' ⟨rfl, v, rfl⟩; rw [List.nil_append])) | (refine Ops.call (cf := []) (hi _) (Evs.cons rfl (Evs.cons rfl (Evs.cons rfl (Evs.cons rfl (Evs.cons rfl Evs.nil))))) (by simp) rfl ?_; rintro r cs' ⟨rfl, rfl⟩)) | fail)
  first | exact Fin.norm (Ent.mkP goSub (by simp)) (Outs.zero rfl) ⟨rfl, rfl⟩ | exact Fin.ret (Ent.mkP goSub (by simp)) (Outs.zero rfl) ⟨rfl, rfl⟩

def cfW (a b : Wn) : Int := cmpI a.fr b.fr
theorem ltW_iff (a b : Wn) : ltOf cfW a b = true ↔ a.fr < b.fr := by
  unfold ltOf cfW
  rw [decide_eq_true_iff, cmpI_lt]
theorem ltW_nf (a b : Wn) : ltOf cfW a b = false ↔ ¬ a.fr < b.fr := by rw [← ltW_iff, Bool.not_eq_true]
theorem swo_W : SWO (ltOf cfW) := by
  refine ⟨fun x => ?_, fun x y z h1 h2 => ?_, fun x y z h1 h2 => ?_⟩
  · rw [ltW_nf]; omega
  · rw [ltW_iff] at *; omega
  · rw [ltW_nf] at *; omega
abbrev encW (x : Wn) : List Value := [.int .i64 x.fr, .int .i64 x.to]
theorem encW_one (x : Wn) : ∀ v ∈ encW x, v.oneCell' = true := by
  intro v hv
  rcases List.mem_cons.1 hv with rfl | hv
  · rfl
  · rcases List.mem_cons.1 hv with rfl | hv
    · rfl
    · cases hv
instance : Inhabited Wn := ⟨⟨0, 0⟩⟩
theorem wnLt_fn (x y : Wn) : PFn Tryz.prog 71 [.agg x.row, .agg y.row] (· = .int (cfW x y)) := by
  have k1 := compare_fn x.fr y.fr
  unfold Wn.row cfW
  refine PFn.mk (Spec.body Tryz.func71 rfl rfl (Tryz.ntmps71) rfl fun w0 own0 M => ?_)
  repeat' (first | refine goH ?_ | refine goV ?_ | refine goB (fun b => ?_) | refine goI ?_ | (refine Cw.k_cond ?_; first | (refine Cw.cond_dec rfl (fun hc => ?_) (fun hc => ?_) <;> try (exfalso; omega)) | refine Cw.cond_bool rfl (fun hc => ?_) (fun hc => ?_)) | (refine Ops.k_calla ?_; first | (refine Ops.k_callf 32 ?_; refine Ops.callV k1 (Evs.cons rfl (Evs.cons rfl Evs.nil)) rfl ?_)) | fail)
  exact Fin.ret (Ent.take goTk) (Outs.one rfl rfl) ⟨rfl, rfl⟩
theorem sortWn (us : List Wn) (hu : us.length ≤ 1000000) (ad : Option Addr) (cap n : Nat) (hn : n = us.length) : Spec Tryz.prog 70 [Tr.raw (.slice ad n cap), Tr.raw (.func (.func 71) #[] #[])] [Chunk.own ad cap 2 32 (us.map Wn.row)]
    (fun r cs => ∃ ys : List Wn, ys.Perm us ∧ (ys.Pairwise fun a b => a.fr ≤ b.fr) ∧ cs = [Chunk.own ad cap 2 32 (ys.map Wn.row)]) := by
  by_cases h0 : us = []
  · subst h0
    subst hn
    refine Spec.mono (sortFunc_wn (ad := ad) (cap := cap) (n := 0) (xs := []) (g := 71) (caps := []) (cin := []) (lt := fun a b => decide (cfW a b < 0)) (cf := cfW) (fun a b => rfl) (by simp) rfl (fun a b ha hb => by cases ha)) ?_
    rintro r cs ⟨_, rfl⟩
    exact ⟨[], List.Perm.refl _, List.Pairwise.nil, rfl⟩
  · have hp : 1 ≤ us.length := by
      cases us with
      | nil => exact absurd rfl h0
      | cons a rest => simp
    have h := sortFuncK Tryz.sortWin (k := 2) (by omega) Tryz.isAgg32 Tryz.sizeOf32 encW (fun _ => rfl) encW_one cfW swo_W (g := 71) (bx := []) (fun x y => (wnLt_fn x y).impA (.cons (Imp.aggV (encW_one x)) (.cons (Imp.aggV (encW_one y)) .nil))) (ad := ad) (cap := cap) (E := 32) (xs := us) (n := n) hn (by omega) (by omega)
    refine Spec.mono h ?_
    rintro r cs ⟨ys, rfl, rfl, hperm, hsort⟩
    exact ⟨ys, hperm, hsort.imp fun h => by have := (ltW_nf _ _).1 h; omega, rfl⟩
theorem jnF_take {l : List Wn} {k : Nat} {x : Wn} (h : l[k]? = some x) : jnF (l.take (k + 1)) = jnStep (jnF (l.take k)) x := by rw [take_at h, jnF_snoc]
theorem jnF_len : ∀ l : List Wn, (jnF l).length ≤ l.length := by
  intro l
  refine snoc_ind (p := fun l => (jnF l).length ≤ l.length) (Nat.le_refl _) ?_ l
  intro l c ih
  rw [jnF_snoc, List.length_append]
  rcases last_cases (jnF l) with h | ⟨p, w, h⟩
  · rw [h]; simp [jnStep, lastTo]
  · rw [h] at ih ⊢
    unfold jnStep
    rw [lastTo_snoc]
    simp only
    rw [List.length_append] at ih
    split
    · rw [setTo_snoc]; simp; simp at ih; omega
    · simp; simp at ih; omega
theorem joined_fn (us : List Wn) (hu : us.length ≤ 100000) (hne : ∀ w ∈ us, w.fr < w.to) (ad : Option Addr) (cap n : Nat) (hn : n = us.length) : Spec Tryz.prog 46 [Tr.raw (.slice ad n cap)] [Chunk.own ad cap 2 32 (us.map Wn.row)]
    (fun r cs => ∃ (W : List Wn) (ad' : Option Addr) (cap' : Nat), (Can W ∧ (∀ t, memW W t ↔ memW us t) ∧ W.length ≤ us.length) ∧ r = Tr.raw (.slice ad' W.length cap') ∧ cs = [Chunk.own ad' cap' 2 32 (W.map Wn.row)]) := by
  have kS := sortWn us (by omega) ad cap n hn
  refine Spec.body Tryz.func46 rfl rfl (Tryz.ntmps46) rfl fun w0 own0 M => ?_
  repeat' (first | refine goH ?_ | refine goV ?_ | refine goB (fun b => ?_) | refine goC (fun ad cap => ?_) | refine goG ?_ | (refine Ops.k_guard ?_; first | (refine Ops.guard_dec rfl rfl (fun hc => ?_) (fun hc => ?_) <;> try (exfalso; omega)) | refine Ops.guard_split rfl rfl (fun hc => ?_) (fun hc => ?_)) | refine goI ?_ | (refine Cw.k_cond ?_; first | (refine Cw.cond_dec rfl (fun hc => ?_) (fun hc => ?_) <;> try (exfalso; omega)) | refine Cw.cond_bool rfl (fun hc => ?_) (fun hc => ?_)) | (refine Ops.k_calla ?_; first | (refine Ops.k_callf 70 ?_; (refine Ops.call kS (Evs.cons rfl (Evs.cons rfl Evs.nil)) goPm rfl ?_; rintro r cs' ⟨ys, hp, hs, rfl⟩))) | refine goR ?_ | refine goP ?_ | apply PSeq.cons | apply PSeq.yes rfl rfl rfl | exact goW | fail)
  have hj := jn_perm hp hne hs
  have hyl := hp.length_eq
  have hYL : (ys.map Wn.row).length = n := by rw [List.length_map, hyl, hn]
  clear hp hs kS
  refine Cw.loopI [(9, _), (10, _)] _ (fun q e c => ∃ (k : Nat) (out : List Wn) (ad2 : Option Addr) (cap2 m : Nat), q = n - k ∧ (k ≤ n ∧ out = jnF (ys.take k) ∧ m = out.length) ∧ e = [(3, Tr.raw (.slice ad2 m cap2)), (11, .int k)] ∧ c = [Chunk.own ad2 cap2 2 32 (out.map Wn.row)])
    ⟨_, _, _, Ent.trans (Ent.nil 2 32) (Ent.mkP goSub goPm), 0, [], none, 0, 0, rfl, ⟨by omega, rfl, rfl⟩, rfl, rfl⟩ ?_
  rintro _ _ _ ⟨k, out, ad2, cap2, m, rfl, ⟨hk, ho, hm⟩, rfl, rfl⟩
  have hol := jnF_len (ys.take k)
  rw [← ho, List.length_take] at hol
  by_cases hkl : k < n
  · obtain ⟨x, hx⟩ := at_lt (l := ys) (k := k) (by omega)
    have hrow : (ys.map Wn.row)[((k : Nat) : Int).toNat]? = some [.int x.fr, .int x.to] := by rw [Int.toNat_natCast]; exact rows_at hx
    have hnext := jnF_take hx
    rw [← ho] at hnext
    clear hx ho hj hne
    obtain ⟨xf, xt⟩ := x
    unfold jnStep at hnext
    simp only at hrow
    rcases last_cases out with rfl | ⟨p, w, rfl⟩
    · rw [show lastTo [] = none from rfl] at hnext
      simp only at hnext
      have hm0 : m = 0 := by simpa using hm
      have key0 : ([] : List Wn).map Wn.row ++ [[Tr.int xf, Tr.int xt]] = ([⟨xf, xt⟩] : List Wn).map Wn.row := rfl
      have hr0 : (([] : List Wn).map Wn.row).length = m := by rw [hm0]; rfl
      clear hol hm
      generalize ([] : List Wn).map Wn.row = rows0 at *
      repeat' (first | refine goH ?_ | refine goV ?_ | refine goB (fun b => ?_) | refine goC (fun ad cap => ?_) | refine goG ?_ | (refine Ops.k_guard ?_; first | (refine Ops.guard_dec rfl rfl (fun hc => ?_) (fun hc => ?_) <;> try (exfalso; omega)) | refine Ops.guard_split rfl rfl (fun hc => ?_) (fun hc => ?_)) | refine goI ?_ | (refine Cw.k_cond ?_; first | (refine Cw.cond_dec rfl (fun hc => ?_) (fun hc => ?_) <;> try (exfalso; omega)) | refine Cw.cond_bool rfl (fun hc => ?_) (fun hc => ?_)) | refine goR ?_ | refine goP ?_ | apply PSeq.cons | apply PSeq.yes rfl rfl rfl | exact goW | fail)
      rw [key0]
      exact ⟨_, _, _, (Ent.mk goSub goTk), ⟨k + 1, [⟨xf, xt⟩], _, _, _, rfl, ⟨by omega, hnext.symm, List.length_map _⟩, rfl, rfl⟩, by omega⟩
    rw [lastTo_snoc] at hnext
    simp only at hnext
    have hm1 : m = p.length + 1 := by rw [hm, List.length_append]; rfl
    have hr2 : ((p ++ [w]).map Wn.row)[((m : Int) - 1).toNat]? = some [.int w.fr, .int w.to] := by
      rw [show ((m : Int) - 1).toNat = p.length by omega, List.map_append, List.getElem?_append_right (by rw [List.length_map]; exact Nat.le_refl _), List.length_map, Nat.sub_self]
      rfl
    have hRl : ((p ++ [w]).map Wn.row).length = m := by rw [List.length_map, hm]
    by_cases h1 : xf ≤ w.to
    · rw [if_pos h1, setTo_snoc] at hnext
      have hset : ((p ++ [w]).map Wn.row).set ((m : Int) - 1).toNat [.int w.fr, .int (max w.to xt)] = (p ++ ([⟨w.fr, max w.to xt⟩] : List Wn)).map Wn.row := by
        rw [show ((m : Int) - 1).toNat = p.length by omega, List.map_append, List.map_append, List.set_append_right _ _ (by rw [List.length_map]; exact Nat.le_refl _), List.length_map, Nat.sub_self]
        rfl
      generalize (p ++ [w]).map Wn.row = rows at *
      repeat' (first | refine goH ?_ | refine goV ?_ | refine goB (fun b => ?_) | refine goC (fun ad cap => ?_) | refine goG ?_ | (refine Ops.k_guard ?_; first | (refine Ops.guard_dec rfl rfl (fun hc => ?_) (fun hc => ?_) <;> try (exfalso; omega)) | refine Ops.guard_split rfl rfl (fun hc => ?_) (fun hc => ?_)) | refine goI ?_ | (refine Cw.k_cond ?_; first | (refine Cw.cond_dec rfl (fun hc => ?_) (fun hc => ?_) <;> try (exfalso; omega)) | refine Cw.cond_bool rfl (fun hc => ?_) (fun hc => ?_)) | refine goR ?_ | refine goP ?_ | apply PSeq.cons | apply PSeq.yes rfl rfl rfl | exact goW | fail)
      erw [hset]
      exact ⟨_, _, _, (Ent.mk goSub goTk), ⟨k + 1, p ++ ([⟨w.fr, max w.to xt⟩] : List Wn), _, _, m, rfl, ⟨by omega, hnext.symm, by rw [hm1, List.length_append]; rfl⟩, rfl, rfl⟩, by omega⟩
    · rw [if_neg h1] at hnext
      have key : (p ++ [w]).map Wn.row ++ [[Tr.int xf, Tr.int xt]] = (p ++ [w] ++ ([⟨xf, xt⟩] : List Wn)).map Wn.row := by rw [List.map_append (l₁ := p ++ [w])]; rfl
      generalize (p ++ [w]).map Wn.row = rows at *
      repeat' (first | refine goH ?_ | refine goV ?_ | refine goB (fun b => ?_) | refine goC (fun ad cap => ?_) | refine goG ?_ | (refine Ops.k_guard ?_; first | (refine Ops.guard_dec rfl rfl (fun hc => ?_) (fun hc => ?_) <;> try (exfalso; omega)) | refine Ops.guard_split rfl rfl (fun hc => ?_) (fun hc => ?_)) | refine goI ?_ | (refine Cw.k_cond ?_; first | (refine Cw.cond_dec rfl (fun hc => ?_) (fun hc => ?_) <;> try (exfalso; omega)) | refine Cw.cond_bool rfl (fun hc => ?_) (fun hc => ?_)) | refine goR ?_ | refine goP ?_ | apply PSeq.cons | apply PSeq.yes rfl rfl rfl | exact goW | fail)
      rw [key]
      exact ⟨_, _, _, (Ent.mk goSub goTk), ⟨k + 1, p ++ [w] ++ ([⟨xf, xt⟩] : List Wn), _, _, _, rfl, ⟨by omega, hnext.symm, List.length_map _⟩, rfl, rfl⟩, by omega⟩
  · rw [List.take_of_length_le (by omega)] at ho
    rw [← ho] at hj
    rw [hm]
    repeat' (first | refine goH ?_ | refine goV ?_ | refine goB (fun b => ?_) | refine goC (fun ad cap => ?_) | refine goG ?_ | (refine Ops.k_guard ?_; first | (refine Ops.guard_dec rfl rfl (fun hc => ?_) (fun hc => ?_) <;> try (exfalso; omega)) | refine Ops.guard_split rfl rfl (fun hc => ?_) (fun hc => ?_)) | refine goI ?_ | (refine Cw.k_cond ?_; first | (refine Cw.cond_dec rfl (fun hc => ?_) (fun hc => ?_) <;> try (exfalso; omega)) | refine Cw.cond_bool rfl (fun hc => ?_) (fun hc => ?_)) | refine goR ?_ | refine goP ?_ | apply PSeq.cons | apply PSeq.yes rfl rfl rfl | exact goW | fail)
    exact Fin.ret (Ent.take goTk) (Outs.one rfl rfl) ⟨out, _, _, hj, rfl, rfl⟩
end Lg
