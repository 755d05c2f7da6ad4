/- A part of the proof of a law of this seat: it adds no condition. By an AI agent. -/
import Derived.KernelRfl
import Derived.Test.YtmncgklajohcbaaGreatDoorFa15
section
set_option linter.all false
set_option maxRecDepth 100000
set_option maxHeartbeats 8000000
namespace Lg
open Go Go.Proofs Go.Sort Go.Shelf

/-! ### findings, sorted -/
structure Fd where
  flt : ByteArray
  fr : Int
  to : Int
def Fd.row (x : Fd) : List Tr := [.str x.flt, .int x.fr, .int x.to]
abbrev Tr.fds (l : List Fd) : Tr := Tr.sl 3 (l.map Fd.row)
def cfFd (a b : Fd) : Int := orI [cmpI a.fr b.fr, cmpI a.to b.to, cmpS a.flt b.flt]
theorem orI3 (a b c : Int) : orI [a, b, c] = if a ≠ 0 then a else if b ≠ 0 then b else c := by
  rw [orI_cons]
  split
  · rfl
  · rw [orIC]
theorem cfFd_lt (a b : Fd) : cfFd a b < 0 ↔ a.fr < b.fr ∨ (a.fr = b.fr ∧ (a.to < b.to ∨ (a.to = b.to ∧ strLt a.flt b.flt = true))) := by
  unfold cfFd
  rw [orI3, ← cmpI_lt a.fr, ← cmpI_eqC a.fr, ← cmpI_lt a.to, ← cmpI_eqC a.to, ← cmpS_lt]
  split
  · constructor
    · exact .inl
    · rintro (h | h) <;> omega
  · split
    · constructor
      · intro h; exact .inr ⟨by omega, .inl h⟩
      · rintro (h | ⟨_, h | h⟩) <;> omega
    · constructor
      · intro h; exact .inr ⟨by omega, .inr ⟨by omega, h⟩⟩
      · rintro (h | ⟨_, h | h⟩) <;> omega
theorem ltF_iff (a b : Fd) : ltOf cfFd a b = true ↔ cfFd a b < 0 := by unfold ltOf; rw [decide_eq_true_iff]
theorem ltF_nf (a b : Fd) : ltOf cfFd a b = false ↔ ¬ cfFd a b < 0 := by rw [← ltF_iff, Bool.not_eq_true]
theorem cfFd_anti {a b : Fd} (h1 : ¬ cfFd a b < 0) (h2 : ¬ cfFd b a < 0) : a = b := by
  rw [cfFd_lt] at h1 h2
  rw [not_or, not_and] at h1 h2
  have e1 : a.fr = b.fr := by omega
  have h3 := h1.2 e1
  have h4 := h2.2 e1.symm
  rw [not_or, not_and] at h3 h4
  have e2 : a.to = b.to := by omega
  have h5 := h3.2 e2
  have h6 := h4.2 e2.symm
  have e3 : a.flt = b.flt := strLt_tri (by simpa using h5) (by simpa using h6)
  cases a
  cases b
  simp only at e1 e2 e3
  rw [e1, e2, e3]
theorem cfFd_trans {x y z : Fd} (h1 : cfFd x y < 0) (h2 : cfFd y z < 0) : cfFd x z < 0 := by
  rw [cfFd_lt] at *
  rcases h1 with h1 | ⟨h1, h1 | ⟨h1b, h1⟩⟩ <;> rcases h2 with h2 | ⟨h2, h2 | ⟨h2b, h2⟩⟩
  · exact .inl (by omega)
  · exact .inl (by omega)
  · exact .inl (by omega)
  · exact .inl (by omega)
  · exact .inr ⟨by omega, .inl (by omega)⟩
  · exact .inr ⟨by omega, .inl (by omega)⟩
  · exact .inl (by omega)
  · exact .inr ⟨by omega, .inl (by omega)⟩
  · exact .inr ⟨by omega, .inr ⟨by omega, strLt_trans h1 h2⟩⟩
theorem swo_F : SWO (ltOf cfFd) := by
  refine ⟨fun x => ?_, fun x y z h1 h2 => ?_, fun x y z h1 h2 => ?_⟩
  · rw [ltF_nf, cfFd_lt]
    rintro (h | ⟨_, h | ⟨_, h⟩⟩)
    · omega
    · omega
    · rw [strLt_irrefl] at h; cases h
  · rw [ltF_iff] at *
    exact cfFd_trans h1 h2
  · rw [ltF_nf] at *
    intro h3
    by_cases h4 : cfFd z y < 0
    · exact h1 (cfFd_trans h3 h4)
    · rw [cfFd_anti h2 h4] at h1
      exact h1 h3
abbrev encF (x : Fd) : List Value := [.string x.flt, .int .i64 x.fr, .int .i64 x.to]
theorem encF_one (x : Fd) : ∀ v ∈ encF x, v.oneCell' = true := by
  intro v hv
  simp only [encF, List.mem_cons, List.mem_nil_iff, or_false] at hv
  rcases hv with rfl | rfl | rfl <;> rfl
instance : Inhabited Fd := ⟨⟨⟨#[]⟩, 0, 0⟩⟩
/-- insertion sort, of a slice of one's own, by a function that only reads -/
theorem insSort_fd {n : Nat} {xs : List Fd} {ad : Option Addr} {cap : Nat} {g : Nat} {caps : List Value} {cin : List Chunk} {lt : Fd → Fd → Bool} {cf : Fd → Fd → Int} (hlt : ∀ a b, lt a b = decide (cf a b < 0)) (hl : xs.length ≤ 1000000) (hn : n = xs.length)
    (hs : ∀ a b, a ∈ xs → b ∈ xs → Spec Tryz.prog g ([(fun x : Fd => Tr.agg x.row) a, (fun x : Fd => Tr.agg x.row) b] ++ caps.map Tr.raw) cin (fun r cs => r = Tr.int (cf a b) ∧ cs = cin)) :
    Spec Tryz.prog 80 [Tr.raw (.slice ad n cap), .int 0, .int n, Tr.raw (.func (.func g) #[] caps.toArray)] (Chunk.own ad cap 3 55 (xs.map Fd.row) :: cin) (fun r cs => r = Tr.tup [] ∧ cs = Chunk.own ad cap 3 55 ((isort lt xs).map Fd.row) :: cin) := by
  refine Spec.body Tryz.func80 rfl rfl (Tryz.ntmps80) rfl fun w0 own0 M => ?_
  repeat' (first | refine goH ?_ | refine goV ?_ | refine goG ?_ | (refine Ops.k_guard ?_; first | (refine Ops.guard_dec rfl rfl (fun hc => ?_) (fun hc => ?_) <;> try (exfalso; omega)) | refine Ops.guard_split rfl rfl (fun hc => ?_) (fun hc => ?_)) | refine goI ?_ | (refine Cw.k_cond ?_; first | (refine Cw.cond_dec rfl (fun hc => ?_) (fun hc => ?_) <;> try (exfalso; omega)) | refine Cw.cond_bool rfl (fun hc => ?_) (fun hc => ?_)) | refine goR ?_ | refine goP ?_ | apply PSeq.cons | apply PSeq.yes rfl rfl rfl | exact goW | fail)
  refine Cw.loopI [(0, _), (1, _), (2, _), (3, _)] cin (fun q e c => ∃ (i : Nat) (rows : List (List Tr)), q = n - i ∧ (1 ≤ i ∧ i ≤ max 1 n ∧ rows = (isort lt (xs.take i) ++ xs.drop i).map Fd.row ∧ rows.length = n) ∧ e = [(8, .int i)] ∧ c = [Chunk.own ad cap 3 55 rows])
    ⟨_, _, _, (Ent.mkP goSub goPm), 1, xs.map Fd.row, rfl, ⟨by omega, by omega, by rw [isort_take1, List.take_append_drop], by rw [List.length_map, hn]⟩, rfl, rfl⟩ ?_
  rintro _ _ _ ⟨i, rows, rfl, ⟨hi1, hi2, hrows, hrl⟩, rfl, rfl⟩
  by_cases hil : i < n
  · obtain ⟨x, hx⟩ : ∃ x, xs[i]? = some x := at_lt (by omega)
    obtain ⟨S, hS⟩ : ∃ S, S = isort lt (xs.take i) := ⟨_, rfl⟩
    have hSl : S.length = i := by rw [hS, isort_len, List.length_take]; omega
    have hSm : ∀ y ∈ S, y ∈ xs := fun y hy => List.mem_of_mem_take ((isort_perm lt (xs.take i)).mem_iff.1 (by rw [← hS]; exact hy))
    have hxm : x ∈ xs := List.mem_of_getElem? hx
    have hnext : isort lt (xs.take (i + 1)) = insB lt x S := by rw [take_at hx, isort_snoc, ← hS]
    rw [← hS, drop_at hx] at hrows
    repeat' (first | refine goH ?_ | refine goV ?_ | refine goG ?_ | (refine Ops.k_guard ?_; first | (refine Ops.guard_dec rfl rfl (fun hc => ?_) (fun hc => ?_) <;> try (exfalso; omega)) | refine Ops.guard_split rfl rfl (fun hc => ?_) (fun hc => ?_)) | refine goI ?_ | (refine Cw.k_cond ?_; first | (refine Cw.cond_dec rfl (fun hc => ?_) (fun hc => ?_) <;> try (exfalso; omega)) | refine Cw.cond_bool rfl (fun hc => ?_) (fun hc => ?_)) | refine goR ?_ | refine goP ?_ | apply PSeq.cons | apply PSeq.yes rfl rfl rfl | exact goW | fail)
    refine Cw.loopI [(0, _), (1, _), (2, _), (3, _), (8, _)] cin (fun q e c => ∃ (f m : List Fd) (rows : List (List Tr)) (j : Nat), q = f.length ∧ (f.length = j ∧ S = f ++ m ∧ insB lt x S = insB lt x f ++ m ∧ rows = (f ++ x :: (m ++ xs.drop (i + 1))).map Fd.row ∧ rows.length = n) ∧ e = [(9, .int j)] ∧ c = [Chunk.own ad cap 3 55 rows])
      ⟨_, _, _, (Ent.mkP goSub goPm), S, [], rows, i, rfl, ⟨hSl, by simp, by simp, by rw [hrows]; simp, hrl⟩, rfl, rfl⟩ ?_
    clear hrows hrl
    rintro _ _ _ ⟨f, m, rows, j, rfl, ⟨hj, hfm, hins, hrows, hrl⟩, rfl, rfl⟩
    have hfl : j ≤ i := by rw [← hSl, hfm, List.length_append]; omega
    have hx0 : rows[((j : Nat) : Int).toNat]? = some [.str x.flt, .int x.fr, .int x.to] := by rw [hrows]; exact rows_at (by simp [← hj])
    have fin : ∀ rows' : List (List Tr), rows' = (f ++ x :: (m ++ xs.drop (i + 1))).map Fd.row → insB lt x f = f ++ [x] → rows' = (isort lt (xs.take (i + 1)) ++ xs.drop (i + 1)).map Fd.row := by
      intro rows' h1 h2
      rw [h1, hnext, hins, h2]
      simp
    rcases List.eq_nil_or_concat f with rfl | ⟨f', y, rfl⟩
    · rw [List.length_nil] at hj
      subst hj
      have h0 := fin rows hrows (insB_nil lt x)
      repeat' (first | refine goH ?_ | refine goV ?_ | refine goG ?_ | (refine Ops.k_guard ?_; first | (refine Ops.guard_dec rfl rfl (fun hc => ?_) (fun hc => ?_) <;> try (exfalso; omega)) | refine Ops.guard_split rfl rfl (fun hc => ?_) (fun hc => ?_)) | refine goI ?_ | (refine Cw.k_cond ?_; first | (refine Cw.cond_dec rfl (fun hc => ?_) (fun hc => ?_) <;> try (exfalso; omega)) | refine Cw.cond_bool rfl (fun hc => ?_) (fun hc => ?_)) | refine goR ?_ | refine goP ?_ | apply PSeq.cons | apply PSeq.yes rfl rfl rfl | exact goW | fail)
      exact ⟨_, _, _, (Ent.mkP goSub goPm), ⟨i + 1, rows, rfl, ⟨by omega, by omega, h0, hrl⟩, rfl, rfl⟩, by omega⟩
    · rw [List.concat_eq_append] at *
      have hym : y ∈ xs := hSm y (by rw [hfm]; simp)
      have hspec := hs x y hxm hym
      have hjl : (f' ++ [y]).length = f'.length + 1 := by simp
      rw [hjl] at hj
      subst hj
      have hy0 : rows[(((f'.length + 1 : Nat) : Int) - 1).toNat]? = some [.str y.flt, .int y.fr, .int y.to] := by
        rw [hrows, show (((f'.length + 1 : Nat) : Int) - 1).toNat = f'.length by omega]
        exact rows_at (by simp)
      cases hc0 : lt x y
      · have hcf : ¬ cf x y < 0 := by rw [hlt] at hc0; simpa using hc0
        have h0 := fin rows hrows (insB_ge lt hc0)
        repeat' (first | refine goH ?_ | refine goV ?_ | refine goG ?_ | (refine Ops.k_guard ?_; first | (refine Ops.guard_dec rfl rfl (fun hc => ?_) (fun hc => ?_) <;> try (exfalso; omega)) | refine Ops.guard_split rfl rfl (fun hc => ?_) (fun hc => ?_)) | refine goI ?_ | (refine Cw.k_cond ?_; first | (refine Cw.cond_dec rfl (fun hc => ?_) (fun hc => ?_) <;> try (exfalso; omega)) | refine Cw.cond_bool rfl (fun hc => ?_) (fun hc => ?_)) | exact OpW.callS_fn rfl hspec (Evs.cons rfl (Evs.cons rfl Evs.nil)) List.perm_append_comm | refine goR ?_ | refine goP ?_ | apply PSeq.cons | apply PSeq.yes rfl rfl rfl | exact goW | fail)
        exact ⟨_, _, _, (Ent.mkP goSub goPm), ⟨i + 1, rows, rfl, ⟨by omega, by omega, h0, hrl⟩, rfl, rfl⟩, by omega⟩
      · have hcf : cf x y < 0 := by rw [hlt] at hc0; simpa using hc0
        have hset : (rows.set ((f'.length + 1 : Nat) : Int).toNat [.str y.flt, .int y.fr, .int y.to])[(((f'.length + 1 : Nat) : Int) - 1).toNat]? = some [.str y.flt, .int y.fr, .int y.to] := by
          rw [List.getElem?_set_ne (by omega)]
          exact hy0
        have hlen2 : (rows.set ((f'.length + 1 : Nat) : Int).toNat [.str y.flt, .int y.fr, .int y.to]).length = n := by rw [List.length_set]; exact hrl
        have hres : (rows.set ((f'.length + 1 : Nat) : Int).toNat [.str y.flt, .int y.fr, .int y.to]).set (((f'.length + 1 : Nat) : Int) - 1).toNat [.str x.flt, .int x.fr, .int x.to] = (f' ++ x :: (y :: m ++ xs.drop (i + 1))).map Fd.row := by
          rw [hrows, show (((f'.length + 1 : Nat) : Int) - 1).toNat = f'.length by omega, show ((f'.length + 1 : Nat) : Int).toNat = f'.length + 1 by omega]
          simp [List.set_append]
          all_goals (try exact ⟨rfl, rfl⟩)
        have hm : S = f' ++ (y :: m) := by rw [hfm]; simp
        have hins2 : insB lt x S = insB lt x f' ++ (y :: m) := by rw [hins, insB_lt lt hc0]; simp
        clear fin hnext hS hSl hSm hfm hins hrows
        repeat' (first | refine goH ?_ | refine goV ?_ | refine goG ?_ | (refine Ops.k_guard ?_; first | (refine Ops.guard_dec rfl rfl (fun hc => ?_) (fun hc => ?_) <;> try (exfalso; omega)) | refine Ops.guard_split rfl rfl (fun hc => ?_) (fun hc => ?_)) | refine goI ?_ | (refine Cw.k_cond ?_; first | (refine Cw.cond_dec rfl (fun hc => ?_) (fun hc => ?_) <;> try (exfalso; omega)) | refine Cw.cond_bool rfl (fun hc => ?_) (fun hc => ?_)) | exact OpW.callS_fn rfl hspec (Evs.cons rfl (Evs.cons rfl Evs.nil)) List.perm_append_comm | refine goR ?_ | refine goP ?_ | apply PSeq.cons | apply PSeq.yes rfl rfl rfl | exact goW | fail)
        refine Cw.region_seqF (m := 15) [2, 3, 4] rfl (by decide +kernel) rfl (fun a w d => ?_) ?_
        · have h9 := rd_raw (d.env 9 _ rfl)
          have hs : a.tmps.size = 53 := d.tmps
          have h9' : a.tmps[9]'(by omega) = .int .i64 ((f'.length + 1 : Nat) : Int) := by simpa [hs] using h9
          exact FlRun.move rfl rfl rfl rfl (FlRun.move rfl rfl rfl rfl (FlRun.sub1 (p := ((f'.length + 1 : Nat) : Int)) rfl rfl rfl rfl (by simp [Act.put, Act.eval, hs, h9']) FlRun.nil))
        repeat' (first | refine goH ?_ | refine goV ?_ | refine goG ?_ | (refine Ops.k_guard ?_; first | (refine Ops.guard_dec rfl rfl (fun hc => ?_) (fun hc => ?_) <;> try (exfalso; omega)) | refine Ops.guard_split rfl rfl (fun hc => ?_) (fun hc => ?_)) | refine goI ?_ | (refine Cw.k_cond ?_; first | (refine Cw.cond_dec rfl (fun hc => ?_) (fun hc => ?_) <;> try (exfalso; omega)) | refine Cw.cond_bool rfl (fun hc => ?_) (fun hc => ?_)) | refine NoP.norm ?_ | refine goR ?_ | refine goP ?_ | apply PSeq.cons | apply PSeq.yes rfl rfl rfl | exact goW | fail)
        refine ⟨_, _, _, ?_, ⟨f', y :: m, _, f'.length, rfl, ⟨rfl, hm, hins2, hres, by rw [List.length_set]; exact hlen2⟩, rfl, rfl⟩, by simp⟩
        rw [show ((f'.length + 1 : Nat) : Int) - 1 = (f'.length : Int) by omega]
        exact (Ent.mkP goSub goPm)
  · have hin : xs.take i = xs := List.take_of_length_le (by omega)
    rw [hin, List.drop_eq_nil_of_le (by omega), List.append_nil] at hrows
    subst hrows
    repeat' (first | refine goH ?_ | refine goV ?_ | refine goG ?_ | (refine Ops.k_guard ?_; first | (refine Ops.guard_dec rfl rfl (fun hc => ?_) (fun hc => ?_) <;> try (exfalso; omega)) | refine Ops.guard_split rfl rfl (fun hc => ?_) (fun hc => ?_)) | refine goI ?_ | (refine Cw.k_cond ?_; first | (refine Cw.cond_dec rfl (fun hc => ?_) (fun hc => ?_) <;> try (exfalso; omega)) | refine Cw.cond_bool rfl (fun hc => ?_) (fun hc => ?_)) | refine goR ?_ | refine goP ?_ | apply PSeq.cons | apply PSeq.yes rfl rfl rfl | exact goW | fail)
    exact Fin.norm (Ent.mkP goSub goPm) (Outs.zero rfl) ⟨rfl, rfl⟩

/-- slices.SortFunc on at most 12 elements -/
theorem pdq_fd {n : Nat} {d : Int} {xs : List Fd} {ad : Option Addr} {cap : Nat} {g : Nat} {caps : List Value} {cin : List Chunk} {lt : Fd → Fd → Bool} {cf : Fd → Fd → Int} (hlt : ∀ a b, lt a b = decide (cf a b < 0)) (hl : xs.length ≤ 12) (hn : n = xs.length)
    (hs : ∀ a b, a ∈ xs → b ∈ xs → Spec Tryz.prog g ([(fun x : Fd => Tr.agg x.row) a, (fun x : Fd => Tr.agg x.row) b] ++ caps.map Tr.raw) cin (fun r cs => r = Tr.int (cf a b) ∧ cs = cin)) :
    Spec Tryz.prog 72 [Tr.raw (.slice ad n cap), .int 0, .int n, .int d, Tr.raw (.func (.func g) #[] caps.toArray)] (Chunk.own ad cap 3 55 (xs.map Fd.row) :: cin) (fun r cs => r = Tr.tup [] ∧ cs = Chunk.own ad cap 3 55 ((isort lt xs).map Fd.row) :: cin) := by
  have hi := insSort_fd (ad := ad) (cap := cap) hlt (show xs.length ≤ 1000000 by omega) hn hs
  refine Spec.body Tryz.func72 rfl rfl (Tryz.ntmps72) rfl fun w0 own0 M => ?_
  repeat' (first | refine goH ?_ | refine goV ?_ | refine goG ?_ | (refine Ops.k_guard ?_; first | (refine Ops.guard_dec rfl rfl (fun hc => ?_) (fun hc => ?_) <;> try (exfalso; omega)) | refine Ops.guard_split rfl rfl (fun hc => ?_) (fun hc => ?_)) | refine goI ?_ | (refine Cw.k_cond ?_; first | (refine Cw.cond_dec rfl (fun hc => ?_) (fun hc => ?_) <;> try (exfalso; omega)) | refine Cw.cond_bool rfl (fun hc => ?_) (fun hc => ?_)) | refine goR ?_ | refine goP ?_ | apply PSeq.cons | apply PSeq.yes rfl rfl rfl | exact goW | fail)
  refine Cw.loopI [(0, _), (4, _)] _ (fun q e c => q = 0 ∧ e = [(1, .int 0), (2, .int n), (3, .int d), (10, .bool true), (11, .bool true)] ∧ c = []) ⟨_, _, _, (Ent.mkP goSub goPm), rfl, rfl, rfl⟩ ?_
  rintro _ _ _ ⟨rfl, rfl, rfl⟩
  repeat' (first | refine goH ?_ | refine goV ?_ | refine goG ?_ | (refine Ops.k_guard ?_; first | (refine Ops.guard_dec rfl rfl (fun hc => ?_) (fun hc => ?_) <;> try (exfalso; omega)) | refine Ops.guard_split rfl rfl (fun hc => ?_) (fun hc => ?_)) | refine goI ?_ | (refine Cw.k_cond ?_; first | (refine Cw.cond_dec rfl (fun hc => ?_) (fun hc => ?_) <;> try (exfalso; omega)) | refine Cw.cond_bool rfl (fun hc => ?_) (fun hc => ?_)) | (refine Ops.k_calla ?_; first | (refine Ops.call (cf := []) hi (Evs.cons rfl (Evs.cons rfl (Evs.cons rfl (Evs.cons rfl Evs.nil)))) (by simp) rfl ?_; rintro r cs' ⟨rfl, rfl⟩)) | refine goR ?_ | refine goP ?_ | apply PSeq.cons | apply PSeq.yes rfl rfl rfl | exact goW | fail)
  first | exact Fin.norm (Ent.mkP goSub (by simp)) (Outs.zero rfl) ⟨rfl, rfl⟩ | exact Fin.ret (Ent.mkP goSub (by simp)) (Outs.zero rfl) ⟨rfl, rfl⟩
theorem sortFunc_fd {n : Nat} {xs : List Fd} {ad : Option Addr} {cap : Nat} {g : Nat} {caps : List Value} {cin : List Chunk} {lt : Fd → Fd → Bool} {cf : Fd → Fd → Int} (hlt : ∀ a b, lt a b = decide (cf a b < 0)) (hl : xs.length ≤ 12) (hn : n = xs.length)
    (hs : ∀ a b, a ∈ xs → b ∈ xs → Spec Tryz.prog g ([(fun x : Fd => Tr.agg x.row) a, (fun x : Fd => Tr.agg x.row) b] ++ caps.map Tr.raw) cin (fun r cs => r = Tr.int (cf a b) ∧ cs = cin)) :
    Spec Tryz.prog 47 [Tr.raw (.slice ad n cap), Tr.raw (.func (.func g) #[] caps.toArray)] (Chunk.own ad cap 3 55 (xs.map Fd.row) :: cin) (fun r cs => r = Tr.tup [] ∧ cs = Chunk.own ad cap 3 55 ((isort lt xs).map Fd.row) :: cin) := by
  have hi := fun d => pdq_fd (d := d) (ad := ad) (cap := cap) hlt hl hn hs
  have hb := bitsLen_fn n (by omega)
  unfold PFn at hb
  refine Spec.body Tryz.func47 rfl rfl (Tryz.ntmps47) rfl fun w0 own0 M => ?_
  repeat' (first | refine goH ?_ | (refine Ops.k_convert ?_; first | (refine Ops.convN Tryz.underlying3 Tryz.underlying94 rfl (wrap_u64 (by omega)) rfl ?_)) | refine goV ?_ | refine goI ?_ | (refine Cw.k_cond ?_; first | (refine Cw.cond_dec rfl (fun hc => ?_) (fun hc => ?_) <;> try (exfalso; omega)) | refine Cw.cond_bool rfl (fun hc => ?_) (fun hc => ?_)) | (refine Ops.k_calla ?_; first | (refine Ops.k_callf 73 ?_; (refine Ops.call hb (Evs.cons rfl Evs.nil) (by rw [List.nil_append]) rfl ?_; rintro r cs' ⟨rfl, v, rfl⟩; rw [List.nil_append])) | (refine Ops.call (cf := []) (hi _) (Evs.cons rfl (Evs.cons rfl (Evs.cons rfl (Evs.cons rfl (Evs.cons rfl Evs.nil))))) (by simp) rfl ?_; rintro r cs' ⟨rfl, rfl⟩)) | fail)
  first | exact Fin.norm (Ent.mkP goSub (by simp)) (Outs.zero rfl) ⟨rfl, rfl⟩ | exact Fin.ret (Ent.mkP goSub (by simp)) (Outs.zero rfl) ⟨rfl, rfl⟩

theorem fdLtD_fn (x y : Fd) : PFn Tryz.prog 48 [.agg x.row, .agg y.row] (· = .int (cfFd x y)) := by
  have k1 := compare_fn x.fr y.fr
  have k2 := compare_fn x.to y.to
  have k3 := compareS_fn x.flt y.flt
  have k4 := cmpOrI_fn [cmpI x.fr y.fr, cmpI x.to y.to, cmpS x.flt y.flt] (by simp)
  unfold cfFd
  generalize orI [cmpI x.fr y.fr, cmpI x.to y.to, cmpS x.flt y.flt] = o at *
  obtain ⟨xa, xb, xc⟩ := x
  obtain ⟨ya, yb, yc⟩ := y
  unfold Fd.row
  simp only at k1 k2 k3 k4 ⊢
  refine PFn.mk (Spec.body Tryz.func48 rfl rfl (Tryz.ntmps48) rfl fun w0 own0 M => ?_)
  repeat' (first | refine goH ?_ | refine goV ?_ | refine goB (fun b => ?_) | refine goI ?_ | (refine Cw.k_cond ?_; first | (refine Cw.cond_dec rfl (fun hc => ?_) (fun hc => ?_) <;> try (exfalso; omega)) | refine Cw.cond_bool rfl (fun hc => ?_) (fun hc => ?_)) | (refine Ops.k_calla ?_; first | (refine Ops.k_callf 32 ?_; refine Ops.callV k1 (Evs.cons rfl (Evs.cons rfl Evs.nil)) rfl ?_) | (refine Ops.k_callf 32 ?_; refine Ops.callV k2 (Evs.cons rfl (Evs.cons rfl Evs.nil)) rfl ?_) | (refine Ops.k_callf 33 ?_; refine Ops.callV k3 (Evs.cons rfl (Evs.cons rfl Evs.nil)) rfl ?_) | (refine Ops.k_callf 31 ?_; refine Ops.callV k4 (Evs.cons rfl Evs.nil) rfl ?_)) | (apply OpW.k_call; first | (apply OpW.k_callf 32; exact OpW.callV k1 (Evs.cons rfl (Evs.cons rfl Evs.nil))) | (apply OpW.k_callf 32; exact OpW.callV k2 (Evs.cons rfl (Evs.cons rfl Evs.nil))) | (apply OpW.k_callf 33; exact OpW.callV k3 (Evs.cons rfl (Evs.cons rfl Evs.nil))) | (apply OpW.k_callf 31; exact OpW.callV k4 (Evs.cons rfl Evs.nil))) | refine goR ?_ | refine goP ?_ | apply PSeq.cons | apply PSeq.yes rfl rfl rfl | exact goW | fail)
  exact Fin.ret (Ent.take goTk) (Outs.one rfl rfl) ⟨rfl, rfl⟩
theorem fdLtD_sort (us : List Fd) (hu : us.length ≤ 1000000) (ad : Option Addr) (cap n : Nat) (hn : n = us.length) : Spec Tryz.prog 47 [Tr.raw (.slice ad n cap), Tr.raw (.func (.func 48) #[] #[])] [Chunk.own ad cap 3 55 (us.map Fd.row)]
    (fun r cs => ∃ ys : List Fd, ys.Perm us ∧ (ys.Pairwise fun a b => ¬ cfFd b a < 0) ∧ cs = [Chunk.own ad cap 3 55 (ys.map Fd.row)]) := by
  by_cases h0 : us = []
  · subst h0
    subst hn
    refine Spec.mono (sortFunc_fd (ad := ad) (cap := cap) (n := 0) (xs := []) (g := 48) (caps := []) (cin := []) (lt := fun a b => decide (cfFd a b < 0)) (cf := cfFd) (fun a b => rfl) (by simp) rfl (fun a b ha hb => by cases ha)) ?_
    rintro r cs ⟨_, rfl⟩
    exact ⟨[], List.Perm.refl _, List.Pairwise.nil, rfl⟩
  · have hp : 1 ≤ us.length := by
      cases us with
      | nil => exact absurd rfl h0
      | cons a rest => simp
    have h := sortFuncK Tryz.sortFnd (k := 3) (by omega) Tryz.isAgg55 Tryz.sizeOf55 encF (fun _ => rfl) encF_one cfFd swo_F (g := 48) (bx := []) (fun x y => (fdLtD_fn x y).impA (.cons (Imp.aggV (encF_one x)) (.cons (Imp.aggV (encF_one y)) .nil))) (ad := ad) (cap := cap) (E := 55) (xs := us) (n := n) hn (by omega) (by omega)
    refine Spec.mono h ?_
    rintro r cs ⟨ys, rfl, rfl, hperm, hsort⟩
    exact ⟨ys, hperm, hsort.imp fun h => (ltF_nf _ _).1 h, rfl⟩
theorem fdLtR_fn (x y : Fd) : PFn Tryz.prog 62 [.agg x.row, .agg y.row] (· = .int (cfFd x y)) := by
  have k1 := compare_fn x.fr y.fr
  have k2 := compare_fn x.to y.to
  have k3 := compareS_fn x.flt y.flt
  have k4 := cmpOrI_fn [cmpI x.fr y.fr, cmpI x.to y.to, cmpS x.flt y.flt] (by simp)
  unfold cfFd
  generalize orI [cmpI x.fr y.fr, cmpI x.to y.to, cmpS x.flt y.flt] = o at *
  obtain ⟨xa, xb, xc⟩ := x
  obtain ⟨ya, yb, yc⟩ := y
  unfold Fd.row
  simp only at k1 k2 k3 k4 ⊢
  refine PFn.mk (Spec.body Tryz.func62 rfl rfl (Tryz.ntmps62) rfl fun w0 own0 M => ?_)
  repeat' (first | refine goH ?_ | refine goV ?_ | refine goB (fun b => ?_) | refine goI ?_ | (refine Cw.k_cond ?_; first | (refine Cw.cond_dec rfl (fun hc => ?_) (fun hc => ?_) <;> try (exfalso; omega)) | refine Cw.cond_bool rfl (fun hc => ?_) (fun hc => ?_)) | (refine Ops.k_calla ?_; first | (refine Ops.k_callf 32 ?_; refine Ops.callV k1 (Evs.cons rfl (Evs.cons rfl Evs.nil)) rfl ?_) | (refine Ops.k_callf 32 ?_; refine Ops.callV k2 (Evs.cons rfl (Evs.cons rfl Evs.nil)) rfl ?_) | (refine Ops.k_callf 33 ?_; refine Ops.callV k3 (Evs.cons rfl (Evs.cons rfl Evs.nil)) rfl ?_) | (refine Ops.k_callf 31 ?_; refine Ops.callV k4 (Evs.cons rfl Evs.nil) rfl ?_)) | (apply OpW.k_call; first | (apply OpW.k_callf 32; exact OpW.callV k1 (Evs.cons rfl (Evs.cons rfl Evs.nil))) | (apply OpW.k_callf 32; exact OpW.callV k2 (Evs.cons rfl (Evs.cons rfl Evs.nil))) | (apply OpW.k_callf 33; exact OpW.callV k3 (Evs.cons rfl (Evs.cons rfl Evs.nil))) | (apply OpW.k_callf 31; exact OpW.callV k4 (Evs.cons rfl Evs.nil))) | refine goR ?_ | refine goP ?_ | apply PSeq.cons | apply PSeq.yes rfl rfl rfl | exact goW | fail)
  exact Fin.ret (Ent.take goTk) (Outs.one rfl rfl) ⟨rfl, rfl⟩
theorem fdLtR_sort (us : List Fd) (hu : us.length ≤ 1000000) (ad : Option Addr) (cap n : Nat) (hn : n = us.length) : Spec Tryz.prog 47 [Tr.raw (.slice ad n cap), Tr.raw (.func (.func 62) #[] #[])] [Chunk.own ad cap 3 55 (us.map Fd.row)]
    (fun r cs => ∃ ys : List Fd, ys.Perm us ∧ (ys.Pairwise fun a b => ¬ cfFd b a < 0) ∧ cs = [Chunk.own ad cap 3 55 (ys.map Fd.row)]) := by
  by_cases h0 : us = []
  · subst h0
    subst hn
    refine Spec.mono (sortFunc_fd (ad := ad) (cap := cap) (n := 0) (xs := []) (g := 62) (caps := []) (cin := []) (lt := fun a b => decide (cfFd a b < 0)) (cf := cfFd) (fun a b => rfl) (by simp) rfl (fun a b ha hb => by cases ha)) ?_
    rintro r cs ⟨_, rfl⟩
    exact ⟨[], List.Perm.refl _, List.Pairwise.nil, rfl⟩
  · have hp : 1 ≤ us.length := by
      cases us with
      | nil => exact absurd rfl h0
      | cons a rest => simp
    have h := sortFuncK Tryz.sortFnd (k := 3) (by omega) Tryz.isAgg55 Tryz.sizeOf55 encF (fun _ => rfl) encF_one cfFd swo_F (g := 62) (bx := []) (fun x y => (fdLtR_fn x y).impA (.cons (Imp.aggV (encF_one x)) (.cons (Imp.aggV (encF_one y)) .nil))) (ad := ad) (cap := cap) (E := 55) (xs := us) (n := n) hn (by omega) (by omega)
    refine Spec.mono h ?_
    rintro r cs ⟨ys, rfl, rfl, hperm, hsort⟩
    exact ⟨ys, hperm, hsort.imp fun h => (ltF_nf _ _).1 h, rfl⟩
theorem fd_uniq {a b u : List Fd} (ha : a.Perm u) (hb : b.Perm u) (h1 : a.Pairwise fun a b => ¬ cfFd b a < 0) (h2 : b.Pairwise fun a b => ¬ cfFd b a < 0) : a = b :=
  sorted_uniq (le := fun a b => ¬ cfFd b a < 0) (ha.trans hb.symm) (fun a _ b _ h3 h4 => cfFd_anti h4 h3) h1 h2
end Lg
end
section
set_option linter.all false
set_option maxRecDepth 100000
set_option maxHeartbeats 8000000
namespace Lg
open Go Go.Proofs

deriving instance DecidableEq for Fd
/-! ### findings compared (after Mv6) -/
def eqIB (a b : Int) : Bool := a == b
def eqSB (a b : ByteArray) : Bool := a == b
theorem eqI0 (n : Nat) (a b : Int) (w : World) : (Op.equalIn (n + 1) 3 (.int .i64 a) (.int .i64 b)).run Tryz.prog w = .ok (eqIB a b) w := by
  simp [Op.equalIn, run_underlying Tryz.underlying3, eqIB]
theorem eqS0 (n : Nat) (a b : ByteArray) (w : World) : (Op.equalIn (n + 1) 9 (.string a) (.string b)).run Tryz.prog w = .ok (eqSB a b) w := by
  simp [Op.equalIn, run_underlying Tryz.underlying9, eqSB]
theorem fd_eq0 (n : Nat) (s1 s2 : ByteArray) (n1 m1 n2 m2 : Int) (w : World) : (Op.equalIn (n + 1 + 1) 55 (.agg #[.string s1, .int .i64 n1, .int .i64 m1]) (.agg #[.string s2, .int .i64 n2, .int .i64 m2])).run Tryz.prog w
    = .ok (eqSB s1 s2 && (eqIB n1 n2 && eqIB m1 m2)) w := by
  have hs : Tryz.prog.stoodInHeld 55 = false := by kernel_rfl
  rw [Op.equalIn]
  have g1 := fun w => eqS0 n s1 s2 w
  have g2 := fun w => eqI0 n n1 n2 w
  have g3 := fun w => eqI0 n m1 m2 w
  generalize eqSB s1 s2 = e1 at *
  generalize eqIB n1 n2 = e2 at *
  generalize eqIB m1 m2 = e3 at *
  cases e1
  · simp [run_underlying Tryz.underlying55, run_underlying Tryz.underlying3, run_underlying Tryz.underlying9, hs, part, Go.sizeOf, typeInfo, g1]
  cases e2
  · simp [run_underlying Tryz.underlying55, run_underlying Tryz.underlying3, run_underlying Tryz.underlying9, hs, part, Go.sizeOf, typeInfo, g1, g2]
  cases e3
  all_goals simp [run_underlying Tryz.underlying55, run_underlying Tryz.underlying3, run_underlying Tryz.underlying9, hs, part, Go.sizeOf, typeInfo, g1, g2, g3]
theorem fd_dec (a b : Fd) : (eqSB a.flt b.flt && (eqIB a.fr b.fr && eqIB a.to b.to)) = decide (a = b) := by
  unfold eqSB eqIB
  rw [ba_beq]
  obtain ⟨s, n, m⟩ := a
  obtain ⟨s2, n2, m2⟩ := b
  rw [Bool.eq_iff_iff]
  simp
abbrev fdV (a : Fd) : List Value := [.string a.flt, .int .i64 a.fr, .int .i64 a.to]
theorem fd_eq1 (a b   : Fd) (w : World) : (binOp .eql 55 (.agg (fdV a).toArray) (.agg (fdV b).toArray)).run Tryz.prog w = .ok (.bool (decide (a = b))) w := by
  show (do let r ← Op.equalIn (9998 + 1 + 1) 55 _ _; pure (Value.bool r) : Sem Value).run Tryz.prog w = _
  have := fd_eq0 9998 a.flt b.flt a.fr a.to b.fr b.to w
  rw [fd_dec] at this
  generalize Op.equalIn (9998 + 1 + 1) 55 (.agg #[.string a.flt, .int .i64 a.fr, .int .i64 a.to]) (.agg #[.string b.flt, .int .i64 b.fr, .int .i64 b.to]) = s at *
  simp [this]
theorem fd_ne1 (a b   : Fd) (w : World) : (binOp .neq 55 (.agg (fdV a).toArray) (.agg (fdV b).toArray)).run Tryz.prog w = .ok (.bool (!decide (a = b))) w := by
  show (do let r ← Op.equalIn (9998 + 1 + 1) 55 _ _; pure (Value.bool !r) : Sem Value).run Tryz.prog w = _
  have := fd_eq0 9998 a.flt b.flt a.fr a.to b.fr b.to w
  rw [fd_dec] at this
  generalize Op.equalIn (9998 + 1 + 1) 55 (.agg #[.string a.flt, .int .i64 a.fr, .int .i64 a.to]) (.agg #[.string b.flt, .int .i64 b.fr, .int .i64 b.to]) = s at *
  simp [this]
section
variable {Γ : Ctx} {env : Env} {cs : List Chunk} {x y : Operand} {T2 ty : TypeId}
theorem OpV.fd_eqv {a b : Fd} {r : Bool} (hr : decide (a = b) = r) (hx : ev env x = some (.agg a.row)) (hy : ev env y = some (.agg b.row)) : OpV Tryz.prog Γ (.binOp .eql 55 x y T2) ty env cs (.bool r) := by
  subst hr
  unfold OpV
  intro ac w d
  have h1 := agg_raw (l := fdV a) (d.ev hx)
  have h2 := agg_raw (l := fdV b) (d.ev hy)
  have h3 := fd_eq1 a b w
  have h4 : (eqGuard .eql 55 x y (.agg (fdV a).toArray) (.agg (fdV b).toArray)).run Tryz.prog w = .ok () w := by simp [eqGuard]
  exact ⟨.bool (decide (a = b)), by simp [execOp, h1, h2, h3, h4], by unfold Tr.bool Tr.raw; rfl⟩
theorem OpV.fd_nev {a b : Fd} {r : Bool} (hr : decide (a = b) = r) (hx : ev env x = some (.agg a.row)) (hy : ev env y = some (.agg b.row)) : OpV Tryz.prog Γ (.binOp .neq 55 x y T2) ty env cs (.bool (!r)) := by
  subst hr
  unfold OpV
  intro ac w d
  have h1 := agg_raw (l := fdV a) (d.ev hx)
  have h2 := agg_raw (l := fdV b) (d.ev hy)
  have h3 := fd_ne1 a b w
  have h4 : (eqGuard .neq 55 x y (.agg (fdV a).toArray) (.agg (fdV b).toArray)).run Tryz.prog w = .ok () w := by simp [eqGuard]
  exact ⟨.bool (!decide (a = b)), by simp [execOp, h1, h2, h3, h4], by unfold Tr.bool Tr.raw; rfl⟩
end
/-- slices.Compact of a slice of one's own: neighbours that are the same, once -/
theorem compact_fd {ad : Option Addr} {n cap : Nat} (L : List Fd) (hn : n = L.length) (hl : n ≤ 1000000) :
    Spec Tryz.prog 49 [Tr.raw (.slice ad n cap)] [Chunk.own ad cap 3 55 (L.map Fd.row)] (fun r cs => ∃ m, m = (dd L).length ∧ r = Tr.raw (.slice ad m cap) ∧ cs = [Chunk.own ad cap 3 55 ((dd L).map Fd.row)]) := by
  refine Spec.body Tryz.func49 rfl rfl (Tryz.ntmps49) rfl fun w0 own0 M => ?_
  have hLr : (L.map Fd.row).length = n := by rw [List.length_map, hn]
  by_cases hs : n < 2
  · repeat' (first | refine goH ?_ | refine goV ?_ | refine goI ?_ | (refine Cw.k_cond ?_; first | (refine Cw.cond_dec rfl (fun hc => ?_) (fun hc => ?_) <;> try (exfalso; omega)) | refine Cw.cond_bool rfl (fun hc => ?_) (fun hc => ?_)) | refine goR ?_ | refine goP ?_ | apply PSeq.cons | apply PSeq.yes rfl rfl rfl | exact goW | fail)
    have hd : dd L = L := dd_short (by omega)
    rw [hd]
    exact Fin.ret (Ent.take goTk) (Outs.one rfl rfl) ⟨_, hn, rfl, rfl⟩
  repeat' (first | refine goH ?_ | refine goV ?_ | refine goI ?_ | (refine Cw.k_cond ?_; first | (refine Cw.cond_dec rfl (fun hc => ?_) (fun hc => ?_) <;> try (exfalso; omega)) | refine Cw.cond_bool rfl (fun hc => ?_) (fun hc => ?_)) | refine goR ?_ | refine goP ?_ | apply PSeq.cons | apply PSeq.yes rfl rfl rfl | exact goW | fail)
  refine Cw.loopI [(0, _)] _ (fun q e cc => ∃ (k : Nat), q = n - k ∧ (1 ≤ k ∧ k ≤ n ∧ dd (L.take k) = L.take k) ∧ e = [(3, .int k)] ∧ cc = [Chunk.own ad cap 3 55 (L.map Fd.row)]) ⟨_, _, _, (Ent.mkP goSub goPm), 1, rfl, ⟨by omega, by omega, dd_short (by rw [List.length_take]; omega)⟩, rfl, rfl⟩ ?_
  rintro _ _ _ ⟨k, rfl, ⟨hk1, hk, hd⟩, rfl, rfl⟩
  by_cases hkl : k < n
  rotate_left
  · have hke : k = n := by omega
    subst hke
    rw [hn, List.take_length] at hd
    repeat' (first | refine goH ?_ | refine goV ?_ | refine goI ?_ | (refine Cw.k_cond ?_; first | (refine Cw.cond_dec rfl (fun hc => ?_) (fun hc => ?_) <;> try (exfalso; omega)) | refine Cw.cond_bool rfl (fun hc => ?_) (fun hc => ?_)) | refine goR ?_ | refine goP ?_ | apply PSeq.cons | apply PSeq.yes rfl rfl rfl | exact goW | fail)
    rw [hd]
    exact Fin.ret (Ent.take goTk) (Outs.one rfl rfl) ⟨_, hn, rfl, rfl⟩
  refine Cw.own_form (List.Perm.refl _) (by omega) ?_
  rintro g rfl hcp hcm
  rw [hLr] at hcp
  obtain ⟨a, ha⟩ := at_lt (l := L) (k := k - 1) (by omega)
  obtain ⟨b, hb⟩ := at_lt (l := L) (k := k) (by omega)
  have ra : (L.map Fd.row)[((k : Int) - 1).toNat]? = some (Fd.row a) := by rw [show ((k : Int) - 1).toNat = k - 1 by omega]; exact rows_at ha
  have rb : (L.map Fd.row)[((k : Nat) : Int).toNat]? = some (Fd.row b) := by rw [Int.toNat_natCast]; exact rows_at hb
  skip
  by_cases hab : b = a
  rotate_left
  · have hd2 := dd_go hk1 ha hb hd (fun h => hab h.symm)
    have he : decide (b = a) = false := decide_eq_false hab
    repeat' (first | refine goH ?_ | refine goV ?_ | refine goI ?_ | (refine Cw.k_cond ?_; first | (refine Cw.cond_dec rfl (fun hc => ?_) (fun hc => ?_) <;> try (exfalso; omega)) | refine Cw.cond_bool rfl (fun hc => ?_) (fun hc => ?_)) | (apply OpV.w; apply OpV.k_b_eql; exact OpV.fd_eqv he rfl rfl) | refine goR ?_ | refine goP ?_ | apply PSeq.cons | apply PSeq.yes rfl rfl rfl | exact goW | fail)
    exact ⟨_, _, _, (Ent.mk goSub goTk), ⟨k + 1, rfl, ⟨by omega, by omega, hd2⟩, rfl, rfl⟩, by omega⟩
  subst hab
  have hw := dd_dup hk1 ha hb hd
  have he : decide (b = b) = true := decide_eq_true rfl
  clear ha hb
  repeat' (first | refine goH ?_ | ((fail_if_success refine Ops.k_slice ?_); refine goV ?_) | refine goI ?_ | (refine Cw.k_cond ?_; first | (refine Cw.cond_dec rfl (fun hc => ?_) (fun hc => ?_) <;> try (exfalso; omega)) | refine Cw.cond_bool rfl (fun hc => ?_) (fun hc => ?_)) | (apply OpV.w; apply OpV.k_b_eql; exact OpV.fd_eqv he rfl rfl) | refine goR ?_ | refine goP ?_ | apply PSeq.cons | apply PSeq.yes rfl rfl rfl | exact goW | fail)
  clear he
  refine Ops.k_slice ?_
  refine Ops.sliceR_l rfl rfl (by omega) (by omega) rfl ?_
  clear ra rb
  rw [show Tr.raw (Value.slice (some ⟨g, 0 + ((k : Nat) : Int).toNat * 3, none⟩) (n - ((k : Nat) : Int).toNat) (cap - ((k : Nat) : Int).toNat)) = Tr.qsl (some ⟨g, 0, none⟩) k 3 (n - k) (cap - k) by unfold Tr.qsl; rw [Int.toNat_natCast, Nat.zero_add]; rfl]
  repeat' (first | refine goH ?_ | refine goV ?_ | refine goI ?_ | (refine Cw.k_cond ?_; first | (refine Cw.cond_dec rfl (fun hc => ?_) (fun hc => ?_) <;> try (exfalso; omega)) | refine Cw.cond_bool rfl (fun hc => ?_) (fun hc => ?_)) | refine goR ?_ | refine goP ?_ | apply PSeq.cons | apply PSeq.yes rfl rfl rfl | exact goW | fail)
  refine Cw.loopI [(0, _), (4, _)] _ (fun q e cc => ∃ (i m : Nat) (W : List Fd), q = n - i ∧ (1 ≤ i ∧ k + i ≤ n ∧ Cpt L W m (k + i)) ∧ e = [(3, .int m), (5, .int i)] ∧ cc = [Chunk.own (some ⟨g, 0, none⟩) cap 3 55 (W.map Fd.row)]) ⟨_, _, _, (Ent.mkP goSub goPm), 1, k, L, rfl, ⟨by omega, by omega, hw⟩, rfl, rfl⟩ ?_
  clear hw
  rintro _ _ _ ⟨i, m, W, rfl, ⟨hi1, hik, hw⟩, rfl, rfl⟩
  have hWl : (W.map Fd.row).length = n := by rw [List.length_map, hw.len, hn]
  have hmlt := hw.lt
  by_cases hin : k + i < n
  · obtain ⟨a, ha⟩ := at_lt (l := L) (k := k + i - 1) (by omega)
    obtain ⟨b, hb⟩ := at_lt (l := L) (k := k + i) (by omega)
    have ra : (W.map Fd.row)[k + ((i : Int) - 1).toNat]? = some (Fd.row a) := by rw [show k + ((i : Int) - 1).toNat = k + i - 1 by omega]; exact rows_at ((hw.at0 (by omega)).trans ha)
    have rb : (W.map Fd.row)[k + ((i : Nat) : Int).toNat]? = some (Fd.row b) := by rw [Int.toNat_natCast]; exact rows_at ((hw.at0 (by omega)).trans hb)
    skip
    by_cases hab : b = a
    · subst hab
      have hw2 := hw.same ha hb
      have he : decide (b = b) = true := decide_eq_true rfl
      clear ha hb hw
      repeat' (first | refine goH ?_ | (refine Ops.k_indexAddr ?_; first | (refine Ops.indexAddr_sub rfl rfl goPk (by omega) (by omega) (by omega) rfl ?_)) | refine goV ?_ | refine goI ?_ | (refine Cw.k_cond ?_; first | (refine Cw.cond_dec rfl (fun hc => ?_) (fun hc => ?_) <;> try (exfalso; omega)) | refine Cw.cond_bool rfl (fun hc => ?_) (fun hc => ?_)) | (apply OpV.w; apply OpV.k_indexAddr; exact OpV.indexAddr_sub rfl rfl goPk (by omega) (by omega) (by omega)) | (apply OpV.w; apply OpV.k_b_neq; exact OpV.fd_nev he rfl rfl) | refine goR ?_ | refine goP ?_ | apply PSeq.cons | apply PSeq.yes rfl rfl rfl | exact goW | fail)
      exact ⟨_, _, _, (Ent.mk goSub goTk), ⟨i + 1, m, W, rfl, ⟨by omega, by omega, hw2⟩, rfl, rfl⟩, by omega⟩
    · have hw2 := hw.new ha hb (fun h => hab h.symm)
      have he : decide (b = a) = false := decide_eq_false hab
      have hset : (W.map Fd.row).set m (Fd.row b) = (W.set m b).map Fd.row := by rw [List.map_set]
      obtain ⟨c, hc⟩ := at_lt (l := W) (k := m) (by rw [hw.len]; omega)
      have rc : (W.map Fd.row)[((m : Nat) : Int).toNat]? = some (Fd.row c) := by rw [Int.toNat_natCast]; exact rows_at hc
      try simp only at rc hset
      clear ha hb hw hc
      repeat' (first | refine goH ?_ | (refine Ops.k_indexAddr ?_; first | (refine Ops.indexAddr_sub rfl rfl goPk (by omega) (by omega) (by omega) rfl ?_)) | refine goV ?_ | refine goI ?_ | (refine Cw.k_cond ?_; first | (refine Cw.cond_dec rfl (fun hc => ?_) (fun hc => ?_) <;> try (exfalso; omega)) | refine Cw.cond_bool rfl (fun hc => ?_) (fun hc => ?_)) | (apply OpV.w; apply OpV.k_indexAddr; exact OpV.indexAddr_sub rfl rfl goPk (by omega) (by omega) (by omega)) | (apply OpV.w; apply OpV.k_b_neq; exact OpV.fd_nev he rfl rfl) | refine goR ?_ | refine goP ?_ | apply PSeq.cons | apply PSeq.yes rfl rfl rfl | exact goW | fail)
      erw [hset]
      exact ⟨_, _, _, (Ent.mk goSub goTk), ⟨i + 1, m + 1, _, rfl, ⟨by omega, by omega, hw2⟩, rfl, rfl⟩, by omega⟩
  have hie : k + i = n := by omega
  have hdone := hw.done
  have hm := hw.hm
  rw [hie, hn, List.take_length] at hdone hm
  clear hw
  repeat' (first | refine goH ?_ | (refine Ops.k_slice ?_; first | (refine Ops.sliceR_l rfl rfl (by omega) (by omega) rfl ?_)) | ((fail_if_success refine Ops.k_c_clear ?_); refine goV ?_) | refine goI ?_ | (refine Cw.k_cond ?_; first | (refine Cw.cond_dec rfl (fun hc => ?_) (fun hc => ?_) <;> try (exfalso; omega)) | refine Cw.cond_bool rfl (fun hc => ?_) (fun hc => ?_)) | refine goR ?_ | refine goP ?_ | apply PSeq.cons | apply PSeq.yes rfl rfl rfl | exact goW | fail)
  refine Ops.k_c_clear ?_
  refine Ops.clear_part (o := m) rfl (List.Perm.refl _) (by rw [Int.toNat_natCast, Nat.zero_add]; rfl) (by omega) (by omega) ?_
  rw [Int.toNat_natCast]
  have hz : ((W.map Fd.row).take m ++ List.replicate (n - m) (List.map Tr.raw [Value.string ByteArray.empty, Value.int .i64 0, Value.int .i64 0])).take m = (dd L).map Fd.row := by
    rw [List.take_append_of_le_length (by rw [List.length_take, hWl]; omega), List.take_take, Nat.min_self, ← List.map_take, hdone]
  have hzl : ((W.map Fd.row).take m ++ List.replicate (n - m) (List.map Tr.raw [Value.string ByteArray.empty, Value.int .i64 0, Value.int .i64 0])).length = n := by rw [List.length_append, List.length_take, hWl, List.length_replicate]; omega
  generalize (W.map Fd.row).take m ++ List.replicate (n - m) (List.map Tr.raw [Value.string ByteArray.empty, Value.int .i64 0, Value.int .i64 0]) = Z at *
  repeat' (first | refine goH ?_ | refine goV ?_ | refine goI ?_ | (refine Cw.k_cond ?_; first | (refine Cw.cond_dec rfl (fun hc => ?_) (fun hc => ?_) <;> try (exfalso; omega)) | refine Cw.cond_bool rfl (fun hc => ?_) (fun hc => ?_)) | refine goR ?_ | refine goP ?_ | apply PSeq.cons | apply PSeq.yes rfl rfl rfl | exact goW | fail)
  rw [Int.toNat_natCast, hz]
  exact Fin.ret (Ent.take goTk) (Outs.one rfl rfl) ⟨_, List.length_map _, rfl, rfl⟩

end Lg
end
section
set_option linter.all false
set_option maxRecDepth 100000
set_option maxHeartbeats 8000000
namespace Lg
open Go Go.Proofs

/-! ### when a rule holds -/
def ruIs (l : List Cd) (x : Ru) (t : Int) : Bool := !(x.nds.any fun c => !onAt l c t) && !(x.wo.any fun c => onAt l c t)
theorem ruIs1_fn (l : List Cd) (hl : l.length ≤ 1000000) (c : ByteArray) (bl bt : Nat) (t : Int) : Spec Tryz.prog 60 ([.str c] ++ [Value.pointer (some ⟨bl, 0, none⟩), Value.pointer (some ⟨bt, 0, none⟩)].map Tr.raw) [Chunk.box bl 26 [.cds l], Chunk.box bt 3 [.int t]] (fun r cs => r = Tr.bool (!onAt l c t) ∧ cs = [Chunk.box bl 26 [.cds l], Chunk.box bt 3 [.int t]]) := by
  have k1 := onAt_fn l hl c t
  refine Spec.body Tryz.func60 rfl rfl (Tryz.ntmps60) rfl fun w0 own0 M => ?_
  repeat' (first | refine goH ?_ | refine goV ?_ | refine goI ?_ | (refine Cw.k_cond ?_; first | (refine Cw.cond_dec rfl (fun hc => ?_) (fun hc => ?_) <;> try (exfalso; omega)) | refine Cw.cond_bool rfl (fun hc => ?_) (fun hc => ?_)) | (refine Ops.k_calla ?_; first | (refine Ops.k_callf 56 ?_; refine Ops.callV k1 (Evs.cons rfl (Evs.cons rfl (Evs.cons rfl Evs.nil))) rfl ?_)) | fail)
  exact Fin.ret (Ent.take goTk) (Outs.one rfl rfl) ⟨rfl, rfl⟩
theorem ruIs2_fn (l : List Cd) (hl : l.length ≤ 1000000) (c : ByteArray) (bl bt : Nat) (t : Int) : Spec Tryz.prog 61 ([.str c] ++ [Value.pointer (some ⟨bl, 0, none⟩), Value.pointer (some ⟨bt, 0, none⟩)].map Tr.raw) [Chunk.box bl 26 [.cds l], Chunk.box bt 3 [.int t]] (fun r cs => r = Tr.bool (onAt l c t) ∧ cs = [Chunk.box bl 26 [.cds l], Chunk.box bt 3 [.int t]]) := by
  have k1 := onAt_fn l hl c t
  refine Spec.body Tryz.func61 rfl rfl (Tryz.ntmps61) rfl fun w0 own0 M => ?_
  repeat' (first | refine goH ?_ | refine goV ?_ | refine goI ?_ | (refine Cw.k_cond ?_; first | (refine Cw.cond_dec rfl (fun hc => ?_) (fun hc => ?_) <;> try (exfalso; omega)) | refine Cw.cond_bool rfl (fun hc => ?_) (fun hc => ?_)) | (refine Ops.k_calla ?_; first | (refine Ops.k_callf 56 ?_; refine Ops.callV k1 (Evs.cons rfl (Evs.cons rfl (Evs.cons rfl Evs.nil))) rfl ?_)) | fail)
  exact Fin.ret (Ent.take goTk) (Outs.one rfl rfl) ⟨rfl, rfl⟩
theorem ruIs_fn (l : List Cd) (hl : l.length ≤ 1000000) (x : Ru) (h1 : x.nds.length ≤ 1000) (h2 : x.wo.length ≤ 1000) (bx bl : Nat) (t : Int) : Spec Tryz.prog 59 ([.int t] ++ [Value.pointer (some ⟨bx, 0, none⟩), Value.pointer (some ⟨bl, 0, none⟩)].map Tr.raw) [Chunk.box bx 65 x.row, Chunk.box bl 26 [.cds l]] (fun r cs => r = Tr.bool (ruIs l x t) ∧ cs = [Chunk.box bx 65 x.row, Chunk.box bl 26 [.cds l]]) := by
  have k1 := fun bt => containsFunc_str (l := x.nds) (p := fun c => !onAt l c t) (g := 60) (caps := [.pointer (some ⟨bl, 0, none⟩), .pointer (some ⟨bt, 0, none⟩)]) (cin := [Chunk.box bl 26 [.cds l], Chunk.box bt 3 [.int t]]) (by omega) (fun y _ => ruIs1_fn l hl y bl bt t)
  have k2 := fun bt => containsFunc_str (l := x.wo) (p := fun c => onAt l c t) (g := 61) (caps := [.pointer (some ⟨bl, 0, none⟩), .pointer (some ⟨bt, 0, none⟩)]) (cin := [Chunk.box bl 26 [.cds l], Chunk.box bt 3 [.int t]]) (by omega) (fun y _ => ruIs2_fn l hl y bl bt t)
  rw [show (x.nds.map fun x => [Tr.str x]) = strRows x.nds from rfl] at k1
  rw [show (x.wo.map fun x => [Tr.str x]) = strRows x.wo from rfl] at k2
  unfold ruIs
  generalize (x.nds.any fun c => !onAt l c t) = o1 at *
  generalize (x.wo.any fun c => onAt l c t) = o2 at *
  obtain ⟨xf, xn, xw, xl⟩ := x
  unfold Ru.row
  simp only at k1 k2 ⊢
  cases o1 with
  | true =>
    refine Spec.body Tryz.func59 rfl rfl (Tryz.ntmps59) rfl fun w0 own0 M => ?_
    repeat' (first | refine goH ?_ | refine goV ?_ | refine goB (fun b => ?_) | refine goG ?_ | (refine Ops.k_guard ?_; first | (refine Ops.guard_dec rfl rfl (fun hc => ?_) (fun hc => ?_) <;> try (exfalso; omega)) | refine Ops.guard_split rfl rfl (fun hc => ?_) (fun hc => ?_)) | refine goI ?_ | (refine Cw.k_cond ?_; first | (refine Cw.cond_dec rfl (fun hc => ?_) (fun hc => ?_) <;> try (exfalso; omega)) | refine Cw.cond_bool rfl (fun hc => ?_) (fun hc => ?_)) | (refine Ops.k_calla ?_; first | (refine Ops.k_callf 37 ?_; (refine Ops.call (k1 _) (Evs.cons rfl (Evs.cons rfl Evs.nil)) goPm rfl ?_; rintro r cs' ⟨rfl, rfl⟩)) | (refine Ops.k_callf 37 ?_; (refine Ops.call (k2 _) (Evs.cons rfl (Evs.cons rfl Evs.nil)) goPm rfl ?_; rintro r cs' ⟨rfl, rfl⟩))) | fail)
    all_goals first | (exact Fin.ret (Ent.take goTk) (Outs.one rfl rfl) ⟨rfl, rfl⟩) | (exfalso; simp_all; done)
  | false =>
    refine Spec.body Tryz.func59 rfl rfl (Tryz.ntmps59) rfl fun w0 own0 M => ?_
    repeat' (first | refine goH ?_ | refine goV ?_ | refine goB (fun b => ?_) | refine goG ?_ | (refine Ops.k_guard ?_; first | (refine Ops.guard_dec rfl rfl (fun hc => ?_) (fun hc => ?_) <;> try (exfalso; omega)) | refine Ops.guard_split rfl rfl (fun hc => ?_) (fun hc => ?_)) | refine goI ?_ | (refine Cw.k_cond ?_; first | (refine Cw.cond_dec rfl (fun hc => ?_) (fun hc => ?_) <;> try (exfalso; omega)) | refine Cw.cond_bool rfl (fun hc => ?_) (fun hc => ?_)) | (refine Ops.k_calla ?_; first | (refine Ops.k_callf 37 ?_; (refine Ops.call (k1 _) (Evs.cons rfl (Evs.cons rfl Evs.nil)) goPm rfl ?_; rintro r cs' ⟨rfl, rfl⟩)) | (refine Ops.k_callf 37 ?_; (refine Ops.call (k2 _) (Evs.cons rfl (Evs.cons rfl Evs.nil)) goPm rfl ?_; rintro r cs' ⟨rfl, rfl⟩))) | fail)
    all_goals first | (exact Fin.ret (Ent.take goTk) (Outs.one rfl rfl) ⟨rfl, rfl⟩) | (exfalso; simp_all; done)
end Lg
end
