/- A part of the proof of a law of this seat: it adds no condition. By an AI agent. -/
import Derived.Shelf.SlSortCmp.WholeK
import Derived.Test.YthgcdnfhfejijaaGreatDoorShelf2
section
set_option linter.all false
set_option maxRecDepth 100000
set_option maxHeartbeats 8000000
namespace Lg
open Go Go.Proofs Go.Sort Go.Shelf

/-! ### days sorted -/
abbrev prD (p : Int × Int) : List Tr := [.int p.1, .int p.2]
instance : TyMap Tryz.prog 97 3 3 (.int .i64 0) := ⟨Tryz.underlying97, ⟨_, rfl, rfl⟩⟩
instance : KeyTy Tryz.prog 3 (Value.int .i64) := KeyTy.int Tryz.underlying3
/-- insertion sort, of a slice of one's own, by a function that only reads -/
theorem insSort_day {n : Nat} {xs : List (Int × Int)} {ad : Option Addr} {cap : Nat} {g : Nat} {caps : List Value} {cin : List Chunk} {lt : (Int × Int) → (Int × Int) → Bool} {cf : (Int × Int) → (Int × Int) → Int} (hlt : ∀ a b, lt a b = decide (cf a b < 0)) (hl : xs.length ≤ 1000000) (hn : n = xs.length)
  (hs : ∀ a b, a ∈ xs → b ∈ xs → Spec Tryz.prog g ([(fun x : Int × Int => Tr.agg (prD x)) a, (fun x : Int × Int => Tr.agg (prD x)) b] ++ caps.map Tr.raw) cin (fun r cs => r = Tr.int (cf a b) ∧ cs = cin)) :
  Spec Tryz.prog 92 [Tr.raw (.slice ad n cap), .int 0, .int n, Tr.raw (.func (.func g) #[] caps.toArray)] (Chunk.own ad cap 2 69 (xs.map prD) :: cin) (fun r cs => r = Tr.tup [] ∧ cs = Chunk.own ad cap 2 69 ((isort lt xs).map prD) :: cin) := by
 refine Spec.body Tryz.func92 rfl rfl (Tryz.ntmps92) rfl fun w0 own0 M => ?_
 repeat' (first | refine goH ?_ | refine goV ?_ | refine goG ?_ | (refine Ops.k_guard ?_; first | (refine Ops.guard_dec rfl rfl ?_ ?_ <;> intro hc <;> try omega) | refine Ops.guard_split rfl rfl ?_ ?_ <;> intro hc) | refine goI ?_ | (refine Cw.k_cond ?_; first | (refine Cw.cond_dec rfl ?_ ?_ <;> intro hc <;> try omega) | refine Cw.cond_bool rfl ?_ ?_ <;> intro hc) | refine goR ?_ | refine goP ?_ | apply PSeq.cons | apply PSeq.yes rfl rfl rfl | exact goW | fail)
 refine Cw.loopI [(0, _), (1, _), (2, _), (3, _)] cin (fun q e c => ∃ (i : Nat) (rows : List (List Tr)), q = n - i ∧ (1 ≤ i ∧ i ≤ max 1 n ∧ rows = (isort lt (xs.take i) ++ xs.drop i).map prD ∧ rows.length = n) ∧ e = [(8, .int i)] ∧ c = [Chunk.own ad cap 2 69 rows])
  ⟨_, _, _, (Ent.mkP goSub goPm), 1, xs.map prD, rfl, ⟨by omega, by omega, by rw [isort_take1, List.take_append_drop], by rw [List.length_map, hn]⟩, rfl, rfl⟩ ?_
 rintro _ _ _ ⟨i, rows, rfl, ⟨hi1, hi2, hrows, hrl⟩, rfl, rfl⟩
 by_cases hil : i < n
 ·obtain ⟨x, hx⟩ : ∃ x, xs[i]? = some x := at_lt (by omega)
  obtain ⟨S, hS⟩ : ∃ S, S = isort lt (xs.take i) := ⟨_, rfl⟩
  have hSl : S.length = i := by rw [hS, isort_len, List.length_take]; omega
  have hSm : ∀ y ∈ S, y ∈ xs := fun y hy => List.mem_of_mem_take ((isort_perm lt (xs.take i)).mem_iff.1 (by rw [← hS]; exact hy))
  have hxm : x ∈ xs := List.mem_of_getElem? hx
  have hnext : isort lt (xs.take (i + 1)) = insB lt x S := by rw [take_at hx, isort_snoc, ← hS]
  rw [← hS, drop_at hx] at hrows
  repeat' (first | refine goH ?_ | refine goV ?_ | refine goG ?_ | (refine Ops.k_guard ?_; first | (refine Ops.guard_dec rfl rfl ?_ ?_ <;> intro hc <;> try omega) | refine Ops.guard_split rfl rfl ?_ ?_ <;> intro hc) | refine goI ?_ | (refine Cw.k_cond ?_; first | (refine Cw.cond_dec rfl ?_ ?_ <;> intro hc <;> try omega) | refine Cw.cond_bool rfl ?_ ?_ <;> intro hc) | refine goR ?_ | refine goP ?_ | apply PSeq.cons | apply PSeq.yes rfl rfl rfl | exact goW | fail)
  refine Cw.loopI [(0, _), (1, _), (2, _), (3, _), (8, _)] cin (fun q e c => ∃ (f m : List (Int × Int)) (rows : List (List Tr)) (j : Nat), q = f.length ∧ (f.length = j ∧ S = f ++ m ∧ insB lt x S = insB lt x f ++ m ∧ rows = (f ++ x :: (m ++ xs.drop (i + 1))).map prD ∧ rows.length = n) ∧ e = [(9, .int j)] ∧ c = [Chunk.own ad cap 2 69 rows])
   ⟨_, _, _, (Ent.mkP goSub goPm), S, [], rows, i, rfl, ⟨hSl, by simp, by simp, by rw [hrows]; simp, hrl⟩, rfl, rfl⟩ ?_
  clear hrows hrl
  rintro _ _ _ ⟨f, m, rows, j, rfl, ⟨hj, hfm, hins, hrows, hrl⟩, rfl, rfl⟩
  have hfl : j ≤ i := by rw [← hSl, hfm, List.length_append]; omega
  have hx0 : rows[((j : Nat) : Int).toNat]? = some [.int x.1, .int x.2] := by rw [hrows]; exact rows_at (by simp [← hj])
  have fin : ∀ rows' : List (List Tr), rows' = (f ++ x :: (m ++ xs.drop (i + 1))).map prD → insB lt x f = f ++ [x] → rows' = (isort lt (xs.take (i + 1)) ++ xs.drop (i + 1)).map prD := by
   intro rows' h1 h2
   rw [h1, hnext, hins, h2]
   simp
  rcases List.eq_nil_or_concat f with rfl | ⟨f', y, rfl⟩
  ·rw [List.length_nil] at hj
   subst hj
   have h0 := fin rows hrows (insB_nil lt x)
   repeat' (first | refine goH ?_ | refine goV ?_ | refine goG ?_ | (refine Ops.k_guard ?_; first | (refine Ops.guard_dec rfl rfl ?_ ?_ <;> intro hc <;> try omega) | refine Ops.guard_split rfl rfl ?_ ?_ <;> intro hc) | refine goI ?_ | (refine Cw.k_cond ?_; first | (refine Cw.cond_dec rfl ?_ ?_ <;> intro hc <;> try omega) | refine Cw.cond_bool rfl ?_ ?_ <;> intro hc) | refine goR ?_ | refine goP ?_ | apply PSeq.cons | apply PSeq.yes rfl rfl rfl | exact goW | fail)
   exact ⟨_, _, _, (Ent.mkP goSub goPm), ⟨i + 1, rows, rfl, ⟨by omega, by omega, h0, hrl⟩, rfl, rfl⟩, by omega⟩
  ·rw [List.concat_eq_append] at *
   have hym : y ∈ xs := hSm y (by rw [hfm]; simp)
   have hspec := hs x y hxm hym
   have hjl : (f' ++ [y]).length = f'.length + 1 := by simp
   rw [hjl] at hj
   subst hj
   have hy0 : rows[(((f'.length + 1 : Nat) : Int) - 1).toNat]? = some [.int y.1, .int y.2] := by
    rw [hrows, show (((f'.length + 1 : Nat) : Int) - 1).toNat = f'.length by omega]
    exact rows_at (by simp)
   cases hc0 : lt x y
   ·have hcf : ¬ cf x y < 0 := by rw [hlt] at hc0; simpa using hc0
    have h0 := fin rows hrows (insB_ge lt hc0)
    repeat' (first | refine goH ?_ | refine goV ?_ | refine goG ?_ | (refine Ops.k_guard ?_; first | (refine Ops.guard_dec rfl rfl ?_ ?_ <;> intro hc <;> try omega) | refine Ops.guard_split rfl rfl ?_ ?_ <;> intro hc) | refine goI ?_ | (refine Cw.k_cond ?_; first | (refine Cw.cond_dec rfl ?_ ?_ <;> intro hc <;> try omega) | refine Cw.cond_bool rfl ?_ ?_ <;> intro hc) | exact OpW.callS_fn rfl hspec (Evs.cons rfl (Evs.cons rfl Evs.nil)) List.perm_append_comm | refine goR ?_ | refine goP ?_ | apply PSeq.cons | apply PSeq.yes rfl rfl rfl | exact goW | fail)
    exact ⟨_, _, _, (Ent.mkP goSub goPm), ⟨i + 1, rows, rfl, ⟨by omega, by omega, h0, hrl⟩, rfl, rfl⟩, by omega⟩
   ·have hcf : cf x y < 0 := by rw [hlt] at hc0; simpa using hc0
    have hset : (rows.set ((f'.length + 1 : Nat) : Int).toNat [.int y.1, .int y.2])[(((f'.length + 1 : Nat) : Int) - 1).toNat]? = some [.int y.1, .int y.2] := by
     rw [List.getElem?_set_ne (by omega)]
     exact hy0
    have hlen2 : (rows.set ((f'.length + 1 : Nat) : Int).toNat [.int y.1, .int y.2]).length = n := by rw [List.length_set]; exact hrl
    have hres : (rows.set ((f'.length + 1 : Nat) : Int).toNat [.int y.1, .int y.2]).set (((f'.length + 1 : Nat) : Int) - 1).toNat [.int x.1, .int x.2] = (f' ++ x :: (y :: m ++ xs.drop (i + 1))).map prD := by
     rw [hrows, show (((f'.length + 1 : Nat) : Int) - 1).toNat = f'.length by omega, show ((f'.length + 1 : Nat) : Int).toNat = f'.length + 1 by omega]
     simp [List.set_append]
     all_goals (try exact ⟨rfl, rfl⟩)
    have hm : S = f' ++ (y :: m) := by rw [hfm]; simp
    have hins2 : insB lt x S = insB lt x f' ++ (y :: m) := by rw [hins, insB_lt lt hc0]; simp
    clear fin hnext hS hSl hSm hfm hins hrows
    repeat' (first | refine goH ?_ | refine goV ?_ | refine goG ?_ | (refine Ops.k_guard ?_; first | (refine Ops.guard_dec rfl rfl ?_ ?_ <;> intro hc <;> try omega) | refine Ops.guard_split rfl rfl ?_ ?_ <;> intro hc) | refine goI ?_ | (refine Cw.k_cond ?_; first | (refine Cw.cond_dec rfl ?_ ?_ <;> intro hc <;> try omega) | refine Cw.cond_bool rfl ?_ ?_ <;> intro hc) | exact OpW.callS_fn rfl hspec (Evs.cons rfl (Evs.cons rfl Evs.nil)) List.perm_append_comm | refine goR ?_ | refine goP ?_ | apply PSeq.cons | apply PSeq.yes rfl rfl rfl | exact goW | fail)
    refine Cw.region_seqF (m := 15) [2, 3, 4] rfl (by decide +kernel) rfl (fun a w d => ?_) ?_
    ·have h9 := rd_raw (d.env 9 _ rfl)
     have hs : a.tmps.size = 53 := d.tmps
     have h9' : a.tmps[9]'(by omega) = .int .i64 ((f'.length + 1 : Nat) : Int) := by simpa [hs] using h9
     exact FlRun.move rfl rfl rfl rfl (FlRun.move rfl rfl rfl rfl (FlRun.sub1 (p := ((f'.length + 1 : Nat) : Int)) rfl rfl rfl rfl (by simp [Act.put, Act.eval, hs, h9']) FlRun.nil))
    repeat' (first | refine goH ?_ | refine goV ?_ | refine goG ?_ | (refine Ops.k_guard ?_; first | (refine Ops.guard_dec rfl rfl ?_ ?_ <;> intro hc <;> try omega) | refine Ops.guard_split rfl rfl ?_ ?_ <;> intro hc) | refine goI ?_ | (refine Cw.k_cond ?_; first | (refine Cw.cond_dec rfl ?_ ?_ <;> intro hc <;> try omega) | refine Cw.cond_bool rfl ?_ ?_ <;> intro hc) | refine NoP.norm ?_ | refine goR ?_ | refine goP ?_ | apply PSeq.cons | apply PSeq.yes rfl rfl rfl | exact goW | fail)
    refine ⟨_, _, _, ?_, ⟨f', y :: m, _, f'.length, rfl, ⟨rfl, hm, hins2, hres, by rw [List.length_set]; exact hlen2⟩, rfl, rfl⟩, by simp⟩
    rw [show ((f'.length + 1 : Nat) : Int) - 1 = (f'.length : Int) by omega]
    exact (Ent.mkP goSub goPm)
 ·have hin : xs.take i = xs := List.take_of_length_le (by omega)
  rw [hin, List.drop_eq_nil_of_le (by omega), List.append_nil] at hrows
  subst hrows
  repeat' (first | refine goH ?_ | refine goV ?_ | refine goG ?_ | (refine Ops.k_guard ?_; first | (refine Ops.guard_dec rfl rfl ?_ ?_ <;> intro hc <;> try omega) | refine Ops.guard_split rfl rfl ?_ ?_ <;> intro hc) | refine goI ?_ | (refine Cw.k_cond ?_; first | (refine Cw.cond_dec rfl ?_ ?_ <;> intro hc <;> try omega) | refine Cw.cond_bool rfl ?_ ?_ <;> intro hc) | refine goR ?_ | refine goP ?_ | apply PSeq.cons | apply PSeq.yes rfl rfl rfl | exact goW | fail)
  exact Fin.norm (Ent.mkP goSub goPm) (Outs.zero rfl) ⟨rfl, rfl⟩

/-- slices.SortFunc on at most 12 elements -/
theorem pdq_day {n : Nat} {d : Int} {xs : List (Int × Int)} {ad : Option Addr} {cap : Nat} {g : Nat} {caps : List Value} {cin : List Chunk} {lt : (Int × Int) → (Int × Int) → Bool} {cf : (Int × Int) → (Int × Int) → Int} (hlt : ∀ a b, lt a b = decide (cf a b < 0)) (hl : xs.length ≤ 12) (hn : n = xs.length)
  (hs : ∀ a b, a ∈ xs → b ∈ xs → Spec Tryz.prog g ([(fun x : Int × Int => Tr.agg (prD x)) a, (fun x : Int × Int => Tr.agg (prD x)) b] ++ caps.map Tr.raw) cin (fun r cs => r = Tr.int (cf a b) ∧ cs = cin)) :
  Spec Tryz.prog 61 [Tr.raw (.slice ad n cap), .int 0, .int n, .int d, Tr.raw (.func (.func g) #[] caps.toArray)] (Chunk.own ad cap 2 69 (xs.map prD) :: cin) (fun r cs => r = Tr.tup [] ∧ cs = Chunk.own ad cap 2 69 ((isort lt xs).map prD) :: cin) := by
 have hi := insSort_day (ad := ad) (cap := cap) hlt (show xs.length ≤ 1000000 by omega) hn hs
 refine Spec.body Tryz.func61 rfl rfl (Tryz.ntmps61) rfl fun w0 own0 M => ?_
 repeat' (first | refine goH ?_ | refine goV ?_ | refine goG ?_ | (refine Ops.k_guard ?_; first | (refine Ops.guard_dec rfl rfl ?_ ?_ <;> intro hc <;> try omega) | refine Ops.guard_split rfl rfl ?_ ?_ <;> intro hc) | refine goI ?_ | (refine Cw.k_cond ?_; first | (refine Cw.cond_dec rfl ?_ ?_ <;> intro hc <;> try omega) | refine Cw.cond_bool rfl ?_ ?_ <;> intro hc) | refine goR ?_ | refine goP ?_ | apply PSeq.cons | apply PSeq.yes rfl rfl rfl | exact goW | fail)
 refine Cw.loopI [(0, _), (4, _)] _ (fun q e c => q = 0 ∧ e = [(1, .int 0), (2, .int n), (3, .int d), (10, .bool true), (11, .bool true)] ∧ c = []) ⟨_, _, _, (Ent.mkP goSub goPm), rfl, rfl, rfl⟩ ?_
 rintro _ _ _ ⟨rfl, rfl, rfl⟩
 repeat' (first | refine goH ?_ | refine goV ?_ | refine goG ?_ | (refine Ops.k_guard ?_; first | (refine Ops.guard_dec rfl rfl ?_ ?_ <;> intro hc <;> try omega) | refine Ops.guard_split rfl rfl ?_ ?_ <;> intro hc) | refine goI ?_ | (refine Cw.k_cond ?_; first | (refine Cw.cond_dec rfl ?_ ?_ <;> intro hc <;> try omega) | refine Cw.cond_bool rfl ?_ ?_ <;> intro hc) | (refine Ops.k_calla ?_; first | (refine Ops.call (cf := []) hi (Evs.cons rfl (Evs.cons rfl (Evs.cons rfl (Evs.cons rfl Evs.nil)))) (by simp) rfl ?_; rintro r cs' ⟨rfl, rfl⟩)) | refine goR ?_ | refine goP ?_ | apply PSeq.cons | apply PSeq.yes rfl rfl rfl | exact goW | fail)
 first | exact Fin.norm (Ent.mkP goSub (by simp)) (Outs.zero rfl) ⟨rfl, rfl⟩ | exact Fin.ret (Ent.mkP goSub (by simp)) (Outs.zero rfl) ⟨rfl, rfl⟩
theorem sortFunc_day {n : Nat} {xs : List (Int × Int)} {ad : Option Addr} {cap : Nat} {g : Nat} {caps : List Value} {cin : List Chunk} {lt : (Int × Int) → (Int × Int) → Bool} {cf : (Int × Int) → (Int × Int) → Int} (hlt : ∀ a b, lt a b = decide (cf a b < 0)) (hl : xs.length ≤ 12) (hn : n = xs.length)
  (hs : ∀ a b, a ∈ xs → b ∈ xs → Spec Tryz.prog g ([(fun x : Int × Int => Tr.agg (prD x)) a, (fun x : Int × Int => Tr.agg (prD x)) b] ++ caps.map Tr.raw) cin (fun r cs => r = Tr.int (cf a b) ∧ cs = cin)) :
  Spec Tryz.prog 34 [Tr.raw (.slice ad n cap), Tr.raw (.func (.func g) #[] caps.toArray)] (Chunk.own ad cap 2 69 (xs.map prD) :: cin) (fun r cs => r = Tr.tup [] ∧ cs = Chunk.own ad cap 2 69 ((isort lt xs).map prD) :: cin) := by
 have hi := fun d => pdq_day (d := d) (ad := ad) (cap := cap) hlt hl hn hs
 have hb := bitsLen_fn n (by omega)
 unfold PFn at hb
 refine Spec.body Tryz.func34 rfl rfl (Tryz.ntmps34) rfl fun w0 own0 M => ?_
 repeat' (first | refine goH ?_ | (refine Ops.k_convert ?_; first | (refine Ops.convN Tryz.underlying3 Tryz.underlying142 rfl (wrap_u64 (by omega)) rfl ?_)) | refine goV ?_ | refine goI ?_ | (refine Cw.k_cond ?_; first | (refine Cw.cond_dec rfl ?_ ?_ <;> intro hc <;> try omega) | refine Cw.cond_bool rfl ?_ ?_ <;> intro hc) | (refine Ops.k_calla ?_; first | (refine Ops.k_callf 62 ?_; (refine Ops.call hb (Evs.cons rfl Evs.nil) (by rw [List.nil_append]) rfl ?_; rintro r cs' ⟨rfl, v, rfl⟩; rw [List.nil_append])) | (refine Ops.call (cf := []) (hi _) (Evs.cons rfl (Evs.cons rfl (Evs.cons rfl (Evs.cons rfl (Evs.cons rfl Evs.nil))))) (by simp) rfl ?_; rintro r cs' ⟨rfl, rfl⟩)) | fail)
 first | exact Fin.norm (Ent.mkP goSub (by simp)) (Outs.zero rfl) ⟨rfl, rfl⟩ | exact Fin.ret (Ent.mkP goSub (by simp)) (Outs.zero rfl) ⟨rfl, rfl⟩

theorem PFn.impA {P : Program} {f : FuncId} {ts ts' : List Tr} {R : Tr → Prop} (hi : ImpL ts ts') (h : PFn P f ts' R) : PFn P f ts R := by
 unfold PFn Spec at h ⊢
 exact ⟨h.1, fun M w vs hv => h.2 M w vs (hi.rdl hv)⟩
theorem Imp.aggV {vs : List Value} (h : ∀ v ∈ vs, v.oneCell' = true) : Imp (Tr.raw (.agg vs.toArray)) (.agg (vs.map Tr.raw)) := by
 intro w A v hv
 have := rd_raw hv
 subst this
 unfold Tr.agg
 exact ⟨vs, rfl, rdc_raw h⟩
def cfP (a b : Int × Int) : Int := cmpI a.1 b.1
theorem ltP_c (a b : Int × Int) : ltP a b = decide (cfP a b < 0) := by
 unfold ltP cfP
 rw [Bool.eq_iff_iff, decide_eq_true_iff, decide_eq_true_iff, cmpI_lt]
theorem ltPf (a b : Int × Int) : ltOf cfP a b = decide (a.1 < b.1) := by
 unfold ltOf cfP
 rw [Bool.eq_iff_iff, decide_eq_true_iff, decide_eq_true_iff, cmpI_lt]
theorem swo_P : SWO (ltOf cfP) := by
 refine ⟨fun x => ?_, fun x y z h1 h2 => ?_, fun x y z h1 h2 => ?_⟩
 ·rw [ltPf]; simp
 ·rw [ltPf] at *; simp only [decide_eq_true_eq] at *; omega
 ·rw [ltPf] at *; simp only [decide_eq_false_iff_not] at *; omega
abbrev encP (x : Int × Int) : List Value := [.int .i64 x.1, .int .i64 x.2]
theorem encP_one (x : Int × Int) : ∀ v ∈ encP x, v.oneCell' = true := by
 intro v hv
 rcases List.mem_cons.1 hv with rfl | hv
 ·rfl
 ·rcases List.mem_cons.1 hv with rfl | hv
  ·rfl
  ·cases hv
theorem sortDayK {g : Nat} (hg : ∀ x y : Int × Int, PFn Tryz.prog g [.agg (prD x), .agg (prD y)] (· = .int (cfP x y))) (us : List (Int × Int)) (hu : us.length ≤ 1000000) (hn : (us.map Prod.fst).Nodup) (ad : Option Addr) (cap : Nat) : Spec Tryz.prog 34 [Tr.raw (.slice ad us.length cap), Tr.raw (.func (.func g) #[] #[])] [Chunk.own ad cap 2 69 (us.map prD)]
  (fun r cs => r = Tr.tup [] ∧ cs = [Chunk.own ad cap 2 69 ((isort ltP us).map prD)]) := by
 by_cases h0 : us = []
 ·subst h0
  exact sortFunc_day (ad := ad) (cap := cap) (n := 0) (xs := []) (g := g) (caps := []) (cin := []) (lt := ltP) (cf := cfP) ltP_c (by simp) rfl (fun a b ha hb => by cases ha)
 ·have hp : 1 ≤ us.length := by
   cases us with
   |nil => exact absurd rfl h0
   |cons a rest => simp
  have h := sortFuncK Tryz.sortDay (k := 2) (by omega) Tryz.isAgg69 Tryz.sizeOf69 encP (fun _ => rfl) encP_one cfP swo_P (g := g) (bx := []) (fun x y => (hg x y).impA (.cons (Imp.aggV (encP_one x)) (.cons (Imp.aggV (encP_one y)) .nil))) (ad := ad) (cap := cap) (E := 69) (xs := us) (n := us.length) rfl hp (by omega)
  refine Spec.mono h ?_
  rintro r cs ⟨ys, rfl, rfl, hperm, hsort⟩
  have hny : (ys.map Prod.fst).Nodup := (hperm.map Prod.fst).nodup_iff.2 hn
  have e : ys = isort ltP us := by
   have e1 : isort ltP ys = isort ltP us := isortI_uniq (key := Prod.fst) hperm hny
   rw [← e1]
   refine sorted_uniq (le := fun a b : Int × Int => a.1 ≤ b.1) (isort_perm ltP ys).symm ?_ (hsort.imp fun {a b} h => ?_) (isort_key_sorted (key := Prod.fst) ys)
   ·intro a ha b hb h1 h2
    exact key_inj hny a ha b hb (by omega)
   ·rw [ltPf] at h
    simp only [decide_eq_false_iff_not] at h
    omega
  subst e
  exact ⟨rfl, rfl⟩
theorem dayLtD_fn (x y : Int × Int) : PFn Tryz.prog 35 [.agg (prD x), .agg (prD y)] (· = .int (cfP x y)) := by
 obtain ⟨x1, x2⟩ := x
 obtain ⟨y1, y2⟩ := y
 have k1 := compare_fn x1 y1
 unfold cfP prD
 simp only
 generalize cmpI x1 y1 = o at *
 refine PFn.mk (Spec.body Tryz.func35 rfl rfl (Tryz.ntmps35) rfl fun w0 own0 M => ?_)
 repeat' (first | refine goH ?_ | refine goV ?_ | refine goB (fun b => ?_) | refine goI ?_ | (refine Cw.k_cond ?_; first | (refine Cw.cond_dec rfl ?_ ?_ <;> intro hc <;> try omega) | refine Cw.cond_bool rfl ?_ ?_ <;> intro hc) | (refine Ops.k_calla ?_; first | (refine Ops.k_callf 36 ?_; refine Ops.callV k1 (Evs.cons rfl (Evs.cons rfl Evs.nil)) rfl ?_)) | fail)
 exact Fin.ret (Ent.take goTk) (Outs.one rfl rfl) ⟨rfl, rfl⟩
theorem snocP (g : PI) (p : Int × Int) (h : 0 < p.2) : (g.filter pz).map prD ++ [prD p] = ((g ++ [p]).filter pz).map prD := by
 rw [List.filter_append, List.map_append]
 simp [pz, h]
theorem skipP (g : PI) (p : Int × Int) (h : ¬ 0 < p.2) : (g.filter pz).map prD = ((g ++ [p]).filter pz).map prD := by
 rw [List.filter_append, List.map_append]
 simp [pz, h]
end Lg
end
section
set_option linter.all false
set_option maxRecDepth 100000
set_option maxHeartbeats 8000000
namespace Lg
open Go Go.Proofs

attribute [local irreducible] intRows limE difE difL stpsOf stpOf srtO soldF addL addH
theorem sold_fn (c t f : Int) (l : List Rdg) (hl : l.length ≤ 12) (hv : ∀ r ∈ l, r.vs.length ≤ 1000) (ht : -1000000000000 ≤ t ∧ t ≤ 1000000000000) {D : List Rdg} {e : Int} (hs : srtO c t f l = .tup [.sl 2 (D.map Rdg.row), .int e]) (h0 : e = 0 → mtrE c t f = 0 ∧ (∀ r ∈ D, ROk c t r) ∧ D.length ≤ l.length) : PFn Tryz.prog 14 [.mtr c t f, .sl 2 (l.map Rdg.row)] (· = sldO c t f D e) := by
 have k1 := steps_fn c t f l hl hv ht hs h0
 clear hs
 unfold stsO at k1
 unfold sldO
 refine PFn.mk (Spec.body Tryz.func14 rfl rfl (Tryz.ntmps14) rfl fun w0 own0 M => ?_)
 by_cases he : e = 0
 rotate_left
 ·rw [if_neg he] at k1 ⊢
  repeat' (first | refine goH ?_ | refine goV ?_ | refine goB (fun b => ?_) | refine goC (fun ad cap => ?_) | refine goI ?_ | (refine Cw.k_cond ?_; first | (refine Cw.cond_dec rfl ?_ ?_ <;> intro hc <;> try omega) | refine Cw.cond_bool rfl ?_ ?_ <;> intro hc) | (refine Ops.k_calla ?_; first | (refine Ops.k_callf 29 ?_; refine Ops.callV k1 (Evs.cons rfl (Evs.cons rfl Evs.nil)) rfl ?_)) | fail)
  refine Fin.ret (Ent.trans (Ent.nilsl 1 (s := 4) rfl) (Ent.take goTk)) (Outs.many rfl (OutL.cons goOe (OutL.cons goOe OutL.nil)) rfl) ⟨rfl, rfl⟩
 rw [if_pos he] at k1 ⊢
 obtain ⟨hm, hD, hDl⟩ := h0 he
 obtain ⟨⟨hc1, hc2⟩, _⟩ := mtrE_ok hm
 have hSok := stpsOf_ok hm hD
 have hsl := stpsOf_len t f D
 unfold soldL
 obtain ⟨S, hS⟩ : ∃ S, S = stpsOf t f D := ⟨_, rfl⟩
 rw [← hS] at hsl hSok k1 ⊢
 have hSL : (S.map Stp.row).length = S.length := List.length_map _
 obtain ⟨n, hn⟩ : ∃ n : Nat, c.toNat = n := ⟨_, rfl⟩
 have hcn : c = n := by omega
 rw [hn] at hSok ⊢
 clear hn
 subst hcn
 repeat' (first | refine goH ?_ | refine goV ?_ | refine goB (fun b => ?_) | refine goC (fun ad cap => ?_) | refine goI ?_ | (refine Cw.k_cond ?_; first | (refine Cw.cond_dec rfl ?_ ?_ <;> intro hc <;> try omega) | refine Cw.cond_bool rfl ?_ ?_ <;> intro hc) | (refine Ops.k_calla ?_; first | (refine Ops.k_callf 29 ?_; refine Ops.callV k1 (Evs.cons rfl (Evs.cons rfl Evs.nil)) rfl ?_)) | fail)
 rw [show List.map Tr.raw [Value.int .i64 0] = [Tr.int 0] from rfl, intRows_rep]

 refine Cw.loopI [(8, _), (25, _), (26, _)] _ (fun q e cc => ∃ (k : Nat) (acc : List Int), q = S.length - k ∧ (k ≤ S.length ∧ acc.length = n ∧ soldF (List.replicate n 0) S = soldF acc (S.drop k) ∧ ∀ x ∈ acc, 0 ≤ x ∧ x ≤ k * 1000000) ∧ e = [(27, .int k)] ∧ cc = [Chunk.own ad cap 1 3 (intRows acc)])
  ⟨_, _, _, (Ent.mkP goSub goPm), 0, List.replicate n 0, rfl, ⟨by omega, List.length_replicate, rfl, by intro x hx; rw [List.eq_of_mem_replicate hx]; omega⟩, rfl, rfl⟩ ?_
 rintro _ _ _ ⟨k, acc, rfl, ⟨hk, hal, hV, hab⟩, rfl, rfl⟩
 by_cases hkl : k < S.length
 rotate_left
 ·rw [soldF_end (by omega)] at hV
  rw [hV]
  have hrl := (intRows_len acc).trans hal
  clear hV
  subst hrl
  repeat' (first | refine goH ?_ | refine goV ?_ | refine goB (fun b => ?_) | refine goC (fun ad cap => ?_) | refine goI ?_ | (refine Cw.k_cond ?_; first | (refine Cw.cond_dec rfl ?_ ?_ <;> intro hc <;> try omega) | refine Cw.cond_bool rfl ?_ ?_ <;> intro hc) | fail)
  refine Fin.ret (Ent.trans (Ent.settle (s := 4) rfl goPk rfl) (Ent.take goTk)) (Outs.many rfl (OutL.cons goOe (OutL.cons goOe OutL.nil)) rfl) ⟨rfl, rfl⟩
 obtain ⟨s, hs⟩ := at_lt hkl
 have hrow : (S.map Stp.row)[k]? = some [.int s.a, .int s.b, .bool s.r, .ints s.s] := rows_at hs
 rw [soldF_drop hs] at hV
 obtain ⟨hsn, hsv, _⟩ := hSok s (List.mem_of_getElem? hs)
 have hsl : (intRows s.s).length = n := (intRows_len s.s).trans hsn
 have hkl8 : k ≤ 12 := by omega
 repeat' (first | refine goH ?_ | refine goV ?_ | refine goB (fun b => ?_) | refine goC (fun ad cap => ?_) | refine goI ?_ | (refine Cw.k_cond ?_; first | (refine Cw.cond_dec rfl ?_ ?_ <;> intro hc <;> try omega) | refine Cw.cond_bool rfl ?_ ?_ <;> intro hc) | fail)
 rename Nat => b10
 refine Cw.loopI [(8, _), (25, _), (26, _), (27, _), (10, _), (32, _), (33, _)] _ (fun q e cc => ∃ (j : Nat) (cur : List Int), q = n - j ∧ (j ≤ n ∧ cur = addH acc s.s j ∧ (intRows cur).length = n) ∧ e = [(34, .int j)] ∧ cc = [Chunk.own ad cap 1 3 (intRows cur)])
  ⟨_, _, _, (Ent.mkP goSub goPm), 0, acc, rfl, ⟨by omega, (addH_zero _ _).symm, (intRows_len acc).trans hal⟩, rfl, rfl⟩ ?_
 rintro _ _ _ ⟨j, cur, rfl, ⟨hj, hcur, hcl⟩, rfl, rfl⟩
 by_cases hjn : j < n
 ·obtain ⟨x, hx⟩ := at_lt (l := acc) (k := j) (by omega)
  obtain ⟨y, hy⟩ := at_lt (l := s.s) (k := j) (by omega)
  have hxb := hab x (List.mem_of_getElem? hx)
  have hyb := hsv y (List.mem_of_getElem? hy)
  have r1 : (intRows cur)[j]? = some [Tr.int x] := intRows_at (by rw [hcur]; exact addH_at hal hsn hjn hx)
  have r2 := intRows_at hy
  have hset : (intRows cur).set j [Tr.int (x + y)] = intRows (addH acc s.s (j + 1)) := by rw [intRows_set, hcur, addH_set hal hsn hjn hx hy]
  have hcl2 : (intRows (addH acc s.s (j + 1))).length = n := by rw [intRows_len]; exact addH_len hal hsn (by omega)
  clear hcur hV
  repeat' (first | refine goH ?_ | refine goV ?_ | refine goB (fun b => ?_) | refine goC (fun ad cap => ?_) | refine goI ?_ | (refine Cw.k_cond ?_; first | (refine Cw.cond_dec rfl ?_ ?_ <;> intro hc <;> try omega) | refine Cw.cond_bool rfl ?_ ?_ <;> intro hc) | fail)
  erw [hset]
  exact ⟨_, _, _, (Ent.mk goSub goTk), ⟨j + 1, _, rfl, ⟨by omega, rfl, hcl2⟩, rfl, rfl⟩, by omega⟩
 ·have hjn2 : j = n := by omega
  rw [hjn2, addH_end hal hsn] at hcur
  have hb2 := addL_bd hab hsv
  have hl2 := addL_len hal hsn
  rw [← hcur] at hb2 hl2 hV
  clear hcur
  repeat' (first | refine goH ?_ | refine goV ?_ | refine goB (fun b => ?_) | refine goC (fun ad cap => ?_) | refine goI ?_ | (refine Cw.k_cond ?_; first | (refine Cw.cond_dec rfl ?_ ?_ <;> intro hc <;> try omega) | refine Cw.cond_bool rfl ?_ ?_ <;> intro hc) | fail)
  exact ⟨_, _, _, (Ent.mk goSub goTk), ⟨k + 1, cur, rfl, ⟨by omega, hl2, hV, fun x hx => by have := hb2 x hx; omega⟩, rfl, rfl⟩, by omega⟩
end Lg
end
section
set_option linter.all false
set_option maxRecDepth 100000
set_option maxHeartbeats 8000000
namespace Lg
open Go Go.Proofs

/-! ### days, walked -/
structure StD (s : Stp) (c : Nat) : Prop where
 n : s.s.length = c
 v : ∀ x ∈ s.s, 0 ≤ x ∧ x ≤ 1000000
 a0 : 0 ≤ s.a
 ab : s.a < s.b
 b1 : s.b < 5761440
theorem stD {c t f : Int} (hm : mtrE c t f = 0) {D : List Rdg} (hD : ∀ r ∈ D, ROk c t r) (hA : D.Pairwise fun a b => a.t < b.t) : ∀ s ∈ stpsOf t f D, StD s c.toNat := fun s hs => by
 have h1 := stpsOf_ok (f := f) hm hD s hs
 exact ⟨h1.n, h1.v, h1.ab.1.1, stps_asc hA s hs, h1.ab.2.2⟩
theorem stps_len {t f : Int} : ∀ D : List Rdg, (stpsOf t f D).length ≤ D.length
 |[] => by simp [stpsOf]
 |[a] => by simp [stpsOf]
 |a :: b :: D => by
  have := stps_len (t := t) (f := f) (b :: D)
  simp only [stpsOf, List.length_cons] at this ⊢
  omega
theorem dyL_step {k : Nat} {S : List Stp} {i : Nat} {s : Stp} {m : PI} (h : S[i]? = some s) : dyL k (S.drop i) m = dyL k (S.drop (i + 1)) (dyS k s m) := by
 rw [drop_at h, dyL]
theorem dyF_step {first : Int} {j : Nat} {Q : List Int} {n : Int} {m : PI} (h : Q[j]? = some n) : dyF first j (Q.drop j) m = dyF first (j + 1) (Q.drop (j + 1)) (mUp (first + j) (mI (first + j) m + n) m) := by
 rw [drop_at h, dyF]
 rfl
theorem daysD_fn (k : Nat) (cc : Nat) (hk : k < cc) (hcc : cc ≤ 60) (S : List Stp) (hSl : S.length ≤ 12) (hS : ∀ s ∈ S, StD s cc) {c t f : Int} (L : List Rdg) (hc : c = cc) (kSt : PFn Tryz.prog 29 [.mtr c t f, .sl 2 (L.map Rdg.row)] (· = .tup [.sl 4 (S.map Stp.row), .int 0])) : PFn Tryz.prog 16 [.mtr c t f, .sl 2 (L.map Rdg.row), .int k] (· = .tup [.sl 2 ((dyV (dyL k S [])).map prD), .int 0]) := by
 have hSr : (S.map Stp.row).length = S.length := List.length_map _
 have kOut := out_fn k 0 (c - 1)
 rw [show outB k 0 (c - 1) = false by simp [outB]; omega] at kOut
 refine PFn.mk (Spec.body Tryz.func16 rfl rfl (Tryz.ntmps16) rfl fun w0 own0 M => ?_)
 repeat' (first | refine goH ?_ | (refine Ops.k_makeMap ?_; first | (refine Ops.makeMap (Value.int .i64) rfl (fun bm => ?_))) | refine goV ?_ | refine goB (fun b => ?_) | refine goC (fun ad cap => ?_) | refine goI ?_ | (refine Cw.k_cond ?_; first | (refine Cw.cond_dec rfl ?_ ?_ <;> intro hc <;> try omega) | refine Cw.cond_bool rfl ?_ ?_ <;> intro hc) | (refine Ops.k_calla ?_; first | refine Ops.callV kSt (Evs.cons rfl (Evs.cons rfl Evs.nil)) rfl ?_ | (refine Ops.k_callf 32 ?_; refine Ops.callV kOut (Evs.cons rfl (Evs.cons rfl (Evs.cons rfl Evs.nil))) rfl ?_)) | (apply OpW.k_call; first | exact OpW.callV kSt (Evs.cons rfl (Evs.cons rfl Evs.nil)) | (apply OpW.k_callf 32; exact OpW.callV kOut (Evs.cons rfl (Evs.cons rfl (Evs.cons rfl Evs.nil))))) | refine goR ?_ | refine goP ?_ | apply PSeq.cons | apply PSeq.yes rfl rfl rfl | exact goW | fail)
 refine Cw.loopI [(2, _), (10, _), (36, _), (37, _)] _ (fun q e cs => ∃ (i J : Nat) (m : PI), q = S.length - i ∧ (i ≤ S.length ∧ dyL k S [] = dyL k (S.drop i) m ∧ J ≤ 4002 * i ∧ DyOk ((J : Int) * 1440005000) J m) ∧ e = [(38, .int i)] ∧ cs = [Chunk.mp (Value.int .i64) bm (tkv m)])
  ⟨_, _, _, (Ent.mkP goSub goPm), 0, 0, [], rfl, ⟨by omega, rfl, by omega, ⟨List.nodup_nil, (fun q hq => by cases hq), Nat.le_refl _⟩⟩, rfl, rfl⟩ ?_
 rintro _ _ _ ⟨i, J, m, rfl, ⟨hi, hV, hJ, hm⟩, rfl, rfl⟩
 by_cases hil : i < S.length
 ·obtain ⟨s, hs⟩ := at_lt hil
  have hrow : (S.map Stp.row)[i]? = some [.int s.a, .int s.b, .bool s.r, .ints s.s] := rows_at hs
  have hsd := hS s (List.mem_of_getElem? hs)
  obtain ⟨hsn, hsv, ha0, hab, hb1⟩ := hsd
  rw [dyL_step hs] at hV
  obtain ⟨v, hv⟩ := at_lt (l := s.s) (k := k) (by omega)
  have hvb := hsv v (List.mem_of_getElem? hv)
  have rv := intRows_at hv
  have hsr := intRows_len s.s
  have hgd : s.s.getD k 0 = v := by rw [List.getD_eq_getElem?_getD, hv]; rfl
  unfold dyS at hV
  rw [hgd] at hV
  have hnd := nDays_eq (a := s.a) (b := s.b) ⟨ha0, by omega⟩
  have hsum := mins_sum s.a s.b ⟨ha0, by omega⟩
  have hmb := minsK_bd s.a s.b (nDays s.a s.b) ⟨ha0, by omega⟩
  have hml := minsK_len s.a s.b (nDays s.a s.b)
  have kSh := sharedN_fn v (s.b - s.a) (mins s.a s.b) (by omega) (by rw [hml]; omega) (by rw [hsum]; omega) (fun w hw => by have := hmb w hw; omega) (by rw [hsum]; omega) hsum.symm
  have hQb := shG_bd (t := v) (ws := mins s.a s.b) (by omega) hmb (by rw [hsum]; omega) (by rw [hml]; omega)
  have hQl := shG_len v (mins s.a s.b)
  rw [hml] at hQl
  generalize shG v (mins s.a s.b) = Q at *
  have hQr := intRows_len Q
  clear hs hv hgd hsv hS
  generalize s.s = sl at *
  generalize s.r = sr at *
  have hmins : ∀ j : Nat, intRows (minsK s.a s.b j) ++ [[Tr.int (mnT s.a s.b (s.a / 1440 + j))]] = intRows (minsK s.a s.b (j + 1)) := fun j => by rw [minsK_snoc, intRows_app]; rfl
  have hmr : ∀ j : Nat, (intRows (minsK s.a s.b j)).length = j := fun j => by rw [intRows_len, minsK_len]
  have hq : Int.tdiv s.a 1440 = s.a / 1440 := Int.tdiv_eq_ediv_of_nonneg ha0
  repeat' (first | refine goH ?_ | refine goV ?_ | refine goB (fun b => ?_) | refine goC (fun ad cap => ?_) | refine goI ?_ | (refine Cw.k_cond ?_; first | (refine Cw.cond_dec rfl ?_ ?_ <;> intro hc <;> try omega) | refine Cw.cond_bool rfl ?_ ?_ <;> intro hc) | refine goR ?_ | refine goP ?_ | apply PSeq.cons | apply PSeq.yes rfl rfl rfl | exact goW | fail)
  refine Cw.loopI [(2, _), (10, _), (12, _), (13, _), (36, _), (37, _), (38, _)] _ (fun q e cs => ∃ (j : Nat) (ad : Option Addr) (cap n : Nat) (d : Int) (rows : List (List Tr)), q = nDays s.a s.b - j ∧ (j ≤ nDays s.a s.b ∧ rows = intRows (minsK s.a s.b j) ∧ n = j ∧ d = s.a / 1440 + j) ∧ e = [(14, Tr.raw (.slice ad n cap)), (15, .int d)] ∧ cs = [Chunk.own ad cap 1 3 rows])
   ⟨_, _, _, Ent.trans (Ent.nil 1 3) (Ent.mkP goSub goPm), 0, none, 0, 0, s.a / 1440, [], rfl, ⟨by omega, rfl, rfl, by omega⟩, rfl, rfl⟩ ?_
  rintro _ _ _ ⟨j, ad, cap, n, d, rows, rfl, ⟨hj, hrows, hnj, hd⟩, rfl, rfl⟩
  subst hd
  have hrl : rows.length = n := by rw [hrows, hmr, hnj]
  by_cases hjl : j < nDays s.a s.b
  ·have hn := hmins j
   rw [← hrows] at hn
   have hn2 : (rows ++ [[Tr.int (mnT s.a s.b (s.a / 1440 + j))]]).length = j + 1 := by rw [List.length_append, hrl, hnj]; rfl
   unfold mnT at hn hn2
   skip
   clear hmins hmr hrows hQb hmb hV hm
   repeat' (first | refine goH ?_ | refine goV ?_ | refine goB (fun b => ?_) | refine goC (fun ad cap => ?_) | refine goI ?_ | (refine Cw.k_cond ?_; first | (refine Cw.cond_dec rfl ?_ ?_ <;> intro hc <;> try omega) | refine Cw.cond_bool rfl ?_ ?_ <;> intro hc) | refine goR ?_ | refine goP ?_ | apply PSeq.cons | apply PSeq.yes rfl rfl rfl | exact goW | fail)
   exact ⟨_, _, _, (Ent.mk goSub goTk), ⟨j + 1, _, _, _, _, _, rfl, ⟨by omega, hn, hn2, by omega⟩, rfl, rfl⟩, by omega⟩
  ·have hje : j = nDays s.a s.b := by omega
   subst hnj
   rw [hje] at hrows ⊢
   subst hrows
   refine Cw.ent (Ent.settle (s := 14) rfl goPk (hmr _).symm) ?_
   clear hmins hmr hjl hj hrl hje
   repeat' (first | refine goH ?_ | refine goV ?_ | refine goB (fun b => ?_) | refine goC (fun ad cap => ?_) | refine goI ?_ | (refine Cw.k_cond ?_; first | (refine Cw.cond_dec rfl ?_ ?_ <;> intro hc <;> try omega) | refine Cw.cond_bool rfl ?_ ?_ <;> intro hc) | (refine Ops.k_calla ?_; first | (refine Ops.k_callf 33 ?_; refine Ops.callV kSh (Evs.cons rfl (Evs.cons rfl (Evs.cons rfl Evs.nil))) rfl ?_)) | (apply OpW.k_call; first | (apply OpW.k_callf 33; exact OpW.callV kSh (Evs.cons rfl (Evs.cons rfl (Evs.cons rfl Evs.nil))))) | refine goR ?_ | refine goP ?_ | apply PSeq.cons | apply PSeq.yes rfl rfl rfl | exact goW | fail)
   refine Cw.loopI [(2, _), (10, _), (13, _), (36, _), (37, _), (38, _), (80, _), (81, _)] _ (fun q e cs => ∃ (j : Nat) (m2 : PI), q = Q.length - j ∧ (j ≤ Q.length ∧ dyF (s.a / 1440) 0 Q m = dyF (s.a / 1440) j (Q.drop j) m2 ∧ DyOk (((J + j : Nat) : Int) * 1440005000) (J + j) m2) ∧ e = [(82, .int j)] ∧ cs = [Chunk.mp (Value.int .i64) bm (tkv m2)])
    ⟨_, _, _, (Ent.mkP goSub goPm), 0, m, rfl, ⟨by omega, rfl, hm⟩, rfl, rfl⟩ ?_
   clear hm
   rintro _ _ _ ⟨j, m2, rfl, ⟨hj, hF, hm⟩, rfl, rfl⟩
   by_cases hjl : j < Q.length
   ·obtain ⟨x, hx⟩ := at_lt hjl
    have rx := intRows_at hx
    have hxb := hQb x (List.mem_of_getElem? hx)
    rw [dyF_step hx] at hF
    have hvv := hm.val (by omega) (s.a / 1440 + (j : Int))
    have hadd := hm.add (c := 1440005000) (by omega) (s.a / 1440 + (j : Int)) hxb
    rw [show ((J + j : Nat) : Int) * 1440005000 + 1440005000 = ((J + (j + 1) : Nat) : Int) * 1440005000 by omega] at hadd
    clear hx hm hQb
    repeat' (first | refine goH ?_ | (refine Ops.k_lookup ?_; first | (refine Ops.lookup rfl rfl goPk rfl ?_; rw [tkv_read])) | (refine Ops.k_mapUpdate ?_; first | (refine Ops.mapUpdate rfl rfl rfl goPk ?_; rw [tkv_set])) | refine goV ?_ | refine goB (fun b => ?_) | refine goC (fun ad cap => ?_) | refine goI ?_ | (refine Cw.k_cond ?_; first | (refine Cw.cond_dec rfl ?_ ?_ <;> intro hc <;> try omega) | refine Cw.cond_bool rfl ?_ ?_ <;> intro hc) | refine goR ?_ | refine goP ?_ | apply PSeq.cons | apply PSeq.yes rfl rfl rfl | exact goW | fail)
    exact ⟨_, _, _, (Ent.mk goSub goTk), ⟨j + 1, _, rfl, ⟨by omega, hF, hadd⟩, rfl, rfl⟩, by omega⟩
   ·rw [List.drop_of_length_le (by omega), dyF] at hF
    rw [hF] at hV
    repeat' (first | refine goH ?_ | refine goV ?_ | refine goB (fun b => ?_) | refine goC (fun ad cap => ?_) | refine goI ?_ | (refine Cw.k_cond ?_; first | (refine Cw.cond_dec rfl ?_ ?_ <;> intro hc <;> try omega) | refine Cw.cond_bool rfl ?_ ?_ <;> intro hc) | refine goR ?_ | refine goP ?_ | apply PSeq.cons | apply PSeq.yes rfl rfl rfl | exact goW | fail)
    exact ⟨_, _, _, (Ent.mk goSub goTk), ⟨i + 1, J + j, m2, rfl, ⟨by omega, hV, by omega, hm⟩, rfl, rfl⟩, by omega⟩
 rw [List.drop_of_length_le (by omega), dyL] at hV
 rw [hV]
 have hnd := hm.nd
 have hmln := hm.len
 clear hV hm hS
 repeat' (first | refine goH ?_ | (refine Ops.k_range ?_; first | (refine Ops.range rfl goPk rfl (fun r => ?_))) | refine goV ?_ | refine goB (fun b => ?_) | refine goC (fun ad cap => ?_) | refine goI ?_ | (refine Cw.k_cond ?_; first | (refine Cw.cond_dec rfl ?_ ?_ <;> intro hc <;> try omega) | refine Cw.cond_bool rfl ?_ ?_ <;> intro hc) | refine goR ?_ | refine goP ?_ | apply PSeq.cons | apply PSeq.yes rfl rfl rfl | exact goW | fail)
 refine Cw.loopI [(97, _)] _ (fun q e c => ∃ (g left : PI) (ad : Option Addr) (cap : Nat) (rows : List (List Tr)), q = left.length ∧ (m.Perm (g ++ left) ∧ rows = (g.filter pz).map prD ∧ rows.length ≤ g.length) ∧ e = [(18, Tr.raw (.slice ad rows.length cap))] ∧ c = [Chunk.rg (Value.int .i64) bm r (tkv m) (tkv left), Chunk.own ad cap 2 69 rows])
  ⟨_, _, _, Ent.trans (Ent.nil 2 69) (Ent.mkP goSub goPm), [], m, none, 0, [], rfl, ⟨List.Perm.refl _, rfl, Nat.le_refl _⟩, rfl, rfl⟩ ?_
 rintro _ _ _ ⟨g, left, ad, cap, rows, rfl, ⟨hp, hrows, hrl⟩, rfl, rfl⟩
 have hgl : g.length ≤ 100000 := by have := hp.length_eq; simp at this; omega
 repeat' (first | refine goH ?_ | ((fail_if_success refine Ops.k_next ?_); refine goV ?_) | ((fail_if_success refine Ops.k_next ?_); refine goB (fun b => ?_)) | ((fail_if_success refine Ops.k_next ?_); refine goC (fun ad cap => ?_)) | refine goI ?_ | (refine Cw.k_cond ?_; first | (refine Cw.cond_dec rfl ?_ ?_ <;> intro hc <;> try omega) | refine Cw.cond_bool rfl ?_ ?_ <;> intro hc) | refine goR ?_ | refine goP ?_ | apply PSeq.cons | apply PSeq.yes rfl rfl rfl | exact goW | fail)
 refine Ops.k_next ?_
 refine Ops.nextC rfl goPk rfl (fun hl0 => ?_) (fun j a t hj => ?_)
 ·have hl0 := tkv_nil hl0
  subst hl0
  rw [List.append_nil] at hp
  have hng : ((g.filter pz).map Prod.fst).Nodup := List.Nodup.sublist ((List.filter_sublist).map Prod.fst) ((hp.map Prod.fst).nodup_iff.1 hnd)
  have hrl2 : rows.length = (g.filter pz).length := by rw [hrows, List.length_map]
  have kS := fun ad cap => sortDayK dayLtD_fn (g.filter pz) (by omega) hng ad cap
  rw [dyV_perm hp hnd] at kS
  have hlen : (g.filter pz).length = ((dyV m).map prD).length := by rw [← dyV_perm hp hnd, List.length_map, isort_len]
  rw [hrl2]
  subst hrows
  repeat' (first | refine goH ?_ | refine goV ?_ | refine goB (fun b => ?_) | refine goC (fun ad cap => ?_) | refine goI ?_ | (refine Cw.k_cond ?_; first | (refine Cw.cond_dec rfl ?_ ?_ <;> intro hc <;> try omega) | refine Cw.cond_bool rfl ?_ ?_ <;> intro hc) | (refine Ops.k_calla ?_; first | (refine Ops.k_callf 34 ?_; (refine Ops.call (kS _ _) (Evs.cons rfl (Evs.cons rfl Evs.nil)) goPm rfl ?_; rintro r cs' ⟨rfl, rfl⟩))) | refine goR ?_ | refine goP ?_ | apply PSeq.cons | apply PSeq.yes rfl rfl rfl | exact goW | fail)
  rw [hlen]
  refine Fin.ret (Ent.trans (Ent.settle (s := 6) rfl goPk rfl) (Ent.take goTk)) (Outs.many rfl (OutL.cons goOe (OutL.cons goOe OutL.nil)) rfl) ⟨rfl, rfl⟩
 ·obtain ⟨v, hjv, rfl⟩ := tkv_at hj
  rw [tkv_erase]
  have hp2 := eraseIdx_snoc hp hjv
  have hlen := eraseIdx_len hjv
  by_cases hz : 0 < v
  ·have hrow := snocP g (a, v) hz
   rw [← hrows] at hrow
   unfold prD at hrow
   repeat' (first | refine goH ?_ | (refine Ops.k_entry ?_; first | (refine Ops.entry rfl goPk rfl ?_)) | refine goV ?_ | refine goB (fun b => ?_) | refine goC (fun ad cap => ?_) | refine goI ?_ | (refine Cw.k_cond ?_; first | (refine Cw.cond_dec rfl ?_ ?_ <;> intro hc <;> try omega) | refine Cw.cond_bool rfl ?_ ?_ <;> intro hc) | refine goR ?_ | refine goP ?_ | apply PSeq.cons | apply PSeq.yes rfl rfl rfl | exact goW | fail)
   exact ⟨_, _, _, (Ent.mk goSub goTk), ⟨g ++ [(a, v)], _, _, _, _, rfl, ⟨hp2, hrow, by simp; omega⟩, rfl, rfl⟩, by omega⟩
  ·have hrow := skipP g (a, v) hz
   rw [← hrows] at hrow
   repeat' (first | refine goH ?_ | (refine Ops.k_entry ?_; first | (refine Ops.entry rfl goPk rfl ?_)) | refine goV ?_ | refine goB (fun b => ?_) | refine goC (fun ad cap => ?_) | refine goI ?_ | (refine Cw.k_cond ?_; first | (refine Cw.cond_dec rfl ?_ ?_ <;> intro hc <;> try omega) | refine Cw.cond_bool rfl ?_ ?_ <;> intro hc) | refine goR ?_ | refine goP ?_ | apply PSeq.cons | apply PSeq.yes rfl rfl rfl | exact goW | fail)
   exact ⟨_, _, _, (Ent.mk goSub goTk), ⟨g ++ [(a, v)], _, _, _, _, rfl, ⟨hp2, hrow, by simp; omega⟩, rfl, rfl⟩, by omega⟩
end Lg
end
