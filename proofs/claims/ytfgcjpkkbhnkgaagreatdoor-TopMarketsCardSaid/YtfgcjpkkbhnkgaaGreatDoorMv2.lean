/- A part of the proof of a law of this seat: it adds no condition. By an AI agent. -/
import Derived.Test.YtfgcjpkkbhnkgaaGreatDoorIdx
import Derived.Test.YtfgcjpkkbhnkgaaGreatDoorKey
section
set_option linter.all false
set_option maxRecDepth 100000
set_option maxHeartbeats 4000000
namespace Lg
open Go Go.Proofs
def strLe (a b : ByteArray) : Bool := strLt a b || decide (a = b)
def prevB {α : Type} (p : α → α → Bool) (l : List α) : Nat → α → Bool
 |0, _ => false
 |j + 1, x => match l[j]? with
  |none => false
  |some y => p x y
theorem idxFrom_find {α : Type} (p : α → Bool) : ∀ (l : List α) (k : Int), (l.find? p = none → idxFrom p l k = -1) ∧ (∀ x, l.find? p = some x → ∃ j : Nat, idxFrom p l k = k + j ∧ l[j]? = some x)
 |[], k => ⟨fun _ => rfl, fun x h => by simp at h⟩
 |y :: l, k => by
  obtain ⟨h1, h2⟩ := idxFrom_find p l (k + 1)
  unfold idxFrom
  by_cases hp : p y = true
  ·rw [if_pos hp, List.find?_cons_of_pos hp]
   exact ⟨fun h => (by cases h), fun x h => ⟨0, by omega, by simpa using h⟩⟩
  ·rw [if_neg hp, List.find?_cons_of_neg hp]
   refine ⟨h1, fun x hx => ?_⟩
   obtain ⟨j, h3, h4⟩ := h2 x hx
   exact ⟨j + 1, by omega, by simpa using h4⟩
end Lg
end
section
set_option linter.all false
set_option maxRecDepth 100000
set_option maxHeartbeats 8000000
namespace Lg
open Go Go.Proofs

structure Nm where
 key : ByteArray
 many : Int
def Nm.row (x : Nm) : List Tr := [.str x.key, .int x.many]
abbrev Tr.nms (l : List Nm) : Tr := Tr.sl 2 (l.map Nm.row)
def nm0 : Nm := ⟨⟨#[]⟩, 0⟩
def nmLt (a b : Nm) : Bool := strLt a.key b.key
/-- insertion sort, of a slice of one's own, by a function that only reads -/
theorem insSort_nm {n : Nat} {xs : List Nm} {ad : Option Addr} {cap : Nat} {g : Nat} {caps : List Value} {cin : List Chunk} {lt : Nm → Nm → Bool} {cf : Nm → Nm → Int} (hlt : ∀ a b, lt a b = decide (cf a b < 0)) (hl : xs.length ≤ 1000000) (hn : n = xs.length)
  (hs : ∀ a b, a ∈ xs → b ∈ xs → Spec Tryz.prog g ([(fun x : Nm => Tr.agg x.row) a, (fun x : Nm => Tr.agg x.row) b] ++ caps.map Tr.raw) cin (fun r cs => r = Tr.int (cf a b) ∧ cs = cin)) :
  Spec Tryz.prog 144 [Tr.raw (.slice ad n cap), .int 0, .int n, Tr.raw (.func (.func g) #[] caps.toArray)] (Chunk.own ad cap 2 50 (xs.map Nm.row) :: cin) (fun r cs => r = Tr.tup [] ∧ cs = Chunk.own ad cap 2 50 ((isort lt xs).map Nm.row) :: cin) := by
 refine Spec.body Tryz.func144 rfl rfl (Tryz.ntmps144) rfl fun w0 own0 M => ?_
 repeat' (first | refine goH ?_ | refine goV ?_ | refine goG ?_ | (refine Ops.k_guard ?_; first | (refine Ops.guard_dec rfl rfl ?_ ?_ <;> intro hc <;> try omega) | refine Ops.guard_split rfl rfl ?_ ?_ <;> intro hc) | refine goI ?_ | (refine Cw.k_cond ?_; first | (refine Cw.cond_dec rfl ?_ ?_ <;> intro hc <;> try omega) | refine Cw.cond_bool rfl ?_ ?_ <;> intro hc) | refine goR ?_ | refine goP ?_ | apply PSeq.cons | apply PSeq.yes rfl rfl rfl | exact goW | fail)
 refine Cw.loopI [(0, _), (1, _), (2, _), (3, _)] cin (fun q e c => ∃ (i : Nat) (rows : List (List Tr)), q = n - i ∧ (1 ≤ i ∧ i ≤ max 1 n ∧ rows = (isort lt (xs.take i) ++ xs.drop i).map Nm.row ∧ rows.length = n) ∧ e = [(8, .int i)] ∧ c = [Chunk.own ad cap 2 50 rows])
  ⟨_, _, _, (Ent.mkP goSub goPm), 1, xs.map Nm.row, rfl, ⟨by omega, by omega, by rw [isort_take1, List.take_append_drop], by rw [List.length_map, hn]⟩, rfl, rfl⟩ ?_
 rintro _ _ _ ⟨i, rows, rfl, ⟨hi1, hi2, hrows, hrl⟩, rfl, rfl⟩
 by_cases hil : i < n
 ·obtain ⟨x, hx⟩ : ∃ x, xs[i]? = some x := at_lt (by omega)
  obtain ⟨S, hS⟩ : ∃ S, S = isort lt (xs.take i) := ⟨_, rfl⟩
  have hSl : S.length = i := by rw [hS, isort_len, List.length_take]; omega
  have hSm : ∀ y ∈ S, y ∈ xs := fun y hy => List.mem_of_mem_take ((isort_perm lt (xs.take i)).mem_iff.1 (by rw [← hS]; exact hy))
  have hxm : x ∈ xs := List.mem_of_getElem? hx
  have hnext : isort lt (xs.take (i + 1)) = insB lt x S := by rw [take_at hx, isort_snoc, ← hS]
  rw [← hS, drop_at hx] at hrows
  repeat' (first | refine goH ?_ | refine goV ?_ | refine goG ?_ | (refine Ops.k_guard ?_; first | (refine Ops.guard_dec rfl rfl ?_ ?_ <;> intro hc <;> try omega) | refine Ops.guard_split rfl rfl ?_ ?_ <;> intro hc) | refine goI ?_ | (refine Cw.k_cond ?_; first | (refine Cw.cond_dec rfl ?_ ?_ <;> intro hc <;> try omega) | refine Cw.cond_bool rfl ?_ ?_ <;> intro hc) | refine goR ?_ | refine goP ?_ | apply PSeq.cons | apply PSeq.yes rfl rfl rfl | exact goW | fail)
  refine Cw.loopI [(0, _), (1, _), (2, _), (3, _), (8, _)] cin (fun q e c => ∃ (f m : List Nm) (rows : List (List Tr)) (j : Nat), q = f.length ∧ (f.length = j ∧ S = f ++ m ∧ insB lt x S = insB lt x f ++ m ∧ rows = (f ++ x :: (m ++ xs.drop (i + 1))).map Nm.row ∧ rows.length = n) ∧ e = [(9, .int j)] ∧ c = [Chunk.own ad cap 2 50 rows])
   ⟨_, _, _, (Ent.mkP goSub goPm), S, [], rows, i, rfl, ⟨hSl, by simp, by simp, by rw [hrows]; simp, hrl⟩, rfl, rfl⟩ ?_
  clear hrows hrl
  rintro _ _ _ ⟨f, m, rows, j, rfl, ⟨hj, hfm, hins, hrows, hrl⟩, rfl, rfl⟩
  have hfl : j ≤ i := by rw [← hSl, hfm, List.length_append]; omega
  have hx0 : rows[((j : Nat) : Int).toNat]? = some [.str x.key, .int x.many] := by rw [hrows]; exact rows_at (by simp [← hj])
  have fin : ∀ rows' : List (List Tr), rows' = (f ++ x :: (m ++ xs.drop (i + 1))).map Nm.row → insB lt x f = f ++ [x] → rows' = (isort lt (xs.take (i + 1)) ++ xs.drop (i + 1)).map Nm.row := by
   intro rows' h1 h2
   rw [h1, hnext, hins, h2]
   simp
  rcases List.eq_nil_or_concat f with rfl | ⟨f', y, rfl⟩
  ·rw [List.length_nil] at hj
   subst hj
   have h0 := fin rows hrows (insB_nil lt x)
   repeat' (first | refine goH ?_ | refine goV ?_ | refine goG ?_ | (refine Ops.k_guard ?_; first | (refine Ops.guard_dec rfl rfl ?_ ?_ <;> intro hc <;> try omega) | refine Ops.guard_split rfl rfl ?_ ?_ <;> intro hc) | refine goI ?_ | (refine Cw.k_cond ?_; first | (refine Cw.cond_dec rfl ?_ ?_ <;> intro hc <;> try omega) | refine Cw.cond_bool rfl ?_ ?_ <;> intro hc) | refine goR ?_ | refine goP ?_ | apply PSeq.cons | apply PSeq.yes rfl rfl rfl | exact goW | fail)
   exact ⟨_, _, _, (Ent.mkP goSub goPm), ⟨i + 1, rows, rfl, ⟨by omega, by omega, h0, hrl⟩, rfl, rfl⟩, by omega⟩
  ·rw [List.concat_eq_append] at *
   have hym : y ∈ xs := hSm y (by rw [hfm]; simp)
   have hspec := hs x y hxm hym
   have hjl : (f' ++ [y]).length = f'.length + 1 := by simp
   rw [hjl] at hj
   subst hj
   have hy0 : rows[(((f'.length + 1 : Nat) : Int) - 1).toNat]? = some [.str y.key, .int y.many] := by
    rw [hrows, show (((f'.length + 1 : Nat) : Int) - 1).toNat = f'.length by omega]
    exact rows_at (by simp)
   cases hc0 : lt x y
   ·have hcf : ¬ cf x y < 0 := by rw [hlt] at hc0; simpa using hc0
    have h0 := fin rows hrows (insB_ge lt hc0)
    repeat' (first | refine goH ?_ | refine goV ?_ | refine goG ?_ | (refine Ops.k_guard ?_; first | (refine Ops.guard_dec rfl rfl ?_ ?_ <;> intro hc <;> try omega) | refine Ops.guard_split rfl rfl ?_ ?_ <;> intro hc) | refine goI ?_ | (refine Cw.k_cond ?_; first | (refine Cw.cond_dec rfl ?_ ?_ <;> intro hc <;> try omega) | refine Cw.cond_bool rfl ?_ ?_ <;> intro hc) | exact OpW.callS_fn rfl hspec (Evs.cons rfl (Evs.cons rfl Evs.nil)) List.perm_append_comm | refine goR ?_ | refine goP ?_ | apply PSeq.cons | apply PSeq.yes rfl rfl rfl | exact goW | fail)
    exact ⟨_, _, _, (Ent.mkP goSub goPm), ⟨i + 1, rows, rfl, ⟨by omega, by omega, h0, hrl⟩, rfl, rfl⟩, by omega⟩
   ·have hcf : cf x y < 0 := by rw [hlt] at hc0; simpa using hc0
    have hset : (rows.set ((f'.length + 1 : Nat) : Int).toNat [.str y.key, .int y.many])[(((f'.length + 1 : Nat) : Int) - 1).toNat]? = some [.str y.key, .int y.many] := by
     rw [List.getElem?_set_ne (by omega)]
     exact hy0
    have hlen2 : (rows.set ((f'.length + 1 : Nat) : Int).toNat [.str y.key, .int y.many]).length = n := by rw [List.length_set]; exact hrl
    have hres : (rows.set ((f'.length + 1 : Nat) : Int).toNat [.str y.key, .int y.many]).set (((f'.length + 1 : Nat) : Int) - 1).toNat [.str x.key, .int x.many] = (f' ++ x :: (y :: m ++ xs.drop (i + 1))).map Nm.row := by
     rw [hrows, show (((f'.length + 1 : Nat) : Int) - 1).toNat = f'.length by omega, show ((f'.length + 1 : Nat) : Int).toNat = f'.length + 1 by omega]
     simp [List.set_append]
     all_goals (try exact ⟨rfl, rfl⟩)
    have hm : S = f' ++ (y :: m) := by rw [hfm]; simp
    have hins2 : insB lt x S = insB lt x f' ++ (y :: m) := by rw [hins, insB_lt lt hc0]; simp
    clear fin hnext hS hSl hSm hfm hins hrows
    repeat' (first | refine goH ?_ | refine goV ?_ | refine goG ?_ | (refine Ops.k_guard ?_; first | (refine Ops.guard_dec rfl rfl ?_ ?_ <;> intro hc <;> try omega) | refine Ops.guard_split rfl rfl ?_ ?_ <;> intro hc) | refine goI ?_ | (refine Cw.k_cond ?_; first | (refine Cw.cond_dec rfl ?_ ?_ <;> intro hc <;> try omega) | refine Cw.cond_bool rfl ?_ ?_ <;> intro hc) | exact OpW.callS_fn rfl hspec (Evs.cons rfl (Evs.cons rfl Evs.nil)) List.perm_append_comm | refine goR ?_ | refine goP ?_ | apply PSeq.cons | apply PSeq.yes rfl rfl rfl | exact goW | fail)
    refine Cw.region_seqF (m := 15) [2, 3, 4] rfl (by decide +kernel) rfl (fun a w d => ?_) ?_
    ·have h9 := rd_raw (d.env 9 _ rfl)
     have hs : a.tmps.size = 53 := d.tmps
     have h9' : a.tmps[9]'(by omega) = .int .i64 ((f'.length + 1 : Nat) : Int) := by simpa [hs] using h9
     exact FlRun.move rfl rfl rfl rfl (FlRun.move rfl rfl rfl rfl (FlRun.sub1 (p := ((f'.length + 1 : Nat) : Int)) rfl rfl rfl rfl (by simp [Act.put, Act.eval, hs, h9']) FlRun.nil))
    repeat' (first | refine goH ?_ | refine goV ?_ | refine goG ?_ | (refine Ops.k_guard ?_; first | (refine Ops.guard_dec rfl rfl ?_ ?_ <;> intro hc <;> try omega) | refine Ops.guard_split rfl rfl ?_ ?_ <;> intro hc) | refine goI ?_ | (refine Cw.k_cond ?_; first | (refine Cw.cond_dec rfl ?_ ?_ <;> intro hc <;> try omega) | refine Cw.cond_bool rfl ?_ ?_ <;> intro hc) | refine NoP.norm ?_ | refine goR ?_ | refine goP ?_ | apply PSeq.cons | apply PSeq.yes rfl rfl rfl | exact goW | fail)
    refine ⟨_, _, _, ?_, ⟨f', y :: m, _, f'.length, rfl, ⟨rfl, hm, hins2, hres, by rw [List.length_set]; exact hlen2⟩, rfl, rfl⟩, by simp⟩
    rw [show ((f'.length + 1 : Nat) : Int) - 1 = (f'.length : Int) by omega]
    exact (Ent.mkP goSub goPm)
 ·have hin : xs.take i = xs := List.take_of_length_le (by omega)
  rw [hin, List.drop_eq_nil_of_le (by omega), List.append_nil] at hrows
  subst hrows
  repeat' (first | refine goH ?_ | refine goV ?_ | refine goG ?_ | (refine Ops.k_guard ?_; first | (refine Ops.guard_dec rfl rfl ?_ ?_ <;> intro hc <;> try omega) | refine Ops.guard_split rfl rfl ?_ ?_ <;> intro hc) | refine goI ?_ | (refine Cw.k_cond ?_; first | (refine Cw.cond_dec rfl ?_ ?_ <;> intro hc <;> try omega) | refine Cw.cond_bool rfl ?_ ?_ <;> intro hc) | refine goR ?_ | refine goP ?_ | apply PSeq.cons | apply PSeq.yes rfl rfl rfl | exact goW | fail)
  exact Fin.norm (Ent.mkP goSub goPm) (Outs.zero rfl) ⟨rfl, rfl⟩

/-- slices.SortFunc on at most 12 elements -/
theorem pdq_nm {n : Nat} {d : Int} {xs : List Nm} {ad : Option Addr} {cap : Nat} {g : Nat} {caps : List Value} {cin : List Chunk} {lt : Nm → Nm → Bool} {cf : Nm → Nm → Int} (hlt : ∀ a b, lt a b = decide (cf a b < 0)) (hl : xs.length ≤ 12) (hn : n = xs.length)
  (hs : ∀ a b, a ∈ xs → b ∈ xs → Spec Tryz.prog g ([(fun x : Nm => Tr.agg x.row) a, (fun x : Nm => Tr.agg x.row) b] ++ caps.map Tr.raw) cin (fun r cs => r = Tr.int (cf a b) ∧ cs = cin)) :
  Spec Tryz.prog 118 [Tr.raw (.slice ad n cap), .int 0, .int n, .int d, Tr.raw (.func (.func g) #[] caps.toArray)] (Chunk.own ad cap 2 50 (xs.map Nm.row) :: cin) (fun r cs => r = Tr.tup [] ∧ cs = Chunk.own ad cap 2 50 ((isort lt xs).map Nm.row) :: cin) := by
 have hi := insSort_nm (ad := ad) (cap := cap) hlt (show xs.length ≤ 1000000 by omega) hn hs
 refine Spec.body Tryz.func118 rfl rfl (Tryz.ntmps118) rfl fun w0 own0 M => ?_
 repeat' (first | refine goH ?_ | refine goV ?_ | refine goG ?_ | (refine Ops.k_guard ?_; first | (refine Ops.guard_dec rfl rfl ?_ ?_ <;> intro hc <;> try omega) | refine Ops.guard_split rfl rfl ?_ ?_ <;> intro hc) | refine goI ?_ | (refine Cw.k_cond ?_; first | (refine Cw.cond_dec rfl ?_ ?_ <;> intro hc <;> try omega) | refine Cw.cond_bool rfl ?_ ?_ <;> intro hc) | refine goR ?_ | refine goP ?_ | apply PSeq.cons | apply PSeq.yes rfl rfl rfl | exact goW | fail)
 refine Cw.loopI [(0, _), (4, _)] _ (fun q e c => q = 0 ∧ e = [(1, .int 0), (2, .int n), (3, .int d), (10, .bool true), (11, .bool true)] ∧ c = []) ⟨_, _, _, (Ent.mkP goSub goPm), rfl, rfl, rfl⟩ ?_
 rintro _ _ _ ⟨rfl, rfl, rfl⟩
 repeat' (first | refine goH ?_ | refine goV ?_ | refine goG ?_ | (refine Ops.k_guard ?_; first | (refine Ops.guard_dec rfl rfl ?_ ?_ <;> intro hc <;> try omega) | refine Ops.guard_split rfl rfl ?_ ?_ <;> intro hc) | refine goI ?_ | (refine Cw.k_cond ?_; first | (refine Cw.cond_dec rfl ?_ ?_ <;> intro hc <;> try omega) | refine Cw.cond_bool rfl ?_ ?_ <;> intro hc) | (refine Ops.k_calla ?_; first | (refine Ops.call (cf := []) hi (Evs.cons rfl (Evs.cons rfl (Evs.cons rfl (Evs.cons rfl Evs.nil)))) (by simp) rfl ?_; rintro r cs' ⟨rfl, rfl⟩)) | refine goR ?_ | refine goP ?_ | apply PSeq.cons | apply PSeq.yes rfl rfl rfl | exact goW | fail)
 first | exact Fin.norm (Ent.mkP goSub (by simp)) (Outs.zero rfl) ⟨rfl, rfl⟩ | exact Fin.ret (Ent.mkP goSub (by simp)) (Outs.zero rfl) ⟨rfl, rfl⟩
theorem sortFunc_nm {n : Nat} {xs : List Nm} {ad : Option Addr} {cap : Nat} {g : Nat} {caps : List Value} {cin : List Chunk} {lt : Nm → Nm → Bool} {cf : Nm → Nm → Int} (hlt : ∀ a b, lt a b = decide (cf a b < 0)) (hl : xs.length ≤ 12) (hn : n = xs.length)
  (hs : ∀ a b, a ∈ xs → b ∈ xs → Spec Tryz.prog g ([(fun x : Nm => Tr.agg x.row) a, (fun x : Nm => Tr.agg x.row) b] ++ caps.map Tr.raw) cin (fun r cs => r = Tr.int (cf a b) ∧ cs = cin)) :
  Spec Tryz.prog 77 [Tr.raw (.slice ad n cap), Tr.raw (.func (.func g) #[] caps.toArray)] (Chunk.own ad cap 2 50 (xs.map Nm.row) :: cin) (fun r cs => r = Tr.tup [] ∧ cs = Chunk.own ad cap 2 50 ((isort lt xs).map Nm.row) :: cin) := by
 have hi := fun d => pdq_nm (d := d) (ad := ad) (cap := cap) hlt hl hn hs
 have hb := bitsLen_fn n (by omega)
 unfold PFn at hb
 refine Spec.body Tryz.func77 rfl rfl (Tryz.ntmps77) rfl fun w0 own0 M => ?_
 repeat' (first | refine goH ?_ | (refine Ops.k_convert ?_; first | (refine Ops.convN Tryz.underlying3 Tryz.underlying125 rfl (wrap_u64 (by omega)) rfl ?_)) | refine goV ?_ | refine goI ?_ | (refine Cw.k_cond ?_; first | (refine Cw.cond_dec rfl ?_ ?_ <;> intro hc <;> try omega) | refine Cw.cond_bool rfl ?_ ?_ <;> intro hc) | (refine Ops.k_calla ?_; first | (refine Ops.k_callf 63 ?_; (refine Ops.call hb (Evs.cons rfl Evs.nil) (by rw [List.nil_append]) rfl ?_; rintro r cs' ⟨rfl, v, rfl⟩; rw [List.nil_append])) | (refine Ops.call (cf := []) (hi _) (Evs.cons rfl (Evs.cons rfl (Evs.cons rfl (Evs.cons rfl (Evs.cons rfl Evs.nil))))) (by simp) rfl ?_; rintro r cs' ⟨rfl, rfl⟩)) | fail)
 first | exact Fin.norm (Ent.mkP goSub (by simp)) (Outs.zero rfl) ⟨rfl, rfl⟩ | exact Fin.ret (Ent.mkP goSub (by simp)) (Outs.zero rfl) ⟨rfl, rfl⟩

theorem nmLt_c (a b : Nm) : nmLt a b = decide (cmpS a.key b.key < 0) := by
 unfold nmLt
 rw [Bool.eq_iff_iff, decide_eq_true_iff]
 exact (cmpS_lt _ _).symm
end Lg
end
section
set_option linter.all false
set_option maxRecDepth 100000
set_option maxHeartbeats 1000000
namespace Lg
open Go Go.Proofs

/-! ### sums for each ware -/
abbrev PS := List (ByteArray × Int)
def mS (k : ByteArray) : PS → Int
 |[] => 0
 |p :: l => (if k = p.1 then p.2 else 0) + mS k l
def sumM (m : PS) : PS → PS
 |[] => m
 |p :: l => sumM (mAdd p.1 p.2 m) l
theorem mI_sum (k : ByteArray) : ∀ (l m : PS), mI k (sumM m l) = mI k m + mS k l
 |[], m => by rw [sumM, mS]; omega
 |p :: l, m => by
  rw [sumM, mI_sum k l, mS]
  unfold mAdd
  rw [mI_up]
  split
  ·rename_i h; subst h; omega
  ·omega
theorem sumM_nodup : ∀ (l : PS) {m : PS}, (m.map Prod.fst).Nodup → ((sumM m l).map Prod.fst).Nodup
 |[], m, h => h
 |p :: l, m, h => sumM_nodup l (mUp_nodup h)
theorem sumM_len : ∀ (l m : PS), (sumM m l).length ≤ m.length + l.length
 |[], m => by rw [sumM]; simp
 |p :: l, m => by
  have h1 := sumM_len l (mAdd p.1 p.2 m)
  have h2 := mUp_len p.1 (mI p.1 m + p.2) m
  rw [sumM, List.length_cons]
  unfold mAdd at h1 ⊢
  omega
def mBd (B : Int) (m : PS) : Prop := ∀ q ∈ m, -B ≤ q.2 ∧ q.2 ≤ B
theorem mBd.val {B : Int} {m : PS} (h : mBd B m) (hB : 0 ≤ B) (k : ByteArray) : -B ≤ mI k m ∧ mI k m ≤ B :=
 mI_all (p := fun v => -B ≤ v ∧ v ≤ B) ⟨by omega, by omega⟩ h
theorem mBd.add {B c : Int} {m : PS} (h : mBd B m) (hB : 0 ≤ B) (k : ByteArray) {v : Int} (hv : -c ≤ v ∧ v ≤ c) : mBd (B + c) (mAdd k v m) := by
 have h1 := h.val hB k
 refine mAll_up (p := fun q => -(B + c) ≤ q.2 ∧ q.2 ≤ B + c) ?_ (fun q hq => ?_)
 ·simp only; omega
 ·have := h q hq
  omega
def mkN (p : ByteArray × Int) : Nm := ⟨p.1, p.2⟩
def mvP (x : Mv) : ByteArray × Int := (x.ware, x.many)
/-- the sums of moves -/
def smV (l : List Mv) : PS := sumM [] (l.map mvP)
theorem smV_nodup (l : List Mv) : ((smV l).map Prod.fst).Nodup := sumM_nodup _ List.nodup_nil
theorem smV_len (l : List Mv) : (smV l).length ≤ l.length := by
 have := sumM_len (l.map mvP) []
 unfold smV
 simpa using this
theorem key_mkN (m : PS) : (m.map mkN).map Nm.key = m.map Prod.fst := by rw [List.map_map]; rfl
def Nm.lt (a b : Nm) : Prop := strLt a.key b.key = true
theorem nm_strict {l : List Nm} (hs : l.Pairwise fun a b => ¬ b.lt a) (hn : (l.map Nm.key).Nodup) : l.Pairwise Nm.lt := by
 rw [List.Nodup, List.pairwise_map] at hn
 refine (hs.and hn).imp fun {a b} h => ?_
 unfold Nm.lt at *
 cases h1 : strLt a.key b.key
 ·exact absurd (strLt_tri h1 (by simpa using h.1)) h.2
 ·rfl
theorem nm_uniq {a b : List Nm} (ha : a.Pairwise Nm.lt) (hb : b.Pairwise Nm.lt) (hm : ∀ x, x ∈ a ↔ x ∈ b) : a = b :=
 strict_uniq (lt := Nm.lt) (fun a => by unfold Nm.lt; rw [strLt_irrefl]; simp) (fun a b c h1 h2 => strLt_trans h1 h2) ha hb hm
theorem isortN_sorted (l : List Nm) : (isort nmLt l).Pairwise fun a b => ¬ b.lt a := by
 have := isort_sorted (lt := nmLt) (fun a b h => strLt_asymm h) (fun a b c h1 h2 => by
  unfold nmLt at *
  cases h : strLt c.key a.key with
  |false => rfl
  |true =>
   cases h3 : strLt a.key b.key with
   |true => rw [strLt_trans h h3] at h2; cases h2
   |false => rw [strLt_tri h3 h1] at h; rw [h] at h2; cases h2) l
 exact this.imp fun {a b} h => by unfold nmLt at h; unfold Nm.lt; rw [h]; simp
theorem isortN_strict {l : List Nm} (hn : (l.map Nm.key).Nodup) : (isort nmLt l).Pairwise Nm.lt :=
 nm_strict (isortN_sorted l) (((isort_perm nmLt l).map Nm.key).nodup_iff.2 hn)
/-- a sorted list of the same names is the sorted one -/
theorem nm_sorted_uniq {ys xs : List Nm} (hp : ys.Perm xs) (hs : ys.Pairwise fun a b => ¬ b.lt a) (hn : (xs.map Nm.key).Nodup) : ys = isort nmLt xs := by
 refine nm_uniq (nm_strict hs ((hp.map Nm.key).nodup_iff.2 hn)) (isortN_strict hn) fun x => ?_
 rw [hp.mem_iff, (isort_perm nmLt xs).mem_iff]
theorem named_uniq {g m : PS} {ys : List Nm} (hp : ys.Perm (g.map mkN)) (hs : ys.Pairwise fun a b => ¬ b.lt a) (hg : m.Perm g) (hn : (m.map Prod.fst).Nodup) : ys = isort nmLt (m.map mkN) := by
 refine nm_sorted_uniq (hp.trans (hg.symm.map mkN)) hs ?_
 rw [key_mkN]
 exact hn
/-! ### what is missing -/
def thM (m : PS) (c : List Nm) : PS := sumM m (c.map fun x => (x.key, -x.many))
def nz (x : Nm) : Bool := !decide (x.many = 0)
def thV (l : List Mv) (c : List Nm) : List Nm := (isort nmLt ((thM (smV l) c).map mkN)).filter nz
theorem mem_nz {m : PS} (hn : (m.map Prod.fst).Nodup) (x : Nm) (h : x.many ≠ 0) : x ∈ m.map mkN ↔ mI x.key m = x.many := by
 constructor
 ·intro hx
  obtain ⟨p, hp, rfl⟩ := List.mem_map.1 hx
  exact mI_mem hn hp
 ·intro he
  have hk : x.key ∈ m.map Prod.fst := by
   by_cases hk : x.key ∈ m.map Prod.fst
   ·exact hk
   ·exact absurd (mI_not hk) (by omega)
  obtain ⟨p, hp, hpk⟩ := List.mem_map.1 hk
  have := mI_mem hn (show (p.1, p.2) ∈ m from hp)
  rw [hpk, he] at this
  refine List.mem_map.2 ⟨p, hp, ?_⟩
  unfold mkN
  rw [hpk, ← this]
theorem th_nodup (l : List Mv) (c : List Nm) : ((thM (smV l) c).map Prod.fst).Nodup := sumM_nodup _ (smV_nodup l)
end Lg
end
