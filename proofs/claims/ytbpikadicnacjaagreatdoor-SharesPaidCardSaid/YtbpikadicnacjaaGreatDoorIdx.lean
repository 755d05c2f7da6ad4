/- A part of the proof of a law of this seat: it adds no condition. By an AI agent. -/
import Derived.Test.YtbpikadicnacjaaGreatDoorSp4
section
set_option linter.all false
set_option maxRecDepth 100000
set_option maxHeartbeats 8000000
namespace Lg
open Go Go.Proofs

/-! ### the reference's taxes -/
/-- the same over an owned slice, that it only reads -/
theorem indexFuncO_txd {n : Nat} {l : List Txd} {p : Txd → Bool} {ad : Option Addr} {cap : Nat} {g : Nat} {caps : List Value} {cin : List Chunk} (hl : l.length ≤ 1000000000) (hn : n = l.length)
    (hs : ∀ x, x ∈ l → Spec Tryz.prog g ([Tr.agg x.row] ++ caps.map Tr.raw) cin (fun r cs => r = Tr.bool (p x) ∧ cs = cin)) :
    Spec Tryz.prog 46 [Tr.raw (.slice ad n cap), Tr.raw (.func (.func g) #[] caps.toArray)] (Chunk.own ad cap 4 49 (l.map Txd.row) :: cin) (fun r cs => r = Tr.int (idxFrom p l 0) ∧ cs = Chunk.own ad cap 4 49 (l.map Txd.row) :: cin) := by
  refine Spec.body Tryz.func46 rfl rfl (Tryz.ntmps46) rfl fun w0 own0 M => ?_
  have hL : (l.map Txd.row).length = n := by rw [List.length_map, hn]
  repeat' (first | refine goH ?_ | refine goV ?_ | refine goI ?_ | (refine Cw.k_cond ?_; first | (refine Cw.cond_dec rfl (fun hc => ?_) (fun hc => ?_) <;> try (exfalso; omega)) | refine Cw.cond_bool rfl (fun hc => ?_) (fun hc => ?_)) | fail)
  refine Cw.loopI [(0, _), (1, _), (7, _)] _ (fun q e c => ∃ k : Nat, q = n - k ∧ (k ≤ n ∧ idxFrom p l 0 = idxFrom p (l.drop k) k) ∧ e = [(8, .int k)] ∧ c = []) ⟨_, _, _, (Ent.mkP goSub goPm), 0, rfl, ⟨by omega, rfl⟩, rfl, rfl⟩ ?_
  rintro _ _ _ ⟨k, rfl, ⟨hk, hgo⟩, rfl, rfl⟩
  by_cases hkl : k < n
  · obtain ⟨x, hx⟩ : ∃ x, l[k]? = some x := ⟨_, List.getElem?_eq_getElem (by omega)⟩
    have hrow : (l.map Txd.row)[k]? = some [.int x.rt, .int x.gr, .int x.net, .int x.tax] := rows_at hx
    have hdrop := idxFrom_drop p hx
    rw [hdrop] at hgo
    have hsx := hs x (List.mem_of_getElem? hx)
    by_cases hp : p x = true
    · rw [if_pos hp] at hgo
      rw [hp] at hsx
      repeat' (first | refine goH ?_ | refine goV ?_ | refine goI ?_ | (refine Cw.k_cond ?_; first | (refine Cw.cond_dec rfl (fun hc => ?_) (fun hc => ?_) <;> try (exfalso; omega)) | refine Cw.cond_bool rfl (fun hc => ?_) (fun hc => ?_)) | (refine Ops.k_calla ?_; first | refine Ops.callS_fn rfl hsx (Evs.cons rfl Evs.nil) (List.perm_append_comm (l₁ := [Chunk.own ad cap 4 49 (l.map Txd.row)])) rfl ?_) | fail)
      exact Fin.ret Ent.refl (Outs.one rfl rfl) ⟨by rw [hgo], rfl⟩
    · rw [if_neg hp] at hgo
      rw [Bool.not_eq_true] at hp
      rw [hp] at hsx
      repeat' (first | refine goH ?_ | refine goV ?_ | refine goI ?_ | (refine Cw.k_cond ?_; first | (refine Cw.cond_dec rfl (fun hc => ?_) (fun hc => ?_) <;> try (exfalso; omega)) | refine Cw.cond_bool rfl (fun hc => ?_) (fun hc => ?_)) | (refine Ops.k_calla ?_; first | refine Ops.callS_fn rfl hsx (Evs.cons rfl Evs.nil) (List.perm_append_comm (l₁ := [Chunk.own ad cap 4 49 (l.map Txd.row)])) rfl ?_) | fail)
      exact ⟨_, _, _, (Ent.mkP goSub goPm), ⟨k + 1, rfl, ⟨by omega, hgo⟩, rfl, rfl⟩, by omega⟩
  · rw [List.drop_eq_nil_of_le (by omega), idxFrom] at hgo
    repeat' (first | refine goH ?_ | refine goV ?_ | refine goI ?_ | (refine Cw.k_cond ?_; first | (refine Cw.cond_dec rfl (fun hc => ?_) (fun hc => ?_) <;> try (exfalso; omega)) | refine Cw.cond_bool rfl (fun hc => ?_) (fun hc => ?_)) | fail)
    exact Fin.ret Ent.refl (Outs.one rfl rfl) ⟨by rw [hgo], rfl⟩

theorem mIx {α : Type} [DecidableEq α] (a : α) (v : Int) : ∀ (m : List (α × Int)) (k : Int),
    (idxFrom (fun p : α × Int => decide (p.1 = a)) m k = -1 ∧ mI a m = 0 ∧ mUp a v m = m ++ [(a, v)]) ∨
    ∃ (j : Nat) (u : Int), idxFrom (fun p : α × Int => decide (p.1 = a)) m k = k + j ∧ m[j]? = some (a, u) ∧ mI a m = u ∧ mUp a v m = m.set j (a, v)
  | [], k => .inl ⟨rfl, rfl, rfl⟩
  | p :: m, k => by
    by_cases h : p.1 = a
    · right
      refine ⟨0, p.2, ?_, ?_, ?_, ?_⟩
      · simp [idxFrom, h]
      · rw [← h]; rfl
      · simp [mI, h]
      · simp [mUp, h]
    · have h2 : ¬ a = p.1 := fun e => h e.symm
      rcases mIx a v m (k + 1) with ⟨h3, h4, h5⟩ | ⟨j, u, h3, h4, h5, h6⟩
      · left
        refine ⟨?_, ?_, ?_⟩
        · simp [idxFrom, h, h3]
        · simp [mI, h2, h4]
        · simp [mUp, h2, h5]
      · right
        refine ⟨j + 1, u, ?_, ?_, ?_, ?_⟩
        · simp [idxFrom, h, h3]; omega
        · simpa using h4
        · simp [mI, h2, h5]
        · simp [mUp, h2, h6]
theorem idxFrom_map {α β : Type} (f : α → β) (p : β → Bool) : ∀ (l : List α) (k : Int), idxFrom p (l.map f) k = idxFrom (fun x => p (f x)) l k
  | [], _ => rfl
  | x :: l, k => by
    simp only [List.map_cons, idxFrom]
    rw [idxFrom_map f p l]
def mk0 (p : Int × Int) : Txd := ⟨p.1, p.2, 0, 0⟩
theorem snoc_0 (m : List (Int × Int)) (p : Int × Int) : (m.map mk0).map Txd.row ++ [(mk0 p).row] = ((m ++ [p]).map mk0).map Txd.row := by simp
theorem set_0 (m : List (Int × Int)) (j : Nat) (p : Int × Int) : ((m.map mk0).map Txd.row).set j (mk0 p).row = ((m.set j p).map mk0).map Txd.row := by
  rw [List.map_set, List.map_set]
theorem txIs_fn (x : Txd) (b E : Nat) (c : Chg) : Spec Tryz.prog 47 [.agg x.row, .ptr b] [Chunk.box b E c.row] (fun r cs => r = .bool (decide (x.rt = c.rt)) ∧ cs = [Chunk.box b E c.row]) := by
  unfold Txd.row Chg.row
  refine Spec.body Tryz.func47 rfl rfl (Tryz.ntmps47) rfl fun w0 own0 M => ?_
  repeat' (first | refine goH ?_ | refine goV ?_ | refine goB (fun b => ?_) | refine goI ?_ | (refine Cw.k_cond ?_; first | (refine Cw.cond_dec rfl (fun hc => ?_) (fun hc => ?_) <;> try (exfalso; omega)) | refine Cw.cond_bool rfl (fun hc => ?_) (fun hc => ?_)) | fail)
  exact Fin.ret (Ent.take goTk) (Outs.one rfl rfl) ⟨rfl, rfl⟩
theorem taxesOf_fn (l : List Chg) (hl : l.length ≤ 12) : PFn Tryz.prog 18 [.chgs l] (· = txT l) := by
  have hL : (l.map Chg.row).length = l.length := List.length_map _
  unfold txT
  rw [if_neg (by omega)]
  refine PFn.mk (Spec.body Tryz.func18 rfl rfl (Tryz.ntmps18) rfl fun w0 own0 M => ?_)
  repeat' (first | refine goH ?_ | refine goV ?_ | refine goB (fun b => ?_) | refine goC (fun ad cap => ?_) | refine goG ?_ | (refine Ops.k_guard ?_; first | (refine Ops.guard_dec rfl rfl (fun hc => ?_) (fun hc => ?_) <;> try (exfalso; omega)) | refine Ops.guard_split rfl rfl (fun hc => ?_) (fun hc => ?_)) | refine goI ?_ | (refine Cw.k_cond ?_; first | (refine Cw.cond_dec rfl (fun hc => ?_) (fun hc => ?_) <;> try (exfalso; omega)) | refine Cw.cond_bool rfl (fun hc => ?_) (fun hc => ?_)) | refine goR ?_ | refine goP ?_ | apply PSeq.cons | apply PSeq.yes rfl rfl rfl | exact goW | fail)
  refine Cw.loopI [(0, _), (15, _), (16, _)] _ (fun q e c => ∃ (k : Nat), q = l.length - k ∧ (k ≤ l.length ∧ l.any chBad = (l.drop k).any chBad) ∧ e = [(17, .int k)] ∧ c = [])
    ⟨_, _, _, (Ent.mkP goSub goPm), 0, rfl, ⟨by omega, rfl⟩, rfl, rfl⟩ ?_
  rintro _ _ _ ⟨k, rfl, ⟨hk, hA⟩, rfl, rfl⟩
  by_cases hkl : k < l.length
  · obtain ⟨x, hx⟩ := at_lt hkl
    have hrow : (l.map Chg.row)[k]? = some [.int x.rt, .int x.gr] := rows_at hx
    rw [drop_at hx, List.any_cons] at hA
    cases hb : chBad x
    · rw [hb, Bool.false_or] at hA
      have hbb := chBad_f hb
      repeat' (first | refine goH ?_ | refine goV ?_ | refine goB (fun b => ?_) | refine goC (fun ad cap => ?_) | refine goG ?_ | (refine Ops.k_guard ?_; first | (refine Ops.guard_dec rfl rfl (fun hc => ?_) (fun hc => ?_) <;> try (exfalso; omega)) | refine Ops.guard_split rfl rfl (fun hc => ?_) (fun hc => ?_)) | refine goI ?_ | (refine Cw.k_cond ?_; first | (refine Cw.cond_dec rfl (fun hc => ?_) (fun hc => ?_) <;> try (exfalso; omega)) | refine Cw.cond_bool rfl (fun hc => ?_) (fun hc => ?_)) | refine goR ?_ | refine goP ?_ | apply PSeq.cons | apply PSeq.yes rfl rfl rfl | exact goW | fail)
      all_goals first | exact ⟨_, _, _, (Ent.mk goSub goTk), ⟨k + 1, rfl, ⟨by omega, hA⟩, rfl, rfl⟩, by omega⟩ | (exfalso; omega)
    · rw [hb, Bool.true_or] at hA
      rw [if_pos hA]
      unfold chBad at hb
      simp only [decide_eq_true_eq] at hb
      repeat' (first | refine goH ?_ | refine goV ?_ | refine goB (fun b => ?_) | refine goC (fun ad cap => ?_) | refine goG ?_ | (refine Ops.k_guard ?_; first | (refine Ops.guard_dec rfl rfl (fun hc => ?_) (fun hc => ?_) <;> try (exfalso; omega)) | refine Ops.guard_split rfl rfl (fun hc => ?_) (fun hc => ?_)) | refine goI ?_ | (refine Cw.k_cond ?_; first | (refine Cw.cond_dec rfl (fun hc => ?_) (fun hc => ?_) <;> try (exfalso; omega)) | refine Cw.cond_bool rfl (fun hc => ?_) (fun hc => ?_)) | refine goR ?_ | refine goP ?_ | apply PSeq.cons | apply PSeq.yes rfl rfl rfl | exact goW | fail)
      all_goals first | (refine Fin.ret (Ent.trans (Ent.nilsl 4 (s := 2) rfl) (Ent.take goTk)) (Outs.many rfl (OutL.cons goOe (OutL.cons goOe OutL.nil)) rfl) ⟨rfl, rfl⟩) | (exfalso; omega)
  rw [List.drop_of_length_le (by omega)] at hA
  rw [if_neg (by rw [hA]; simp)]
  have hA : l.any chBad = false := hA
  skip
  repeat' (first | refine goH ?_ | refine goV ?_ | refine goB (fun b => ?_) | refine goC (fun ad cap => ?_) | refine goG ?_ | (refine Ops.k_guard ?_; first | (refine Ops.guard_dec rfl rfl (fun hc => ?_) (fun hc => ?_) <;> try (exfalso; omega)) | refine Ops.guard_split rfl rfl (fun hc => ?_) (fun hc => ?_)) | refine goI ?_ | (refine Cw.k_cond ?_; first | (refine Cw.cond_dec rfl (fun hc => ?_) (fun hc => ?_) <;> try (exfalso; omega)) | refine Cw.cond_bool rfl (fun hc => ?_) (fun hc => ?_)) | refine goR ?_ | refine goP ?_ | apply PSeq.cons | apply PSeq.yes rfl rfl rfl | exact goW | fail)
  refine Cw.loopI [(40, _), (41, _)] _ (fun q e c => ∃ (k : Nat) (m : List (Int × Int)) (ad : Option Addr) (cap n : Nat) (rows : List (List Tr)), q = l.length - k ∧ (k ≤ l.length ∧ txF [] l = txF m (l.drop k) ∧ TxOk k m ∧ rows = (m.map mk0).map Txd.row ∧ rows.length = n ∧ n = m.length) ∧ e = [(6, Tr.raw (.slice ad n cap)), (42, .int k)] ∧ c = [Chunk.own ad cap 4 49 rows])
    ⟨_, _, _, Ent.trans (Ent.nil 4 49) (Ent.mkP goSub goPm), 0, [], none, 0, 0, [], rfl, ⟨by omega, rfl, txOk0, rfl, rfl, rfl⟩, rfl, rfl⟩ ?_
  rintro _ _ _ ⟨k, m, ad, cap, n, rows, rfl, ⟨hk, hV, hm, hrows, hrl, hnm⟩, rfl, rfl⟩
  have hml : m.length ≤ 12 := by have := hm.2.1; omega
  by_cases hkl : k < l.length
  · obtain ⟨x, hx⟩ := at_lt hkl
    have hrow : (l.map Chg.row)[k]? = some [.int x.rt, .int x.gr] := rows_at hx
    have hb : chBad x = false := by simpa using List.any_eq_false.1 hA x (List.mem_of_getElem? hx)
    have hbb := chBad_f hb
    have hadd := hm.add hb
    have hvv := hm.val x.rt
    rw [drop_at hx, txF] at hV
    unfold mAdd at hadd hV
    have kI := fun b => indexFuncO_txd (n := n) (l := m.map mk0) (p := fun y => decide (y.rt = x.rt)) (ad := ad) (cap := cap) (g := 47) (caps := [.pointer (some ⟨b, 0, none⟩)]) (cin := [Chunk.box b 77 x.row]) (by rw [List.length_map]; omega) (by rw [hnm, List.length_map]) (fun y _ => txIs_fn y b _ x)
    rw [idxFrom_map] at kI
    rw [← hrows] at kI
    unfold Chg.row at kI
    clear hx hm
    rcases mIx x.rt (mI x.rt m + x.gr) m 0 with ⟨h3, h4, h5⟩ | ⟨j, u, h3, h4, h5, h6⟩
    · rw [show (fun y => decide ((mk0 y).rt = x.rt)) = (fun p : Int × Int => decide (p.1 = x.rt)) from rfl, h3] at kI
      rw [h4] at hV hadd hvv h5
      rw [h5] at hV hadd
      have hsn := snoc_0 m (x.rt, 0)
      have hsn2 := snoc_0 m (x.rt, 0 + x.gr)
      rw [← hrows] at hsn hsn2
      simp only [mk0, Txd.row] at hsn hsn2
      repeat' (first | refine goH ?_ | refine goV ?_ | refine goB (fun b => ?_) | refine goC (fun ad cap => ?_) | refine goG ?_ | (refine Ops.k_guard ?_; first | (refine Ops.guard_dec rfl rfl (fun hc => ?_) (fun hc => ?_) <;> try (exfalso; omega)) | refine Ops.guard_split rfl rfl (fun hc => ?_) (fun hc => ?_)) | refine goI ?_ | (refine Cw.k_cond ?_; first | (refine Cw.cond_dec rfl (fun hc => ?_) (fun hc => ?_) <;> try (exfalso; omega)) | refine Cw.cond_bool rfl (fun hc => ?_) (fun hc => ?_)) | (refine Ops.k_calla ?_; first | (refine Ops.k_callf 46 ?_; (refine Ops.call (kI _) (Evs.cons rfl (Evs.cons rfl Evs.nil)) goPm rfl ?_; rintro r cs' ⟨rfl, rfl⟩))) | refine goP ?_ | apply PSeq.cons | apply PSeq.yes rfl rfl rfl | exact goW | fail)
      have hr2l : (rows ++ [[Tr.int x.rt, Tr.int 0, Tr.int 0, Tr.int 0]]).length = n + 1 := by rw [List.length_append, hrl]; rfl
      have hset : (rows ++ [[Tr.int x.rt, Tr.int 0, Tr.int 0, Tr.int 0]]).set n [Tr.int x.rt, Tr.int (0 + x.gr), Tr.int 0, Tr.int 0] = rows ++ [[Tr.int x.rt, Tr.int (0 + x.gr), Tr.int 0, Tr.int 0]] := by
        rw [List.set_append_right _ _ (by omega), hrl, Nat.sub_self]
        rfl
      have hget : (rows ++ [[Tr.int x.rt, Tr.int 0, Tr.int 0, Tr.int 0]])[n]? = some [Tr.int x.rt, Tr.int 0, Tr.int 0, Tr.int 0] := by
        rw [List.getElem?_append_right (by omega), hrl, Nat.sub_self]
        rfl
      rw [hsn2] at hset
      generalize rows ++ [[Tr.int x.rt, Tr.int 0, Tr.int 0, Tr.int 0]] = rows2 at *
      rename_i b1 ad1 cap1
      have hi : (((rows2.length : Nat) : Int) - 1).toNat = n := by omega
      have q1 : rows2[(((rows2.length : Nat) : Int) - 1).toNat]? = some [Tr.int x.rt, Tr.int 0, Tr.int 0, Tr.int 0] := by rw [hi]; exact hget
      have q2 : rows2.set (((rows2.length : Nat) : Int) - 1).toNat [Tr.int x.rt, Tr.int (0 + x.gr), Tr.int 0, Tr.int 0] = ((m ++ [(x.rt, 0 + x.gr)]).map mk0).map Txd.row := by rw [hi]; exact hset
      clear hsn hsn2 hset hget hrl hrows
      repeat' (first | refine goH ?_ | refine goV ?_ | refine goB (fun b => ?_) | refine goC (fun ad cap => ?_) | refine goG ?_ | (refine Ops.k_guard ?_; first | (refine Ops.guard_dec rfl rfl (fun hc => ?_) (fun hc => ?_) <;> try (exfalso; omega)) | refine Ops.guard_split rfl rfl (fun hc => ?_) (fun hc => ?_)) | refine goI ?_ | (refine Cw.k_cond ?_; first | (refine Cw.cond_dec rfl (fun hc => ?_) (fun hc => ?_) <;> try (exfalso; omega)) | refine Cw.cond_bool rfl (fun hc => ?_) (fun hc => ?_)) | refine goR ?_ | refine goP ?_ | apply PSeq.cons | apply PSeq.yes rfl rfl rfl | exact goW | fail)
      exact ⟨_, _, _, (Ent.mk goSub goTk), ⟨k + 1, _, _, _, _, _, rfl, ⟨by omega, hV, hadd, q2, by rw [List.length_set], by rw [hr2l, List.length_append, hnm]; rfl⟩, rfl, rfl⟩, by omega⟩
    · rw [show (fun y => decide ((mk0 y).rt = x.rt)) = (fun p : Int × Int => decide (p.1 = x.rt)) from rfl, h3] at kI
      rw [Int.zero_add] at kI
      rw [h5] at hV hadd hvv h6
      rw [h6] at hV hadd
      have hj := (List.getElem?_eq_some_iff.1 h4).1
      have q1 : rows[((j : Nat) : Int).toNat]? = some [Tr.int x.rt, Tr.int u, Tr.int 0, Tr.int 0] := by
        rw [hrows, Int.toNat_natCast]
        exact rows_at (f := Txd.row) (x := mk0 (x.rt, u)) (by rw [List.getElem?_map, h4]; rfl)
      have q2 := set_0 m j (x.rt, u + x.gr)
      rw [← hrows] at q2
      simp only [mk0, Txd.row] at q2
      clear hrows
      repeat' (first | refine goH ?_ | refine goV ?_ | refine goB (fun b => ?_) | refine goC (fun ad cap => ?_) | refine goG ?_ | (refine Ops.k_guard ?_; first | (refine Ops.guard_dec rfl rfl (fun hc => ?_) (fun hc => ?_) <;> try (exfalso; omega)) | refine Ops.guard_split rfl rfl (fun hc => ?_) (fun hc => ?_)) | refine goI ?_ | (refine Cw.k_cond ?_; first | (refine Cw.cond_dec rfl (fun hc => ?_) (fun hc => ?_) <;> try (exfalso; omega)) | refine Cw.cond_bool rfl (fun hc => ?_) (fun hc => ?_)) | (refine Ops.k_calla ?_; first | (refine Ops.k_callf 46 ?_; (refine Ops.call (kI _) (Evs.cons rfl (Evs.cons rfl Evs.nil)) goPm rfl ?_; rintro r cs' ⟨rfl, rfl⟩))) | refine goR ?_ | refine goP ?_ | apply PSeq.cons | apply PSeq.yes rfl rfl rfl | exact goW | fail)
      exact ⟨_, _, _, (Ent.mk goSub goTk), ⟨k + 1, _, _, _, _, _, rfl, ⟨by omega, hV, hadd, q2, by rw [List.length_set, hrl], by rw [List.length_set, hnm]⟩, rfl, rfl⟩, by omega⟩
  rw [List.drop_of_length_le (by omega)] at hV
  rw [txF] at hV
  rw [hV]
  obtain ⟨hm1, hm2, hm3⟩ := hm
  clear hV hA
  have kS := fun ad cap => txLtR_fnS (n := n) (xs := m.map mkTx) (ad := ad) (cap := cap) (by rw [List.length_map]; omega) (by rw [hnm, List.length_map])
  repeat' (first | refine goH ?_ | refine goV ?_ | refine goB (fun b => ?_) | refine goC (fun ad cap => ?_) | refine goG ?_ | (refine Ops.k_guard ?_; first | (refine Ops.guard_dec rfl rfl (fun hc => ?_) (fun hc => ?_) <;> try (exfalso; omega)) | refine Ops.guard_split rfl rfl (fun hc => ?_) (fun hc => ?_)) | refine goI ?_ | (refine Cw.k_cond ?_; first | (refine Cw.cond_dec rfl (fun hc => ?_) (fun hc => ?_) <;> try (exfalso; omega)) | refine Cw.cond_bool rfl (fun hc => ?_) (fun hc => ?_)) | refine goR ?_ | refine goP ?_ | apply PSeq.cons | apply PSeq.yes rfl rfl rfl | exact goW | fail)
  refine Cw.loopI [(6, _), (71, _), (72, _)] _ (fun q e c => ∃ (i : Nat) (rows : List (List Tr)), q = n - i ∧ (i ≤ n ∧ rows = ((m.take i).map mkTx ++ (m.drop i).map mk0).map Txd.row ∧ rows.length = n) ∧ e = [(73, .int i)] ∧ c = [Chunk.own ad cap 4 49 rows])
    ⟨_, _, _, (Ent.mkP goSub goPm), 0, rows, rfl, ⟨by omega, by rw [hrows]; rfl, hrl⟩, rfl, rfl⟩ ?_
  clear hrows hrl
  rintro _ _ _ ⟨i, rows, rfl, ⟨hi, hrows, hrl⟩, rfl, rfl⟩
  by_cases hil : i < n
  · obtain ⟨⟨a, v⟩, hav⟩ := at_lt (l := m) (k := i) (by omega)
    have hmem := hm3 (a, v) (List.mem_of_getElem? hav)
    simp only at hmem
    have htl : (List.map mkTx (List.take i m)).length = i := by rw [List.length_map, List.length_take]; omega
    have q1 : rows[((i : Nat) : Int).toNat]? = some [Tr.int a, Tr.int v, Tr.int 0, Tr.int 0] := by
      rw [hrows, Int.toNat_natCast]
      refine rows_at (f := Txd.row) (x := mk0 (a, v)) ?_
      rw [List.getElem?_append_right (by omega), htl, Nat.sub_self, drop_at hav]
      rfl
    have q0 : rows[i]? = some [Tr.int a, Tr.int v, Tr.int 0, Tr.int 0] := by simpa using q1
    have q3 : rows.set i (mkTx (a, v)).row = ((m.take (i + 1)).map mkTx ++ (m.drop (i + 1)).map mk0).map Txd.row := by
      rw [hrows, drop_at hav, take_at hav, ← List.map_set, List.set_append_right _ _ (by omega), htl, Nat.sub_self]
      simp
    simp only [mkTx, Txd.row] at q3
    have k1 := evenR_fn (v * 10000) (10000 + a) (by omega) (by omega)
    have k2 := evn_bd (n := v * 10000) (d := 10000 + a) (by omega) (by omega)
    generalize hE : evn (v * 10000) (10000 + a) = ee at *
    have q2 : (rows.set ((i : Nat) : Int).toNat [Tr.int a, Tr.int v, Tr.int ee, Tr.int 0])[((i : Nat) : Int).toNat]? = some [Tr.int a, Tr.int v, Tr.int ee, Tr.int 0] := by
      rw [List.getElem?_set_self (by omega)]
    have q4 : (rows.set ((i : Nat) : Int).toNat [Tr.int a, Tr.int v, Tr.int ee, Tr.int 0]).set ((i : Nat) : Int).toNat [Tr.int a, Tr.int v, Tr.int ee, Tr.int (v - ee)] = ((m.take (i + 1)).map mkTx ++ (m.drop (i + 1)).map mk0).map Txd.row := by
      rw [List.set_set, Int.toNat_natCast]
      exact q3
    have q5 : (rows.set ((i : Nat) : Int).toNat [Tr.int a, Tr.int v, Tr.int ee, Tr.int 0]).length = n := by rw [List.length_set, hrl]
    clear hav hrows q3 hE htl
    repeat' (first | refine goH ?_ | refine goV ?_ | refine goB (fun b => ?_) | refine goC (fun ad cap => ?_) | refine goG ?_ | (refine Ops.k_guard ?_; first | (refine Ops.guard_dec rfl rfl (fun hc => ?_) (fun hc => ?_) <;> try (exfalso; omega)) | refine Ops.guard_split rfl rfl (fun hc => ?_) (fun hc => ?_)) | refine goI ?_ | (refine Cw.k_cond ?_; first | (refine Cw.cond_dec rfl (fun hc => ?_) (fun hc => ?_) <;> try (exfalso; omega)) | refine Cw.cond_bool rfl (fun hc => ?_) (fun hc => ?_)) | (refine Ops.k_calla ?_; first | (refine Ops.k_callf 42 ?_; refine Ops.callV k1 (Evs.cons rfl (Evs.cons rfl Evs.nil)) rfl ?_)) | (apply OpW.k_call; first | (apply OpW.k_callf 42; exact OpW.callV k1 (Evs.cons rfl (Evs.cons rfl Evs.nil)))) | refine goR ?_ | refine goP ?_ | apply PSeq.cons | apply PSeq.yes rfl rfl rfl | exact goW | fail)
    exact ⟨_, _, _, (Ent.mk goSub goTk), ⟨i + 1, _, rfl, ⟨by omega, q4, by rw [List.length_set]; exact q5⟩, rfl, rfl⟩, by omega⟩
  · rw [List.take_of_length_le (by omega), List.drop_of_length_le (by omega), List.map_nil, List.append_nil] at hrows
    subst hrows
    repeat' (first | refine goH ?_ | refine goV ?_ | refine goB (fun b => ?_) | refine goC (fun ad cap => ?_) | refine goG ?_ | (refine Ops.k_guard ?_; first | (refine Ops.guard_dec rfl rfl (fun hc => ?_) (fun hc => ?_) <;> try (exfalso; omega)) | refine Ops.guard_split rfl rfl (fun hc => ?_) (fun hc => ?_)) | refine goI ?_ | (refine Cw.k_cond ?_; first | (refine Cw.cond_dec rfl (fun hc => ?_) (fun hc => ?_) <;> try (exfalso; omega)) | refine Cw.cond_bool rfl (fun hc => ?_) (fun hc => ?_)) | (refine Ops.k_calla ?_; first | (refine Ops.k_callf 43 ?_; (refine Ops.call (kS _ _) (Evs.cons rfl (Evs.cons rfl Evs.nil)) goPm rfl ?_; rintro r cs' ⟨rfl, rfl⟩))) | refine goR ?_ | refine goP ?_ | apply PSeq.cons | apply PSeq.yes rfl rfl rfl | exact goW | fail)
    have hlen : n = ((isort txLt (m.map mkTx)).map Txd.row).length := by simp [isort_len, hnm]
    rw [hlen]
    refine Fin.ret (Ent.trans (Ent.settle (s := 2) rfl goPk rfl) (Ent.take goTk)) (Outs.many rfl (OutL.cons goOe (OutL.cons goOe OutL.nil)) rfl) ⟨rfl, rfl⟩
end Lg
end
section
set_option linter.all false
set_option maxRecDepth 100000
set_option maxHeartbeats 1000000
namespace Lg
open Go Go.Proofs
theorem indexFunc_int {l : List Int} {p : Int → Bool} {g : Nat} {caps : List Value} {cin : List Chunk} (hl : l.length ≤ 1000000000)
    (hs : ∀ x, x ∈ l → Spec Tryz.prog g ([Tr.int x] ++ caps.map Tr.raw) cin (fun r cs => r = Tr.bool (p x) ∧ cs = cin)) :
    Spec Tryz.prog 104 [Tr.sl 1 (l.map (fun x => [Tr.int x])), Tr.raw (.func (.func g) #[] caps.toArray)] cin (fun r cs => r = Tr.int (idxFrom p l 0) ∧ cs = cin) := by
  refine Spec.body Tryz.func104 rfl rfl (Tryz.ntmps104) rfl fun w0 own0 M => ?_
  have hL : (l.map (fun x => [Tr.int x])).length = l.length := List.length_map _
  repeat' (first | refine Ops.nil ?_ | refine Then.norm ?_ | refine Cw.seq ?_ | refine Cw.region ?_ | refine Cw.block ?_ | refine Cw.exit ?_ | refine Cw.skip ?_ | refine Cw.ret ?_ | refine Then.exit ?_ | refine Then.ret ?_ | refine InB.exit ?_ | refine InB.norm ?_ | refine InB.ret ?_ | refine InB.exit_ne rfl ?_ | (refine Ops.k_move ?_; first | refine Ops.move rfl rfl ?_ | refine Ops.move_any rfl ?_) | (refine Ops.k_assign ?_; first | refine Ops.assign rfl rfl ?_ | refine Ops.assign_any rfl ?_) | (refine Ops.k_load ?_; first | refine Ops.load_ref_one rfl rfl ?_ | refine Ops.load_ref_agg rfl rfl rfl ?_ | refine Ops.load_box_one rfl goPk rfl rfl ?_ | refine Ops.load_box_agg rfl goPk rfl rfl ?_ | refine Ops.load_own_one rfl goPk (by first | rfl | assumption | (simp [*]; done)) rfl rfl ?_ | refine Ops.load_own_agg rfl goPk (by first | rfl | assumption | (simp [*]; done)) rfl ?_ | refine Ops.load_box_part rfl goPk rfl rfl rfl ?_ | refine Ops.load_q_one rfl goPk (by first | rfl | assumption | (simp [*]; done)) rfl rfl ?_) | (refine Ops.k_c_len ?_; first | refine Ops.len_raw rfl rfl ?_ | refine Ops.len_sl rfl rfl ?_ | refine Ops.len_str rfl rfl rfl ?_ | refine Ops.len_q rfl rfl ?_) | (refine Ops.k_b_lss ?_; first | refine Ops.lss rfl rfl rfl ?_) | (refine Ops.k_b_add ?_; first | refine Ops.add rfl rfl (by first | omega | (simp; done) | (simp; omega)) rfl ?_) | (refine Ops.k_indexAddr ?_; first | refine Ops.indexAddr_sl rfl rfl (by omega) (by first | rfl | assumption | (simp [*]; done)) rfl ?_ | refine Ops.indexAddr_own rfl rfl goPk (by first | rfl | omega | (simp; done) | (simp; omega)) (by first | omega | (simp; done) | (simp; omega)) (by first | omega | (simp; done) | (simp; omega)) rfl ?_ | refine Ops.indexAddr_q rfl rfl goPk (by first | rfl | omega | (simp; done) | (simp; omega)) (by first | omega | (simp; done) | (simp; omega)) (by first | omega | (simp; done) | (simp; omega)) rfl ?_) | (refine Cw.k_cond ?_; first | refine Cw.cond_true rfl ?_ | refine Cw.cond_false rfl ?_ | (refine Cw.cond_dec rfl (fun hc => ?_) (fun hc => ?_) <;> try (exfalso; omega)) | refine Cw.cond_bool rfl (fun hc => ?_) (fun hc => ?_)))
  refine Cw.loop (ι := Nat) (fun k => k ≤ l.length ∧ idxFrom p l 0 = idxFrom p (l.drop k) k) (fun k => [(0, Tr.sl 1 (l.map (fun x => [Tr.int x]))), (1, Tr.raw (.func (.func g) #[] caps.toArray)), (7, .int (l.map (fun x => [Tr.int x])).length), (8, .int k)]) (fun _ => cin) (fun k => l.length - k) ⟨0, ⟨by omega, rfl⟩, Ent.sub goSub⟩ ?_
  rintro k ⟨hk, hgo⟩
  by_cases hkl : k < l.length
  · obtain ⟨x, hx⟩ : ∃ x, l[k]? = some x := ⟨_, List.getElem?_eq_getElem hkl⟩
    have hrow : (l.map (fun x => [Tr.int x]))[k]? = some [Tr.int x] := rows_at hx
    have hdrop := idxFrom_drop p hx
    rw [hdrop] at hgo
    have hsx := hs x (List.mem_of_getElem? hx)
    by_cases hp : p x = true
    · rw [if_pos hp] at hgo
      rw [hp] at hsx
      repeat' (first | refine Ops.nil ?_ | refine Then.norm ?_ | refine Cw.seq ?_ | refine Cw.region ?_ | refine Cw.block ?_ | refine Cw.exit ?_ | refine Cw.skip ?_ | refine Cw.ret ?_ | refine Then.exit ?_ | refine Then.ret ?_ | refine InB.exit ?_ | refine InB.norm ?_ | refine InB.ret ?_ | refine InB.exit_ne rfl ?_ | (refine Ops.k_move ?_; first | refine Ops.move rfl rfl ?_ | refine Ops.move_any rfl ?_) | (refine Ops.k_assign ?_; first | refine Ops.assign rfl rfl ?_ | refine Ops.assign_any rfl ?_) | (refine Ops.k_load ?_; first | refine Ops.load_ref_one rfl rfl ?_ | refine Ops.load_ref_agg rfl rfl rfl ?_ | refine Ops.load_box_one rfl goPk rfl rfl ?_ | refine Ops.load_box_agg rfl goPk rfl rfl ?_ | refine Ops.load_own_one rfl goPk (by first | rfl | assumption | (simp [*]; done)) rfl rfl ?_ | refine Ops.load_own_agg rfl goPk (by first | rfl | assumption | (simp [*]; done)) rfl ?_ | refine Ops.load_box_part rfl goPk rfl rfl rfl ?_ | refine Ops.load_q_one rfl goPk (by first | rfl | assumption | (simp [*]; done)) rfl rfl ?_) | (refine Ops.k_c_len ?_; first | refine Ops.len_raw rfl rfl ?_ | refine Ops.len_sl rfl rfl ?_ | refine Ops.len_str rfl rfl rfl ?_ | refine Ops.len_q rfl rfl ?_) | (refine Ops.k_b_lss ?_; first | refine Ops.lss rfl rfl rfl ?_) | (refine Ops.k_b_add ?_; first | refine Ops.add rfl rfl (by first | omega | (simp; done) | (simp; omega)) rfl ?_) | (refine Ops.k_indexAddr ?_; first | refine Ops.indexAddr_sl rfl rfl (by omega) (by first | rfl | assumption | (simp [*]; done)) rfl ?_ | refine Ops.indexAddr_own rfl rfl goPk (by first | rfl | omega | (simp; done) | (simp; omega)) (by first | omega | (simp; done) | (simp; omega)) (by first | omega | (simp; done) | (simp; omega)) rfl ?_ | refine Ops.indexAddr_q rfl rfl goPk (by first | rfl | omega | (simp; done) | (simp; omega)) (by first | omega | (simp; done) | (simp; omega)) (by first | omega | (simp; done) | (simp; omega)) rfl ?_) | (refine Cw.k_cond ?_; first | refine Cw.cond_true rfl ?_ | refine Cw.cond_false rfl ?_ | (refine Cw.cond_dec rfl (fun hc => ?_) (fun hc => ?_) <;> try (exfalso; omega)) | refine Cw.cond_bool rfl (fun hc => ?_) (fun hc => ?_)) | (refine Ops.k_calla ?_; first | (refine Ops.call_fn rfl hsx (Evs.cons rfl Evs.nil) (by rw [List.append_nil]) rfl ?_; rintro r cs' ⟨rfl, hcs⟩; rw [hcs, List.append_nil])))
      exact Fin.ret Ent.refl (Outs.one rfl rfl) ⟨by rw [hgo], rfl⟩
    · rw [if_neg hp] at hgo
      rw [Bool.not_eq_true] at hp
      rw [hp] at hsx
      repeat' (first | refine Ops.nil ?_ | refine Then.norm ?_ | refine Cw.seq ?_ | refine Cw.region ?_ | refine Cw.block ?_ | refine Cw.exit ?_ | refine Cw.skip ?_ | refine Cw.ret ?_ | refine Then.exit ?_ | refine Then.ret ?_ | refine InB.exit ?_ | refine InB.norm ?_ | refine InB.ret ?_ | refine InB.exit_ne rfl ?_ | (refine Ops.k_move ?_; first | refine Ops.move rfl rfl ?_ | refine Ops.move_any rfl ?_) | (refine Ops.k_assign ?_; first | refine Ops.assign rfl rfl ?_ | refine Ops.assign_any rfl ?_) | (refine Ops.k_load ?_; first | refine Ops.load_ref_one rfl rfl ?_ | refine Ops.load_ref_agg rfl rfl rfl ?_ | refine Ops.load_box_one rfl goPk rfl rfl ?_ | refine Ops.load_box_agg rfl goPk rfl rfl ?_ | refine Ops.load_own_one rfl goPk (by first | rfl | assumption | (simp [*]; done)) rfl rfl ?_ | refine Ops.load_own_agg rfl goPk (by first | rfl | assumption | (simp [*]; done)) rfl ?_ | refine Ops.load_box_part rfl goPk rfl rfl rfl ?_ | refine Ops.load_q_one rfl goPk (by first | rfl | assumption | (simp [*]; done)) rfl rfl ?_) | (refine Ops.k_c_len ?_; first | refine Ops.len_raw rfl rfl ?_ | refine Ops.len_sl rfl rfl ?_ | refine Ops.len_str rfl rfl rfl ?_ | refine Ops.len_q rfl rfl ?_) | (refine Ops.k_b_lss ?_; first | refine Ops.lss rfl rfl rfl ?_) | (refine Ops.k_b_add ?_; first | refine Ops.add rfl rfl (by first | omega | (simp; done) | (simp; omega)) rfl ?_) | (refine Ops.k_indexAddr ?_; first | refine Ops.indexAddr_sl rfl rfl (by omega) (by first | rfl | assumption | (simp [*]; done)) rfl ?_ | refine Ops.indexAddr_own rfl rfl goPk (by first | rfl | omega | (simp; done) | (simp; omega)) (by first | omega | (simp; done) | (simp; omega)) (by first | omega | (simp; done) | (simp; omega)) rfl ?_ | refine Ops.indexAddr_q rfl rfl goPk (by first | rfl | omega | (simp; done) | (simp; omega)) (by first | omega | (simp; done) | (simp; omega)) (by first | omega | (simp; done) | (simp; omega)) rfl ?_) | (refine Cw.k_cond ?_; first | refine Cw.cond_true rfl ?_ | refine Cw.cond_false rfl ?_ | (refine Cw.cond_dec rfl (fun hc => ?_) (fun hc => ?_) <;> try (exfalso; omega)) | refine Cw.cond_bool rfl (fun hc => ?_) (fun hc => ?_)) | (refine Ops.k_calla ?_; first | (refine Ops.call_fn rfl hsx (Evs.cons rfl Evs.nil) (by rw [List.append_nil]) rfl ?_; rintro r cs' ⟨rfl, hcs⟩; rw [hcs, List.append_nil])))
      exact ⟨k + 1, ⟨by omega, hgo⟩, by omega, Ent.sub goSub⟩
  · rw [List.drop_eq_nil_of_le (by omega), idxFrom] at hgo
    repeat' (first | refine Ops.nil ?_ | refine Then.norm ?_ | refine Cw.seq ?_ | refine Cw.region ?_ | refine Cw.block ?_ | refine Cw.exit ?_ | refine Cw.skip ?_ | refine Cw.ret ?_ | refine Then.exit ?_ | refine Then.ret ?_ | refine InB.exit ?_ | refine InB.norm ?_ | refine InB.ret ?_ | refine InB.exit_ne rfl ?_ | (refine Ops.k_move ?_; first | refine Ops.move rfl rfl ?_ | refine Ops.move_any rfl ?_) | (refine Ops.k_assign ?_; first | refine Ops.assign rfl rfl ?_ | refine Ops.assign_any rfl ?_) | (refine Ops.k_load ?_; first | refine Ops.load_ref_one rfl rfl ?_ | refine Ops.load_ref_agg rfl rfl rfl ?_ | refine Ops.load_box_one rfl goPk rfl rfl ?_ | refine Ops.load_box_agg rfl goPk rfl rfl ?_ | refine Ops.load_own_one rfl goPk (by first | rfl | assumption | (simp [*]; done)) rfl rfl ?_ | refine Ops.load_own_agg rfl goPk (by first | rfl | assumption | (simp [*]; done)) rfl ?_ | refine Ops.load_box_part rfl goPk rfl rfl rfl ?_ | refine Ops.load_q_one rfl goPk (by first | rfl | assumption | (simp [*]; done)) rfl rfl ?_) | (refine Ops.k_c_len ?_; first | refine Ops.len_raw rfl rfl ?_ | refine Ops.len_sl rfl rfl ?_ | refine Ops.len_str rfl rfl rfl ?_ | refine Ops.len_q rfl rfl ?_) | (refine Ops.k_b_lss ?_; first | refine Ops.lss rfl rfl rfl ?_) | (refine Ops.k_b_add ?_; first | refine Ops.add rfl rfl (by first | omega | (simp; done) | (simp; omega)) rfl ?_) | (refine Ops.k_indexAddr ?_; first | refine Ops.indexAddr_sl rfl rfl (by omega) (by first | rfl | assumption | (simp [*]; done)) rfl ?_ | refine Ops.indexAddr_own rfl rfl goPk (by first | rfl | omega | (simp; done) | (simp; omega)) (by first | omega | (simp; done) | (simp; omega)) (by first | omega | (simp; done) | (simp; omega)) rfl ?_ | refine Ops.indexAddr_q rfl rfl goPk (by first | rfl | omega | (simp; done) | (simp; omega)) (by first | omega | (simp; done) | (simp; omega)) (by first | omega | (simp; done) | (simp; omega)) rfl ?_) | (refine Cw.k_cond ?_; first | refine Cw.cond_true rfl ?_ | refine Cw.cond_false rfl ?_ | (refine Cw.cond_dec rfl (fun hc => ?_) (fun hc => ?_) <;> try (exfalso; omega)) | refine Cw.cond_bool rfl (fun hc => ?_) (fun hc => ?_)))
    exact Fin.ret Ent.refl (Outs.one rfl rfl) ⟨by rw [hgo], rfl⟩

theorem containsFunc_int {l : List Int} {p : Int → Bool} {g : Nat} {caps : List Value} {cin : List Chunk} (hl : l.length ≤ 1000000000)
    (hs : ∀ x, x ∈ l → Spec Tryz.prog g ([Tr.int x] ++ caps.map Tr.raw) cin (fun r cs => r = Tr.bool (p x) ∧ cs = cin)) :
    Spec Tryz.prog 91 [Tr.sl 1 (l.map (fun x => [Tr.int x])), Tr.raw (.func (.func g) #[] caps.toArray)] cin (fun r cs => r = Tr.bool (l.any p) ∧ cs = cin) := by
  refine Spec.body Tryz.func91 rfl rfl (Tryz.ntmps91) rfl fun w0 own0 M => ?_
  repeat' (first | refine Ops.nil ?_ | refine Then.norm ?_ | refine Cw.seq ?_ | refine Cw.region ?_ | refine Cw.block ?_ | refine Cw.exit ?_ | refine Cw.skip ?_ | refine Cw.ret ?_ | refine Then.exit ?_ | refine Then.ret ?_ | refine InB.exit ?_ | refine InB.norm ?_ | refine InB.ret ?_ | refine InB.exit_ne rfl ?_ | (refine Ops.k_move ?_; first | refine Ops.move rfl rfl ?_ | refine Ops.move_any rfl ?_) | (refine Ops.k_assign ?_; first | refine Ops.assign rfl rfl ?_ | refine Ops.assign_any rfl ?_) | (refine Ops.k_b_geq ?_; first | refine Ops.geq rfl rfl rfl ?_) | (refine Cw.k_cond ?_; first | refine Cw.cond_true rfl ?_ | refine Cw.cond_false rfl ?_ | (refine Cw.cond_dec rfl (fun hc => ?_) (fun hc => ?_) <;> try (exfalso; omega)) | refine Cw.cond_bool rfl (fun hc => ?_) (fun hc => ?_)) | (refine Ops.k_calla ?_; first | (refine Ops.k_callf 104 ?_; (refine Ops.call (indexFunc_int hl hs) (Evs.cons rfl (Evs.cons rfl Evs.nil)) (by rw [List.append_nil]) rfl ?_; rintro r cs' ⟨rfl, hcs⟩; rw [hcs, List.append_nil]))))
  refine Fin.ret Ent.refl (Outs.one rfl rfl) ⟨congrArg Tr.bool ?_, rfl⟩
  have := idxFrom_ge p l 0 (Int.le_refl _)
  by_cases h : 0 ≤ idxFrom p l 0
  · simp [h, this.1 h]
  · have h2 : l.any p = false := by rw [← Bool.not_eq_true]; exact fun e => h (this.2 e)
    simp [h, h2]

end Lg
end
