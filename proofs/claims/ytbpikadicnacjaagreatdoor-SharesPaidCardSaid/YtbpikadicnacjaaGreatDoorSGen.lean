/- A part of the proof of a law of this seat: it adds no condition. By an AI agent. -/
import Derived.Test.YtbpikadicnacjaaGreatDoorSp7
section
set_option linter.all false
set_option maxRecDepth 100000
set_option maxHeartbeats 8000000
namespace Lg
open Go Go.Proofs

/-! ### till.Shares -/
theorem indexFunc_nm {l : List Nm} {p : Nm → Bool} {g : Nat} {caps : List Value} {cin : List Chunk} (hl : l.length ≤ 1000000000)
    (hs : ∀ x, x ∈ l → Spec Tryz.prog g ([Tr.agg x.row] ++ caps.map Tr.raw) cin (fun r cs => r = Tr.bool (p x) ∧ cs = cin)) :
    Spec Tryz.prog 64 [Tr.sl 2 (l.map Nm.row), Tr.raw (.func (.func g) #[] caps.toArray)] cin (fun r cs => r = Tr.int (idxFrom p l 0) ∧ cs = cin) := by
  refine Spec.body Tryz.func64 rfl rfl (Tryz.ntmps64) rfl fun w0 own0 M => ?_
  have hL : (l.map Nm.row).length = l.length := List.length_map _
  repeat' (first | refine goH ?_ | refine goV ?_ | refine goI ?_ | (refine Cw.k_cond ?_; first | (refine Cw.cond_dec rfl (fun hc => ?_) (fun hc => ?_) <;> try (exfalso; omega)) | refine Cw.cond_bool rfl (fun hc => ?_) (fun hc => ?_)) | fail)
  refine Cw.loop (ι := Nat) (fun k => k ≤ l.length ∧ idxFrom p l 0 = idxFrom p (l.drop k) k) (fun k => [(0, Tr.sl 2 (l.map Nm.row)), (1, Tr.raw (.func (.func g) #[] caps.toArray)), (7, .int (l.map Nm.row).length), (8, .int k)]) (fun _ => cin) (fun k => l.length - k) ⟨0, ⟨by omega, rfl⟩, Ent.sub goSub⟩ ?_
  rintro k ⟨hk, hgo⟩
  by_cases hkl : k < l.length
  · obtain ⟨x, hx⟩ : ∃ x, l[k]? = some x := ⟨_, List.getElem?_eq_getElem hkl⟩
    have hrow : (l.map Nm.row)[k]? = some [.str x.key, .int x.many] := rows_at hx
    have hdrop := idxFrom_drop p hx
    rw [hdrop] at hgo
    have hsx := hs x (List.mem_of_getElem? hx)
    by_cases hp : p x = true
    · rw [if_pos hp] at hgo
      rw [hp] at hsx
      repeat' (first | refine goH ?_ | refine goV ?_ | refine goI ?_ | (refine Cw.k_cond ?_; first | (refine Cw.cond_dec rfl (fun hc => ?_) (fun hc => ?_) <;> try (exfalso; omega)) | refine Cw.cond_bool rfl (fun hc => ?_) (fun hc => ?_)) | (refine Ops.k_calla ?_; first | (refine Ops.call_fn rfl hsx (Evs.cons rfl Evs.nil) (by rw [List.append_nil]) rfl ?_; rintro r cs' ⟨rfl, hcs⟩; rw [hcs, List.append_nil])) | fail)
      exact Fin.ret Ent.refl (Outs.one rfl rfl) ⟨by rw [hgo], rfl⟩
    · rw [if_neg hp] at hgo
      rw [Bool.not_eq_true] at hp
      rw [hp] at hsx
      repeat' (first | refine goH ?_ | refine goV ?_ | refine goI ?_ | (refine Cw.k_cond ?_; first | (refine Cw.cond_dec rfl (fun hc => ?_) (fun hc => ?_) <;> try (exfalso; omega)) | refine Cw.cond_bool rfl (fun hc => ?_) (fun hc => ?_)) | (refine Ops.k_calla ?_; first | (refine Ops.call_fn rfl hsx (Evs.cons rfl Evs.nil) (by rw [List.append_nil]) rfl ?_; rintro r cs' ⟨rfl, hcs⟩; rw [hcs, List.append_nil])) | fail)
      exact ⟨k + 1, ⟨by omega, hgo⟩, by omega, Ent.sub goSub⟩
  · rw [List.drop_eq_nil_of_le (by omega), idxFrom] at hgo
    repeat' (first | refine goH ?_ | refine goV ?_ | refine goI ?_ | (refine Cw.k_cond ?_; first | (refine Cw.cond_dec rfl (fun hc => ?_) (fun hc => ?_) <;> try (exfalso; omega)) | refine Cw.cond_bool rfl (fun hc => ?_) (fun hc => ?_)) | fail)
    exact Fin.ret Ent.refl (Outs.one rfl rfl) ⟨by rw [hgo], rfl⟩

theorem containsFunc_nm {l : List Nm} {p : Nm → Bool} {g : Nat} {caps : List Value} {cin : List Chunk} (hl : l.length ≤ 1000000000)
    (hs : ∀ x, x ∈ l → Spec Tryz.prog g ([Tr.agg x.row] ++ caps.map Tr.raw) cin (fun r cs => r = Tr.bool (p x) ∧ cs = cin)) :
    Spec Tryz.prog 52 [Tr.sl 2 (l.map Nm.row), Tr.raw (.func (.func g) #[] caps.toArray)] cin (fun r cs => r = Tr.bool (l.any p) ∧ cs = cin) := by
  refine Spec.body Tryz.func52 rfl rfl (Tryz.ntmps52) rfl fun w0 own0 M => ?_
  repeat' (first | refine goH ?_ | refine goV ?_ | refine goI ?_ | (refine Cw.k_cond ?_; first | (refine Cw.cond_dec rfl (fun hc => ?_) (fun hc => ?_) <;> try (exfalso; omega)) | refine Cw.cond_bool rfl (fun hc => ?_) (fun hc => ?_)) | (refine Ops.k_calla ?_; first | (refine Ops.k_callf 64 ?_; (refine Ops.call (indexFunc_nm hl hs) (Evs.cons rfl (Evs.cons rfl Evs.nil)) (by rw [List.append_nil]) rfl ?_; rintro r cs' ⟨rfl, hcs⟩; rw [hcs, List.append_nil]))) | fail)
  refine Fin.ret Ent.refl (Outs.one rfl rfl) ⟨congrArg Tr.bool ?_, rfl⟩
  have := idxFrom_ge p l 0 (Int.le_refl _)
  by_cases h : 0 ≤ idxFrom p l 0
  · simp [h, this.1 h]
  · have h2 : l.any p = false := by rw [← Bool.not_eq_true]; exact fun e => h (this.2 e)
    simp [h, h2]

/-- slices.SortFunc on at most 12 elements -/
theorem pdq_int {n : Nat} {d : Int} {xs : List Int} {ad : Option Addr} {cap : Nat} {g : Nat} {caps : List Value} {cin : List Chunk} {lt : Int → Int → Bool} {cf : Int → Int → Int} (hlt : ∀ a b, lt a b = decide (cf a b < 0)) (hl : xs.length ≤ 12) (hn : n = xs.length)
    (hs : ∀ a b, a ∈ xs → b ∈ xs → Spec Tryz.prog g ([Tr.int a, Tr.int b] ++ caps.map Tr.raw) cin (fun r cs => r = Tr.int (cf a b) ∧ cs = cin)) :
    Spec Tryz.prog 86 [Tr.raw (.slice ad n cap), .int 0, .int n, .int d, Tr.raw (.func (.func g) #[] caps.toArray)] (Chunk.own ad cap 1 3 (xs.map (fun x => [Tr.int x])) :: cin) (fun r cs => r = Tr.tup [] ∧ cs = Chunk.own ad cap 1 3 ((isort lt xs).map (fun x => [Tr.int x])) :: cin) := by
  have hi := insSort_int (ad := ad) (cap := cap) hlt (show xs.length ≤ 1000000 by omega) hn hs
  refine Spec.body Tryz.func86 rfl rfl (Tryz.ntmps86) rfl fun w0 own0 M => ?_
  repeat' (first | refine goH ?_ | refine goV ?_ | refine goG ?_ | (refine Ops.k_guard ?_; first | (refine Ops.guard_dec rfl rfl (fun hc => ?_) (fun hc => ?_) <;> try (exfalso; omega)) | refine Ops.guard_split rfl rfl (fun hc => ?_) (fun hc => ?_)) | refine goI ?_ | (refine Cw.k_cond ?_; first | (refine Cw.cond_dec rfl (fun hc => ?_) (fun hc => ?_) <;> try (exfalso; omega)) | refine Cw.cond_bool rfl (fun hc => ?_) (fun hc => ?_)) | refine goR ?_ | refine goP ?_ | apply PSeq.cons | apply PSeq.yes rfl rfl rfl | exact goW | fail)
  refine Cw.loopI [(0, _), (4, _)] _ (fun q e c => q = 0 ∧ e = [(1, .int 0), (2, .int n), (3, .int d), (10, .bool true), (11, .bool true)] ∧ c = []) ⟨_, _, _, (Ent.mkP goSub goPm), rfl, rfl, rfl⟩ ?_
  rintro _ _ _ ⟨rfl, rfl, rfl⟩
  repeat' (first | refine goH ?_ | refine goV ?_ | refine goG ?_ | (refine Ops.k_guard ?_; first | (refine Ops.guard_dec rfl rfl (fun hc => ?_) (fun hc => ?_) <;> try (exfalso; omega)) | refine Ops.guard_split rfl rfl (fun hc => ?_) (fun hc => ?_)) | refine goI ?_ | (refine Cw.k_cond ?_; first | (refine Cw.cond_dec rfl (fun hc => ?_) (fun hc => ?_) <;> try (exfalso; omega)) | refine Cw.cond_bool rfl (fun hc => ?_) (fun hc => ?_)) | (refine Ops.k_calla ?_; first | (refine Ops.call (cf := []) hi (Evs.cons rfl (Evs.cons rfl (Evs.cons rfl (Evs.cons rfl Evs.nil)))) (by simp) rfl ?_; rintro r cs' ⟨rfl, rfl⟩)) | refine goR ?_ | refine goP ?_ | apply PSeq.cons | apply PSeq.yes rfl rfl rfl | exact goW | fail)
  first | exact Fin.norm (Ent.mkP goSub (by simp)) (Outs.zero rfl) ⟨rfl, rfl⟩ | exact Fin.ret (Ent.mkP goSub (by simp)) (Outs.zero rfl) ⟨rfl, rfl⟩
theorem sortFunc_int {n : Nat} {xs : List Int} {ad : Option Addr} {cap : Nat} {g : Nat} {caps : List Value} {cin : List Chunk} {lt : Int → Int → Bool} {cf : Int → Int → Int} (hlt : ∀ a b, lt a b = decide (cf a b < 0)) (hl : xs.length ≤ 12) (hn : n = xs.length)
    (hs : ∀ a b, a ∈ xs → b ∈ xs → Spec Tryz.prog g ([Tr.int a, Tr.int b] ++ caps.map Tr.raw) cin (fun r cs => r = Tr.int (cf a b) ∧ cs = cin)) :
    Spec Tryz.prog 54 [Tr.raw (.slice ad n cap), Tr.raw (.func (.func g) #[] caps.toArray)] (Chunk.own ad cap 1 3 (xs.map (fun x => [Tr.int x])) :: cin) (fun r cs => r = Tr.tup [] ∧ cs = Chunk.own ad cap 1 3 ((isort lt xs).map (fun x => [Tr.int x])) :: cin) := by
  have hi := fun d => pdq_int (d := d) (ad := ad) (cap := cap) hlt hl hn hs
  have hb := bitsLen_fn n (by omega)
  unfold PFn at hb
  refine Spec.body Tryz.func54 rfl rfl (Tryz.ntmps54) rfl fun w0 own0 M => ?_
  repeat' (first | refine goH ?_ | (refine Ops.k_convert ?_; first | (refine Ops.convN Tryz.underlying3 Tryz.underlying112 rfl (wrap_u64 (by omega)) rfl ?_)) | refine goV ?_ | refine goI ?_ | (refine Cw.k_cond ?_; first | (refine Cw.cond_dec rfl (fun hc => ?_) (fun hc => ?_) <;> try (exfalso; omega)) | refine Cw.cond_bool rfl (fun hc => ?_) (fun hc => ?_)) | (refine Ops.k_calla ?_; first | (refine Ops.k_callf 84 ?_; (refine Ops.call hb (Evs.cons rfl Evs.nil) (by rw [List.nil_append]) rfl ?_; rintro r cs' ⟨rfl, v, rfl⟩; rw [List.nil_append])) | (refine Ops.call (cf := []) (hi _) (Evs.cons rfl (Evs.cons rfl (Evs.cons rfl (Evs.cons rfl (Evs.cons rfl Evs.nil))))) (by simp) rfl ?_; rintro r cs' ⟨rfl, rfl⟩)) | fail)
  first | exact Fin.norm (Ent.mkP goSub (by simp)) (Outs.zero rfl) ⟨rfl, rfl⟩ | exact Fin.ret (Ent.mkP goSub (by simp)) (Outs.zero rfl) ⟨rfl, rfl⟩

theorem sameD_fn (x : Nm) (b E : Nat) (c : Nm) : Spec Tryz.prog 53 [.agg x.row, .ptr b] [Chunk.box b E c.row] (fun r cs => r = .bool (decide (x.key = c.key)) ∧ cs = [Chunk.box b E c.row]) := by
  unfold Nm.row
  refine Spec.body Tryz.func53 rfl rfl (Tryz.ntmps53) rfl fun w0 own0 M => ?_
  repeat' (first | refine goH ?_ | refine goV ?_ | refine goB (fun b => ?_) | refine goI ?_ | (refine Cw.k_cond ?_; first | (refine Cw.cond_dec rfl (fun hc => ?_) (fun hc => ?_) <;> try (exfalso; omega)) | refine Cw.cond_bool rfl (fun hc => ?_) (fun hc => ?_)) | fail)
  exact Fin.ret (Ent.take goTk) (Outs.one rfl rfl) ⟨rfl, rfl⟩
theorem sameR1_fn (x : Nm) (b E : Nat) (c : Nm) : Spec Tryz.prog 59 [.agg x.row, .ptr b] [Chunk.box b E c.row] (fun r cs => r = .bool (decide (x.key = c.key)) ∧ cs = [Chunk.box b E c.row]) := by
  unfold Nm.row
  refine Spec.body Tryz.func59 rfl rfl (Tryz.ntmps59) rfl fun w0 own0 M => ?_
  repeat' (first | refine goH ?_ | refine goV ?_ | refine goB (fun b => ?_) | refine goI ?_ | (refine Cw.k_cond ?_; first | (refine Cw.cond_dec rfl (fun hc => ?_) (fun hc => ?_) <;> try (exfalso; omega)) | refine Cw.cond_bool rfl (fun hc => ?_) (fun hc => ?_)) | fail)
  exact Fin.ret (Ent.take goTk) (Outs.one rfl rfl) ⟨rfl, rfl⟩
theorem sameR2_fn (x : Nm) (b E : Nat) (c : Nm) : Spec Tryz.prog 65 [.agg x.row, .ptr b] [Chunk.box b E c.row] (fun r cs => r = .bool (decide (x.key = c.key)) ∧ cs = [Chunk.box b E c.row]) := by
  unfold Nm.row
  refine Spec.body Tryz.func65 rfl rfl (Tryz.ntmps65) rfl fun w0 own0 M => ?_
  repeat' (first | refine goH ?_ | refine goV ?_ | refine goB (fun b => ?_) | refine goI ?_ | (refine Cw.k_cond ?_; first | (refine Cw.cond_dec rfl (fun hc => ?_) (fun hc => ?_) <;> try (exfalso; omega)) | refine Cw.cond_bool rfl (fun hc => ?_) (fun hc => ?_)) | fail)
  exact Fin.ret (Ent.take goTk) (Outs.one rfl rfl) ⟨rfl, rfl⟩
theorem keyLt_fn (l : List Nm) (b : Nat) (x y : Int) (hx : 0 ≤ x ∧ x < l.length) (hy : 0 ≤ y ∧ y < l.length) :
    Spec Tryz.prog 55 ([.int x, .int y] ++ [Value.pointer (some ⟨b, 0, none⟩)].map Tr.raw) [Chunk.box b 42 [.nms l]] (fun r cs => r = .int (cmpS (keyAt l x) (keyAt l y)) ∧ cs = [Chunk.box b 42 [.nms l]]) := by
  have hL : (l.map Nm.row).length = l.length := List.length_map _
  obtain ⟨u, hu⟩ := at_lt (l := l) (k := x.toNat) (by omega)
  obtain ⟨v, hv⟩ := at_lt (l := l) (k := y.toNat) (by omega)
  have r1 : (l.map Nm.row)[x.toNat]? = some [.str u.key, .int u.many] := rows_at hu
  have r2 : (l.map Nm.row)[y.toNat]? = some [.str v.key, .int v.many] := rows_at hv
  have e1 : keyAt l x = u.key := by unfold keyAt; rw [List.getD_eq_getElem?_getD, hu]; rfl
  have e2 : keyAt l y = v.key := by unfold keyAt; rw [List.getD_eq_getElem?_getD, hv]; rfl
  rw [e1, e2]
  have k1 := compareS_fn u.key v.key
  clear hu hv e1 e2
  refine Spec.body Tryz.func55 rfl rfl (Tryz.ntmps55) rfl fun w0 own0 M => ?_
  repeat' (first | refine goH ?_ | refine goV ?_ | refine goI ?_ | (refine Cw.k_cond ?_; first | (refine Cw.cond_dec rfl (fun hc => ?_) (fun hc => ?_) <;> try (exfalso; omega)) | refine Cw.cond_bool rfl (fun hc => ?_) (fun hc => ?_)) | (refine Ops.k_calla ?_; first | (refine Ops.k_callf 56 ?_; refine Ops.callV k1 (Evs.cons rfl (Evs.cons rfl Evs.nil)) rfl ?_)) | (apply OpW.k_call; first | (apply OpW.k_callf 56; exact OpW.callV k1 (Evs.cons rfl (Evs.cons rfl Evs.nil)))) | refine goR ?_ | refine goP ?_ | apply PSeq.cons | apply PSeq.yes rfl rfl rfl | exact goW | fail)
  exact Fin.ret (Ent.take goTk) (Outs.one rfl rfl) ⟨rfl, rfl⟩
theorem ints_repl (n : Nat) : List.replicate n [Tr.int 0] = intRows (List.replicate n 0) := ints_rep n
attribute [local irreducible] shOf shE wtsN
theorem shares_fn (t : Int) (l : List Nm) (hl : l.length ≤ 12) : PFn Tryz.prog 20 [.int t, .nms l] (· = shrT t l) := by
  have hL : (l.map Nm.row).length = l.length := List.length_map _
  obtain ⟨n, hnl⟩ : ∃ n : Nat, l.length = n := ⟨_, rfl⟩
  have hUl := upto_len n
  have hV0 : nmsE l = firstE (nmE l) 0 (l.length - 0) := rfl
  have kS : ∀ (b : Nat) (ad : Option Addr) (cap : Nat), Spec Tryz.prog 54 [Tr.raw (.slice ad n cap), Tr.raw (.func (.func 55) #[] [Value.pointer (some ⟨b, 0, none⟩)].toArray)] [Chunk.own ad cap 1 3 (intRows (upto n)), Chunk.box b 42 [.nms l]] (fun r cs => r = Tr.tup [] ∧ cs = [Chunk.own ad cap 1 3 (intRows (ordN l)), Chunk.box b 42 [.nms l]]) := fun b ad cap => by
    unfold ordN
    rw [hnl]
    exact sortFunc_int (xs := upto n) (lt := fun a b => strLt (keyAt l a) (keyAt l b)) (cf := fun a b => cmpS (keyAt l a) (keyAt l b)) (caps := [.pointer (some ⟨b, 0, none⟩)]) (cin := [Chunk.box b 42 [.nms l]]) (fun x y => by rw [Bool.eq_iff_iff, decide_eq_true_iff]; exact (cmpS_lt _ _).symm) (by omega) hUl.symm (fun x y hx hy => keyLt_fn l b x y (by have := upto_mem hx; omega) (by have := upto_mem hy; omega))
  unfold shrT
  rw [if_neg (by omega)]
  refine PFn.mk (Spec.body Tryz.func20 rfl rfl (Tryz.ntmps20) rfl fun w0 own0 M => ?_)
  have hn2 : ((((l.map Nm.row).length : Nat) : Int)).toNat = n := by rw [hL, hnl]; rfl
  repeat' (first | refine goH ?_ | (refine Ops.k_makeSlice ?_; first | (refine Ops.makeSlice rfl rfl (by omega) (by omega) (by omega) rfl (fun ad cap => ?_); rw [hn2, show List.map Tr.raw [Value.int .i64 0] = [Tr.int 0] from rfl, ints_repl])) | refine goV ?_ | refine goB (fun b => ?_) | refine goC (fun ad cap => ?_) | refine goI ?_ | (refine Cw.k_cond ?_; first | (refine Cw.cond_dec rfl (fun hc => ?_) (fun hc => ?_) <;> try (exfalso; omega)) | refine Cw.cond_bool rfl (fun hc => ?_) (fun hc => ?_)) | fail)
  rw [hL, hnl]
  refine Cw.loopI [(0, _), (3, _), (6, _), (23, _), (24, .int n)] _ (fun q e c => ∃ (k : Nat) (r2 : List (List Tr)), q = n - k ∧ (k ≤ n ∧ nmsE l = firstE (nmE l) k (l.length - k) ∧ r2 = intRows ((upto n).take k ++ List.replicate (n - k) 0) ∧ r2.length = n) ∧ e = [(25, .int k)] ∧ c = [Chunk.own ad cap 1 3 r2])
    ⟨_, _, _, (Ent.mkP goSub goPm), 0, _, rfl, ⟨by omega, hV0, rfl, by rw [intRows_len, List.length_append, List.length_replicate, List.take_zero]; simp⟩, rfl, rfl⟩ ?_
  rintro _ _ _ ⟨k, r2, rfl, ⟨hk, hV, hr2, hl2⟩, rfl, rfl⟩
  by_cases hkl : k < n
  · obtain ⟨x, hx⟩ := at_lt (l := l) (k := k) (by omega)
    have hrow : (l.map Nm.row)[k]? = some [.str x.key, .int x.many] := rows_at hx
    have k1 := key_fn x.key
    have bad : ∀ c : Int, nmE l k = c → c ≠ 0 → nmsE l = c := fun c he hc => hV.trans (firstE_bad (by omega) he hc)
    have hE : nmE l k = if isKey x.key = false then 5 else if (l.take k).any (fun y => decide (y.key = x.key)) then 6 else 0 := by unfold nmE; rw [hx]
    cases c1 : isKey x.key
    · rw [c1] at k1
      rw [bad 5 (by rw [hE, c1]; rfl) (by decide)]
      repeat' (first | refine goH ?_ | refine goV ?_ | refine goB (fun b => ?_) | refine goC (fun ad cap => ?_) | refine goI ?_ | (refine Cw.k_cond ?_; first | (refine Cw.cond_dec rfl (fun hc => ?_) (fun hc => ?_) <;> try (exfalso; omega)) | refine Cw.cond_bool rfl (fun hc => ?_) (fun hc => ?_)) | (refine Ops.k_calla ?_; first | (refine Ops.k_callf 51 ?_; refine Ops.callV k1 (Evs.cons rfl Evs.nil) rfl ?_)) | fail)
      refine Fin.ret (Ent.trans (Ent.nilsl 1 (s := 4) rfl) (Ent.take goTk)) (Outs.many rfl (OutL.cons goOe (OutL.cons goOe OutL.nil)) rfl) ⟨rfl, rfl⟩
    rw [c1] at k1 hE
    have kC := fun b => containsFunc_nm (l := l.take k) (p := fun y => decide (y.key = x.key)) (g := 53) (caps := [.pointer (some ⟨b, 0, none⟩)]) (cin := [Chunk.box b 69 x.row]) (by rw [List.length_take]; omega) (fun y _ => sameD_fn y b _ x)
    rw [List.map_take] at kC
    unfold Nm.row at kC
    rw [show List.map (fun x : Nm => [Tr.str x.key, Tr.int x.many]) l = List.map Nm.row l from rfl] at kC
    cases c2 : (l.take k).any (fun y => decide (y.key = x.key))
    · rw [c2] at kC
      have hV2 := hV.trans (firstE_ok (by omega) (by rw [hE, c2]; rfl))
      have s2 : r2.set ((k : Nat) : Int).toNat [Tr.int (k : Int)] = intRows ((upto n).take (k + 1) ++ List.replicate (n - (k + 1)) 0) := by rw [hr2, Int.toNat_natCast, ints_set, fill_set hUl (upto_at hkl)]
      have hv2 : r2[((k : Nat) : Int).toNat]? = some [Tr.int 0] := by rw [hr2, Int.toNat_natCast]; exact intRows_at (fill_at _ hUl hkl)
      clear hx hr2
      repeat' (first | refine goH ?_ | refine goV ?_ | refine goB (fun b => ?_) | refine goC (fun ad cap => ?_) | refine goI ?_ | (refine Cw.k_cond ?_; first | (refine Cw.cond_dec rfl (fun hc => ?_) (fun hc => ?_) <;> try (exfalso; omega)) | refine Cw.cond_bool rfl (fun hc => ?_) (fun hc => ?_)) | (refine Ops.k_calla ?_; first | (refine Ops.k_callf 51 ?_; refine Ops.callV k1 (Evs.cons rfl Evs.nil) rfl ?_) | (refine Ops.k_callf 52 ?_; (refine Ops.call (kC _) (Evs.cons rfl (Evs.cons rfl Evs.nil)) goPm rfl ?_; rintro r cs' ⟨rfl, rfl⟩))) | fail)
      exact ⟨_, _, _, (Ent.mk goSub goTk), ⟨k + 1, _, rfl, ⟨by omega, hV2, s2, by rw [List.length_set]; exact hl2⟩, rfl, rfl⟩, by omega⟩
    · rw [c2] at kC
      rw [bad 6 (by rw [hE, c2]; rfl) (by decide)]
      repeat' (first | refine goH ?_ | refine goV ?_ | refine goB (fun b => ?_) | refine goC (fun ad cap => ?_) | refine goI ?_ | (refine Cw.k_cond ?_; first | (refine Cw.cond_dec rfl (fun hc => ?_) (fun hc => ?_) <;> try (exfalso; omega)) | refine Cw.cond_bool rfl (fun hc => ?_) (fun hc => ?_)) | (refine Ops.k_calla ?_; first | (refine Ops.k_callf 51 ?_; refine Ops.callV k1 (Evs.cons rfl Evs.nil) rfl ?_) | (refine Ops.k_callf 52 ?_; (refine Ops.call (kC _) (Evs.cons rfl (Evs.cons rfl Evs.nil)) goPm rfl ?_; rintro r cs' ⟨rfl, rfl⟩))) | fail)
      refine Fin.ret (Ent.trans (Ent.nilsl 1 (s := 4) rfl) (Ent.take goTk)) (Outs.many rfl (OutL.cons goOe (OutL.cons goOe OutL.nil)) rfl) ⟨rfl, rfl⟩
  rw [firstE_end (by omega)] at hV
  have hnd := nms_nodup hV
  rw [if_neg (by rw [hV]; simp)]
  rw [List.take_of_length_le (by omega), show n - k = 0 by omega, List.replicate_zero, List.append_nil] at hr2
  subst hr2
  have hOl := ord_len l
  rw [hnl] at hOl
  have hOl2 := intRows_len (ordN l)
  rw [hOl] at hOl2
  have hOm : ∀ x ∈ ordN l, 0 ≤ x ∧ x < n := fun x hx => by have := ord_mem hx; omega
  have hwl := wts_len l
  rw [hnl] at hwl
  have kSh := share_fn t (wtsN l) (by omega)
  have hPl := shOf_len t (wtsN l)
  rw [hwl] at hPl
  repeat' (first | refine goH ?_ | refine goV ?_ | refine goB (fun b => ?_) | refine goC (fun ad cap => ?_) | refine goI ?_ | (refine Cw.k_cond ?_; first | (refine Cw.cond_dec rfl (fun hc => ?_) (fun hc => ?_) <;> try (exfalso; omega)) | refine Cw.cond_bool rfl (fun hc => ?_) (fun hc => ?_)) | (refine Ops.k_calla ?_; first | (refine Ops.k_callf 54 ?_; (refine Ops.call (kS _ _ _) (Evs.cons rfl (Evs.cons rfl Evs.nil)) goPm rfl ?_; rintro r cs' ⟨rfl, rfl⟩))) | fail)
  refine Cw.loopI [(0, _), (3, _), (6, _), (49, _), (50, .int n)] _ (fun q e c => ∃ (k : Nat) (ad2 : Option Addr) (cap2 : Nat) (rows : List (List Tr)), q = n - k ∧ (k ≤ n ∧ rows = intRows ((wtsN l).take k) ∧ rows.length = k) ∧ e = [(9, Tr.raw (.slice ad2 rows.length cap2)), (51, .int k)] ∧ c = [Chunk.own ad2 cap2 1 3 rows])
    ⟨_, _, _, Ent.trans (Ent.nil 1 3) (Ent.mkP goSub goPm), 0, none, 0, [], rfl, ⟨by omega, rfl, rfl⟩, rfl, rfl⟩ ?_
  rintro _ _ _ ⟨k, ad2, cap2, rows, rfl, ⟨hk, hrows, hrl⟩, rfl, rfl⟩
  by_cases hkl : k < n
  · obtain ⟨i, hi⟩ := at_lt (l := ordN l) (k := k) (by omega)
    have q0 := intRows_at hi
    have hib := hOm i (List.mem_of_getElem? hi)
    obtain ⟨x, hx⟩ := at_lt (l := l) (k := i.toNat) (by omega)
    have hrow : (l.map Nm.row)[i.toNat]? = some [.str x.key, .int x.many] := rows_at hx
    have hw := wts_at hi hx
    have hr3 : rows ++ [[Tr.int x.many]] = intRows ((wtsN l).take (k + 1)) := by rw [hrows, take_at hw, intRows_app]; rfl
    clear hi hx hw hrows
    repeat' (first | refine goH ?_ | refine goV ?_ | refine goB (fun b => ?_) | refine goC (fun ad cap => ?_) | refine goI ?_ | (refine Cw.k_cond ?_; first | (refine Cw.cond_dec rfl (fun hc => ?_) (fun hc => ?_) <;> try (exfalso; omega)) | refine Cw.cond_bool rfl (fun hc => ?_) (fun hc => ?_)) | fail)
    exact ⟨_, _, _, (Ent.mk goSub goTk), ⟨k + 1, _, _, _, rfl, ⟨by omega, hr3, by rw [List.length_append, hrl]; rfl⟩, rfl, rfl⟩, by omega⟩
  rw [List.take_of_length_le (by omega)] at hrows
  have hrw : rows.length = (intRows (wtsN l)).length := by rw [hrows]
  subst hrows
  unfold shT at kSh
  refine Cw.ent (Ent.settle (s := 9) rfl goPk rfl) ?_
  by_cases hE : shE t (wtsN l) ≠ 0
  · rw [if_pos hE] at kSh ⊢
    generalize shE t (wtsN l) = e at *
    repeat' (first | refine goH ?_ | refine goV ?_ | refine goB (fun b => ?_) | refine goC (fun ad cap => ?_) | refine goI ?_ | (refine Cw.k_cond ?_; first | (refine Cw.cond_dec rfl (fun hc => ?_) (fun hc => ?_) <;> try (exfalso; omega)) | refine Cw.cond_bool rfl (fun hc => ?_) (fun hc => ?_)) | (refine Ops.k_calla ?_; first | (refine Ops.k_callf 57 ?_; refine Ops.callV kSh (Evs.cons rfl (Evs.cons rfl Evs.nil)) rfl ?_)) | fail)
    refine Fin.ret (Ent.trans (Ent.nilsl 1 (s := 4) rfl) (Ent.take goTk)) (Outs.many rfl (OutL.cons goOe (OutL.cons goOe OutL.nil)) rfl) ⟨rfl, rfl⟩
  rw [if_neg hE] at kSh ⊢
  generalize shOf t (wtsN l) = P at *
  have hPL := intRows_len P
  rw [hPl] at hPL
  clear hE kS
  repeat' (first | refine goH ?_ | (refine Ops.k_makeSlice ?_; first | (refine Ops.makeSlice rfl rfl (by omega) (by omega) (by omega) rfl (fun ad cap => ?_); rw [hn2, show List.map Tr.raw [Value.int .i64 0] = [Tr.int 0] from rfl, ints_repl])) | refine goV ?_ | refine goB (fun b => ?_) | refine goC (fun ad cap => ?_) | refine goI ?_ | (refine Cw.k_cond ?_; first | (refine Cw.cond_dec rfl (fun hc => ?_) (fun hc => ?_) <;> try (exfalso; omega)) | refine Cw.cond_bool rfl (fun hc => ?_) (fun hc => ?_)) | (refine Ops.k_calla ?_; first | (refine Ops.k_callf 57 ?_; refine Ops.callV kSh (Evs.cons rfl (Evs.cons rfl Evs.nil)) rfl ?_)) | fail)
  refine Cw.loopI [(12, _), (14, _), (76, _), (77, .int n)] _ (fun q e c => ∃ (k : Nat) (out : List Int) (rows : List (List Tr)), q = n - k ∧ (k ≤ n ∧ rows = intRows out ∧ rows.length = n ∧ out.length = n ∧ PutN l P k out) ∧ e = [(78, .int k)] ∧ c = [Chunk.own ad cap 1 3 rows])
    ⟨_, _, _, (Ent.mkP goSub goPm), 0, List.replicate n 0, _, rfl, ⟨by omega, rfl, by rw [intRows_len, List.length_replicate], by rw [List.length_replicate], fun j i hj _ => absurd hj (by omega)⟩, rfl, rfl⟩ ?_
  clear hkl hk hrl hrw
  rintro _ _ _ ⟨k, out, rows, rfl, ⟨hk, hrows, hrl, hol, hput⟩, rfl, rfl⟩
  by_cases hkl : k < n
  · obtain ⟨i, hi⟩ := at_lt (l := ordN l) (k := k) (by omega)
    have q0 := intRows_at hi
    have hib := hOm i (List.mem_of_getElem? hi)
    obtain ⟨v, hv⟩ := at_lt (l := P) (k := k) (by omega)
    have q1 := intRows_at hv
    obtain ⟨u, hu⟩ := at_lt (l := out) (k := i.toNat) (by omega)
    have q2 : rows[i.toNat]? = some [Tr.int u] := by rw [hrows]; exact intRows_at hu
    have s1 : rows.set i.toNat [Tr.int v] = intRows (out.set i.toNat v) := by rw [hrows, ints_set]
    have hput2 := hput.step hi hv (by omega)
    have l1 : (out.set i.toNat v).length = n := by rw [List.length_set, hol]
    clear hi hv hu hrows hput
    repeat' (first | refine goH ?_ | refine goV ?_ | refine goB (fun b => ?_) | refine goC (fun ad cap => ?_) | refine goI ?_ | (refine Cw.k_cond ?_; first | (refine Cw.cond_dec rfl (fun hc => ?_) (fun hc => ?_) <;> try (exfalso; omega)) | refine Cw.cond_bool rfl (fun hc => ?_) (fun hc => ?_)) | fail)
    exact ⟨_, _, _, (Ent.mk goSub goTk), ⟨k + 1, _, _, rfl, ⟨by omega, s1, by rw [List.length_set]; exact hrl, l1, hput2⟩, rfl, rfl⟩, by omega⟩
  · have hout := tgt_of hnd (P := P) (out := out) (by omega) (by omega) (fun j i hj => hput j i (by have := (List.getElem?_eq_some_iff.1 hj).1; omega) hj)
    rw [← hout]
    subst hrows
    have hlen : n = (intRows out).length := hrl.symm
    repeat' (first | refine goH ?_ | refine goV ?_ | refine goB (fun b => ?_) | refine goC (fun ad cap => ?_) | refine goI ?_ | (refine Cw.k_cond ?_; first | (refine Cw.cond_dec rfl (fun hc => ?_) (fun hc => ?_) <;> try (exfalso; omega)) | refine Cw.cond_bool rfl (fun hc => ?_) (fun hc => ?_)) | fail)
    rw [hlen]
    refine Fin.ret (Ent.trans (Ent.settle (s := 4) rfl goPk rfl) (Ent.take goTk)) (Outs.many rfl (OutL.cons goOe (OutL.cons goOe OutL.nil)) rfl) ⟨rfl, rfl⟩
end Lg
end
section
set_option linter.all false
set_option maxRecDepth 100000
set_option maxHeartbeats 8000000
namespace Lg
open Go Go.Proofs

/-! ### the reference's shares -/
/-- a copy of its own -/
theorem clone_nm (rows : List (List Tr)) (hk : ∀ r ∈ rows, r.length = 2) (hl : rows.length ≤ 1000000) : PFnO Tryz.prog 61 [.sl 2 rows] 2 69 (· = rows) := by
  unfold PFnO
  refine Spec.body Tryz.func61 rfl rfl (Tryz.ntmps61) rfl fun w0 own0 M => ?_
  repeat' (first | refine goH ?_ | ((fail_if_success refine Ops.k_b_eql ?_); (fail_if_success refine Ops.k_buildSlice ?_); refine goV ?_) | ((fail_if_success refine Ops.k_b_eql ?_); (fail_if_success refine Ops.k_buildSlice ?_); refine goC (fun ad cap => ?_)) | refine goI ?_ | (refine Cw.k_cond ?_; first | (refine Cw.cond_dec rfl (fun hc => ?_) (fun hc => ?_) <;> try (exfalso; omega)) | refine Cw.cond_bool rfl (fun hc => ?_) (fun hc => ?_)) | fail)
  refine Ops.eql_nilS rfl rfl (fun b hb => ?_)
  cases b
  · repeat' (first | refine goH ?_ | ((fail_if_success refine Ops.k_buildSlice ?_); refine goV ?_) | ((fail_if_success refine Ops.k_buildSlice ?_); refine goC (fun ad cap => ?_)) | refine goI ?_ | (refine Cw.k_cond ?_; first | (refine Cw.cond_dec rfl (fun hc => ?_) (fun hc => ?_) <;> try (exfalso; omega)) | refine Cw.cond_bool rfl (fun hc => ?_) (fun hc => ?_)) | fail)
    refine Ops.buildSlice_own (by exact Parts.nil) rfl rfl rfl (fun ad cap => ?_)
    repeat' (first | refine goH ?_ | refine goV ?_ | refine goC (fun ad cap => ?_) | refine goI ?_ | (refine Cw.k_cond ?_; first | (refine Cw.cond_dec rfl (fun hc => ?_) (fun hc => ?_) <;> try (exfalso; omega)) | refine Cw.cond_bool rfl (fun hc => ?_) (fun hc => ?_)) | fail)
    exact Fin.ret (Ent.take goTk) (Outs.one rfl rfl) ⟨_, _, _, rfl, rfl, rfl⟩
  · have hr := hb rfl
    subst hr
    repeat' (first | refine goH ?_ | refine goV ?_ | refine goC (fun ad cap => ?_) | refine goI ?_ | (refine Cw.k_cond ?_; first | (refine Cw.cond_dec rfl (fun hc => ?_) (fun hc => ?_) <;> try (exfalso; omega)) | refine Cw.cond_bool rfl (fun hc => ?_) (fun hc => ?_)) | fail)
    exact Fin.ret (Ent.trans (Ent.nil 2 69) (Ent.take goTk)) (Outs.one rfl rfl) ⟨none, 0, [], rfl, rfl, rfl⟩

attribute [local irreducible] shOf shE wtsN
theorem nmRows_k (l : List Nm) : ∀ r ∈ l.map Nm.row, r.length = 2 := by
  intro r hr
  obtain ⟨x, _, rfl⟩ := List.mem_map.1 hr
  rfl
theorem sort_at {l : List Nm} {k : Nat} {x : Nm} (h : (sortN l)[k]? = some x) : (wtsN l)[k]? = some x.many := by
  unfold wtsN
  rw [List.getElem?_map, h]
  rfl
theorem sortN_len (l : List Nm) : (sortN l).length = l.length := by unfold sortN; rw [isort_len]
theorem tgt_take {l : List Nm} {P : List Int} {k : Nat} {x : Nm} (h : l[k]? = some x) : (tgtN l P).take (k + 1) = (tgtN l P).take k ++ [P.getD (idxFrom (fun y : Nm => decide (y.key = x.key)) (sortN l) 0).toNat 0] := by
  refine take_at ?_
  unfold tgtN
  rw [List.getElem?_map, h]
  rfl
theorem tgt_len (l : List Nm) (P : List Int) : (tgtN l P).length = l.length := by unfold tgtN; rw [List.length_map]
theorem idx_in {l : List Nm} {k : Nat} {x : Nm} (hn : (l.map Nm.key).Nodup) (h : l[k]? = some x) : ∃ j : Nat, idxFrom (fun y : Nm => decide (y.key = x.key)) (sortN l) 0 = j ∧ j < l.length := by
  have hm : x ∈ sortN l := (isort_perm nmLt l).mem_iff.2 (List.mem_of_getElem? h)
  obtain ⟨j, hj, hje⟩ := List.getElem_of_mem hm
  have hSn : ((sortN l).map Nm.key).Nodup := ((isort_perm nmLt l).map Nm.key).nodup_iff.2 hn
  have h2 := idx_uniq (m := 0) hSn (show (sortN l)[j]? = some x by rw [List.getElem?_eq_getElem hj, hje])
  exact ⟨j, by omega, by rw [sortN_len] at hj; exact hj⟩
theorem sharesOf_fn (t : Int) (l : List Nm) (hl : l.length ≤ 12) (hb : ∀ x ∈ l, -1000000000 ≤ x.many ∧ x.many ≤ 1000000000) : PFn Tryz.prog 21 [.int t, .nms l] (· = shrT t l) := by
  have hL : (l.map Nm.row).length = l.length := List.length_map _
  obtain ⟨n, hnl⟩ : ∃ n : Nat, l.length = n := ⟨_, rfl⟩
  have hV0 : nmsE l = firstE (nmE l) 0 (l.length - 0) := rfl
  unfold shrT
  rw [if_neg (by omega)]
  refine PFn.mk (Spec.body Tryz.func21 rfl rfl (Tryz.ntmps21) rfl fun w0 own0 M => ?_)
  repeat' (first | refine goH ?_ | refine goV ?_ | refine goB (fun b => ?_) | refine goC (fun ad cap => ?_) | refine goI ?_ | (refine Cw.k_cond ?_; first | (refine Cw.cond_dec rfl (fun hc => ?_) (fun hc => ?_) <;> try (exfalso; omega)) | refine Cw.cond_bool rfl (fun hc => ?_) (fun hc => ?_)) | fail)
  rw [hL, hnl]
  refine Cw.loopI [(0, _), (1, _), (20, _), (21, .int n)] _ (fun q e c => ∃ (k : Nat), q = n - k ∧ (k ≤ n ∧ nmsE l = firstE (nmE l) k (l.length - k)) ∧ e = [(22, .int k)] ∧ c = [])
    ⟨_, _, _, (Ent.mkP goSub goPm), 0, rfl, ⟨by omega, hV0⟩, rfl, rfl⟩ ?_
  rintro _ _ _ ⟨k, rfl, ⟨hk, hV⟩, rfl, rfl⟩
  by_cases hkl : k < n
  · obtain ⟨x, hx⟩ := at_lt (l := l) (k := k) (by omega)
    have hrow : (l.map Nm.row)[k]? = some [.str x.key, .int x.many] := rows_at hx
    have k1 := keyOf_fn x.key
    have bad : ∀ c : Int, nmE l k = c → c ≠ 0 → nmsE l = c := fun c he hc => hV.trans (firstE_bad (by omega) he hc)
    have hE : nmE l k = if isKey x.key = false then 5 else if (l.take k).any (fun y => decide (y.key = x.key)) then 6 else 0 := by unfold nmE; rw [hx]
    cases c1 : isKey x.key
    · rw [c1] at k1
      rw [bad 5 (by rw [hE, c1]; rfl) (by decide)]
      repeat' (first | refine goH ?_ | refine goV ?_ | refine goB (fun b => ?_) | refine goC (fun ad cap => ?_) | refine goI ?_ | (refine Cw.k_cond ?_; first | (refine Cw.cond_dec rfl (fun hc => ?_) (fun hc => ?_) <;> try (exfalso; omega)) | refine Cw.cond_bool rfl (fun hc => ?_) (fun hc => ?_)) | (refine Ops.k_calla ?_; first | (refine Ops.k_callf 58 ?_; refine Ops.callV k1 (Evs.cons rfl Evs.nil) rfl ?_)) | fail)
      refine Fin.ret (Ent.trans (Ent.nilsl 1 (s := 4) rfl) (Ent.take goTk)) (Outs.many rfl (OutL.cons goOe (OutL.cons goOe OutL.nil)) rfl) ⟨rfl, rfl⟩
    rw [c1] at k1 hE
    have kC := fun b => containsFunc_nm (l := l.take k) (p := fun y => decide (y.key = x.key)) (g := 59) (caps := [.pointer (some ⟨b, 0, none⟩)]) (cin := [Chunk.box b 69 x.row]) (by rw [List.length_take]; omega) (fun y _ => sameR1_fn y b _ x)
    rw [List.map_take] at kC
    unfold Nm.row at kC
    rw [show List.map (fun x : Nm => [Tr.str x.key, Tr.int x.many]) l = List.map Nm.row l from rfl] at kC
    cases c2 : (l.take k).any (fun y => decide (y.key = x.key))
    · rw [c2] at kC
      have hV2 := hV.trans (firstE_ok (by omega) (by rw [hE, c2]; rfl))
      clear hx
      repeat' (first | refine goH ?_ | refine goV ?_ | refine goB (fun b => ?_) | refine goC (fun ad cap => ?_) | refine goI ?_ | (refine Cw.k_cond ?_; first | (refine Cw.cond_dec rfl (fun hc => ?_) (fun hc => ?_) <;> try (exfalso; omega)) | refine Cw.cond_bool rfl (fun hc => ?_) (fun hc => ?_)) | (refine Ops.k_calla ?_; first | (refine Ops.k_callf 58 ?_; refine Ops.callV k1 (Evs.cons rfl Evs.nil) rfl ?_) | (refine Ops.k_callf 52 ?_; (refine Ops.call (kC _) (Evs.cons rfl (Evs.cons rfl Evs.nil)) goPm rfl ?_; rintro r cs' ⟨rfl, rfl⟩))) | fail)
      exact ⟨_, _, _, (Ent.mk goSub goTk), ⟨k + 1, rfl, ⟨by omega, hV2⟩, rfl, rfl⟩, by omega⟩
    · rw [c2] at kC
      rw [bad 6 (by rw [hE, c2]; rfl) (by decide)]
      repeat' (first | refine goH ?_ | refine goV ?_ | refine goB (fun b => ?_) | refine goC (fun ad cap => ?_) | refine goI ?_ | (refine Cw.k_cond ?_; first | (refine Cw.cond_dec rfl (fun hc => ?_) (fun hc => ?_) <;> try (exfalso; omega)) | refine Cw.cond_bool rfl (fun hc => ?_) (fun hc => ?_)) | (refine Ops.k_calla ?_; first | (refine Ops.k_callf 58 ?_; refine Ops.callV k1 (Evs.cons rfl Evs.nil) rfl ?_) | (refine Ops.k_callf 52 ?_; (refine Ops.call (kC _) (Evs.cons rfl (Evs.cons rfl Evs.nil)) goPm rfl ?_; rintro r cs' ⟨rfl, rfl⟩))) | fail)
      refine Fin.ret (Ent.trans (Ent.nilsl 1 (s := 4) rfl) (Ent.take goTk)) (Outs.many rfl (OutL.cons goOe (OutL.cons goOe OutL.nil)) rfl) ⟨rfl, rfl⟩
  rw [firstE_end (by omega)] at hV
  have hnd := nms_nodup hV
  rw [if_neg (by rw [hV]; simp)]
  have hSl := sortN_len l
  rw [hnl] at hSl
  have hSL : ((sortN l).map Nm.row).length = n := by rw [List.length_map, hSl]
  have hwl := wts_len l
  rw [hnl] at hwl
  have hwb : ∀ w ∈ wtsN l, -1000000000 ≤ w ∧ w ≤ 1000000000 := by
    intro w hw
    unfold wtsN sortN at hw
    obtain ⟨y, hy, rfl⟩ := List.mem_map.1 hw
    exact hb y ((isort_perm _ _).mem_iff.1 hy)
  have kF := shareFault_fn t (wtsN l) (by omega) hwb
  have hPl := shOf_len t (wtsN l)
  rw [hwl] at hPl
  have kCl := clone_nm (l.map Nm.row) (nmRows_k l) (by omega)
  unfold PFnO at kCl
  have kSN : ∀ (ad : Option Addr) (cap : Nat), Spec Tryz.prog 60 [Tr.raw (.slice ad (l.map Nm.row).length cap)] [Chunk.own ad cap 2 69 (l.map Nm.row)] (fun r cs => r = Tr.raw (.slice ad ((sortN l).map Nm.row).length cap) ∧ cs = [Chunk.own ad cap 2 69 ((sortN l).map Nm.row)]) := fun ad cap => by
    rw [hL, hSL, hnl]
    exact sortedNamed_fn (by omega) hnl.symm
  clear hV0 hV
  repeat' (first | refine goH ?_ | refine goV ?_ | refine goB (fun b => ?_) | refine goC (fun ad cap => ?_) | refine goI ?_ | (refine Cw.k_cond ?_; first | (refine Cw.cond_dec rfl (fun hc => ?_) (fun hc => ?_) <;> try (exfalso; omega)) | refine Cw.cond_bool rfl (fun hc => ?_) (fun hc => ?_)) | (refine Ops.k_calla ?_; first | (refine Ops.call (cf := []) kCl (Evs.cons rfl Evs.nil) (by simp) rfl ?_; rintro r cs' ⟨ad, cap, rows, rfl, rfl, rfl⟩; rw [List.append_nil]) | (refine Ops.k_callf 60 ?_; (refine Ops.call (kSN _ _) (Evs.cons rfl Evs.nil) goPm rfl ?_; rintro r cs' ⟨rfl, rfl⟩; refine Ops.ent (Ent.settle (s := 39) rfl goPk rfl) ?_))) | fail)
  rw [hSL]
  refine Cw.loopI [(0, _), (1, _), (8, _), (40, _), (41, .int n)] _ (fun q e c => ∃ (k : Nat) (ad2 : Option Addr) (cap2 : Nat) (rows : List (List Tr)), q = n - k ∧ (k ≤ n ∧ rows = intRows ((wtsN l).take k) ∧ rows.length = k) ∧ e = [(9, Tr.raw (.slice ad2 rows.length cap2)), (42, .int k)] ∧ c = [Chunk.own ad2 cap2 1 3 rows])
    ⟨_, _, _, Ent.trans (Ent.nil 1 3) (Ent.mkP goSub goPm), 0, none, 0, [], rfl, ⟨by omega, rfl, rfl⟩, rfl, rfl⟩ ?_
  rintro _ _ _ ⟨k, ad2, cap2, rows, rfl, ⟨hk, hrows, hrl⟩, rfl, rfl⟩
  by_cases hkl : k < n
  · obtain ⟨x, hx⟩ := at_lt (l := sortN l) (k := k) (by omega)
    have hrow : ((sortN l).map Nm.row)[k]? = some [.str x.key, .int x.many] := rows_at hx
    have hr3 : rows ++ [[Tr.int x.many]] = intRows ((wtsN l).take (k + 1)) := by rw [hrows, take_at (sort_at hx), intRows_app]; rfl
    clear hx hrows
    repeat' (first | refine goH ?_ | refine goV ?_ | refine goB (fun b => ?_) | refine goC (fun ad cap => ?_) | refine goI ?_ | (refine Cw.k_cond ?_; first | (refine Cw.cond_dec rfl (fun hc => ?_) (fun hc => ?_) <;> try (exfalso; omega)) | refine Cw.cond_bool rfl (fun hc => ?_) (fun hc => ?_)) | fail)
    exact ⟨_, _, _, (Ent.mk goSub goTk), ⟨k + 1, _, _, _, rfl, ⟨by omega, hr3, by rw [List.length_append, hrl]; rfl⟩, rfl, rfl⟩, by omega⟩
  rw [List.take_of_length_le (by omega)] at hrows
  subst hrows
  refine Cw.ent (Ent.settle (s := 9) rfl goPk rfl) ?_
  by_cases hE : shE t (wtsN l) ≠ 0
  · rw [if_pos hE]
    generalize shE t (wtsN l) = e at *
    repeat' (first | refine goH ?_ | refine goV ?_ | refine goB (fun b => ?_) | refine goC (fun ad cap => ?_) | refine goI ?_ | (refine Cw.k_cond ?_; first | (refine Cw.cond_dec rfl (fun hc => ?_) (fun hc => ?_) <;> try (exfalso; omega)) | refine Cw.cond_bool rfl (fun hc => ?_) (fun hc => ?_)) | (refine Ops.k_calla ?_; first | (refine Ops.k_callf 62 ?_; refine Ops.callV kF (Evs.cons rfl (Evs.cons rfl Evs.nil)) rfl ?_)) | fail)
    refine Fin.ret (Ent.trans (Ent.nilsl 1 (s := 4) rfl) (Ent.take goTk)) (Outs.many rfl (OutL.cons goOe (OutL.cons goOe OutL.nil)) rfl) ⟨rfl, rfl⟩
  have hE0 : shE t (wtsN l) = 0 := by omega
  obtain ⟨g1, g2, g3, g4⟩ := shE_ok hE0
  have kO := shareOf_fn t (wtsN l) g1 (by omega) g3 g4
  rw [if_neg hE]
  rw [hE0] at kF
  generalize shOf t (wtsN l) = P at *
  have hPL := intRows_len P
  rw [hPl] at hPL
  clear hE hE0 g1 g2 g3 g4 hwb kCl kSN
  repeat' (first | refine goH ?_ | refine goV ?_ | refine goB (fun b => ?_) | refine goC (fun ad cap => ?_) | refine goI ?_ | (refine Cw.k_cond ?_; first | (refine Cw.cond_dec rfl (fun hc => ?_) (fun hc => ?_) <;> try (exfalso; omega)) | refine Cw.cond_bool rfl (fun hc => ?_) (fun hc => ?_)) | (refine Ops.k_calla ?_; first | (refine Ops.k_callf 62 ?_; refine Ops.callV kF (Evs.cons rfl (Evs.cons rfl Evs.nil)) rfl ?_) | (refine Ops.k_callf 63 ?_; refine Ops.callV kO (Evs.cons rfl (Evs.cons rfl Evs.nil)) rfl ?_)) | fail)
  rw [hL, hnl]
  refine Cw.loopI [(8, _), (13, _), (61, _), (62, .int n)] _ (fun q e c => ∃ (k : Nat) (ad2 : Option Addr) (cap2 : Nat) (rows : List (List Tr)), q = n - k ∧ (k ≤ n ∧ rows = intRows ((tgtN l P).take k) ∧ rows.length = k) ∧ e = [(14, Tr.raw (.slice ad2 rows.length cap2)), (63, .int k)] ∧ c = [Chunk.own ad2 cap2 1 3 rows])
    ⟨_, _, _, Ent.trans (Ent.nil 1 3) (Ent.mkP goSub goPm), 0, none, 0, [], rfl, ⟨by omega, rfl, rfl⟩, rfl, rfl⟩ ?_
  clear hkl hk hrl
  rintro _ _ _ ⟨k, ad2, cap2, rows, rfl, ⟨hk, hrows, hrl⟩, rfl, rfl⟩
  by_cases hkl : k < n
  · obtain ⟨x, hx⟩ := at_lt (l := l) (k := k) (by omega)
    have hrow : (l.map Nm.row)[k]? = some [.str x.key, .int x.many] := rows_at hx
    obtain ⟨j, hj, hjl⟩ := idx_in hnd hx
    obtain ⟨v, hv⟩ := at_lt (l := P) (k := j) (by omega)
    have q1 : (intRows P)[((j : Nat) : Int).toNat]? = some [Tr.int v] := by rw [Int.toNat_natCast]; exact intRows_at hv
    have ht := tgt_take (P := P) hx
    rw [hj, Int.toNat_natCast, List.getD_eq_getElem?_getD, hv] at ht
    have hr3 : rows ++ [[Tr.int v]] = intRows ((tgtN l P).take (k + 1)) := by rw [hrows, ht, intRows_app]; rfl
    have kI := fun b => indexFunc_nm (l := sortN l) (p := fun y => decide (y.key = x.key)) (g := 65) (caps := [.pointer (some ⟨b, 0, none⟩)]) (cin := [Chunk.box b 69 x.row]) (by omega) (fun y _ => sameR2_fn y b _ x)
    rw [hj] at kI
    unfold Nm.row at kI
    rw [show List.map (fun x : Nm => [Tr.str x.key, Tr.int x.many]) (sortN l) = List.map Nm.row (sortN l) from rfl] at kI
    clear hx hrows ht hv hj
    repeat' (first | refine goH ?_ | refine goV ?_ | refine goB (fun b => ?_) | refine goC (fun ad cap => ?_) | refine goI ?_ | (refine Cw.k_cond ?_; first | (refine Cw.cond_dec rfl (fun hc => ?_) (fun hc => ?_) <;> try (exfalso; omega)) | refine Cw.cond_bool rfl (fun hc => ?_) (fun hc => ?_)) | (refine Ops.k_calla ?_; first | (refine Ops.k_callf 64 ?_; (refine Ops.call (kI _) (Evs.cons rfl (Evs.cons rfl Evs.nil)) goPm rfl ?_; rintro r cs' ⟨rfl, rfl⟩))) | fail)
    exact ⟨_, _, _, (Ent.mk goSub goTk), ⟨k + 1, _, _, _, rfl, ⟨by omega, hr3, by rw [List.length_append, hrl]; rfl⟩, rfl, rfl⟩, by omega⟩
  · rw [List.take_of_length_le (by rw [tgt_len]; omega)] at hrows
    subst hrows
    repeat' (first | refine goH ?_ | refine goV ?_ | refine goB (fun b => ?_) | refine goC (fun ad cap => ?_) | refine goI ?_ | (refine Cw.k_cond ?_; first | (refine Cw.cond_dec rfl (fun hc => ?_) (fun hc => ?_) <;> try (exfalso; omega)) | refine Cw.cond_bool rfl (fun hc => ?_) (fun hc => ?_)) | fail)
    refine Fin.ret (Ent.trans (Ent.settle (s := 4) rfl goPk rfl) (Ent.take goTk)) (Outs.many rfl (OutL.cons goOe (OutL.cons goOe OutL.nil)) rfl) ⟨rfl, rfl⟩
end Lg
end
section
set_option linter.all false
set_option maxRecDepth 100000
set_option maxHeartbeats 4000000
namespace Lg
open Go Go.Proofs

def strRows (l : List ByteArray) : List (List Tr) := l.map fun x => [Tr.str x]
abbrev Tr.strs (l : List ByteArray) : Tr := Tr.sl 1 (strRows l)
theorem strRows_len (l : List ByteArray) : (strRows l).length = l.length := by simp [strRows]
theorem strRows_at {l : List ByteArray} {j : Nat} {x : ByteArray} (h : l[j]? = some x) : (strRows l)[j]? = some [Tr.str x] := rows_at h
theorem strRows_app (a b : List ByteArray) : strRows (a ++ b) = strRows a ++ strRows b := by simp [strRows]
theorem strRows_get {l : List ByteArray} {j : Nat} (h : j < l.length) : (strRows l)[j]? = some [Tr.str l[j]] := strRows_at (List.getElem?_eq_getElem h)
inductive IsStrs : List (List Tr) → List ByteArray → Prop
  | nil : IsStrs [] []
  | cons {rows : List (List Tr)} {l : List ByteArray} {x : ByteArray} (h : IsStrs rows l) : IsStrs ([Tr.str x] :: rows) (x :: l)
theorem IsStrs.eq {rows : List (List Tr)} {l : List ByteArray} (h : IsStrs rows l) : rows = strRows l := by
  induction h with
  | nil => rfl
  | cons h ih => rw [ih]; rfl
/-- one of some strings -/
theorem one_gen {rows : List (List Tr)} {l : List ByteArray} (hr : IsStrs rows l) (h : 0 < l.length ∧ l.length ≤ 100000) :
    Gen Tryz.prog 25 50 [.sl 1 rows] 1 (fun r => ∃ v, r = .str v ∧ v ∈ l) := by
  have h := hr.eq
  subst h
  unfold Gen
  intro b xs N hN
  refine Spec.body Tryz.func50 rfl rfl (Tryz.ntmps50) rfl fun w0 own0 M => ?_
  have hl := strRows_len l
  repeat' (first | refine goH ?_ | refine goV ?_ | refine goI ?_ | (refine Cw.k_cond ?_; first | (refine Cw.cond_dec rfl (fun hc => ?_) (fun hc => ?_) <;> try (exfalso; omega)) | refine Cw.cond_bool rfl (fun hc => ?_) (fun hc => ?_)) | (refine Ops.k_calla ?_; first | (refine Ops.k_callf 38 ?_; (refine Ops.callG (next_gen _ (by omega)) (Evs.cons rfl (Evs.cons rfl Evs.nil)) goPk (by omega) rfl ?_; rintro r ⟨v, rfl, hv⟩; unfold InRange at hv; have hj : v.toNat < l.length := (by omega); have hj2 := strRows_get hj))) | fail)
  exact Fin.ret Ent.refl (Outs.one rfl rfl) ⟨rfl, _, rfl, List.getElem_mem hj⟩
end Lg
end
