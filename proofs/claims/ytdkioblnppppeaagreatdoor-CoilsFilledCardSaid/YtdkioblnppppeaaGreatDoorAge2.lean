/- A part of the proof of a law of this seat: it adds no condition. By an AI agent. -/
import Derived.Test.YtdkioblnppppeaaGreatDoorCmpOr
section
set_option linter.all false
set_option maxRecDepth 100000
set_option maxHeartbeats 4000000
namespace Lg
open Go Go.Proofs

def strRows (l : List ByteArray) : List (List Tr) := l.map fun x => [Tr.str x]
abbrev Tr.strs (l : List ByteArray) : Tr := Tr.sl 1 (strRows l)
theorem strRows_len (l : List ByteArray) : (strRows l).length = l.length := by simp [strRows]
theorem strRows_at {l : List ByteArray} {j : Nat} {x : ByteArray} (h : l[j]? = some x) : (strRows l)[j]? = some [Tr.str x] := rows_at h
theorem strRows_app (a b : List ByteArray) : strRows (a ++ b) = strRows a ++ strRows b := by simp [strRows]
theorem strRows_get {l : List ByteArray} {j : Nat} (h : j < l.length) : (strRows l)[j]? = some [Tr.str l[j]] := strRows_at (List.getElem?_eq_getElem h)
inductive IsStrs : List (List Tr) → List ByteArray → Prop
  | nil : IsStrs [] []
  | cons {rows : List (List Tr)} {l : List ByteArray} {x : ByteArray} (h : IsStrs rows l) : IsStrs ([Tr.str x] :: rows) (x :: l)
theorem IsStrs.eq {rows : List (List Tr)} {l : List ByteArray} (h : IsStrs rows l) : rows = strRows l := by
  induction h with
  | nil => rfl
  | cons h ih => rw [ih]; rfl
/-- one of some strings -/
theorem one_gen {rows : List (List Tr)} {l : List ByteArray} (hr : IsStrs rows l) (h : 0 < l.length ∧ l.length ≤ 100000) :
    Gen Tryz.prog 25 24 [.sl 1 rows] 1 (fun r => ∃ v, r = .str v ∧ v ∈ l) := by
  have h := hr.eq
  subst h
  unfold Gen
  intro b xs N hN
  refine Spec.body Tryz.func24 rfl rfl (Tryz.ntmps24) rfl fun w0 own0 M => ?_
  have hl := strRows_len l
  repeat' (first | refine goH ?_ | refine goV ?_ | refine goI ?_ | (refine Cw.k_cond ?_; first | (refine Cw.cond_dec rfl (fun hc => ?_) (fun hc => ?_) <;> try (exfalso; omega)) | refine Cw.cond_bool rfl (fun hc => ?_) (fun hc => ?_)) | (refine Ops.k_calla ?_; first | (refine Ops.k_callf 23 ?_; (refine Ops.callG (next_gen _ (by omega)) (Evs.cons rfl (Evs.cons rfl Evs.nil)) goPk (by omega) rfl ?_; rintro r ⟨v, rfl, hv⟩; unfold InRange at hv; have hj : v.toNat < l.length := (by omega); have hj2 := strRows_get hj))) | fail)
  exact Fin.ret Ent.refl (Outs.one rfl rfl) ⟨rfl, _, rfl, List.getElem_mem hj⟩
end Lg
end
section
set_option linter.all false
set_option maxRecDepth 100000
set_option maxHeartbeats 4000000
namespace Lg
open Go Go.Proofs

theorem indexFunc_lot {l : List Lot} {p : Lot → Bool} {g : Nat} {caps : List Value} {cin : List Chunk} (hl : l.length ≤ 1000000000)
    (hs : ∀ x, x ∈ l → Spec Tryz.prog g ([Tr.agg x.row] ++ caps.map Tr.raw) cin (fun r cs => r = Tr.bool (p x) ∧ cs = cin)) :
    Spec Tryz.prog 60 [Tr.sl 4 (l.map Lot.row), Tr.raw (.func (.func g) #[] caps.toArray)] cin (fun r cs => r = Tr.int (idxFrom p l 0) ∧ cs = cin) := by
  refine Spec.body Tryz.func60 rfl rfl (Tryz.ntmps60) rfl fun w0 own0 M => ?_
  have hL : (l.map Lot.row).length = l.length := List.length_map _
  repeat' (first | refine goH ?_ | refine goV ?_ | refine goI ?_ | (refine Cw.k_cond ?_; first | (refine Cw.cond_dec rfl (fun hc => ?_) (fun hc => ?_) <;> try (exfalso; omega)) | refine Cw.cond_bool rfl (fun hc => ?_) (fun hc => ?_)) | fail)
  refine Cw.loop (ι := Nat) (fun k => k ≤ l.length ∧ idxFrom p l 0 = idxFrom p (l.drop k) k) (fun k => [(0, Tr.sl 4 (l.map Lot.row)), (1, Tr.raw (.func (.func g) #[] caps.toArray)), (7, .int (l.map Lot.row).length), (8, .int k)]) (fun _ => cin) (fun k => l.length - k) ⟨0, ⟨by omega, rfl⟩, Ent.sub goSub⟩ ?_
  rintro k ⟨hk, hgo⟩
  by_cases hkl : k < l.length
  · obtain ⟨x, hx⟩ : ∃ x, l[k]? = some x := ⟨_, List.getElem?_eq_getElem hkl⟩
    have hrow : (l.map Lot.row)[k]? = some [.str x.id, .str x.prod, .int x.exp, .int x.many] := rows_at hx
    have hdrop := idxFrom_drop p hx
    rw [hdrop] at hgo
    have hsx := hs x (List.mem_of_getElem? hx)
    by_cases hp : p x = true
    · rw [if_pos hp] at hgo
      rw [hp] at hsx
      repeat' (first | refine goH ?_ | refine goV ?_ | refine goI ?_ | (refine Cw.k_cond ?_; first | (refine Cw.cond_dec rfl (fun hc => ?_) (fun hc => ?_) <;> try (exfalso; omega)) | refine Cw.cond_bool rfl (fun hc => ?_) (fun hc => ?_)) | (refine Ops.k_calla ?_; first | (refine Ops.call_fn rfl hsx (Evs.cons rfl Evs.nil) (by rw [List.append_nil]) rfl ?_; rintro r cs' ⟨rfl, hcs⟩; rw [hcs, List.append_nil])) | fail)
      exact Fin.ret Ent.refl (Outs.one rfl rfl) ⟨by rw [hgo], rfl⟩
    · rw [if_neg hp] at hgo
      rw [Bool.not_eq_true] at hp
      rw [hp] at hsx
      repeat' (first | refine goH ?_ | refine goV ?_ | refine goI ?_ | (refine Cw.k_cond ?_; first | (refine Cw.cond_dec rfl (fun hc => ?_) (fun hc => ?_) <;> try (exfalso; omega)) | refine Cw.cond_bool rfl (fun hc => ?_) (fun hc => ?_)) | (refine Ops.k_calla ?_; first | (refine Ops.call_fn rfl hsx (Evs.cons rfl Evs.nil) (by rw [List.append_nil]) rfl ?_; rintro r cs' ⟨rfl, hcs⟩; rw [hcs, List.append_nil])) | fail)
      exact ⟨k + 1, ⟨by omega, hgo⟩, by omega, Ent.sub goSub⟩
  · rw [List.drop_eq_nil_of_le (by omega), idxFrom] at hgo
    repeat' (first | refine goH ?_ | refine goV ?_ | refine goI ?_ | (refine Cw.k_cond ?_; first | (refine Cw.cond_dec rfl (fun hc => ?_) (fun hc => ?_) <;> try (exfalso; omega)) | refine Cw.cond_bool rfl (fun hc => ?_) (fun hc => ?_)) | fail)
    exact Fin.ret Ent.refl (Outs.one rfl rfl) ⟨by rw [hgo], rfl⟩



def findL (l : List Lot) (id : ByteArray) : Option Lot := l.find? (fun x => decide (x.id = id))
def lotIx (l : List Lot) (id : ByteArray) : Int := idxFrom (fun x : Lot => decide (x.id = id)) l 0
def lotD (l : List Lot) (id : ByteArray) : Lot := (findL l id).getD ⟨⟨#[]⟩, ⟨#[]⟩, 0, 0⟩
theorem lotIx_none {l : List Lot} {id : ByteArray} (h : findL l id = none) : lotIx l id = -1 := (idxFrom_find _ l 0).1 h
theorem lotIx_some {l : List Lot} {id : ByteArray} {x : Lot} (h : findL l id = some x) : ∃ j : Nat, lotIx l id = j ∧ l[j]? = some x := by
  obtain ⟨j, h1, h2⟩ := (idxFrom_find _ l 0).2 x h
  exact ⟨j, by unfold lotIx; omega, h2⟩
theorem lotIx_neg {l : List Lot} {id : ByteArray} : decide (lotIx l id < 0) = (findL l id).isNone := by
  cases h : findL l id with
  | none => rw [lotIx_none h]; rfl
  | some x => obtain ⟨j, h1, _⟩ := lotIx_some h; rw [h1]; simp

theorem lot1_fn (x : Lot) (b E : Nat) (id : ByteArray) : Spec Tryz.prog 61 [.agg x.row, .ptr b] [Chunk.box b E [.str id]] (fun r cs => r = .bool (decide (x.id = id)) ∧ cs = [Chunk.box b E [.str id]]) := by
  refine Spec.body Tryz.func61 rfl rfl (Tryz.ntmps61) rfl fun w0 own0 M => ?_
  unfold Lot.row
  repeat' (first | refine goH ?_ | refine goV ?_ | refine goB (fun b => ?_) | refine goI ?_ | (refine Cw.k_cond ?_; first | (refine Cw.cond_dec rfl (fun hc => ?_) (fun hc => ?_) <;> try (exfalso; omega)) | refine Cw.cond_bool rfl (fun hc => ?_) (fun hc => ?_)) | fail)
  exact Fin.ret (Ent.take goTk) (Outs.one rfl rfl) ⟨rfl, rfl⟩

theorem lot_fn (l : List Lot) (hl : l.length ≤ 1000000) (id : ByteArray) : PFn Tryz.prog 41 [.lots l, .str id] (· = .int (lotIx l id)) := by
  have k := fun b E => indexFunc_lot (cin := [Chunk.box b E [.str id]]) (caps := [.pointer (some ⟨b, 0, none⟩)]) (g := 61) (p := fun x => decide (x.id = id)) (l := l) (by omega) (fun x _ => lot1_fn x b E id)
  refine PFn.mk (Spec.body Tryz.func41 rfl rfl (Tryz.ntmps41) rfl fun w0 own0 M => ?_)
  repeat' (first | refine goH ?_ | refine goV ?_ | refine goB (fun b => ?_) | refine goI ?_ | (refine Cw.k_cond ?_; first | (refine Cw.cond_dec rfl (fun hc => ?_) (fun hc => ?_) <;> try (exfalso; omega)) | refine Cw.cond_bool rfl (fun hc => ?_) (fun hc => ?_)) | (refine Ops.k_calla ?_; first | (refine Ops.k_callf 60 ?_; refine Ops.callS (k _ _) (Evs.cons rfl (Evs.cons rfl Evs.nil)) goPk rfl ?_)) | fail)
  exact Fin.ret (Ent.take goTk) (Outs.one rfl rfl) ⟨rfl, rfl⟩

theorem lotOf_fn (l : List Lot) (hl : l.length ≤ 1000000) (id : ByteArray) : PFn Tryz.prog 45 [.lots l, .str id] (· = .tup [.agg (lotD l id).row, .bool (findL l id).isSome]) := by
  refine PFn.mk (Spec.body Tryz.func45 rfl rfl (Tryz.ntmps45) rfl fun w0 own0 M => ?_)
  have hL : (l.map Lot.row).length = l.length := List.length_map _
  repeat' (first | refine goH ?_ | refine goV ?_ | refine goB (fun b => ?_) | refine goI ?_ | (refine Cw.k_cond ?_; first | (refine Cw.cond_dec rfl (fun hc => ?_) (fun hc => ?_) <;> try (exfalso; omega)) | refine Cw.cond_bool rfl (fun hc => ?_) (fun hc => ?_)) | fail)
  refine Cw.loopI [(1, _), (4, _), (8, _), (9, _)] _ (fun n e c => ∃ k : Nat, n = l.length - k ∧ (k ≤ l.length ∧ findL l id = findL (l.drop k) id) ∧ e = [(10, .int k)] ∧ c = []) ⟨_, _, _, (Ent.mkP goSub goPm), 0, rfl, ⟨by omega, by simp⟩, rfl, rfl⟩ ?_
  rintro _ _ _ ⟨k, rfl, ⟨hk, hV⟩, rfl, rfl⟩
  by_cases hkl : k < l.length
  · obtain ⟨x, hx⟩ := at_lt hkl
    have hrow : (l.map Lot.row)[k]? = some [.str x.id, .str x.prod, .int x.exp, .int x.many] := rows_at hx
    rw [drop_at hx] at hV
    by_cases he : x.id = id
    · have hf : findL l id = some x := by rw [hV]; unfold findL; exact List.find?_cons_of_pos (decide_eq_true he)
      repeat' (first | refine goH ?_ | refine goV ?_ | refine goB (fun b => ?_) | refine goI ?_ | (refine Cw.k_cond ?_; first | (refine Cw.cond_dec rfl (fun hc => ?_) (fun hc => ?_) <;> try (exfalso; omega)) | refine Cw.cond_bool rfl (fun hc => ?_) (fun hc => ?_)) | fail)
      refine Fin.ret (Ent.trans (Ent.setbox (s := 4) rfl goPk) (Ent.take goTk)) (Outs.many rfl (OutL.cons goOe (OutL.cons goOe OutL.nil)) rfl) ⟨rfl, ?_⟩
      unfold lotD
      rw [hf]
      rfl
    · have hf : findL l id = findL (l.drop (k + 1)) id := by rw [hV]; unfold findL; exact List.find?_cons_of_neg (by simpa using he)
      repeat' (first | refine goH ?_ | refine goV ?_ | refine goB (fun b => ?_) | refine goI ?_ | (refine Cw.k_cond ?_; first | (refine Cw.cond_dec rfl (fun hc => ?_) (fun hc => ?_) <;> try (exfalso; omega)) | refine Cw.cond_bool rfl (fun hc => ?_) (fun hc => ?_)) | fail)
      exact ⟨_, _, _, (Ent.mk goSub goTk), ⟨_, rfl, ⟨by omega, hf⟩, rfl, rfl⟩, by omega⟩
  · rw [List.drop_eq_nil_of_le (by omega)] at hV
    repeat' (first | refine goH ?_ | refine goV ?_ | refine goB (fun b => ?_) | refine goI ?_ | (refine Cw.k_cond ?_; first | (refine Cw.cond_dec rfl (fun hc => ?_) (fun hc => ?_) <;> try (exfalso; omega)) | refine Cw.cond_bool rfl (fun hc => ?_) (fun hc => ?_)) | fail)
    refine Fin.ret (Ent.trans (Ent.setbox (s := 4) rfl goPk) (Ent.take goTk)) (Outs.many rfl (OutL.cons goOe (OutL.cons goOe OutL.nil)) rfl) ⟨rfl, ?_⟩
    unfold lotD
    rw [hV]
    rfl

def strangeB (l : List Lot) (ps : List Piece) : Bool := ps.any fun p => (findL l p.lot).isNone
theorem strangeB_cons (l : List Lot) (p : Piece) (ps : List Piece) : strangeB l (p :: ps) = ((findL l p.lot).isNone || strangeB l ps) := rfl
theorem strange1_fn (p : Piece) (b E : Nat) (l : List Lot) (hl : l.length ≤ 1000000) : Spec Tryz.prog 57 [.agg p.row, .ptr b] [Chunk.box b E [.lots l]] (fun r cs => r = .bool (findL l p.lot).isNone ∧ cs = [Chunk.box b E [.lots l]]) := by
  refine Spec.body Tryz.func57 rfl rfl (Tryz.ntmps57) rfl fun w0 own0 M => ?_
  unfold Piece.row
  repeat' (first | refine goH ?_ | refine goV ?_ | refine goB (fun b => ?_) | refine goI ?_ | (refine Cw.k_cond ?_; first | (refine Cw.cond_dec rfl (fun hc => ?_) (fun hc => ?_) <;> try (exfalso; omega)) | refine Cw.cond_bool rfl (fun hc => ?_) (fun hc => ?_)) | (refine Ops.k_calla ?_; first | (refine Ops.k_callf 41 ?_; refine Ops.callV (lot_fn l hl p.lot) (Evs.cons rfl (Evs.cons rfl Evs.nil)) rfl ?_)) | fail)
  exact Fin.ret (Ent.take goTk) (Outs.one rfl rfl) ⟨congrArg Tr.bool lotIx_neg, rfl⟩
theorem indexFunc_piece {l : List Piece} {p : Piece → Bool} {g : Nat} {caps : List Value} {cin : List Chunk} (hl : l.length ≤ 1000000000)
    (hs : ∀ x, x ∈ l → Spec Tryz.prog g ([Tr.agg x.row] ++ caps.map Tr.raw) cin (fun r cs => r = Tr.bool (p x) ∧ cs = cin)) :
    Spec Tryz.prog 68 [Tr.sl 2 (l.map Piece.row), Tr.raw (.func (.func g) #[] caps.toArray)] cin (fun r cs => r = Tr.int (idxFrom p l 0) ∧ cs = cin) := by
  refine Spec.body Tryz.func68 rfl rfl (Tryz.ntmps68) rfl fun w0 own0 M => ?_
  have hL : (l.map Piece.row).length = l.length := List.length_map _
  repeat' (first | refine goH ?_ | refine goV ?_ | refine goI ?_ | (refine Cw.k_cond ?_; first | (refine Cw.cond_dec rfl (fun hc => ?_) (fun hc => ?_) <;> try (exfalso; omega)) | refine Cw.cond_bool rfl (fun hc => ?_) (fun hc => ?_)) | fail)
  refine Cw.loop (ι := Nat) (fun k => k ≤ l.length ∧ idxFrom p l 0 = idxFrom p (l.drop k) k) (fun k => [(0, Tr.sl 2 (l.map Piece.row)), (1, Tr.raw (.func (.func g) #[] caps.toArray)), (7, .int (l.map Piece.row).length), (8, .int k)]) (fun _ => cin) (fun k => l.length - k) ⟨0, ⟨by omega, rfl⟩, Ent.sub goSub⟩ ?_
  rintro k ⟨hk, hgo⟩
  by_cases hkl : k < l.length
  · obtain ⟨x, hx⟩ : ∃ x, l[k]? = some x := ⟨_, List.getElem?_eq_getElem hkl⟩
    have hrow : (l.map Piece.row)[k]? = some [.str x.lot, .int x.many] := rows_at hx
    have hdrop := idxFrom_drop p hx
    rw [hdrop] at hgo
    have hsx := hs x (List.mem_of_getElem? hx)
    by_cases hp : p x = true
    · rw [if_pos hp] at hgo
      rw [hp] at hsx
      repeat' (first | refine goH ?_ | refine goV ?_ | refine goI ?_ | (refine Cw.k_cond ?_; first | (refine Cw.cond_dec rfl (fun hc => ?_) (fun hc => ?_) <;> try (exfalso; omega)) | refine Cw.cond_bool rfl (fun hc => ?_) (fun hc => ?_)) | (refine Ops.k_calla ?_; first | (refine Ops.call_fn rfl hsx (Evs.cons rfl Evs.nil) (by rw [List.append_nil]) rfl ?_; rintro r cs' ⟨rfl, hcs⟩; rw [hcs, List.append_nil])) | fail)
      exact Fin.ret Ent.refl (Outs.one rfl rfl) ⟨by rw [hgo], rfl⟩
    · rw [if_neg hp] at hgo
      rw [Bool.not_eq_true] at hp
      rw [hp] at hsx
      repeat' (first | refine goH ?_ | refine goV ?_ | refine goI ?_ | (refine Cw.k_cond ?_; first | (refine Cw.cond_dec rfl (fun hc => ?_) (fun hc => ?_) <;> try (exfalso; omega)) | refine Cw.cond_bool rfl (fun hc => ?_) (fun hc => ?_)) | (refine Ops.k_calla ?_; first | (refine Ops.call_fn rfl hsx (Evs.cons rfl Evs.nil) (by rw [List.append_nil]) rfl ?_; rintro r cs' ⟨rfl, hcs⟩; rw [hcs, List.append_nil])) | fail)
      exact ⟨k + 1, ⟨by omega, hgo⟩, by omega, Ent.sub goSub⟩
  · rw [List.drop_eq_nil_of_le (by omega), idxFrom] at hgo
    repeat' (first | refine goH ?_ | refine goV ?_ | refine goI ?_ | (refine Cw.k_cond ?_; first | (refine Cw.cond_dec rfl (fun hc => ?_) (fun hc => ?_) <;> try (exfalso; omega)) | refine Cw.cond_bool rfl (fun hc => ?_) (fun hc => ?_)) | fail)
    exact Fin.ret Ent.refl (Outs.one rfl rfl) ⟨by rw [hgo], rfl⟩

theorem containsFunc_piece {l : List Piece} {p : Piece → Bool} {g : Nat} {caps : List Value} {cin : List Chunk} (hl : l.length ≤ 1000000000)
    (hs : ∀ x, x ∈ l → Spec Tryz.prog g ([Tr.agg x.row] ++ caps.map Tr.raw) cin (fun r cs => r = Tr.bool (p x) ∧ cs = cin)) :
    Spec Tryz.prog 56 [Tr.sl 2 (l.map Piece.row), Tr.raw (.func (.func g) #[] caps.toArray)] cin (fun r cs => r = Tr.bool (l.any p) ∧ cs = cin) := by
  refine Spec.body Tryz.func56 rfl rfl (Tryz.ntmps56) rfl fun w0 own0 M => ?_
  repeat' (first | refine goH ?_ | refine goV ?_ | refine goI ?_ | (refine Cw.k_cond ?_; first | (refine Cw.cond_dec rfl (fun hc => ?_) (fun hc => ?_) <;> try (exfalso; omega)) | refine Cw.cond_bool rfl (fun hc => ?_) (fun hc => ?_)) | (refine Ops.k_calla ?_; first | (refine Ops.k_callf 68 ?_; (refine Ops.call (indexFunc_piece hl hs) (Evs.cons rfl (Evs.cons rfl Evs.nil)) (by rw [List.append_nil]) rfl ?_; rintro r cs' ⟨rfl, hcs⟩; rw [hcs, List.append_nil]))) | fail)
  refine Fin.ret Ent.refl (Outs.one rfl rfl) ⟨congrArg Tr.bool ?_, rfl⟩
  have := idxFrom_ge p l 0 (Int.le_refl _)
  by_cases h : 0 ≤ idxFrom p l 0
  · simp [h, this.1 h]
  · have h2 : l.any p = false := by rw [← Bool.not_eq_true]; exact fun e => h (this.2 e)
    simp [h, h2]

theorem strange_fn (c : Coil) (hc : c.ps.length ≤ 1000000) (l : List Lot) (hl : l.length ≤ 1000000) : PFn Tryz.prog 36 [.agg c.row, .lots l] (· = .bool (strangeB l c.ps)) := by
  have k := fun b E => containsFunc_piece (cin := [Chunk.box b E [.lots l]]) (caps := [.pointer (some ⟨b, 0, none⟩)]) (g := 57) (p := fun p => (findL l p.lot).isNone) (l := c.ps) (by omega) (fun p _ => strange1_fn p b E l hl)
  refine PFn.mk (Spec.body Tryz.func36 rfl rfl (Tryz.ntmps36) rfl fun w0 own0 M => ?_)
  unfold Coil.row
  repeat' (first | refine goH ?_ | refine goV ?_ | refine goB (fun b => ?_) | refine goI ?_ | (refine Cw.k_cond ?_; first | (refine Cw.cond_dec rfl (fun hc => ?_) (fun hc => ?_) <;> try (exfalso; omega)) | refine Cw.cond_bool rfl (fun hc => ?_) (fun hc => ?_)) | (refine Ops.k_calla ?_; first | (refine Ops.k_callf 56 ?_; refine Ops.callS (k _ _) (Evs.cons rfl (Evs.cons rfl Evs.nil)) goPk rfl ?_)) | fail)
  exact Fin.ret (Ent.take goTk) (Outs.one rfl rfl) ⟨rfl, rfl⟩

def coilDayErr (l : List Lot) (c : Coil) (day : Int) : Int := if lotsErr l ≠ 0 then lotsErr l else if coilErr c ≠ 0 then coilErr c else if strangeB l c.ps then 8 else if dayB day then 0 else 1
theorem knownFault_fn (c : Coil) (hc : c.ps.length ≤ 1000000) (l : List Lot) (hl : l.length ≤ 1000000) : PFn Tryz.prog 48 [.agg c.row, .lots l] (· = .int (if strangeB l c.ps then 8 else 0)) := by
  refine PFn.mk (Spec.body Tryz.func48 rfl rfl (Tryz.ntmps48) rfl fun w0 own0 M => ?_)
  obtain ⟨prod, most, ps⟩ := c
  unfold Coil.row
  simp only at hc ⊢
  have hL : (ps.map Piece.row).length = ps.length := List.length_map _
  repeat' (first | refine goH ?_ | refine goV ?_ | refine goB (fun b => ?_) | refine goI ?_ | (refine Cw.k_cond ?_; first | (refine Cw.cond_dec rfl (fun hc => ?_) (fun hc => ?_) <;> try (exfalso; omega)) | refine Cw.cond_bool rfl (fun hc => ?_) (fun hc => ?_)) | fail)
  refine Cw.loopI [(1, _), (10, _), (11, _)] _ (fun n e c => ∃ k : Nat, n = ps.length - k ∧ (k ≤ ps.length ∧ strangeB l ps = strangeB l (ps.drop k)) ∧ e = [(12, .int k)] ∧ c = []) ⟨_, _, _, (Ent.mkP goSub goPm), 0, rfl, ⟨by omega, by simp⟩, rfl, rfl⟩ ?_
  rintro _ _ _ ⟨k, rfl, ⟨hk, hV⟩, rfl, rfl⟩
  by_cases hkl : k < ps.length
  · obtain ⟨x, hx⟩ := at_lt hkl
    have hrow : (ps.map Piece.row)[k]? = some [.str x.lot, .int x.many] := rows_at hx
    have hlo := lotOf_fn l hl x.lot
    unfold Lot.row at hlo
    rw [drop_at hx, strangeB_cons] at hV
    cases hf : findL l x.lot with
    | none =>
      rw [hf] at hlo hV
      repeat' (first | refine goH ?_ | refine goV ?_ | refine goB (fun b => ?_) | refine goI ?_ | (refine Cw.k_cond ?_; first | (refine Cw.cond_dec rfl (fun hc => ?_) (fun hc => ?_) <;> try (exfalso; omega)) | refine Cw.cond_bool rfl (fun hc => ?_) (fun hc => ?_)) | (refine Ops.k_calla ?_; first | (refine Ops.k_callf 45 ?_; refine Ops.callV hlo (Evs.cons rfl (Evs.cons rfl Evs.nil)) rfl ?_)) | fail)
      refine Fin.ret (Ent.take goTk) (Outs.one rfl rfl) ⟨rfl, congrArg Tr.int ?_⟩
      rw [hV]
      rfl
    | some y =>
      rw [hf] at hlo hV
      repeat' (first | refine goH ?_ | refine goV ?_ | refine goB (fun b => ?_) | refine goI ?_ | (refine Cw.k_cond ?_; first | (refine Cw.cond_dec rfl (fun hc => ?_) (fun hc => ?_) <;> try (exfalso; omega)) | refine Cw.cond_bool rfl (fun hc => ?_) (fun hc => ?_)) | (refine Ops.k_calla ?_; first | (refine Ops.k_callf 45 ?_; refine Ops.callV hlo (Evs.cons rfl (Evs.cons rfl Evs.nil)) rfl ?_)) | fail)
      exact ⟨_, _, _, (Ent.mk goSub goTk), ⟨_, rfl, ⟨by omega, hV⟩, rfl, rfl⟩, by omega⟩
  · rw [List.drop_eq_nil_of_le (by omega)] at hV
    repeat' (first | refine goH ?_ | refine goV ?_ | refine goB (fun b => ?_) | refine goI ?_ | (refine Cw.k_cond ?_; first | (refine Cw.cond_dec rfl (fun hc => ?_) (fun hc => ?_) <;> try (exfalso; omega)) | refine Cw.cond_bool rfl (fun hc => ?_) (fun hc => ?_)) | fail)
    refine Fin.ret (Ent.take goTk) (Outs.one rfl rfl) ⟨rfl, congrArg Tr.int ?_⟩
    rw [hV]
    rfl

theorem coilsFault_fn (c : Coil) (hc : c.ps.length ≤ 1000000) (l : List Lot) (hl : l.length ≤ 1000000) : PFn Tryz.prog 44 [.agg c.row, .lots l] (· = .int (if lotsErr l ≠ 0 then lotsErr l else coilErr c)) := by
  refine PFn.mk (Spec.body Tryz.func44 rfl rfl (Tryz.ntmps44) rfl fun w0 own0 M => ?_)
  have h1 := refLots_fn l hl
  have h2 := refCoil_fn c hc
  have h3 := cmpOr_fn [lotsErr l, coilErr c] (by simp)
  unfold Coil.row at *
  repeat' (first | refine goH ?_ | refine goV ?_ | refine goB (fun b => ?_) | refine goI ?_ | (refine Cw.k_cond ?_; first | (refine Cw.cond_dec rfl (fun hc => ?_) (fun hc => ?_) <;> try (exfalso; omega)) | refine Cw.cond_bool rfl (fun hc => ?_) (fun hc => ?_)) | (refine Ops.k_calla ?_; first | (refine Ops.k_callf 63 ?_; refine Ops.callV h1 (Evs.cons rfl Evs.nil) rfl ?_) | (refine Ops.k_callf 8 ?_; refine Ops.callV h2 (Evs.cons rfl Evs.nil) rfl ?_) | (refine Ops.k_callf 47 ?_; refine Ops.callV h3 (Evs.cons rfl Evs.nil) rfl ?_)) | (apply OpW.k_call; first | (apply OpW.k_callf 63; exact OpW.callV h1 (Evs.cons rfl Evs.nil)) | (apply OpW.k_callf 8; exact OpW.callV h2 (Evs.cons rfl Evs.nil)) | (apply OpW.k_callf 47; exact OpW.callV h3 (Evs.cons rfl Evs.nil))) | refine goR ?_ | refine goP ?_ | apply PSeq.cons | apply PSeq.yes rfl rfl rfl | exact goW | fail)
  refine Fin.ret (Ent.take goTk) (Outs.one rfl rfl) ⟨rfl, congrArg Tr.int ?_⟩
  simp only [orI]
  repeat' split
  all_goals omega
end Lg
end
section
set_option linter.all false
set_option maxRecDepth 100000
set_option maxHeartbeats 4000000
namespace Lg
open Go Go.Proofs

def unitsU (ps : List Piece) : List ByteArray := ps.flatMap fun p => List.replicate p.many.toNat p.lot
theorem unitsU_cons (p : Piece) (ps : List Piece) : unitsU (p :: ps) = List.replicate p.many.toNat p.lot ++ unitsU ps := rfl
theorem unitsU_app (a b : List Piece) : unitsU (a ++ b) = unitsU a ++ unitsU b := by simp [unitsU]
theorem unitsU_len : ∀ {ps : List Piece}, (∀ p ∈ ps, 0 ≤ p.many) → ((unitsU ps).length : Int) = unitsI ps
  | [], _ => rfl
  | p :: ps, h => by
    have h1 := h p (by simp)
    have h2 := unitsU_len fun q hq => h q (List.mem_cons_of_mem p hq)
    rw [unitsU_cons, unitsI, sumF_cons, ← unitsI, List.length_append, List.length_replicate]
    omega
theorem take_snoc {α : Type} {l : List α} {k : Nat} {x : α} (h : l[k]? = some x) : l.take (k + 1) = l.take k ++ [x] := take_at h

/-- the lots of all units: it hands out a slice of its own -/
theorem units_ref (ps : List Piece) (hm : ∀ p ∈ ps, p.many ≤ 1000000) (hl : ps.length ≤ 1000000) : PFnO Tryz.prog 43 [.pieces ps] 1 9 (· = strRows (unitsU ps)) := by
  unfold PFnO
  refine Spec.body Tryz.func43 rfl rfl (Tryz.ntmps43) rfl fun w0 own0 M => ?_
  have hL : (ps.map Piece.row).length = ps.length := List.length_map _
  repeat' (first | refine goH ?_ | refine goV ?_ | refine goB (fun b => ?_) | refine goC (fun ad cap => ?_) | refine goI ?_ | (refine Cw.k_cond ?_; first | (refine Cw.cond_dec rfl (fun hc => ?_) (fun hc => ?_) <;> try (exfalso; omega)) | refine Cw.cond_bool rfl (fun hc => ?_) (fun hc => ?_)) | fail)
  refine Cw.loopI [(6, _), (7, _)] _ (fun n e c => ∃ (k : Nat) (ad : Option Addr) (cap : Nat) (rows : List (List Tr)), n = ps.length - k ∧ (k ≤ ps.length ∧ rows = strRows (unitsU (ps.take k)) ∧ rows.length ≤ 1000000 * k) ∧ e = [(3, Tr.raw (.slice ad rows.length cap)), (8, .int k)] ∧ c = [Chunk.own ad cap 1 9 rows])
    ⟨_, _, _, Ent.trans (Ent.nil 1 9) (Ent.mkP goSub goPm), 0, none, 0, [], rfl, ⟨by omega, by simp [unitsU, strRows], by simp⟩, rfl, rfl⟩ ?_
  rintro _ _ _ ⟨k, ad, cap, rows, rfl, ⟨hk, hrows, hlen⟩, rfl, rfl⟩
  by_cases hkl : k < ps.length
  · obtain ⟨x, hx⟩ := at_lt hkl
    have hrow : (ps.map Piece.row)[k]? = some [.str x.lot, .int x.many] := rows_at hx
    have hmx := hm x (List.mem_of_getElem? hx)
    repeat' (first | refine goH ?_ | refine goV ?_ | refine goB (fun b => ?_) | refine goC (fun ad cap => ?_) | refine goI ?_ | (refine Cw.k_cond ?_; first | (refine Cw.cond_dec rfl (fun hc => ?_) (fun hc => ?_) <;> try (exfalso; omega)) | refine Cw.cond_bool rfl (fun hc => ?_) (fun hc => ?_)) | fail)
    refine Cw.loopI [(5, _), (6, _), (7, _), (8, _), (13, _)] _ (fun n e c => ∃ (j : Nat) (ad : Option Addr) (cap : Nat) (rows : List (List Tr)), n = x.many.toNat - j ∧ (j ≤ x.many.toNat ∧ rows = strRows (unitsU (ps.take k) ++ List.replicate j x.lot) ∧ rows.length ≤ 1000000 * k + j) ∧ e = [(3, Tr.raw (.slice ad rows.length cap)), (14, .int j)] ∧ c = [Chunk.own ad cap 1 9 rows])
      ⟨_, _, _, (Ent.mkP goSub goPm), 0, ad, cap, rows, rfl, ⟨by omega, by simp [hrows], by omega⟩, rfl, rfl⟩ ?_
    clear hrows hlen
    rintro _ _ _ ⟨j, ad, cap, rows, rfl, ⟨hj, hrows, hlen⟩, rfl, rfl⟩
    by_cases hjl : (j : Int) < x.many
    · have key : rows ++ [[Tr.str x.lot]] = strRows (unitsU (ps.take k) ++ List.replicate (j + 1) x.lot) := by
        rw [hrows, List.replicate_succ', ← List.append_assoc, strRows_app (_ ++ _)]
        rfl
      repeat' (first | refine goH ?_ | refine goV ?_ | refine goB (fun b => ?_) | refine goC (fun ad cap => ?_) | refine goI ?_ | (refine Cw.k_cond ?_; first | (refine Cw.cond_dec rfl (fun hc => ?_) (fun hc => ?_) <;> try (exfalso; omega)) | refine Cw.cond_bool rfl (fun hc => ?_) (fun hc => ?_)) | fail)
      exact ⟨_, _, _, (Ent.mk goSub goTk), ⟨j + 1, _, _, _, rfl, ⟨by omega, key, by simp only [List.length_append, List.length_cons, List.length_nil]; omega⟩, rfl, rfl⟩, by omega⟩
    · repeat' (first | refine goH ?_ | refine goV ?_ | refine goB (fun b => ?_) | refine goC (fun ad cap => ?_) | refine goI ?_ | (refine Cw.k_cond ?_; first | (refine Cw.cond_dec rfl (fun hc => ?_) (fun hc => ?_) <;> try (exfalso; omega)) | refine Cw.cond_bool rfl (fun hc => ?_) (fun hc => ?_)) | fail)
      refine ⟨_, _, _, (Ent.mk goSub goTk), ⟨k + 1, _, _, _, rfl, ⟨by omega, ?_, by omega⟩, rfl, rfl⟩, by omega⟩
      rw [hrows, take_snoc hx, unitsU_app, show j = x.many.toNat by omega]
      simp [unitsU]
  · repeat' (first | refine goH ?_ | refine goV ?_ | refine goB (fun b => ?_) | refine goC (fun ad cap => ?_) | refine goI ?_ | (refine Cw.k_cond ?_; first | (refine Cw.cond_dec rfl (fun hc => ?_) (fun hc => ?_) <;> try (exfalso; omega)) | refine Cw.cond_bool rfl (fun hc => ?_) (fun hc => ?_)) | fail)
    refine Fin.ret (Ent.take goTk) (Outs.one rfl rfl) ⟨ad, cap, rows, rfl, rfl, ?_⟩
    rw [hrows, List.take_of_length_le (by omega)]

def expOf (l : List Lot) (id : ByteArray) : Int := (lotD l id).exp
def blockedI (l : List Lot) (day : Int) : List Piece → Int
  | [] => 0
  | p :: ps => if day ≤ expOf l p.lot then 0 else p.many + blockedI l day ps
def blockedU (l : List Lot) (day : Int) : List ByteArray → Int
  | [] => 0
  | s :: r => if day ≤ expOf l s then 0 else 1 + blockedU l day r
theorem blockedU_rep (l : List Lot) (day : Int) (s : ByteArray) (r : List ByteArray) : ∀ n, blockedU l day (List.replicate (n + 1) s ++ r) = if day ≤ expOf l s then 0 else ((n + 1 : Nat) : Int) + blockedU l day r
  | 0 => by simp [blockedU]
  | n + 1 => by
    rw [List.replicate_succ, List.cons_append, blockedU, blockedU_rep l day s r n]
    split <;> omega
theorem blockedU_units (l : List Lot) (day : Int) : ∀ {ps : List Piece}, (∀ p ∈ ps, 1 ≤ p.many) → blockedU l day (unitsU ps) = blockedI l day ps
  | [], _ => rfl
  | p :: ps, h => by
    have h1 := h p (by simp)
    obtain ⟨n, hn⟩ : ∃ n, p.many.toNat = n + 1 := ⟨p.many.toNat - 1, by omega⟩
    rw [unitsU_cons, hn, blockedU_rep, blockedU_units l day fun q hq => h q (List.mem_cons_of_mem p hq), blockedI]
    split <;> omega

theorem known_find {l : List Lot} {ps : List Piece} (h : strangeB l ps = false) : ∀ p ∈ ps, ∃ x, findL l p.lot = some x := by
  intro p hp
  unfold strangeB at h
  rw [List.any_eq_false] at h
  have := h p hp
  cases hf : findL l p.lot with
  | none => simp [hf] at this
  | some x => exact ⟨x, rfl⟩
theorem dayB_iff {n : Int} : dayB n = true ↔ 0 ≤ n ∧ n ≤ 4000 := by simp [dayB, outB]

theorem coilDay_ok {l : List Lot} {c : Coil} {day : Int} (h : coilDayErr l c day = 0) : lotsErr l = 0 ∧ coilErr c = 0 ∧ strangeB l c.ps = false ∧ dayB day = true := by
  unfold coilDayErr at h
  split at h
  · omega
  · split at h
    · omega
    · split at h
      · omega
      · rename_i h1 h2 h3
        split at h
        · rename_i h4
          exact ⟨by omega, by omega, by simpa using h3, h4⟩
        · omega
theorem coilErr_ok {c : Coil} (h : coilErr c = 0) : isKey c.prod = true ∧ 0 ≤ c.most ∧ c.most ≤ 1000 ∧ c.ps.length ≤ 1000 ∧ (∀ p ∈ c.ps, isKey p.lot = true ∧ 1 ≤ p.many ∧ p.many ≤ 1000) ∧ unitsI c.ps ≤ c.most := by
  unfold coilErr at h
  split at h
  · omega
  · split at h
    · omega
    · split at h
      · omega
      · split at h
        · rename_i h5; exact absurd h h5
        · rename_i h1 h2 h3 h4
          split at h
          · omega
          · exact ⟨by simpa using h1, by omega, by omega, by omega, pieces_ok (by simpa using h4), by omega⟩
theorem lotsErr_ok {l : List Lot} (h : lotsErr l = 0) : l.length ≤ 500 ∧ ∀ x ∈ l, isKey x.id = true ∧ isKey x.prod = true ∧ 0 ≤ x.exp ∧ x.exp ≤ 4000 ∧ 0 ≤ x.many ∧ x.many ≤ 100000 := by
  unfold lotsErr at h
  split at h
  · omega
  · refine ⟨by omega, fun x hx => ?_⟩
    obtain ⟨j, hj⟩ := List.getElem?_of_mem hx
    have hlt := (List.getElem?_eq_some_iff.1 hj).1
    have he := firstE_zero h j (by omega) (by omega)
    unfold lotE at he
    rw [hj] at he
    simp only at he
    split at he
    · omega
    · rename_i h1
      split at he
      · omega
      · unfold lotErr at he
        split at he
        · omega
        · rename_i h3
          split at he
          · omega
          · exact ⟨by simpa using h1, by simpa using h3, by omega, by omega, by omega, by omega⟩

end Lg
end
