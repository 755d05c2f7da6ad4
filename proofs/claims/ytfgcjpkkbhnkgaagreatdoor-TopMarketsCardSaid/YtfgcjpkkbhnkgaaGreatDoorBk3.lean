/- A part of the proof of a law of this seat: it adds no condition. By an AI agent. -/
import Derived.Test.YtfgcjpkkbhnkgaaGreatDoorMv2
section
set_option linter.all false
set_option maxRecDepth 100000
set_option maxHeartbeats 8000000
namespace Lg
open Go Go.Proofs

/-! ### wares -/
structure Wr where
 key : ByteArray
 price : Int
 group : ByteArray
def Wr.row (x : Wr) : List Tr := [.str x.key, .int x.price, .str x.group]
abbrev Tr.wrs (l : List Wr) : Tr := Tr.sl 3 (l.map Wr.row)
def ordWr : Option Wr → Wr → Bool
 |none, _ => false
 |some y, x => strLt x.key y.key || decide (x.key = y.key)
def wrX (p : Option Wr) (x : Wr) : Int := if isKey x.key = false then 5 else if isKey x.group = false then 5 else if ordWr p x = true then 7 else if x.price < 0 ∨ 100000 < x.price then 1 else 0
def prvO {α : Type} (l : List α) : Nat → Option α
 |0 => none
 |j + 1 => l[j]?
def wrE (l : List Wr) (k : Nat) : Int := match l[k]? with
 |none => 0
 |some x => wrX (prvO l k) x
def waresE (l : List Wr) : Int := if l.length > 200 then 2 else firstE (wrE l) 0 l.length
structure WrF (E : Int) (x : Wr) (q1 q2 ob : Bool) (N : Int) : Prop where
 e5a : (!q1) = true → E = 5
 e5b : (!q1) = false → (!q2) = true → E = 5
 e7 : (!q1) = false → (!q2) = false → ob = true → E = 7
 e1 : (!q1) = false → (!q2) = false → ob = false → (x.price < 0 ∨ 100000 < x.price) → E = 1
 ok : (!q1) = false → (!q2) = false → ob = false → ¬ (x.price < 0 ∨ 100000 < x.price) → E = N
theorem wrF {l : List Wr} {k : Nat} {x : Wr} {p : Option Wr} {E : Int} (hx : l[k]? = some x) (hp : prvO l k = p) (hV : E = firstE (wrE l) k (l.length - k)) (hkl : k < l.length) : WrF E x (isKey x.key) (isKey x.group) (ordWr p x) (firstE (wrE l) (k + 1) (l.length - (k + 1))) := by
 have he : wrE l k = wrX p x := by unfold wrE; rw [hx, hp]
 have fin : ∀ c : Int, wrX p x = c → c ≠ 0 → E = c := fun c h1 h2 => hV.trans (firstE_bad hkl (he.trans h1) h2)
 have nxt : wrX p x = 0 → E = firstE (wrE l) (k + 1) (l.length - (k + 1)) := fun h1 => hV.trans (firstE_ok hkl (he.trans h1))
 clear hV he
 unfold wrX at fin nxt
 generalize ordWr p x = ob at *
 generalize isKey x.key = q1 at *
 generalize isKey x.group = q2 at *
 refine ⟨?_, ?_, ?_, ?_, ?_⟩
 ·intro h; exact fin 5 (by rw [if_pos (by simpa using h)]) (by decide)
 ·intro h h2; exact fin 5 (by rw [if_neg (by simpa using h), if_pos (by simpa using h2)]) (by decide)
 ·intro h h2 h3; exact fin 7 (by rw [if_neg (by simpa using h), if_neg (by simpa using h2), if_pos h3]) (by decide)
 ·intro h h2 h3 h4; exact fin 1 (by rw [if_neg (by simpa using h), if_neg (by simpa using h2), if_neg (by simp [h3]), if_pos h4]) (by decide)
 ·intro h h2 h3 h4; exact nxt (by rw [if_neg (by simpa using h), if_neg (by simpa using h2), if_neg (by simp [h3]), if_neg h4])
theorem waresFault_fn (l : List Wr) (hl : l.length ≤ 1000000) : PFn Tryz.prog 56 [.wrs l] (· = .int (waresE l)) := by
 refine PFn.mk (Spec.body Tryz.func56 rfl rfl (Tryz.ntmps56) rfl fun w0 own0 M => ?_)
 have hL : (l.map Wr.row).length = l.length := List.length_map _
 by_cases h200 : l.length > 200
 ·rw [show waresE l = 2 by unfold waresE; rw [if_pos h200]]
  repeat' (first | refine goH ?_ | refine goV ?_ | refine goB (fun b => ?_) | refine goG ?_ | (refine Ops.k_guard ?_; first | (refine Ops.guard_dec rfl rfl ?_ ?_ <;> intro hc <;> try omega) | refine Ops.guard_split rfl rfl ?_ ?_ <;> intro hc) | refine goI ?_ | (refine Cw.k_cond ?_; first | (refine Cw.cond_dec rfl ?_ ?_ <;> intro hc <;> try omega) | refine Cw.cond_bool rfl ?_ ?_ <;> intro hc) | refine goR ?_ | refine goP ?_ | apply PSeq.cons | apply PSeq.yes rfl rfl rfl | exact goW | fail)
  exact Fin.ret (Ent.take goTk) (Outs.one rfl rfl) ⟨rfl, rfl⟩
 have hV0 : waresE l = firstE (wrE l) 0 (l.length - 0) := by unfold waresE; rw [if_neg h200]; rfl
 generalize waresE l = E at *
 repeat' (first | refine goH ?_ | refine goV ?_ | refine goB (fun b => ?_) | refine goG ?_ | (refine Ops.k_guard ?_; first | (refine Ops.guard_dec rfl rfl ?_ ?_ <;> intro hc <;> try omega) | refine Ops.guard_split rfl rfl ?_ ?_ <;> intro hc) | refine goI ?_ | (refine Cw.k_cond ?_; first | (refine Cw.cond_dec rfl ?_ ?_ <;> intro hc <;> try omega) | refine Cw.cond_bool rfl ?_ ?_ <;> intro hc) | refine goR ?_ | refine goP ?_ | apply PSeq.cons | apply PSeq.yes rfl rfl rfl | exact goW | fail)
 refine Cw.loopI [(0, _), (8, _), (9, _)] _ (fun n e c => ∃ k : Nat, n = l.length - k ∧ (k ≤ l.length ∧ E = firstE (wrE l) k (l.length - k)) ∧ e = [(10, .int k)] ∧ c = []) ⟨_, _, _, (Ent.mkP goSub goPm), 0, rfl, ⟨by omega, hV0⟩, rfl, rfl⟩ ?_
 clear hV0
 rintro _ _ _ ⟨k, rfl, ⟨hk, hV⟩, rfl, rfl⟩
 by_cases hkl : k < l.length
 rotate_left
 ·rw [firstE_end hkl] at hV
  subst hV
  repeat' (first | refine goH ?_ | refine goV ?_ | refine goB (fun b => ?_) | refine goG ?_ | (refine Ops.k_guard ?_; first | (refine Ops.guard_dec rfl rfl ?_ ?_ <;> intro hc <;> try omega) | refine Ops.guard_split rfl rfl ?_ ?_ <;> intro hc) | refine goI ?_ | (refine Cw.k_cond ?_; first | (refine Cw.cond_dec rfl ?_ ?_ <;> intro hc <;> try omega) | refine Cw.cond_bool rfl ?_ ?_ <;> intro hc) | refine goR ?_ | refine goP ?_ | apply PSeq.cons | apply PSeq.yes rfl rfl rfl | exact goW | fail)
  exact Fin.ret (Ent.take goTk) (Outs.one rfl rfl) ⟨rfl, rfl⟩
 obtain ⟨x, hx⟩ := at_lt hkl
 have hrow : (l.map Wr.row)[k]? = some [.str x.key, .int x.price, .str x.group] := rows_at hx
 have k1 := key_fn x.key
 have k2 := key_fn x.group
 have kO := out_fn x.price 0 100000
 by_cases hk0 : k = 0
 ·have F := wrF (p := none) hx (by rw [hk0]; rfl) hV hkl
  rw [show ordWr none x = false from rfl] at F
  generalize isKey x.key = q1 at *
  generalize isKey x.group = q2 at *
  clear hV hx
  repeat' (first | refine goH ?_ | refine goV ?_ | refine goB (fun b => ?_) | refine goG ?_ | (refine Ops.k_guard ?_; first | (refine Ops.guard_dec rfl rfl ?_ ?_ <;> intro hc <;> try omega) | refine Ops.guard_split rfl rfl ?_ ?_ <;> intro hc) | refine goI ?_ | (refine Cw.k_cond ?_; first | (refine Cw.cond_dec rfl ?_ ?_ <;> intro hc <;> try omega) | refine Cw.cond_bool rfl ?_ ?_ <;> intro hc) | (refine Ops.k_calla ?_; first | (refine Ops.k_callf 41 ?_; refine Ops.callV k1 (Evs.cons rfl Evs.nil) rfl ?_) | (refine Ops.k_callf 41 ?_; refine Ops.callV k2 (Evs.cons rfl Evs.nil) rfl ?_) | (refine Ops.k_callf 19 ?_; refine Ops.callV kO (Evs.cons rfl (Evs.cons rfl (Evs.cons rfl Evs.nil))) rfl ?_)) | (apply OpW.k_call; first | (apply OpW.k_callf 41; exact OpW.callV k1 (Evs.cons rfl Evs.nil)) | (apply OpW.k_callf 41; exact OpW.callV k2 (Evs.cons rfl Evs.nil)) | (apply OpW.k_callf 19; exact OpW.callV kO (Evs.cons rfl (Evs.cons rfl (Evs.cons rfl Evs.nil))))) | refine goR ?_ | refine goP ?_ | apply PSeq.cons | apply PSeq.yes rfl rfl rfl | exact goW | fail)
  all_goals first
   |(exfalso; omega)
   |exact ⟨_, _, _, (Ent.mk goSub goTk), ⟨k + 1, rfl, ⟨by omega, F.ok (by assumption) (by assumption) rfl (by omega)⟩, rfl, rfl⟩, by omega⟩
   |(refine Fin.ret (Ent.take goTk) (Outs.one rfl rfl) ⟨rfl, ?_⟩; first | (rw [F.e5a (by assumption)]; done) | (rw [F.e5b (by assumption) (by assumption)]; done) | (rw [F.e1 (by assumption) (by assumption) rfl (by omega)]; done))
 obtain ⟨j, hj⟩ : ∃ j, k = j + 1 := ⟨k - 1, by omega⟩
 obtain ⟨y, hy⟩ := at_lt (l := l) (k := j) (by omega)
 have hrow2 : (l.map Wr.row)[((k : Int) - 1).toNat]? = some [.str y.key, .int y.price, .str y.group] := by rw [show ((k : Int) - 1).toNat = j by omega]; exact rows_at hy
 have F := wrF (p := some y) hx (by rw [hj]; exact hy) hV hkl
 rw [show ordWr (some y) x = (strLt x.key y.key || decide (x.key = y.key)) from rfl] at F
 generalize isKey x.key = q1 at *
 generalize isKey x.group = q2 at *
 clear hV hx hy
 repeat' (first | refine goH ?_ | refine goV ?_ | refine goB (fun b => ?_) | refine goG ?_ | (refine Ops.k_guard ?_; first | (refine Ops.guard_dec rfl rfl ?_ ?_ <;> intro hc <;> try omega) | refine Ops.guard_split rfl rfl ?_ ?_ <;> intro hc) | refine goI ?_ | (refine Cw.k_cond ?_; first | (refine Cw.cond_dec rfl ?_ ?_ <;> intro hc <;> try omega) | refine Cw.cond_bool rfl ?_ ?_ <;> intro hc) | (refine Ops.k_calla ?_; first | (refine Ops.k_callf 41 ?_; refine Ops.callV k1 (Evs.cons rfl Evs.nil) rfl ?_) | (refine Ops.k_callf 41 ?_; refine Ops.callV k2 (Evs.cons rfl Evs.nil) rfl ?_) | (refine Ops.k_callf 19 ?_; refine Ops.callV kO (Evs.cons rfl (Evs.cons rfl (Evs.cons rfl Evs.nil))) rfl ?_)) | (apply OpW.k_call; first | (apply OpW.k_callf 41; exact OpW.callV k1 (Evs.cons rfl Evs.nil)) | (apply OpW.k_callf 41; exact OpW.callV k2 (Evs.cons rfl Evs.nil)) | (apply OpW.k_callf 19; exact OpW.callV kO (Evs.cons rfl (Evs.cons rfl (Evs.cons rfl Evs.nil))))) | refine goR ?_ | refine goP ?_ | apply PSeq.cons | apply PSeq.yes rfl rfl rfl | exact goW | fail)
 all_goals first
  |(exfalso; omega)
  |exact ⟨_, _, _, (Ent.mk goSub goTk), ⟨k + 1, rfl, ⟨by omega, F.ok (by assumption) (by assumption) (by assumption) (by omega)⟩, rfl, rfl⟩, by omega⟩
  |(refine Fin.ret (Ent.take goTk) (Outs.one rfl rfl) ⟨rfl, ?_⟩; first | (rw [F.e5a (by assumption)]; done) | (rw [F.e5b (by assumption) (by assumption)]; done) | (rw [F.e7 (by assumption) (by assumption) (by assumption)]; done) | (rw [F.e1 (by assumption) (by assumption) (by assumption) (by omega)]; done))
end Lg
end
section
set_option linter.all false
set_option maxRecDepth 100000
set_option maxHeartbeats 8000000
namespace Lg
open Go Go.Proofs

/-! ### a ware by its key; baskets -/
theorem indexFunc_wr {l : List Wr} {p : Wr → Bool} {g : Nat} {caps : List Value} {cin : List Chunk} (hl : l.length ≤ 1000000000)
  (hs : ∀ x, x ∈ l → Spec Tryz.prog g ([Tr.agg x.row] ++ caps.map Tr.raw) cin (fun r cs => r = Tr.bool (p x) ∧ cs = cin)) :
  Spec Tryz.prog 59 [Tr.sl 3 (l.map Wr.row), Tr.raw (.func (.func g) #[] caps.toArray)] cin (fun r cs => r = Tr.int (idxFrom p l 0) ∧ cs = cin) := by
 refine Spec.body Tryz.func59 rfl rfl (Tryz.ntmps59) rfl fun w0 own0 M => ?_
 have hL : (l.map Wr.row).length = l.length := List.length_map _
 repeat' (first | refine goH ?_ | refine goV ?_ | refine goI ?_ | (refine Cw.k_cond ?_; first | (refine Cw.cond_dec rfl ?_ ?_ <;> intro hc <;> try omega) | refine Cw.cond_bool rfl ?_ ?_ <;> intro hc) | fail)
 refine Cw.loop (ι := Nat) (fun k => k ≤ l.length ∧ idxFrom p l 0 = idxFrom p (l.drop k) k) (fun k => [(0, Tr.sl 3 (l.map Wr.row)), (1, Tr.raw (.func (.func g) #[] caps.toArray)), (7, .int (l.map Wr.row).length), (8, .int k)]) (fun _ => cin) (fun k => l.length - k) ⟨0, ⟨by omega, rfl⟩, Ent.sub goSub⟩ ?_
 rintro k ⟨hk, hgo⟩
 by_cases hkl : k < l.length
 ·obtain ⟨x, hx⟩ : ∃ x, l[k]? = some x := ⟨_, List.getElem?_eq_getElem hkl⟩
  have hrow : (l.map Wr.row)[k]? = some [.str x.key, .int x.price, .str x.group] := rows_at hx
  have hdrop := idxFrom_drop p hx
  rw [hdrop] at hgo
  have hsx := hs x (List.mem_of_getElem? hx)
  by_cases hp : p x = true
  ·rw [if_pos hp] at hgo
   rw [hp] at hsx
   repeat' (first | refine goH ?_ | refine goV ?_ | refine goI ?_ | (refine Cw.k_cond ?_; first | (refine Cw.cond_dec rfl ?_ ?_ <;> intro hc <;> try omega) | refine Cw.cond_bool rfl ?_ ?_ <;> intro hc) | (refine Ops.k_calla ?_; first | (refine Ops.call_fn rfl hsx (Evs.cons rfl Evs.nil) (by rw [List.append_nil]) rfl ?_; rintro r cs' ⟨rfl, hcs⟩; rw [hcs, List.append_nil])) | fail)
   exact Fin.ret Ent.refl (Outs.one rfl rfl) ⟨by rw [hgo], rfl⟩
  ·rw [if_neg hp] at hgo
   rw [Bool.not_eq_true] at hp
   rw [hp] at hsx
   repeat' (first | refine goH ?_ | refine goV ?_ | refine goI ?_ | (refine Cw.k_cond ?_; first | (refine Cw.cond_dec rfl ?_ ?_ <;> intro hc <;> try omega) | refine Cw.cond_bool rfl ?_ ?_ <;> intro hc) | (refine Ops.k_calla ?_; first | (refine Ops.call_fn rfl hsx (Evs.cons rfl Evs.nil) (by rw [List.append_nil]) rfl ?_; rintro r cs' ⟨rfl, hcs⟩; rw [hcs, List.append_nil])) | fail)
   exact ⟨k + 1, ⟨by omega, hgo⟩, by omega, Ent.sub goSub⟩
 ·rw [List.drop_eq_nil_of_le (by omega), idxFrom] at hgo
  repeat' (first | refine goH ?_ | refine goV ?_ | refine goI ?_ | (refine Cw.k_cond ?_; first | (refine Cw.cond_dec rfl ?_ ?_ <;> intro hc <;> try omega) | refine Cw.cond_bool rfl ?_ ?_ <;> intro hc) | fail)
  exact Fin.ret Ent.refl (Outs.one rfl rfl) ⟨by rw [hgo], rfl⟩


def wrF1 (l : List Wr) (k : ByteArray) : Option Wr := l.find? (fun x => decide (x.key = k))
def wrIx (l : List Wr) (k : ByteArray) : Int := idxFrom (fun x : Wr => decide (x.key = k)) l 0
def wrD (l : List Wr) (k : ByteArray) : Wr := (wrF1 l k).getD ⟨⟨#[]⟩, 0, ⟨#[]⟩⟩
theorem wrIx_none {l : List Wr} {k : ByteArray} (h : wrF1 l k = none) : wrIx l k = -1 := (idxFrom_find _ l 0).1 h
theorem wrIx_some {l : List Wr} {k : ByteArray} {x : Wr} (h : wrF1 l k = some x) : ∃ j : Nat, wrIx l k = j ∧ l[j]? = some x := by
 obtain ⟨j, h1, h2⟩ := (idxFrom_find _ l 0).2 x h
 exact ⟨j, by unfold wrIx; omega, h2⟩
theorem wrIx_neg {l : List Wr} {k : ByteArray} : decide (wrIx l k < 0) = (wrF1 l k).isNone := by
 cases h : wrF1 l k with
 |none => rw [wrIx_none h]; rfl
 |some x => obtain ⟨j, h1, _⟩ := wrIx_some h; rw [h1]; simp
theorem ware1_fn (x : Wr) (b E : Nat) (k : ByteArray) : Spec Tryz.prog 60 [.agg x.row, .ptr b] [Chunk.box b E [.str k]] (fun r cs => r = .bool (decide (x.key = k)) ∧ cs = [Chunk.box b E [.str k]]) := by
 refine Spec.body Tryz.func60 rfl rfl (Tryz.ntmps60) rfl fun w0 own0 M => ?_
 unfold Wr.row
 repeat' (first | refine goH ?_ | refine goV ?_ | refine goB (fun b => ?_) | refine goI ?_ | (refine Cw.k_cond ?_; first | (refine Cw.cond_dec rfl ?_ ?_ <;> intro hc <;> try omega) | refine Cw.cond_bool rfl ?_ ?_ <;> intro hc) | fail)
 exact Fin.ret (Ent.take goTk) (Outs.one rfl rfl) ⟨rfl, rfl⟩
theorem ware_fn (l : List Wr) (hl : l.length ≤ 1000000) (k : ByteArray) : PFn Tryz.prog 27 [.wrs l, .str k] (· = .int (wrIx l k)) := by
 have kk := fun b E => indexFunc_wr (cin := [Chunk.box b E [.str k]]) (caps := [.pointer (some ⟨b, 0, none⟩)]) (g := 60) (p := fun x => decide (x.key = k)) (l := l) (by omega) (fun x _ => ware1_fn x b E k)
 refine PFn.mk (Spec.body Tryz.func27 rfl rfl (Tryz.ntmps27) rfl fun w0 own0 M => ?_)
 repeat' (first | refine goH ?_ | refine goV ?_ | refine goB (fun b => ?_) | refine goI ?_ | (refine Cw.k_cond ?_; first | (refine Cw.cond_dec rfl ?_ ?_ <;> intro hc <;> try omega) | refine Cw.cond_bool rfl ?_ ?_ <;> intro hc) | (refine Ops.k_calla ?_; first | (refine Ops.k_callf 59 ?_; refine Ops.callS (kk _ _) (Evs.cons rfl (Evs.cons rfl Evs.nil)) goPk rfl ?_)) | fail)
 exact Fin.ret (Ent.take goTk) (Outs.one rfl rfl) ⟨rfl, rfl⟩
/-! ### baskets -/
def ordNm : Option Nm → Nm → Bool
 |none, _ => false
 |some y, x => strLt x.key y.key || decide (x.key = y.key)
def bkX (w : List Wr) (p : Option Nm) (x : Nm) : Int := if (wrF1 w x.key).isNone = true then 8 else if ordNm p x = true then 7 else if x.many < 1 ∨ 100 < x.many then 1 else 0
def bkE (w : List Wr) (l : List Nm) (k : Nat) : Int := match l[k]? with
 |none => 0
 |some x => bkX w (prvO l k) x
def bskE (w : List Wr) (l : List Nm) : Int := if waresE w ≠ 0 then waresE w else if l.length > 100 then 2 else firstE (bkE w l) 0 l.length
structure BkF (E : Int) (x : Nm) (q1 ob : Bool) (N : Int) : Prop where
 e8 : q1 = true → E = 8
 e7 : q1 = false → ob = true → E = 7
 e1 : q1 = false → ob = false → (x.many < 1 ∨ 100 < x.many) → E = 1
 ok : q1 = false → ob = false → ¬ (x.many < 1 ∨ 100 < x.many) → E = N
theorem bkF {w : List Wr} {l : List Nm} {k : Nat} {x : Nm} {p : Option Nm} {E : Int} (hx : l[k]? = some x) (hp : prvO l k = p) (hV : E = firstE (bkE w l) k (l.length - k)) (hkl : k < l.length) : BkF E x (wrF1 w x.key).isNone (ordNm p x) (firstE (bkE w l) (k + 1) (l.length - (k + 1))) := by
 have he : bkE w l k = bkX w p x := by unfold bkE; rw [hx, hp]
 have fin : ∀ c : Int, bkX w p x = c → c ≠ 0 → E = c := fun c h1 h2 => hV.trans (firstE_bad hkl (he.trans h1) h2)
 have nxt : bkX w p x = 0 → E = firstE (bkE w l) (k + 1) (l.length - (k + 1)) := fun h1 => hV.trans (firstE_ok hkl (he.trans h1))
 clear hV he
 unfold bkX at fin nxt
 generalize ordNm p x = ob at *
 generalize (wrF1 w x.key).isNone = q1 at *
 refine ⟨?_, ?_, ?_, ?_⟩
 ·intro h; exact fin 8 (by rw [if_pos h]) (by decide)
 ·intro h h2; exact fin 7 (by rw [if_neg (by simp [h]), if_pos h2]) (by decide)
 ·intro h h2 h3; exact fin 1 (by rw [if_neg (by simp [h]), if_neg (by simp [h2]), if_pos h3]) (by decide)
 ·intro h h2 h3; exact nxt (by rw [if_neg (by simp [h]), if_neg (by simp [h2]), if_neg h3])
theorem checkBasket_fn (w : List Wr) (l : List Nm) (hw : w.length ≤ 1000000) (hl : l.length ≤ 1000000) : PFn Tryz.prog 26 [.wrs w, .nms l] (· = .int (bskE w l)) := by
 have k0 := waresFault_fn w hw
 refine PFn.mk (Spec.body Tryz.func26 rfl rfl (Tryz.ntmps26) rfl fun w0 own0 M => ?_)
 have hL : (l.map Nm.row).length = l.length := List.length_map _
 by_cases hw0 : waresE w ≠ 0
 ·rw [show bskE w l = waresE w by unfold bskE; rw [if_pos hw0]]
  generalize waresE w = z at *
  repeat' (first | refine goH ?_ | refine goV ?_ | refine goB (fun b => ?_) | refine goG ?_ | (refine Ops.k_guard ?_; first | (refine Ops.guard_dec rfl rfl ?_ ?_ <;> intro hc <;> try omega) | refine Ops.guard_split rfl rfl ?_ ?_ <;> intro hc) | refine goI ?_ | (refine Cw.k_cond ?_; first | (refine Cw.cond_dec rfl ?_ ?_ <;> intro hc <;> try omega) | refine Cw.cond_bool rfl ?_ ?_ <;> intro hc) | (refine Ops.k_calla ?_; first | (refine Ops.k_callf 56 ?_; refine Ops.callV k0 (Evs.cons rfl Evs.nil) rfl ?_)) | (apply OpW.k_call; first | (apply OpW.k_callf 56; exact OpW.callV k0 (Evs.cons rfl Evs.nil))) | refine goR ?_ | refine goP ?_ | apply PSeq.cons | apply PSeq.yes rfl rfl rfl | exact goW | fail)
  exact Fin.ret (Ent.take goTk) (Outs.one rfl rfl) ⟨rfl, rfl⟩
 rw [show waresE w = 0 by omega] at k0
 by_cases h200 : l.length > 100
 ·rw [show bskE w l = 2 by unfold bskE; rw [if_neg hw0, if_pos h200]]
  repeat' (first | refine goH ?_ | refine goV ?_ | refine goB (fun b => ?_) | refine goG ?_ | (refine Ops.k_guard ?_; first | (refine Ops.guard_dec rfl rfl ?_ ?_ <;> intro hc <;> try omega) | refine Ops.guard_split rfl rfl ?_ ?_ <;> intro hc) | refine goI ?_ | (refine Cw.k_cond ?_; first | (refine Cw.cond_dec rfl ?_ ?_ <;> intro hc <;> try omega) | refine Cw.cond_bool rfl ?_ ?_ <;> intro hc) | (refine Ops.k_calla ?_; first | (refine Ops.k_callf 56 ?_; refine Ops.callV k0 (Evs.cons rfl Evs.nil) rfl ?_)) | (apply OpW.k_call; first | (apply OpW.k_callf 56; exact OpW.callV k0 (Evs.cons rfl Evs.nil))) | refine goR ?_ | refine goP ?_ | apply PSeq.cons | apply PSeq.yes rfl rfl rfl | exact goW | fail)
  exact Fin.ret (Ent.take goTk) (Outs.one rfl rfl) ⟨rfl, rfl⟩
 have hV0 : bskE w l = firstE (bkE w l) 0 (l.length - 0) := by unfold bskE; rw [if_neg hw0, if_neg h200]; rfl
 generalize bskE w l = E at *
 repeat' (first | refine goH ?_ | refine goV ?_ | refine goB (fun b => ?_) | refine goG ?_ | (refine Ops.k_guard ?_; first | (refine Ops.guard_dec rfl rfl ?_ ?_ <;> intro hc <;> try omega) | refine Ops.guard_split rfl rfl ?_ ?_ <;> intro hc) | refine goI ?_ | (refine Cw.k_cond ?_; first | (refine Cw.cond_dec rfl ?_ ?_ <;> intro hc <;> try omega) | refine Cw.cond_bool rfl ?_ ?_ <;> intro hc) | (refine Ops.k_calla ?_; first | (refine Ops.k_callf 56 ?_; refine Ops.callV k0 (Evs.cons rfl Evs.nil) rfl ?_)) | (apply OpW.k_call; first | (apply OpW.k_callf 56; exact OpW.callV k0 (Evs.cons rfl Evs.nil))) | refine goR ?_ | refine goP ?_ | apply PSeq.cons | apply PSeq.yes rfl rfl rfl | exact goW | fail)
 clear k0
 refine Cw.loopI [(0, _), (1, _), (16, _), (17, _)] _ (fun n e c => ∃ k : Nat, n = l.length - k ∧ (k ≤ l.length ∧ E = firstE (bkE w l) k (l.length - k)) ∧ e = [(18, .int k)] ∧ c = []) ⟨_, _, _, (Ent.mkP goSub goPm), 0, rfl, ⟨by omega, hV0⟩, rfl, rfl⟩ ?_
 clear hV0
 rintro _ _ _ ⟨k, rfl, ⟨hk, hV⟩, rfl, rfl⟩
 by_cases hkl : k < l.length
 rotate_left
 ·rw [firstE_end hkl] at hV
  subst hV
  repeat' (first | refine goH ?_ | refine goV ?_ | refine goB (fun b => ?_) | refine goG ?_ | (refine Ops.k_guard ?_; first | (refine Ops.guard_dec rfl rfl ?_ ?_ <;> intro hc <;> try omega) | refine Ops.guard_split rfl rfl ?_ ?_ <;> intro hc) | refine goI ?_ | (refine Cw.k_cond ?_; first | (refine Cw.cond_dec rfl ?_ ?_ <;> intro hc <;> try omega) | refine Cw.cond_bool rfl ?_ ?_ <;> intro hc) | refine goR ?_ | refine goP ?_ | apply PSeq.cons | apply PSeq.yes rfl rfl rfl | exact goW | fail)
  exact Fin.ret (Ent.take goTk) (Outs.one rfl rfl) ⟨rfl, rfl⟩
 obtain ⟨x, hx⟩ := at_lt hkl
 have hrow : (l.map Nm.row)[k]? = some [.str x.key, .int x.many] := rows_at hx
 have k1 := ware_fn w hw x.key
 have kO := out_fn x.many 1 100
 have hneg := wrIx_neg (l := w) (k := x.key)
 by_cases hk0 : k = 0
 ·have F := bkF (w := w) (p := none) hx (by rw [hk0]; rfl) hV hkl
  rw [show ordNm none x = false from rfl] at F
  rw [← hneg] at F
  generalize wrIx w x.key = q1 at *
  clear hV hx hneg
  repeat' (first | refine goH ?_ | refine goV ?_ | refine goB (fun b => ?_) | refine goG ?_ | (refine Ops.k_guard ?_; first | (refine Ops.guard_dec rfl rfl ?_ ?_ <;> intro hc <;> try omega) | refine Ops.guard_split rfl rfl ?_ ?_ <;> intro hc) | refine goI ?_ | (refine Cw.k_cond ?_; first | (refine Cw.cond_dec rfl ?_ ?_ <;> intro hc <;> try omega) | refine Cw.cond_bool rfl ?_ ?_ <;> intro hc) | (refine Ops.k_calla ?_; first | (refine Ops.k_callf 27 ?_; refine Ops.callV k1 (Evs.cons rfl (Evs.cons rfl Evs.nil)) rfl ?_) | (refine Ops.k_callf 19 ?_; refine Ops.callV kO (Evs.cons rfl (Evs.cons rfl (Evs.cons rfl Evs.nil))) rfl ?_)) | (apply OpW.k_call; first | (apply OpW.k_callf 27; exact OpW.callV k1 (Evs.cons rfl (Evs.cons rfl Evs.nil))) | (apply OpW.k_callf 19; exact OpW.callV kO (Evs.cons rfl (Evs.cons rfl (Evs.cons rfl Evs.nil))))) | refine goR ?_ | refine goP ?_ | apply PSeq.cons | apply PSeq.yes rfl rfl rfl | exact goW | fail)
  all_goals first
   |(exfalso; omega)
   |exact ⟨_, _, _, (Ent.mk goSub goTk), ⟨k + 1, rfl, ⟨by omega, F.ok (decide_eq_false (by assumption)) rfl (by omega)⟩, rfl, rfl⟩, by omega⟩
   |(refine Fin.ret (Ent.take goTk) (Outs.one rfl rfl) ⟨rfl, ?_⟩; first | (rw [F.e8 (decide_eq_true (by assumption))]; done) | (rw [F.e1 (decide_eq_false (by assumption)) rfl (by omega)]; done))
 obtain ⟨j, hj⟩ : ∃ j, k = j + 1 := ⟨k - 1, by omega⟩
 obtain ⟨y, hy⟩ := at_lt (l := l) (k := j) (by omega)
 have hrow2 : (l.map Nm.row)[((k : Int) - 1).toNat]? = some [.str y.key, .int y.many] := by rw [show ((k : Int) - 1).toNat = j by omega]; exact rows_at hy
 have F := bkF (w := w) (p := some y) hx (by rw [hj]; exact hy) hV hkl
 rw [show ordNm (some y) x = (strLt x.key y.key || decide (x.key = y.key)) from rfl] at F
 rw [← hneg] at F
 generalize wrIx w x.key = q1 at *
 clear hV hx hy hneg
 repeat' (first | refine goH ?_ | refine goV ?_ | refine goB (fun b => ?_) | refine goG ?_ | (refine Ops.k_guard ?_; first | (refine Ops.guard_dec rfl rfl ?_ ?_ <;> intro hc <;> try omega) | refine Ops.guard_split rfl rfl ?_ ?_ <;> intro hc) | refine goI ?_ | (refine Cw.k_cond ?_; first | (refine Cw.cond_dec rfl ?_ ?_ <;> intro hc <;> try omega) | refine Cw.cond_bool rfl ?_ ?_ <;> intro hc) | (refine Ops.k_calla ?_; first | (refine Ops.k_callf 27 ?_; refine Ops.callV k1 (Evs.cons rfl (Evs.cons rfl Evs.nil)) rfl ?_) | (refine Ops.k_callf 19 ?_; refine Ops.callV kO (Evs.cons rfl (Evs.cons rfl (Evs.cons rfl Evs.nil))) rfl ?_)) | (apply OpW.k_call; first | (apply OpW.k_callf 27; exact OpW.callV k1 (Evs.cons rfl (Evs.cons rfl Evs.nil))) | (apply OpW.k_callf 19; exact OpW.callV kO (Evs.cons rfl (Evs.cons rfl (Evs.cons rfl Evs.nil))))) | refine goR ?_ | refine goP ?_ | apply PSeq.cons | apply PSeq.yes rfl rfl rfl | exact goW | fail)
 all_goals first
  |(exfalso; omega)
  |exact ⟨_, _, _, (Ent.mk goSub goTk), ⟨k + 1, rfl, ⟨by omega, F.ok (decide_eq_false (by assumption)) (by assumption) (by omega)⟩, rfl, rfl⟩, by omega⟩
  |(refine Fin.ret (Ent.take goTk) (Outs.one rfl rfl) ⟨rfl, ?_⟩; first | (rw [F.e8 (decide_eq_true (by assumption))]; done) | (rw [F.e7 (decide_eq_false (by assumption)) (by assumption)]; done) | (rw [F.e1 (decide_eq_false (by assumption)) (by assumption) (by omega)]; done))
end Lg
end
section
set_option linter.all false
set_option maxRecDepth 100000
set_option maxHeartbeats 8000000
namespace Lg
open Go Go.Proofs

/-! ### deals -/
structure Dl where
 key : ByteArray
 group : ByteArray
 many : Int
 free : Int
def Dl.row (x : Dl) : List Tr := [.str x.key, .str x.group, .int x.many, .int x.free]
abbrev Tr.dls (l : List Dl) : Tr := Tr.sl 4 (l.map Dl.row)
theorem indexFunc_dl {l : List Dl} {p : Dl → Bool} {g : Nat} {caps : List Value} {cin : List Chunk} (hl : l.length ≤ 1000000000)
  (hs : ∀ x, x ∈ l → Spec Tryz.prog g ([Tr.agg x.row] ++ caps.map Tr.raw) cin (fun r cs => r = Tr.bool (p x) ∧ cs = cin)) :
  Spec Tryz.prog 99 [Tr.sl 4 (l.map Dl.row), Tr.raw (.func (.func g) #[] caps.toArray)] cin (fun r cs => r = Tr.int (idxFrom p l 0) ∧ cs = cin) := by
 refine Spec.body Tryz.func99 rfl rfl (Tryz.ntmps99) rfl fun w0 own0 M => ?_
 have hL : (l.map Dl.row).length = l.length := List.length_map _
 repeat' (first | refine goH ?_ | refine goV ?_ | refine goI ?_ | (refine Cw.k_cond ?_; first | (refine Cw.cond_dec rfl ?_ ?_ <;> intro hc <;> try omega) | refine Cw.cond_bool rfl ?_ ?_ <;> intro hc) | fail)
 refine Cw.loop (ι := Nat) (fun k => k ≤ l.length ∧ idxFrom p l 0 = idxFrom p (l.drop k) k) (fun k => [(0, Tr.sl 4 (l.map Dl.row)), (1, Tr.raw (.func (.func g) #[] caps.toArray)), (7, .int (l.map Dl.row).length), (8, .int k)]) (fun _ => cin) (fun k => l.length - k) ⟨0, ⟨by omega, rfl⟩, Ent.sub goSub⟩ ?_
 rintro k ⟨hk, hgo⟩
 by_cases hkl : k < l.length
 ·obtain ⟨x, hx⟩ : ∃ x, l[k]? = some x := ⟨_, List.getElem?_eq_getElem hkl⟩
  have hrow : (l.map Dl.row)[k]? = some [.str x.key, .str x.group, .int x.many, .int x.free] := rows_at hx
  have hdrop := idxFrom_drop p hx
  rw [hdrop] at hgo
  have hsx := hs x (List.mem_of_getElem? hx)
  by_cases hp : p x = true
  ·rw [if_pos hp] at hgo
   rw [hp] at hsx
   repeat' (first | refine goH ?_ | refine goV ?_ | refine goI ?_ | (refine Cw.k_cond ?_; first | (refine Cw.cond_dec rfl ?_ ?_ <;> intro hc <;> try omega) | refine Cw.cond_bool rfl ?_ ?_ <;> intro hc) | (refine Ops.k_calla ?_; first | (refine Ops.call_fn rfl hsx (Evs.cons rfl Evs.nil) (by rw [List.append_nil]) rfl ?_; rintro r cs' ⟨rfl, hcs⟩; rw [hcs, List.append_nil])) | fail)
   exact Fin.ret Ent.refl (Outs.one rfl rfl) ⟨by rw [hgo], rfl⟩
  ·rw [if_neg hp] at hgo
   rw [Bool.not_eq_true] at hp
   rw [hp] at hsx
   repeat' (first | refine goH ?_ | refine goV ?_ | refine goI ?_ | (refine Cw.k_cond ?_; first | (refine Cw.cond_dec rfl ?_ ?_ <;> intro hc <;> try omega) | refine Cw.cond_bool rfl ?_ ?_ <;> intro hc) | (refine Ops.k_calla ?_; first | (refine Ops.call_fn rfl hsx (Evs.cons rfl Evs.nil) (by rw [List.append_nil]) rfl ?_; rintro r cs' ⟨rfl, hcs⟩; rw [hcs, List.append_nil])) | fail)
   exact ⟨k + 1, ⟨by omega, hgo⟩, by omega, Ent.sub goSub⟩
 ·rw [List.drop_eq_nil_of_le (by omega), idxFrom] at hgo
  repeat' (first | refine goH ?_ | refine goV ?_ | refine goI ?_ | (refine Cw.k_cond ?_; first | (refine Cw.cond_dec rfl ?_ ?_ <;> intro hc <;> try omega) | refine Cw.cond_bool rfl ?_ ?_ <;> intro hc) | fail)
  exact Fin.ret Ent.refl (Outs.one rfl rfl) ⟨by rw [hgo], rfl⟩

theorem containsFunc_dl {l : List Dl} {p : Dl → Bool} {g : Nat} {caps : List Value} {cin : List Chunk} (hl : l.length ≤ 1000000000)
  (hs : ∀ x, x ∈ l → Spec Tryz.prog g ([Tr.agg x.row] ++ caps.map Tr.raw) cin (fun r cs => r = Tr.bool (p x) ∧ cs = cin)) :
  Spec Tryz.prog 57 [Tr.sl 4 (l.map Dl.row), Tr.raw (.func (.func g) #[] caps.toArray)] cin (fun r cs => r = Tr.bool (l.any p) ∧ cs = cin) := by
 refine Spec.body Tryz.func57 rfl rfl (Tryz.ntmps57) rfl fun w0 own0 M => ?_
 repeat' (first | refine goH ?_ | refine goV ?_ | refine goI ?_ | (refine Cw.k_cond ?_; first | (refine Cw.cond_dec rfl ?_ ?_ <;> intro hc <;> try omega) | refine Cw.cond_bool rfl ?_ ?_ <;> intro hc) | (refine Ops.k_calla ?_; first | (refine Ops.k_callf 99 ?_; (refine Ops.call (indexFunc_dl hl hs) (Evs.cons rfl (Evs.cons rfl Evs.nil)) (by rw [List.append_nil]) rfl ?_; rintro r cs' ⟨rfl, hcs⟩; rw [hcs, List.append_nil]))) | fail)
 refine Fin.ret Ent.refl (Outs.one rfl rfl) ⟨congrArg Tr.bool ?_, rfl⟩
 have := idxFrom_ge p l 0 (Int.le_refl _)
 by_cases h : 0 ≤ idxFrom p l 0
 ·simp [h, this.1 h]
 ·have h2 : l.any p = false := by rw [← Bool.not_eq_true]; exact fun e => h (this.2 e)
  simp [h, h2]

def ordDl : Option Dl → Dl → Bool
 |none, _ => false
 |some y, x => strLt x.key y.key || decide (x.key = y.key)
def twDl (pre : List Dl) (x : Dl) : Bool := pre.any fun y => decide (y.group = x.group)
def dlX (pre : List Dl) (p : Option Dl) (x : Dl) : Int := if isKey x.key = false then 5 else if isKey x.group = false then 5 else if ordDl p x = true then 7 else if twDl pre x = true then 6 else if x.many < 2 ∨ 20 < x.many then 1 else if x.free < 1 ∨ x.many - 1 < x.free then 1 else 0
def dlE (l : List Dl) (k : Nat) : Int := match l[k]? with
 |none => 0
 |some x => dlX (l.take k) (prvO l k) x
def dealE (w : List Wr) (l : List Dl) : Int := if waresE w ≠ 0 then waresE w else if l.length > 20 then 2 else firstE (dlE l) 0 l.length
structure DlF (E : Int) (x : Dl) (q1 q2 ob tw : Bool) (N : Int) : Prop where
 e5a : (!q1) = true → E = 5
 e5b : (!q1) = false → (!q2) = true → E = 5
 e7 : (!q1) = false → (!q2) = false → ob = true → E = 7
 e6 : (!q1) = false → (!q2) = false → ob = false → tw = true → E = 6
 e1 : (!q1) = false → (!q2) = false → ob = false → tw = false → (x.many < 2 ∨ 20 < x.many ∨ x.free < 1 ∨ x.many - 1 < x.free) → E = 1
 ok : (!q1) = false → (!q2) = false → ob = false → tw = false → ¬ (x.many < 2 ∨ 20 < x.many ∨ x.free < 1 ∨ x.many - 1 < x.free) → E = N
theorem dlF {l : List Dl} {k : Nat} {x : Dl} {p : Option Dl} {E : Int} (hx : l[k]? = some x) (hp : prvO l k = p) (hV : E = firstE (dlE l) k (l.length - k)) (hkl : k < l.length) : DlF E x (isKey x.key) (isKey x.group) (ordDl p x) (twDl (l.take k) x) (firstE (dlE l) (k + 1) (l.length - (k + 1))) := by
 have he : dlE l k = dlX (l.take k) p x := by unfold dlE; rw [hx, hp]
 have fin : ∀ c : Int, dlX (l.take k) p x = c → c ≠ 0 → E = c := fun c h1 h2 => hV.trans (firstE_bad hkl (he.trans h1) h2)
 have nxt : dlX (l.take k) p x = 0 → E = firstE (dlE l) (k + 1) (l.length - (k + 1)) := fun h1 => hV.trans (firstE_ok hkl (he.trans h1))
 clear hV he
 unfold dlX at fin nxt
 generalize ordDl p x = ob at *
 generalize twDl (l.take k) x = tw at *
 generalize isKey x.key = q1 at *
 generalize isKey x.group = q2 at *
 refine ⟨?_, ?_, ?_, ?_, ?_, ?_⟩
 ·intro h; exact fin 5 (by rw [if_pos (by simpa using h)]) (by decide)
 ·intro h h2; exact fin 5 (by rw [if_neg (by simpa using h), if_pos (by simpa using h2)]) (by decide)
 ·intro h h2 h3; exact fin 7 (by rw [if_neg (by simpa using h), if_neg (by simpa using h2), if_pos h3]) (by decide)
 ·intro h h2 h3 h4; exact fin 6 (by rw [if_neg (by simpa using h), if_neg (by simpa using h2), if_neg (by simp [h3]), if_pos h4]) (by decide)
 ·intro h h2 h3 h4 h5
  refine fin 1 ?_ (by decide)
  rw [if_neg (by simpa using h), if_neg (by simpa using h2), if_neg (by simp [h3]), if_neg (by simp [h4])]
  by_cases h6 : x.many < 2 ∨ 20 < x.many
  ·rw [if_pos h6]
  ·rw [if_neg h6, if_pos (by omega)]
 ·intro h h2 h3 h4 h5
  exact nxt (by rw [if_neg (by simpa using h), if_neg (by simpa using h2), if_neg (by simp [h3]), if_neg (by simp [h4]), if_neg (by omega), if_neg (by omega)])
theorem deals1_fn (y x : Dl) (b E : Nat) : Spec Tryz.prog 58 [.agg y.row, .ptr b] [Chunk.box b E x.row] (fun r cs => r = .bool (decide (y.group = x.group)) ∧ cs = [Chunk.box b E x.row]) := by
 refine Spec.body Tryz.func58 rfl rfl (Tryz.ntmps58) rfl fun w0 own0 M => ?_
 unfold Dl.row
 repeat' (first | refine goH ?_ | refine goV ?_ | refine goB (fun b => ?_) | refine goI ?_ | (refine Cw.k_cond ?_; first | (refine Cw.cond_dec rfl ?_ ?_ <;> intro hc <;> try omega) | refine Cw.cond_bool rfl ?_ ?_ <;> intro hc) | fail)
 exact Fin.ret (Ent.take goTk) (Outs.one rfl rfl) ⟨rfl, rfl⟩
theorem checkDeals_fn (w : List Wr) (l : List Dl) (hw : w.length ≤ 1000000) (hl : l.length ≤ 1000000) : PFn Tryz.prog 25 [.wrs w, .dls l] (· = .int (dealE w l)) := by
 have k0 := waresFault_fn w hw
 refine PFn.mk (Spec.body Tryz.func25 rfl rfl (Tryz.ntmps25) rfl fun w0 own0 M => ?_)
 have hL : (l.map Dl.row).length = l.length := List.length_map _
 by_cases hw0 : waresE w ≠ 0
 ·rw [show dealE w l = waresE w by unfold dealE; rw [if_pos hw0]]
  generalize waresE w = z at *
  repeat' (first | refine goH ?_ | refine goV ?_ | refine goB (fun b => ?_) | refine goG ?_ | (refine Ops.k_guard ?_; first | (refine Ops.guard_dec rfl rfl ?_ ?_ <;> intro hc <;> try omega) | refine Ops.guard_split rfl rfl ?_ ?_ <;> intro hc) | refine goI ?_ | (refine Cw.k_cond ?_; first | (refine Cw.cond_dec rfl ?_ ?_ <;> intro hc <;> try omega) | refine Cw.cond_bool rfl ?_ ?_ <;> intro hc) | (refine Ops.k_calla ?_; first | (refine Ops.k_callf 56 ?_; refine Ops.callV k0 (Evs.cons rfl Evs.nil) rfl ?_)) | (apply OpW.k_call; first | (apply OpW.k_callf 56; exact OpW.callV k0 (Evs.cons rfl Evs.nil))) | refine goR ?_ | refine goP ?_ | apply PSeq.cons | apply PSeq.yes rfl rfl rfl | exact goW | fail)
  exact Fin.ret (Ent.take goTk) (Outs.one rfl rfl) ⟨rfl, rfl⟩
 rw [show waresE w = 0 by omega] at k0
 by_cases h200 : l.length > 20
 ·rw [show dealE w l = 2 by unfold dealE; rw [if_neg hw0, if_pos h200]]
  repeat' (first | refine goH ?_ | refine goV ?_ | refine goB (fun b => ?_) | refine goG ?_ | (refine Ops.k_guard ?_; first | (refine Ops.guard_dec rfl rfl ?_ ?_ <;> intro hc <;> try omega) | refine Ops.guard_split rfl rfl ?_ ?_ <;> intro hc) | refine goI ?_ | (refine Cw.k_cond ?_; first | (refine Cw.cond_dec rfl ?_ ?_ <;> intro hc <;> try omega) | refine Cw.cond_bool rfl ?_ ?_ <;> intro hc) | (refine Ops.k_calla ?_; first | (refine Ops.k_callf 56 ?_; refine Ops.callV k0 (Evs.cons rfl Evs.nil) rfl ?_)) | (apply OpW.k_call; first | (apply OpW.k_callf 56; exact OpW.callV k0 (Evs.cons rfl Evs.nil))) | refine goR ?_ | refine goP ?_ | apply PSeq.cons | apply PSeq.yes rfl rfl rfl | exact goW | fail)
  exact Fin.ret (Ent.take goTk) (Outs.one rfl rfl) ⟨rfl, rfl⟩
 have hV0 : dealE w l = firstE (dlE l) 0 (l.length - 0) := by unfold dealE; rw [if_neg hw0, if_neg h200]; rfl
 generalize dealE w l = E at *
 repeat' (first | refine goH ?_ | refine goV ?_ | refine goB (fun b => ?_) | refine goG ?_ | (refine Ops.k_guard ?_; first | (refine Ops.guard_dec rfl rfl ?_ ?_ <;> intro hc <;> try omega) | refine Ops.guard_split rfl rfl ?_ ?_ <;> intro hc) | refine goI ?_ | (refine Cw.k_cond ?_; first | (refine Cw.cond_dec rfl ?_ ?_ <;> intro hc <;> try omega) | refine Cw.cond_bool rfl ?_ ?_ <;> intro hc) | (refine Ops.k_calla ?_; first | (refine Ops.k_callf 56 ?_; refine Ops.callV k0 (Evs.cons rfl Evs.nil) rfl ?_)) | (apply OpW.k_call; first | (apply OpW.k_callf 56; exact OpW.callV k0 (Evs.cons rfl Evs.nil))) | refine goR ?_ | refine goP ?_ | apply PSeq.cons | apply PSeq.yes rfl rfl rfl | exact goW | fail)
 clear k0
 refine Cw.loopI [(1, _), (16, _), (17, _)] _ (fun n e c => ∃ k : Nat, n = l.length - k ∧ (k ≤ l.length ∧ E = firstE (dlE l) k (l.length - k)) ∧ e = [(18, .int k)] ∧ c = []) ⟨_, _, _, (Ent.mkP goSub goPm), 0, rfl, ⟨by omega, hV0⟩, rfl, rfl⟩ ?_
 clear hV0
 rintro _ _ _ ⟨k, rfl, ⟨hk, hV⟩, rfl, rfl⟩
 by_cases hkl : k < l.length
 rotate_left
 ·rw [firstE_end hkl] at hV
  subst hV
  repeat' (first | refine goH ?_ | refine goV ?_ | refine goB (fun b => ?_) | refine goG ?_ | (refine Ops.k_guard ?_; first | (refine Ops.guard_dec rfl rfl ?_ ?_ <;> intro hc <;> try omega) | refine Ops.guard_split rfl rfl ?_ ?_ <;> intro hc) | refine goI ?_ | (refine Cw.k_cond ?_; first | (refine Cw.cond_dec rfl ?_ ?_ <;> intro hc <;> try omega) | refine Cw.cond_bool rfl ?_ ?_ <;> intro hc) | refine goR ?_ | refine goP ?_ | apply PSeq.cons | apply PSeq.yes rfl rfl rfl | exact goW | fail)
  exact Fin.ret (Ent.take goTk) (Outs.one rfl rfl) ⟨rfl, rfl⟩
 obtain ⟨x, hx⟩ := at_lt hkl
 have hrow : (l.map Dl.row)[k]? = some [.str x.key, .str x.group, .int x.many, .int x.free] := rows_at hx
 have k1 := key_fn x.key
 have k2 := key_fn x.group
 have kO := out_fn x.many 2 20
 have kO2 := out_fn x.free 1 (x.many - 1)
 have kc := fun b => containsFunc_dl (cin := [Chunk.box b 37 x.row]) (caps := [.pointer (some ⟨b, 0, none⟩)]) (g := 58) (p := fun y => decide (y.group = x.group)) (l := l.take k) (by rw [List.length_take]; omega) (fun y _ => deals1_fn y x b _)
 have htk : (l.take k).map Dl.row = (l.map Dl.row).take k := List.map_take
 rw [htk] at kc
 unfold Dl.row at kc
 have htd : ((l.take k).any fun y => decide (y.group = x.group)) = twDl (l.take k) x := rfl
 rw [htd] at kc
 by_cases hk0 : k = 0
 ·have F := dlF (p := none) hx (by rw [hk0]; rfl) hV hkl
  rw [show ordDl none x = false from rfl] at F
  generalize twDl (l.take k) x = tw at *
  generalize isKey x.key = q1 at *
  generalize isKey x.group = q2 at *
  clear hV hx htd
  repeat' (first | refine goH ?_ | refine goV ?_ | refine goB (fun b => ?_) | refine goG ?_ | (refine Ops.k_guard ?_; first | (refine Ops.guard_dec rfl rfl ?_ ?_ <;> intro hc <;> try omega) | refine Ops.guard_split rfl rfl ?_ ?_ <;> intro hc) | refine goI ?_ | (refine Cw.k_cond ?_; first | (refine Cw.cond_dec rfl ?_ ?_ <;> intro hc <;> try omega) | refine Cw.cond_bool rfl ?_ ?_ <;> intro hc) | (refine Ops.k_calla ?_; first | (refine Ops.k_callf 41 ?_; refine Ops.callV k1 (Evs.cons rfl Evs.nil) rfl ?_) | (refine Ops.k_callf 41 ?_; refine Ops.callV k2 (Evs.cons rfl Evs.nil) rfl ?_) | (refine Ops.k_callf 57 ?_; refine Ops.callS (kc _) (Evs.cons rfl (Evs.cons rfl Evs.nil)) goPm rfl ?_) | (refine Ops.k_callf 19 ?_; refine Ops.callV kO (Evs.cons rfl (Evs.cons rfl (Evs.cons rfl Evs.nil))) rfl ?_) | (refine Ops.k_callf 19 ?_; refine Ops.callV kO2 (Evs.cons rfl (Evs.cons rfl (Evs.cons rfl Evs.nil))) rfl ?_)) | (apply OpW.k_call; first | (apply OpW.k_callf 41; exact OpW.callV k1 (Evs.cons rfl Evs.nil)) | (apply OpW.k_callf 41; exact OpW.callV k2 (Evs.cons rfl Evs.nil)) | (apply OpW.k_callf 57; exact OpW.callS (kc _) (Evs.cons rfl (Evs.cons rfl Evs.nil)) goPm) | (apply OpW.k_callf 19; exact OpW.callV kO (Evs.cons rfl (Evs.cons rfl (Evs.cons rfl Evs.nil)))) | (apply OpW.k_callf 19; exact OpW.callV kO2 (Evs.cons rfl (Evs.cons rfl (Evs.cons rfl Evs.nil))))) | refine goR ?_ | refine goP ?_ | apply PSeq.cons | apply PSeq.yes rfl rfl rfl | exact goW | fail)
  all_goals first
   |(exfalso; omega)
   |exact ⟨_, _, _, (Ent.mk goSub goTk), ⟨k + 1, rfl, ⟨by omega, F.ok (by assumption) (by assumption) rfl (by assumption) (by omega)⟩, rfl, rfl⟩, by omega⟩
   |(refine Fin.ret (Ent.take goTk) (Outs.one rfl rfl) ⟨rfl, ?_⟩; first | (rw [F.e5a (by assumption)]; done) | (rw [F.e5b (by assumption) (by assumption)]; done) | (rw [F.e6 (by assumption) (by assumption) rfl (by assumption)]; done) | (rw [F.e1 (by assumption) (by assumption) rfl (by assumption) (by omega)]; done))
 obtain ⟨j, hj⟩ : ∃ j, k = j + 1 := ⟨k - 1, by omega⟩
 obtain ⟨y, hy⟩ := at_lt (l := l) (k := j) (by omega)
 have hrow2 : (l.map Dl.row)[((k : Int) - 1).toNat]? = some [.str y.key, .str y.group, .int y.many, .int y.free] := by rw [show ((k : Int) - 1).toNat = j by omega]; exact rows_at hy
 have F := dlF (p := some y) hx (by rw [hj]; exact hy) hV hkl
 rw [show ordDl (some y) x = (strLt x.key y.key || decide (x.key = y.key)) from rfl] at F
 generalize twDl (l.take k) x = tw at *
 generalize isKey x.key = q1 at *
 generalize isKey x.group = q2 at *
 clear hV hx hy htd
 repeat' (first | refine goH ?_ | refine goV ?_ | refine goB (fun b => ?_) | refine goG ?_ | (refine Ops.k_guard ?_; first | (refine Ops.guard_dec rfl rfl ?_ ?_ <;> intro hc <;> try omega) | refine Ops.guard_split rfl rfl ?_ ?_ <;> intro hc) | refine goI ?_ | (refine Cw.k_cond ?_; first | (refine Cw.cond_dec rfl ?_ ?_ <;> intro hc <;> try omega) | refine Cw.cond_bool rfl ?_ ?_ <;> intro hc) | (refine Ops.k_calla ?_; first | (refine Ops.k_callf 41 ?_; refine Ops.callV k1 (Evs.cons rfl Evs.nil) rfl ?_) | (refine Ops.k_callf 41 ?_; refine Ops.callV k2 (Evs.cons rfl Evs.nil) rfl ?_) | (refine Ops.k_callf 57 ?_; refine Ops.callS (kc _) (Evs.cons rfl (Evs.cons rfl Evs.nil)) goPm rfl ?_) | (refine Ops.k_callf 19 ?_; refine Ops.callV kO (Evs.cons rfl (Evs.cons rfl (Evs.cons rfl Evs.nil))) rfl ?_) | (refine Ops.k_callf 19 ?_; refine Ops.callV kO2 (Evs.cons rfl (Evs.cons rfl (Evs.cons rfl Evs.nil))) rfl ?_)) | (apply OpW.k_call; first | (apply OpW.k_callf 41; exact OpW.callV k1 (Evs.cons rfl Evs.nil)) | (apply OpW.k_callf 41; exact OpW.callV k2 (Evs.cons rfl Evs.nil)) | (apply OpW.k_callf 57; exact OpW.callS (kc _) (Evs.cons rfl (Evs.cons rfl Evs.nil)) goPm) | (apply OpW.k_callf 19; exact OpW.callV kO (Evs.cons rfl (Evs.cons rfl (Evs.cons rfl Evs.nil)))) | (apply OpW.k_callf 19; exact OpW.callV kO2 (Evs.cons rfl (Evs.cons rfl (Evs.cons rfl Evs.nil))))) | refine goR ?_ | refine goP ?_ | apply PSeq.cons | apply PSeq.yes rfl rfl rfl | exact goW | fail)
 all_goals first
  |(exfalso; omega)
  |exact ⟨_, _, _, (Ent.mk goSub goTk), ⟨k + 1, rfl, ⟨by omega, F.ok (by assumption) (by assumption) (by assumption) (by assumption) (by omega)⟩, rfl, rfl⟩, by omega⟩
  |(refine Fin.ret (Ent.take goTk) (Outs.one rfl rfl) ⟨rfl, ?_⟩; first | (rw [F.e5a (by assumption)]; done) | (rw [F.e5b (by assumption) (by assumption)]; done) | (rw [F.e7 (by assumption) (by assumption) (by assumption)]; done) | (rw [F.e6 (by assumption) (by assumption) (by assumption) (by assumption)]; done) | (rw [F.e1 (by assumption) (by assumption) (by assumption) (by assumption) (by omega)]; done))
end Lg
end
