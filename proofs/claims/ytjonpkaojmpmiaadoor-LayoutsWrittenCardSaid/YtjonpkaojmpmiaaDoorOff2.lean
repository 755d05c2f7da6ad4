/- A part of the proof of a law of this seat: it adds no condition. By an AI agent. -/
import Derived.Test.YtjonpkaojmpmiaaDoorLgNest
import Derived.Test.YtjonpkaojmpmiaaDoorCmpOr
section
set_option linter.all false
set_option maxRecDepth 100000
set_option maxHeartbeats 4000000
namespace Lg
open Go Go.Proofs

structure Offer where
  key : ByteArray
  group : ByteArray
  pr : List Int
  has : List ByteArray
  hates : List ByteArray
def Offer.row (x : Offer) : List Tr := [.str x.key, .str x.group, .ints x.pr, .strs x.has, .strs x.hates]
abbrev Tr.offers (l : List Offer) : Tr := Tr.sl 5 (l.map Offer.row)
def keyE (l : List ByteArray) (k : Nat) : Int := match l[k]? with
  | none => 0
  | some x => if isKey x = false then 5 else if prevB (fun x y => strLe x y) l k x then 7 else 0
def riseE (l : List ByteArray) : Int := firstE (keyE l) 0 l.length
def keysE (l : List ByteArray) : Int := if l.length > 10 then 2 else riseE l
def prBad (n : Int) : Bool := decide (n < -1000000 ∨ 1000000 < n)
def prE (l : List Int) : Int := if l.length = 0 then 8 else if l.length > 10 then 2 else if l.any prBad then 1 else 0
def offerE (l : List Offer) (k : Nat) : Int := match l[k]? with
  | none => 0
  | some x => if isKey x.key = false then 5 else if prevB (fun x y => strLe x.key y.key) l k x then 7 else if isKey x.group = false then 5 else if prE x.pr ≠ 0 then prE x.pr else if keysE x.has ≠ 0 then keysE x.has else keysE x.hates
def offersE (l : List Offer) : Int := if l.length > 30 then 2 else firstE (offerE l) 0 l.length

/-! ### sorted lists of keys -/
theorem keysLoop (l : List ByteArray) (hl : l.length ≤ 1000000) (h10 : 10 = 10 → l.length ≤ 10) : PFn Tryd.prog 72 [.strs l] (· = .int (riseE l)) := by
  refine PFn.mk (Spec.body Tryd.func72 rfl rfl (Tryd.ntmps72) rfl fun w0 own0 M => ?_)
  have hL := strRows_len l
  have hV0 : riseE l = firstE (keyE l) 0 (l.length - 0) := rfl
  try have h11 := h10 rfl
  repeat' (first | refine goH ?_ | refine goV ?_ | refine goG ?_ | (refine Ops.k_guard ?_; first | (refine Ops.guard_dec rfl rfl (fun hc => ?_) (fun hc => ?_) <;> try (exfalso; omega)) | refine Ops.guard_split rfl rfl (fun hc => ?_) (fun hc => ?_)) | refine goI ?_ | (refine Cw.k_cond ?_; first | (refine Cw.cond_dec rfl (fun hc => ?_) (fun hc => ?_) <;> try (exfalso; omega)) | refine Cw.cond_bool rfl (fun hc => ?_) (fun hc => ?_)) | fail)
  refine Cw.loopI [(0, _), (8, _), (9, _)] _ (fun n e c => ∃ k : Nat, n = l.length - k ∧ (k ≤ l.length ∧ riseE l = firstE (keyE l) k (l.length - k)) ∧ e = [(10, .int k)] ∧ c = []) ⟨_, _, _, (Ent.mkP goSub goPm), 0, rfl, ⟨by omega, hV0⟩, rfl, rfl⟩ ?_
  rintro _ _ _ ⟨k, rfl, ⟨hk, hV⟩, rfl, rfl⟩
  by_cases hkl : k < l.length
  · obtain ⟨x, hx⟩ := at_lt hkl
    have hrow := strRows_at hx
    have hkey := key_fn x
    have fin : ∀ c, keyE l k = c → c ≠ 0 → riseE l = c := fun c h1 h2 => hV.trans (firstE_bad hkl h1 h2)
    have nxt : keyE l k = 0 → riseE l = firstE (keyE l) (k + 1) (l.length - (k + 1)) := fun h1 => hV.trans (firstE_ok hkl h1)
    by_cases g1 : isKey x = false
    · rw [g1] at hkey
      repeat' (first | refine goH ?_ | refine goV ?_ | refine goG ?_ | (refine Ops.k_guard ?_; first | (refine Ops.guard_dec rfl rfl (fun hc => ?_) (fun hc => ?_) <;> try (exfalso; omega)) | refine Ops.guard_split rfl rfl (fun hc => ?_) (fun hc => ?_)) | refine goI ?_ | (refine Cw.k_cond ?_; first | (refine Cw.cond_dec rfl (fun hc => ?_) (fun hc => ?_) <;> try (exfalso; omega)) | refine Cw.cond_bool rfl (fun hc => ?_) (fun hc => ?_)) | (refine Ops.k_calla ?_; first | (refine Ops.k_callf 47 ?_; refine Ops.callV hkey (Evs.cons rfl Evs.nil) rfl ?_)) | fail)
      exact Fin.ret (Ent.take goTk) (Outs.one rfl rfl) ⟨rfl, congrArg Tr.int (fin 5 (by simp [keyE, hx, g1]) (by decide)).symm⟩
    replace g1 : isKey x = true := by simpa using g1
    rw [g1] at hkey
    cases k with
    | zero =>
      repeat' (first | refine goH ?_ | refine goV ?_ | refine goG ?_ | (refine Ops.k_guard ?_; first | (refine Ops.guard_dec rfl rfl (fun hc => ?_) (fun hc => ?_) <;> try (exfalso; omega)) | refine Ops.guard_split rfl rfl (fun hc => ?_) (fun hc => ?_)) | refine goI ?_ | (refine Cw.k_cond ?_; first | (refine Cw.cond_dec rfl (fun hc => ?_) (fun hc => ?_) <;> try (exfalso; omega)) | refine Cw.cond_bool rfl (fun hc => ?_) (fun hc => ?_)) | (refine Ops.k_calla ?_; first | (refine Ops.k_callf 47 ?_; refine Ops.callV hkey (Evs.cons rfl Evs.nil) rfl ?_)) | fail)
      exact ⟨_, _, _, (Ent.mk goSub goTk), ⟨_, rfl, ⟨by omega, nxt (by simp [keyE, hx, prevB, g1])⟩, rfl, rfl⟩, by omega⟩
    | succ j =>
      obtain ⟨y, hy⟩ := at_lt (l := l) (k := j) (by omega)
      have hrow2 : (strRows l)[(((j + 1 : Nat) : Int) - 1).toNat]? = some [.str y] := by rw [show (((j + 1 : Nat) : Int) - 1).toNat = j by omega]; exact strRows_at hy
      have hp : prevB (fun x y => strLe x y) l (j + 1) x = (strLt x y || decide (x = y)) := by simp [prevB, hy, strLe]
      cases g2 : (strLt x y || decide (x = y))
      · rw [g2] at hp
        repeat' (first | refine goH ?_ | refine goV ?_ | refine goG ?_ | (refine Ops.k_guard ?_; first | (refine Ops.guard_dec rfl rfl (fun hc => ?_) (fun hc => ?_) <;> try (exfalso; omega)) | refine Ops.guard_split rfl rfl (fun hc => ?_) (fun hc => ?_)) | refine goI ?_ | (refine Cw.k_cond ?_; first | (refine Cw.cond_dec rfl (fun hc => ?_) (fun hc => ?_) <;> try (exfalso; omega)) | refine Cw.cond_bool rfl (fun hc => ?_) (fun hc => ?_)) | (refine Ops.k_calla ?_; first | (refine Ops.k_callf 47 ?_; refine Ops.callV hkey (Evs.cons rfl Evs.nil) rfl ?_)) | fail)
        all_goals first | (exfalso; simp_all; done) | exact ⟨_, _, _, (Ent.mk goSub goTk), ⟨_, rfl, ⟨by omega, nxt (by simp [keyE, hx, g1, hp])⟩, rfl, rfl⟩, by omega⟩
      · rw [g2] at hp
        repeat' (first | refine goH ?_ | refine goV ?_ | refine goG ?_ | (refine Ops.k_guard ?_; first | (refine Ops.guard_dec rfl rfl (fun hc => ?_) (fun hc => ?_) <;> try (exfalso; omega)) | refine Ops.guard_split rfl rfl (fun hc => ?_) (fun hc => ?_)) | refine goI ?_ | (refine Cw.k_cond ?_; first | (refine Cw.cond_dec rfl (fun hc => ?_) (fun hc => ?_) <;> try (exfalso; omega)) | refine Cw.cond_bool rfl (fun hc => ?_) (fun hc => ?_)) | (refine Ops.k_calla ?_; first | (refine Ops.k_callf 47 ?_; refine Ops.callV hkey (Evs.cons rfl Evs.nil) rfl ?_)) | fail)
        all_goals first | (exfalso; simp_all; done) | exact Fin.ret (Ent.take goTk) (Outs.one rfl rfl) ⟨rfl, congrArg Tr.int (fin 7 (by simp [keyE, hx, g1, hp]) (by decide)).symm⟩
  · repeat' (first | refine goH ?_ | refine goV ?_ | refine goG ?_ | (refine Ops.k_guard ?_; first | (refine Ops.guard_dec rfl rfl (fun hc => ?_) (fun hc => ?_) <;> try (exfalso; omega)) | refine Ops.guard_split rfl rfl (fun hc => ?_) (fun hc => ?_)) | refine goI ?_ | (refine Cw.k_cond ?_; first | (refine Cw.cond_dec rfl (fun hc => ?_) (fun hc => ?_) <;> try (exfalso; omega)) | refine Cw.cond_bool rfl (fun hc => ?_) (fun hc => ?_)) | fail)
    refine Fin.ret (Ent.take goTk) (Outs.one rfl rfl) ⟨rfl, congrArg Tr.int ?_⟩
    rw [hV, firstE_end hkl]
theorem keysFault_fn (l : List ByteArray) (hl : l.length ≤ 1000000) : PFn Tryd.prog 72 [.strs l] (· = .int (keysE l)) := by
  by_cases h : l.length > 10
  · refine PFn.mk (Spec.body Tryd.func72 rfl rfl (Tryd.ntmps72) rfl fun w0 own0 M => ?_)
    have hL := strRows_len l
    repeat' (first | refine goH ?_ | refine goV ?_ | refine goG ?_ | (refine Ops.k_guard ?_; first | (refine Ops.guard_dec rfl rfl (fun hc => ?_) (fun hc => ?_) <;> try (exfalso; omega)) | refine Ops.guard_split rfl rfl (fun hc => ?_) (fun hc => ?_)) | refine goI ?_ | (refine Cw.k_cond ?_; first | (refine Cw.cond_dec rfl (fun hc => ?_) (fun hc => ?_) <;> try (exfalso; omega)) | refine Cw.cond_bool rfl (fun hc => ?_) (fun hc => ?_)) | fail)
    refine Fin.ret (Ent.take goTk) (Outs.one rfl rfl) ⟨rfl, congrArg Tr.int ?_⟩
    unfold keysE
    rw [if_pos h]
  · unfold keysE
    rw [if_neg h]
    exact keysLoop l hl (fun _ => by omega)
end Lg
end
section
set_option linter.all false
set_option maxRecDepth 100000
set_option maxHeartbeats 4000000
namespace Lg
open Go Go.Proofs


theorem indexFunc_str {l : List ByteArray} {p : ByteArray → Bool} {g : Nat} {caps : List Value} {cin : List Chunk} (hl : l.length ≤ 1000000000)
    (hs : ∀ x, x ∈ l → Spec Tryd.prog g ([Tr.str x] ++ caps.map Tr.raw) cin (fun r cs => r = Tr.bool (p x) ∧ cs = cin)) :
    Spec Tryd.prog 52 [Tr.sl 1 (l.map (fun x => [Tr.str x])), Tr.raw (.func (.func g) #[] caps.toArray)] cin (fun r cs => r = Tr.int (idxFrom p l 0) ∧ cs = cin) := by
  refine Spec.body Tryd.func52 rfl rfl (Tryd.ntmps52) rfl fun w0 own0 M => ?_
  have hL : (l.map (fun x => [Tr.str x])).length = l.length := List.length_map _
  repeat' (first | refine goH ?_ | refine goV ?_ | refine goI ?_ | (refine Cw.k_cond ?_; first | (refine Cw.cond_dec rfl (fun hc => ?_) (fun hc => ?_) <;> try (exfalso; omega)) | refine Cw.cond_bool rfl (fun hc => ?_) (fun hc => ?_)) | fail)
  refine Cw.loop (ι := Nat) (fun k => k ≤ l.length ∧ idxFrom p l 0 = idxFrom p (l.drop k) k) (fun k => [(0, Tr.sl 1 (l.map (fun x => [Tr.str x]))), (1, Tr.raw (.func (.func g) #[] caps.toArray)), (7, .int (l.map (fun x => [Tr.str x])).length), (8, .int k)]) (fun _ => cin) (fun k => l.length - k) ⟨0, ⟨by omega, rfl⟩, Ent.sub goSub⟩ ?_
  rintro k ⟨hk, hgo⟩
  by_cases hkl : k < l.length
  · obtain ⟨x, hx⟩ : ∃ x, l[k]? = some x := ⟨_, List.getElem?_eq_getElem hkl⟩
    have hrow : (l.map (fun x => [Tr.str x]))[k]? = some [Tr.str x] := rows_at hx
    have hdrop := idxFrom_drop p hx
    rw [hdrop] at hgo
    have hsx := hs x (List.mem_of_getElem? hx)
    by_cases hp : p x = true
    · rw [if_pos hp] at hgo
      rw [hp] at hsx
      repeat' (first | refine goH ?_ | refine goV ?_ | refine goI ?_ | (refine Cw.k_cond ?_; first | (refine Cw.cond_dec rfl (fun hc => ?_) (fun hc => ?_) <;> try (exfalso; omega)) | refine Cw.cond_bool rfl (fun hc => ?_) (fun hc => ?_)) | (refine Ops.k_calla ?_; first | (refine Ops.call_fn rfl hsx (Evs.cons rfl Evs.nil) (by rw [List.append_nil]) rfl ?_; rintro r cs' ⟨rfl, hcs⟩; rw [hcs, List.append_nil])) | fail)
      exact Fin.ret Ent.refl (Outs.one rfl rfl) ⟨by rw [hgo], rfl⟩
    · rw [if_neg hp] at hgo
      rw [Bool.not_eq_true] at hp
      rw [hp] at hsx
      repeat' (first | refine goH ?_ | refine goV ?_ | refine goI ?_ | (refine Cw.k_cond ?_; first | (refine Cw.cond_dec rfl (fun hc => ?_) (fun hc => ?_) <;> try (exfalso; omega)) | refine Cw.cond_bool rfl (fun hc => ?_) (fun hc => ?_)) | (refine Ops.k_calla ?_; first | (refine Ops.call_fn rfl hsx (Evs.cons rfl Evs.nil) (by rw [List.append_nil]) rfl ?_; rintro r cs' ⟨rfl, hcs⟩; rw [hcs, List.append_nil])) | fail)
      exact ⟨k + 1, ⟨by omega, hgo⟩, by omega, Ent.sub goSub⟩
  · rw [List.drop_eq_nil_of_le (by omega), idxFrom] at hgo
    repeat' (first | refine goH ?_ | refine goV ?_ | refine goI ?_ | (refine Cw.k_cond ?_; first | (refine Cw.cond_dec rfl (fun hc => ?_) (fun hc => ?_) <;> try (exfalso; omega)) | refine Cw.cond_bool rfl (fun hc => ?_) (fun hc => ?_)) | fail)
    exact Fin.ret Ent.refl (Outs.one rfl rfl) ⟨by rw [hgo], rfl⟩

theorem containsFunc_str {l : List ByteArray} {p : ByteArray → Bool} {g : Nat} {caps : List Value} {cin : List Chunk} (hl : l.length ≤ 1000000000)
    (hs : ∀ x, x ∈ l → Spec Tryd.prog g ([Tr.str x] ++ caps.map Tr.raw) cin (fun r cs => r = Tr.bool (p x) ∧ cs = cin)) :
    Spec Tryd.prog 29 [Tr.sl 1 (l.map (fun x => [Tr.str x])), Tr.raw (.func (.func g) #[] caps.toArray)] cin (fun r cs => r = Tr.bool (l.any p) ∧ cs = cin) := by
  refine Spec.body Tryd.func29 rfl rfl (Tryd.ntmps29) rfl fun w0 own0 M => ?_
  repeat' (first | refine goH ?_ | refine goV ?_ | refine goI ?_ | (refine Cw.k_cond ?_; first | (refine Cw.cond_dec rfl (fun hc => ?_) (fun hc => ?_) <;> try (exfalso; omega)) | refine Cw.cond_bool rfl (fun hc => ?_) (fun hc => ?_)) | (refine Ops.k_calla ?_; first | (refine Ops.k_callf 52 ?_; (refine Ops.call (indexFunc_str hl hs) (Evs.cons rfl (Evs.cons rfl Evs.nil)) (by rw [List.append_nil]) rfl ?_; rintro r cs' ⟨rfl, hcs⟩; rw [hcs, List.append_nil]))) | fail)
  refine Fin.ret Ent.refl (Outs.one rfl rfl) ⟨congrArg Tr.bool ?_, rfl⟩
  have := idxFrom_ge p l 0 (Int.le_refl _)
  by_cases h : 0 ≤ idxFrom p l 0
  · simp [h, this.1 h]
  · have h2 : l.any p = false := by rw [← Bool.not_eq_true]; exact fun e => h (this.2 e)
    simp [h, h2]


end Lg
end
section
set_option linter.all false
set_option maxRecDepth 100000
set_option maxHeartbeats 4000000
namespace Lg
open Go Go.Proofs

theorem prBad1_fn (n : Int) : PFn Tryd.prog 71 [.int n] (· = .bool (prBad n)) := by
  refine PFn.mk (Spec.body Tryd.func71 rfl rfl (Tryd.ntmps71) rfl fun w0 own0 M => ?_)
  repeat' (first | refine goH ?_ | refine goV ?_ | refine goI ?_ | (refine Cw.k_cond ?_; first | (refine Cw.cond_dec rfl (fun hc => ?_) (fun hc => ?_) <;> try (exfalso; omega)) | refine Cw.cond_bool rfl (fun hc => ?_) (fun hc => ?_)) | (refine Ops.k_calla ?_; first | (refine Ops.k_callf 36 ?_; refine Ops.callV (out_fn n (-1000000) 1000000) (Evs.cons rfl (Evs.cons rfl (Evs.cons rfl Evs.nil))) rfl ?_)) | fail)
  exact Fin.ret Ent.refl (Outs.one rfl rfl) ⟨rfl, rfl⟩
/-- bounded lists -/
def OBd (l : List Offer) : Prop := l.length ≤ 1000 ∧ ∀ x ∈ l, x.pr.length ≤ 1000 ∧ x.has.length ≤ 1000 ∧ x.hates.length ≤ 1000

theorem checkOffers_fn (l : List Offer) (hl : OBd l) : PFn Tryd.prog 61 [.offers l] (· = .int (offersE l)) := by
  refine PFn.mk (Spec.body Tryd.func61 rfl rfl (Tryd.ntmps61) rfl fun w0 own0 M => ?_)
  have hL : (l.map Offer.row).length = l.length := List.length_map _
  have hll := hl.1
  by_cases h30 : l.length > 30
  · repeat' (first | refine goH ?_ | refine goV ?_ | refine goB (fun b => ?_) | refine goG ?_ | (refine Ops.k_guard ?_; first | (refine Ops.guard_dec rfl rfl (fun hc => ?_) (fun hc => ?_) <;> try (exfalso; omega)) | refine Ops.guard_split rfl rfl (fun hc => ?_) (fun hc => ?_)) | refine goI ?_ | (refine Cw.k_cond ?_; first | (refine Cw.cond_dec rfl (fun hc => ?_) (fun hc => ?_) <;> try (exfalso; omega)) | refine Cw.cond_bool rfl (fun hc => ?_) (fun hc => ?_)) | refine goR ?_ | refine goP ?_ | apply PSeq.cons | apply PSeq.yes rfl rfl rfl | exact goW | fail)
    refine Fin.ret (Ent.take goTk) (Outs.one rfl rfl) ⟨rfl, congrArg Tr.int ?_⟩
    unfold offersE
    rw [if_pos h30]
  have hV0 : offersE l = firstE (offerE l) 0 (l.length - 0) := by unfold offersE; rw [if_neg h30]; rfl
  repeat' (first | refine goH ?_ | refine goV ?_ | refine goB (fun b => ?_) | refine goG ?_ | (refine Ops.k_guard ?_; first | (refine Ops.guard_dec rfl rfl (fun hc => ?_) (fun hc => ?_) <;> try (exfalso; omega)) | refine Ops.guard_split rfl rfl (fun hc => ?_) (fun hc => ?_)) | refine goI ?_ | (refine Cw.k_cond ?_; first | (refine Cw.cond_dec rfl (fun hc => ?_) (fun hc => ?_) <;> try (exfalso; omega)) | refine Cw.cond_bool rfl (fun hc => ?_) (fun hc => ?_)) | refine goR ?_ | refine goP ?_ | apply PSeq.cons | apply PSeq.yes rfl rfl rfl | exact goW | fail)
  refine Cw.loopI [(0, _), (9, _), (10, _)] _ (fun n e c => ∃ k : Nat, n = l.length - k ∧ (k ≤ l.length ∧ offersE l = firstE (offerE l) k (l.length - k)) ∧ e = [(11, .int k)] ∧ c = []) ⟨_, _, _, (Ent.mkP goSub goPm), 0, rfl, ⟨by omega, hV0⟩, rfl, rfl⟩ ?_
  rintro _ _ _ ⟨k, rfl, ⟨hk, hV⟩, rfl, rfl⟩
  by_cases hkl : k < l.length
  rotate_left
  · repeat' (first | refine goH ?_ | refine goV ?_ | refine goB (fun b => ?_) | refine goG ?_ | (refine Ops.k_guard ?_; first | (refine Ops.guard_dec rfl rfl (fun hc => ?_) (fun hc => ?_) <;> try (exfalso; omega)) | refine Ops.guard_split rfl rfl (fun hc => ?_) (fun hc => ?_)) | refine goI ?_ | (refine Cw.k_cond ?_; first | (refine Cw.cond_dec rfl (fun hc => ?_) (fun hc => ?_) <;> try (exfalso; omega)) | refine Cw.cond_bool rfl (fun hc => ?_) (fun hc => ?_)) | refine goR ?_ | refine goP ?_ | apply PSeq.cons | apply PSeq.yes rfl rfl rfl | exact goW | fail)
    refine Fin.ret (Ent.take goTk) (Outs.one rfl rfl) ⟨rfl, congrArg Tr.int ?_⟩
    rw [hV, firstE_end hkl]
  obtain ⟨x, hx⟩ := at_lt hkl
  obtain ⟨b1, b2, b3⟩ := hl.2 x (List.mem_of_getElem? hx)
  have hP := intRows_len x.pr
  have hH1 := strRows_len x.has
  have hH2 := strRows_len x.hates
  have hrow : (l.map Offer.row)[k]? = some [.str x.key, .str x.group, .ints x.pr, .strs x.has, .strs x.hates] := rows_at hx
  have hkey := key_fn x.key
  have hgrp := key_fn x.group
  have hany : Spec Tryd.prog 70 [.ints x.pr, Tr.raw (.func (.func 71) #[] #[])] [] (fun r cs => r = .bool (x.pr.any prBad) ∧ cs = []) := containsFunc_int (p := prBad) (g := 71) (caps := []) (cin := []) (l := x.pr) (by omega) (fun n _ => (prBad1_fn n).lend)
  have fin : ∀ c, offerE l k = c → c ≠ 0 → offersE l = c := fun c h1 h2 => hV.trans (firstE_bad hkl h1 h2)
  have nxt : offerE l k = 0 → offersE l = firstE (offerE l) (k + 1) (l.length - (k + 1)) := fun h1 => hV.trans (firstE_ok hkl h1)
  have hoe : offerE l k = if isKey x.key = false then 5 else if prevB (fun x y => strLe x.key y.key) l k x then 7 else if isKey x.group = false then 5 else if prE x.pr ≠ 0 then prE x.pr else if keysE x.has ≠ 0 then keysE x.has else keysE x.hates := by unfold offerE; rw [hx]
  clear hV
  by_cases g1 : isKey x.key = false
  · rw [g1] at hkey
    rw [if_pos g1] at hoe
    repeat' (first | refine goH ?_ | refine goV ?_ | refine goB (fun b => ?_) | refine goG ?_ | (refine Ops.k_guard ?_; first | (refine Ops.guard_dec rfl rfl (fun hc => ?_) (fun hc => ?_) <;> try (exfalso; omega)) | refine Ops.guard_split rfl rfl (fun hc => ?_) (fun hc => ?_)) | refine goI ?_ | (refine Cw.k_cond ?_; first | (refine Cw.cond_dec rfl (fun hc => ?_) (fun hc => ?_) <;> try (exfalso; omega)) | refine Cw.cond_bool rfl (fun hc => ?_) (fun hc => ?_)) | (refine Ops.k_calla ?_; first | (refine Ops.k_callf 47 ?_; refine Ops.callV hkey (Evs.cons rfl Evs.nil) rfl ?_)) | (apply OpW.k_call; first | (apply OpW.k_callf 47; exact OpW.callV hkey (Evs.cons rfl Evs.nil))) | refine goR ?_ | refine goP ?_ | apply PSeq.cons | apply PSeq.yes rfl rfl rfl | exact goW | fail)
    exact Fin.ret (Ent.take goTk) (Outs.one rfl rfl) ⟨rfl, congrArg Tr.int (fin 5 hoe (by decide)).symm⟩
  rw [if_neg g1] at hoe
  replace g1 : isKey x.key = true := by simpa using g1
  rw [g1] at hkey
  -- the rest, once the order is known
  obtain ⟨pb, hpb⟩ : ∃ b, prevB (fun x y => strLe x.key y.key) l k x = b := ⟨_, rfl⟩
  have hprev : k = 0 ∧ pb = false ∨ ∃ (j : Nat) (y : Offer), k = j + 1 ∧ (l.map Offer.row)[(((j + 1 : Nat) : Int) - 1).toNat]? = some [.str y.key, .str y.group, .ints y.pr, .strs y.has, .strs y.hates] ∧ pb = (strLt x.key y.key || decide (x.key = y.key)) := by
    cases k with
    | zero => exact .inl ⟨rfl, by rw [← hpb]; rfl⟩
    | succ j =>
      obtain ⟨y, hy⟩ := at_lt (l := l) (k := j) (by omega)
      exact .inr ⟨j, y, rfl, by rw [show (((j + 1 : Nat) : Int) - 1).toNat = j by omega]; exact rows_at hy, by rw [← hpb]; simp [prevB, hy, strLe]⟩
  rw [hpb] at hoe
  clear hpb
  cases pb
  rotate_left
  · rcases hprev with ⟨_, h⟩ | ⟨j, y, rfl, hrow2, h⟩
    · cases h
    rw [if_pos rfl] at hoe
    have h := h.symm
    repeat' (first | refine goH ?_ | refine goV ?_ | refine goB (fun b => ?_) | refine goG ?_ | (refine Ops.k_guard ?_; first | (refine Ops.guard_dec rfl rfl (fun hc => ?_) (fun hc => ?_) <;> try (exfalso; omega)) | refine Ops.guard_split rfl rfl (fun hc => ?_) (fun hc => ?_)) | refine goI ?_ | (refine Cw.k_cond ?_; first | (refine Cw.cond_dec rfl (fun hc => ?_) (fun hc => ?_) <;> try (exfalso; omega)) | refine Cw.cond_bool rfl (fun hc => ?_) (fun hc => ?_)) | (refine Ops.k_calla ?_; first | (refine Ops.k_callf 47 ?_; refine Ops.callV hkey (Evs.cons rfl Evs.nil) rfl ?_)) | (apply OpW.k_call; first | (apply OpW.k_callf 47; exact OpW.callV hkey (Evs.cons rfl Evs.nil))) | refine goR ?_ | refine goP ?_ | apply PSeq.cons | apply PSeq.yes rfl rfl rfl | exact goW | fail)
    all_goals first | exact Bool.noConfusion (h.symm.trans hc) | exact Fin.ret (Ent.take goTk) (Outs.one rfl rfl) ⟨rfl, congrArg Tr.int (fin 7 hoe (by decide)).symm⟩
  rw [if_neg (by decide)] at hoe
  -- the case of the group
  by_cases g2 : isKey x.group = false
  · rw [g2] at hgrp
    rw [if_pos g2] at hoe
    rcases hprev with ⟨rfl, _⟩ | ⟨j, y, rfl, hrow2, h⟩
    · repeat' (first | refine goH ?_ | refine goV ?_ | refine goB (fun b => ?_) | refine goG ?_ | (refine Ops.k_guard ?_; first | (refine Ops.guard_dec rfl rfl (fun hc => ?_) (fun hc => ?_) <;> try (exfalso; omega)) | refine Ops.guard_split rfl rfl (fun hc => ?_) (fun hc => ?_)) | refine goI ?_ | (refine Cw.k_cond ?_; first | (refine Cw.cond_dec rfl (fun hc => ?_) (fun hc => ?_) <;> try (exfalso; omega)) | refine Cw.cond_bool rfl (fun hc => ?_) (fun hc => ?_)) | (refine Ops.k_calla ?_; first | (refine Ops.k_callf 47 ?_; refine Ops.callV hkey (Evs.cons rfl Evs.nil) rfl ?_) | (refine Ops.k_callf 47 ?_; refine Ops.callV hgrp (Evs.cons rfl Evs.nil) rfl ?_)) | (apply OpW.k_call; first | (apply OpW.k_callf 47; exact OpW.callV hkey (Evs.cons rfl Evs.nil)) | (apply OpW.k_callf 47; exact OpW.callV hgrp (Evs.cons rfl Evs.nil))) | refine goR ?_ | refine goP ?_ | apply PSeq.cons | apply PSeq.yes rfl rfl rfl | exact goW | fail)
      exact Fin.ret (Ent.take goTk) (Outs.one rfl rfl) ⟨rfl, congrArg Tr.int (fin 5 hoe (by decide)).symm⟩
    · have h := h.symm
      repeat' (first | refine goH ?_ | refine goV ?_ | refine goB (fun b => ?_) | refine goG ?_ | (refine Ops.k_guard ?_; first | (refine Ops.guard_dec rfl rfl (fun hc => ?_) (fun hc => ?_) <;> try (exfalso; omega)) | refine Ops.guard_split rfl rfl (fun hc => ?_) (fun hc => ?_)) | refine goI ?_ | (refine Cw.k_cond ?_; first | (refine Cw.cond_dec rfl (fun hc => ?_) (fun hc => ?_) <;> try (exfalso; omega)) | refine Cw.cond_bool rfl (fun hc => ?_) (fun hc => ?_)) | (refine Ops.k_calla ?_; first | (refine Ops.k_callf 47 ?_; refine Ops.callV hkey (Evs.cons rfl Evs.nil) rfl ?_) | (refine Ops.k_callf 47 ?_; refine Ops.callV hgrp (Evs.cons rfl Evs.nil) rfl ?_)) | (apply OpW.k_call; first | (apply OpW.k_callf 47; exact OpW.callV hkey (Evs.cons rfl Evs.nil)) | (apply OpW.k_callf 47; exact OpW.callV hgrp (Evs.cons rfl Evs.nil))) | refine goR ?_ | refine goP ?_ | apply PSeq.cons | apply PSeq.yes rfl rfl rfl | exact goW | fail)
      all_goals first | exact Bool.noConfusion (h.symm.trans hc) | exact Fin.ret (Ent.take goTk) (Outs.one rfl rfl) ⟨rfl, congrArg Tr.int (fin 5 hoe (by decide)).symm⟩
  rw [if_neg g2] at hoe
  replace g2 : isKey x.group = true := by simpa using g2
  rw [g2] at hgrp
  by_cases g3 : prE x.pr ≠ 0
  · rw [if_pos g3] at hoe
    have hfin := fin _ hoe g3
    have hpe : prE x.pr = if x.pr.length = 0 then 8 else if x.pr.length > 10 then 2 else if x.pr.any prBad then 1 else 0 := rfl
    rw [hpe] at hfin g3
    by_cases q1 : x.pr.length = 0
    · rw [if_pos q1] at hfin
      rcases hprev with ⟨rfl, _⟩ | ⟨j, y, rfl, hrow2, h⟩
      · repeat' (first | refine goH ?_ | refine goV ?_ | refine goB (fun b => ?_) | refine goG ?_ | (refine Ops.k_guard ?_; first | (refine Ops.guard_dec rfl rfl (fun hc => ?_) (fun hc => ?_) <;> try (exfalso; omega)) | refine Ops.guard_split rfl rfl (fun hc => ?_) (fun hc => ?_)) | refine goI ?_ | (refine Cw.k_cond ?_; first | (refine Cw.cond_dec rfl (fun hc => ?_) (fun hc => ?_) <;> try (exfalso; omega)) | refine Cw.cond_bool rfl (fun hc => ?_) (fun hc => ?_)) | (refine Ops.k_calla ?_; first | (refine Ops.k_callf 47 ?_; refine Ops.callV hkey (Evs.cons rfl Evs.nil) rfl ?_) | (refine Ops.k_callf 47 ?_; refine Ops.callV hgrp (Evs.cons rfl Evs.nil) rfl ?_)) | (apply OpW.k_call; first | (apply OpW.k_callf 47; exact OpW.callV hkey (Evs.cons rfl Evs.nil)) | (apply OpW.k_callf 47; exact OpW.callV hgrp (Evs.cons rfl Evs.nil))) | refine goR ?_ | refine goP ?_ | apply PSeq.cons | apply PSeq.yes rfl rfl rfl | exact goW | fail)
        exact Fin.ret (Ent.take goTk) (Outs.one rfl rfl) ⟨rfl, congrArg Tr.int hfin.symm⟩
      · have h := h.symm
        repeat' (first | refine goH ?_ | refine goV ?_ | refine goB (fun b => ?_) | refine goG ?_ | (refine Ops.k_guard ?_; first | (refine Ops.guard_dec rfl rfl (fun hc => ?_) (fun hc => ?_) <;> try (exfalso; omega)) | refine Ops.guard_split rfl rfl (fun hc => ?_) (fun hc => ?_)) | refine goI ?_ | (refine Cw.k_cond ?_; first | (refine Cw.cond_dec rfl (fun hc => ?_) (fun hc => ?_) <;> try (exfalso; omega)) | refine Cw.cond_bool rfl (fun hc => ?_) (fun hc => ?_)) | (refine Ops.k_calla ?_; first | (refine Ops.k_callf 47 ?_; refine Ops.callV hkey (Evs.cons rfl Evs.nil) rfl ?_) | (refine Ops.k_callf 47 ?_; refine Ops.callV hgrp (Evs.cons rfl Evs.nil) rfl ?_)) | (apply OpW.k_call; first | (apply OpW.k_callf 47; exact OpW.callV hkey (Evs.cons rfl Evs.nil)) | (apply OpW.k_callf 47; exact OpW.callV hgrp (Evs.cons rfl Evs.nil))) | refine goR ?_ | refine goP ?_ | apply PSeq.cons | apply PSeq.yes rfl rfl rfl | exact goW | fail)
        all_goals first | exact Bool.noConfusion (h.symm.trans hc) | exact Fin.ret (Ent.take goTk) (Outs.one rfl rfl) ⟨rfl, congrArg Tr.int hfin.symm⟩
    by_cases q2 : x.pr.length > 10
    · rw [if_neg q1, if_pos q2] at hfin
      rcases hprev with ⟨rfl, _⟩ | ⟨j, y, rfl, hrow2, h⟩
      · repeat' (first | refine goH ?_ | refine goV ?_ | refine goB (fun b => ?_) | refine goG ?_ | (refine Ops.k_guard ?_; first | (refine Ops.guard_dec rfl rfl (fun hc => ?_) (fun hc => ?_) <;> try (exfalso; omega)) | refine Ops.guard_split rfl rfl (fun hc => ?_) (fun hc => ?_)) | refine goI ?_ | (refine Cw.k_cond ?_; first | (refine Cw.cond_dec rfl (fun hc => ?_) (fun hc => ?_) <;> try (exfalso; omega)) | refine Cw.cond_bool rfl (fun hc => ?_) (fun hc => ?_)) | (refine Ops.k_calla ?_; first | (refine Ops.k_callf 47 ?_; refine Ops.callV hkey (Evs.cons rfl Evs.nil) rfl ?_) | (refine Ops.k_callf 47 ?_; refine Ops.callV hgrp (Evs.cons rfl Evs.nil) rfl ?_)) | (apply OpW.k_call; first | (apply OpW.k_callf 47; exact OpW.callV hkey (Evs.cons rfl Evs.nil)) | (apply OpW.k_callf 47; exact OpW.callV hgrp (Evs.cons rfl Evs.nil))) | refine goR ?_ | refine goP ?_ | apply PSeq.cons | apply PSeq.yes rfl rfl rfl | exact goW | fail)
        exact Fin.ret (Ent.take goTk) (Outs.one rfl rfl) ⟨rfl, congrArg Tr.int hfin.symm⟩
      · have h := h.symm
        repeat' (first | refine goH ?_ | refine goV ?_ | refine goB (fun b => ?_) | refine goG ?_ | (refine Ops.k_guard ?_; first | (refine Ops.guard_dec rfl rfl (fun hc => ?_) (fun hc => ?_) <;> try (exfalso; omega)) | refine Ops.guard_split rfl rfl (fun hc => ?_) (fun hc => ?_)) | refine goI ?_ | (refine Cw.k_cond ?_; first | (refine Cw.cond_dec rfl (fun hc => ?_) (fun hc => ?_) <;> try (exfalso; omega)) | refine Cw.cond_bool rfl (fun hc => ?_) (fun hc => ?_)) | (refine Ops.k_calla ?_; first | (refine Ops.k_callf 47 ?_; refine Ops.callV hkey (Evs.cons rfl Evs.nil) rfl ?_) | (refine Ops.k_callf 47 ?_; refine Ops.callV hgrp (Evs.cons rfl Evs.nil) rfl ?_)) | (apply OpW.k_call; first | (apply OpW.k_callf 47; exact OpW.callV hkey (Evs.cons rfl Evs.nil)) | (apply OpW.k_callf 47; exact OpW.callV hgrp (Evs.cons rfl Evs.nil))) | refine goR ?_ | refine goP ?_ | apply PSeq.cons | apply PSeq.yes rfl rfl rfl | exact goW | fail)
        all_goals first | exact Bool.noConfusion (h.symm.trans hc) | exact Fin.ret (Ent.take goTk) (Outs.one rfl rfl) ⟨rfl, congrArg Tr.int hfin.symm⟩
    rw [if_neg q1, if_neg q2] at hfin g3
    cases q3 : x.pr.any prBad
    · rw [q3] at g3; exact absurd rfl g3
    rw [q3] at hfin hany
    rw [if_pos rfl] at hfin
    rcases hprev with ⟨rfl, _⟩ | ⟨j, y, rfl, hrow2, h⟩
    · repeat' (first | refine goH ?_ | refine goV ?_ | refine goB (fun b => ?_) | refine goG ?_ | (refine Ops.k_guard ?_; first | (refine Ops.guard_dec rfl rfl (fun hc => ?_) (fun hc => ?_) <;> try (exfalso; omega)) | refine Ops.guard_split rfl rfl (fun hc => ?_) (fun hc => ?_)) | refine goI ?_ | (refine Cw.k_cond ?_; first | (refine Cw.cond_dec rfl (fun hc => ?_) (fun hc => ?_) <;> try (exfalso; omega)) | refine Cw.cond_bool rfl (fun hc => ?_) (fun hc => ?_)) | (refine Ops.k_calla ?_; first | (refine Ops.k_callf 47 ?_; refine Ops.callV hkey (Evs.cons rfl Evs.nil) rfl ?_) | (refine Ops.k_callf 47 ?_; refine Ops.callV hgrp (Evs.cons rfl Evs.nil) rfl ?_) | (refine Ops.k_callf 70 ?_; refine Ops.callS hany (Evs.cons rfl (Evs.cons rfl Evs.nil)) goPk rfl ?_)) | (apply OpW.k_call; first | (apply OpW.k_callf 47; exact OpW.callV hkey (Evs.cons rfl Evs.nil)) | (apply OpW.k_callf 47; exact OpW.callV hgrp (Evs.cons rfl Evs.nil)) | (apply OpW.k_callf 70; exact OpW.callS hany (Evs.cons rfl (Evs.cons rfl Evs.nil)) goPk)) | refine goR ?_ | refine goP ?_ | apply PSeq.cons | apply PSeq.yes rfl rfl rfl | exact goW | fail)
      exact Fin.ret (Ent.take goTk) (Outs.one rfl rfl) ⟨rfl, congrArg Tr.int hfin.symm⟩
    · have h := h.symm
      repeat' (first | refine goH ?_ | refine goV ?_ | refine goB (fun b => ?_) | refine goG ?_ | (refine Ops.k_guard ?_; first | (refine Ops.guard_dec rfl rfl (fun hc => ?_) (fun hc => ?_) <;> try (exfalso; omega)) | refine Ops.guard_split rfl rfl (fun hc => ?_) (fun hc => ?_)) | refine goI ?_ | (refine Cw.k_cond ?_; first | (refine Cw.cond_dec rfl (fun hc => ?_) (fun hc => ?_) <;> try (exfalso; omega)) | refine Cw.cond_bool rfl (fun hc => ?_) (fun hc => ?_)) | (refine Ops.k_calla ?_; first | (refine Ops.k_callf 47 ?_; refine Ops.callV hkey (Evs.cons rfl Evs.nil) rfl ?_) | (refine Ops.k_callf 47 ?_; refine Ops.callV hgrp (Evs.cons rfl Evs.nil) rfl ?_) | (refine Ops.k_callf 70 ?_; refine Ops.callS hany (Evs.cons rfl (Evs.cons rfl Evs.nil)) goPk rfl ?_)) | (apply OpW.k_call; first | (apply OpW.k_callf 47; exact OpW.callV hkey (Evs.cons rfl Evs.nil)) | (apply OpW.k_callf 47; exact OpW.callV hgrp (Evs.cons rfl Evs.nil)) | (apply OpW.k_callf 70; exact OpW.callS hany (Evs.cons rfl (Evs.cons rfl Evs.nil)) goPk)) | refine goR ?_ | refine goP ?_ | apply PSeq.cons | apply PSeq.yes rfl rfl rfl | exact goW | fail)
      all_goals first | exact Bool.noConfusion (h.symm.trans hc) | exact Fin.ret (Ent.take goTk) (Outs.one rfl rfl) ⟨rfl, congrArg Tr.int hfin.symm⟩
  rw [if_neg g3] at hoe
  have hpe : prE x.pr = if x.pr.length = 0 then 8 else if x.pr.length > 10 then 2 else if x.pr.any prBad then 1 else 0 := rfl
  have g30 : prE x.pr = 0 := by omega
  have q1 : ¬ x.pr.length = 0 := fun h => by rw [hpe, if_pos h] at g30; omega
  rw [if_neg q1] at hpe
  have q2 : ¬ x.pr.length > 10 := fun h => by rw [hpe, if_pos h] at g30; omega
  rw [if_neg q2] at hpe
  have q3 : x.pr.any prBad = false := by
    cases q : x.pr.any prBad
    · rfl
    · rw [hpe, q, if_pos rfl] at g30; omega
  rw [q3] at hany
  clear hpe g3 g30
  have k1 := keysFault_fn x.has (by omega)
  have k2 := keysFault_fn x.hates (by omega)
  have k3 := cmpOr_fn [keysE x.has, keysE x.hates] (by simp)
  have ho : orI [keysE x.has, keysE x.hates] = offerE l k := by
    rw [hoe, orI_cons]
    by_cases h : keysE x.has ≠ 0
    · rw [if_pos h, if_pos h]
    · rw [if_neg h, if_neg h, orI_cons]
      by_cases h2 : keysE x.hates ≠ 0
      · rw [if_pos h2]
      · rw [if_neg h2, orI]; omega
  rw [ho] at k3
  by_cases g4 : offerE l k = 0
  · rw [g4] at k3
    rcases hprev with ⟨rfl, _⟩ | ⟨j, y, rfl, hrow2, h⟩
    · repeat' (first | refine goH ?_ | refine goV ?_ | refine goB (fun b => ?_) | refine goG ?_ | (refine Ops.k_guard ?_; first | (refine Ops.guard_dec rfl rfl (fun hc => ?_) (fun hc => ?_) <;> try (exfalso; omega)) | refine Ops.guard_split rfl rfl (fun hc => ?_) (fun hc => ?_)) | refine goI ?_ | (refine Cw.k_cond ?_; first | (refine Cw.cond_dec rfl (fun hc => ?_) (fun hc => ?_) <;> try (exfalso; omega)) | refine Cw.cond_bool rfl (fun hc => ?_) (fun hc => ?_)) | (refine Ops.k_calla ?_; first | (refine Ops.k_callf 47 ?_; refine Ops.callV hkey (Evs.cons rfl Evs.nil) rfl ?_) | (refine Ops.k_callf 47 ?_; refine Ops.callV hgrp (Evs.cons rfl Evs.nil) rfl ?_) | (refine Ops.k_callf 70 ?_; refine Ops.callS hany (Evs.cons rfl (Evs.cons rfl Evs.nil)) goPk rfl ?_) | (refine Ops.k_callf 72 ?_; refine Ops.callV k1 (Evs.cons rfl Evs.nil) rfl ?_) | (refine Ops.k_callf 72 ?_; refine Ops.callV k2 (Evs.cons rfl Evs.nil) rfl ?_) | (refine Ops.k_callf 60 ?_; refine Ops.callV k3 (Evs.cons rfl Evs.nil) rfl ?_)) | (apply OpW.k_call; first | (apply OpW.k_callf 47; exact OpW.callV hkey (Evs.cons rfl Evs.nil)) | (apply OpW.k_callf 47; exact OpW.callV hgrp (Evs.cons rfl Evs.nil)) | (apply OpW.k_callf 70; exact OpW.callS hany (Evs.cons rfl (Evs.cons rfl Evs.nil)) goPk) | (apply OpW.k_callf 72; exact OpW.callV k1 (Evs.cons rfl Evs.nil)) | (apply OpW.k_callf 72; exact OpW.callV k2 (Evs.cons rfl Evs.nil)) | (apply OpW.k_callf 60; exact OpW.callV k3 (Evs.cons rfl Evs.nil))) | refine goR ?_ | refine goP ?_ | apply PSeq.cons | apply PSeq.yes rfl rfl rfl | exact goW | fail)
      exact ⟨_, _, _, (Ent.mk goSub goTk), ⟨_, rfl, ⟨by omega, nxt g4⟩, rfl, rfl⟩, by omega⟩
    · have h := h.symm
      repeat' (first | refine goH ?_ | refine goV ?_ | refine goB (fun b => ?_) | refine goG ?_ | (refine Ops.k_guard ?_; first | (refine Ops.guard_dec rfl rfl (fun hc => ?_) (fun hc => ?_) <;> try (exfalso; omega)) | refine Ops.guard_split rfl rfl (fun hc => ?_) (fun hc => ?_)) | refine goI ?_ | (refine Cw.k_cond ?_; first | (refine Cw.cond_dec rfl (fun hc => ?_) (fun hc => ?_) <;> try (exfalso; omega)) | refine Cw.cond_bool rfl (fun hc => ?_) (fun hc => ?_)) | (refine Ops.k_calla ?_; first | (refine Ops.k_callf 47 ?_; refine Ops.callV hkey (Evs.cons rfl Evs.nil) rfl ?_) | (refine Ops.k_callf 47 ?_; refine Ops.callV hgrp (Evs.cons rfl Evs.nil) rfl ?_) | (refine Ops.k_callf 70 ?_; refine Ops.callS hany (Evs.cons rfl (Evs.cons rfl Evs.nil)) goPk rfl ?_) | (refine Ops.k_callf 72 ?_; refine Ops.callV k1 (Evs.cons rfl Evs.nil) rfl ?_) | (refine Ops.k_callf 72 ?_; refine Ops.callV k2 (Evs.cons rfl Evs.nil) rfl ?_) | (refine Ops.k_callf 60 ?_; refine Ops.callV k3 (Evs.cons rfl Evs.nil) rfl ?_)) | (apply OpW.k_call; first | (apply OpW.k_callf 47; exact OpW.callV hkey (Evs.cons rfl Evs.nil)) | (apply OpW.k_callf 47; exact OpW.callV hgrp (Evs.cons rfl Evs.nil)) | (apply OpW.k_callf 70; exact OpW.callS hany (Evs.cons rfl (Evs.cons rfl Evs.nil)) goPk) | (apply OpW.k_callf 72; exact OpW.callV k1 (Evs.cons rfl Evs.nil)) | (apply OpW.k_callf 72; exact OpW.callV k2 (Evs.cons rfl Evs.nil)) | (apply OpW.k_callf 60; exact OpW.callV k3 (Evs.cons rfl Evs.nil))) | refine goR ?_ | refine goP ?_ | apply PSeq.cons | apply PSeq.yes rfl rfl rfl | exact goW | fail)
      all_goals first | exact Bool.noConfusion (h.symm.trans hc) | exact ⟨_, _, _, (Ent.mk goSub goTk), ⟨_, rfl, ⟨by omega, nxt g4⟩, rfl, rfl⟩, by omega⟩
  · have hfin := fin _ rfl g4
    rcases hprev with ⟨rfl, _⟩ | ⟨j, y, rfl, hrow2, h⟩
    · repeat' (first | refine goH ?_ | refine goV ?_ | refine goB (fun b => ?_) | refine goG ?_ | (refine Ops.k_guard ?_; first | (refine Ops.guard_dec rfl rfl (fun hc => ?_) (fun hc => ?_) <;> try (exfalso; omega)) | refine Ops.guard_split rfl rfl (fun hc => ?_) (fun hc => ?_)) | refine goI ?_ | (refine Cw.k_cond ?_; first | (refine Cw.cond_dec rfl (fun hc => ?_) (fun hc => ?_) <;> try (exfalso; omega)) | refine Cw.cond_bool rfl (fun hc => ?_) (fun hc => ?_)) | (refine Ops.k_calla ?_; first | (refine Ops.k_callf 47 ?_; refine Ops.callV hkey (Evs.cons rfl Evs.nil) rfl ?_) | (refine Ops.k_callf 47 ?_; refine Ops.callV hgrp (Evs.cons rfl Evs.nil) rfl ?_) | (refine Ops.k_callf 70 ?_; refine Ops.callS hany (Evs.cons rfl (Evs.cons rfl Evs.nil)) goPk rfl ?_) | (refine Ops.k_callf 72 ?_; refine Ops.callV k1 (Evs.cons rfl Evs.nil) rfl ?_) | (refine Ops.k_callf 72 ?_; refine Ops.callV k2 (Evs.cons rfl Evs.nil) rfl ?_) | (refine Ops.k_callf 60 ?_; refine Ops.callV k3 (Evs.cons rfl Evs.nil) rfl ?_)) | (apply OpW.k_call; first | (apply OpW.k_callf 47; exact OpW.callV hkey (Evs.cons rfl Evs.nil)) | (apply OpW.k_callf 47; exact OpW.callV hgrp (Evs.cons rfl Evs.nil)) | (apply OpW.k_callf 70; exact OpW.callS hany (Evs.cons rfl (Evs.cons rfl Evs.nil)) goPk) | (apply OpW.k_callf 72; exact OpW.callV k1 (Evs.cons rfl Evs.nil)) | (apply OpW.k_callf 72; exact OpW.callV k2 (Evs.cons rfl Evs.nil)) | (apply OpW.k_callf 60; exact OpW.callV k3 (Evs.cons rfl Evs.nil))) | refine goR ?_ | refine goP ?_ | apply PSeq.cons | apply PSeq.yes rfl rfl rfl | exact goW | fail)
      exact Fin.ret (Ent.take goTk) (Outs.one rfl rfl) ⟨rfl, congrArg Tr.int hfin.symm⟩
    · have h := h.symm
      repeat' (first | refine goH ?_ | refine goV ?_ | refine goB (fun b => ?_) | refine goG ?_ | (refine Ops.k_guard ?_; first | (refine Ops.guard_dec rfl rfl (fun hc => ?_) (fun hc => ?_) <;> try (exfalso; omega)) | refine Ops.guard_split rfl rfl (fun hc => ?_) (fun hc => ?_)) | refine goI ?_ | (refine Cw.k_cond ?_; first | (refine Cw.cond_dec rfl (fun hc => ?_) (fun hc => ?_) <;> try (exfalso; omega)) | refine Cw.cond_bool rfl (fun hc => ?_) (fun hc => ?_)) | (refine Ops.k_calla ?_; first | (refine Ops.k_callf 47 ?_; refine Ops.callV hkey (Evs.cons rfl Evs.nil) rfl ?_) | (refine Ops.k_callf 47 ?_; refine Ops.callV hgrp (Evs.cons rfl Evs.nil) rfl ?_) | (refine Ops.k_callf 70 ?_; refine Ops.callS hany (Evs.cons rfl (Evs.cons rfl Evs.nil)) goPk rfl ?_) | (refine Ops.k_callf 72 ?_; refine Ops.callV k1 (Evs.cons rfl Evs.nil) rfl ?_) | (refine Ops.k_callf 72 ?_; refine Ops.callV k2 (Evs.cons rfl Evs.nil) rfl ?_) | (refine Ops.k_callf 60 ?_; refine Ops.callV k3 (Evs.cons rfl Evs.nil) rfl ?_)) | (apply OpW.k_call; first | (apply OpW.k_callf 47; exact OpW.callV hkey (Evs.cons rfl Evs.nil)) | (apply OpW.k_callf 47; exact OpW.callV hgrp (Evs.cons rfl Evs.nil)) | (apply OpW.k_callf 70; exact OpW.callS hany (Evs.cons rfl (Evs.cons rfl Evs.nil)) goPk) | (apply OpW.k_callf 72; exact OpW.callV k1 (Evs.cons rfl Evs.nil)) | (apply OpW.k_callf 72; exact OpW.callV k2 (Evs.cons rfl Evs.nil)) | (apply OpW.k_callf 60; exact OpW.callV k3 (Evs.cons rfl Evs.nil))) | refine goR ?_ | refine goP ?_ | apply PSeq.cons | apply PSeq.yes rfl rfl rfl | exact goW | fail)
      all_goals first | exact Bool.noConfusion (h.symm.trans hc) | exact Fin.ret (Ent.take goTk) (Outs.one rfl rfl) ⟨rfl, congrArg Tr.int hfin.symm⟩
end Lg
end
