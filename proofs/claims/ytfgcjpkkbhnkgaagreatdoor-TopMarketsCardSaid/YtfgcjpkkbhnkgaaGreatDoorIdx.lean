/- A part of the proof of a law of this seat: it adds no condition. By an AI agent. -/
import Derived.Test.YtfgcjpkkbhnkgaaGreatDoorDd
import Derived.Test.YtfgcjpkkbhnkgaaGreatDoorCmpOrI
section
set_option linter.all false
set_option maxRecDepth 100000
set_option maxHeartbeats 1000000
namespace Lg
open Go Go.Proofs

/-! ### ShelvesCounted in plain terms -/
structure Mv where
 site : ByteArray
 no : Int
 day : Int
 ware : ByteArray
 many : Int
deriving DecidableEq
abbrev Mv.row (x : Mv) : List Tr := [.str x.site, .int x.no, .int x.day, .str x.ware, .int x.many]
abbrev Tr.mvs (l : List Mv) : Tr := .sl 5 (l.map Mv.row)
def cfM (a b : Mv) : Int := orI [cmpS a.site b.site, cmpI a.no b.no]
theorem orI2 (x y : Int) : orI [x, y] = if x ≠ 0 then x else y := by
 rw [orI_cons, orI_cons, orI]
 split
 ·rfl
 ·split <;> omega
theorem cmpI_eq0 (a b : Int) : cmpI a b = 0 ↔ a = b := by unfold cmpI; split <;> (try split) <;> omega
theorem cmpI_neg (a b : Int) : cmpI b a = -cmpI a b := by unfold cmpI; split <;> (try split) <;> (try split) <;> omega
theorem cmpS_neg (a b : ByteArray) : cmpS b a = -cmpS a b := by
 unfold cmpS
 cases h1 : strLt a b <;> cases h2 : strLt b a
 ·rfl
 ·rfl
 ·rfl
 ·rw [strLt_asymm h1] at h2; cases h2
theorem cfM_neg (a b : Mv) : cfM b a = -cfM a b := by
 unfold cfM
 rw [orI2, orI2, cmpS_neg a.site b.site, cmpI_neg a.no b.no]
 split
 ·rw [if_pos (by omega)]
 ·rw [if_neg (by omega)]
theorem cfM_eq0 (a b : Mv) : cfM a b = 0 ↔ a.site = b.site ∧ a.no = b.no := by
 unfold cfM
 rw [orI2, ← cmpS_eq a.site b.site, ← cmpI_eq0 a.no b.no]
 split
 ·constructor
  ·intro h; omega
  ·rintro ⟨h, _⟩; omega
 ·constructor
  ·intro h; exact ⟨by omega, h⟩
  ·exact fun h => h.2
theorem cfM_lt (a b : Mv) : cfM a b < 0 ↔ strLt a.site b.site = true ∨ (a.site = b.site ∧ a.no < b.no) := by
 unfold cfM
 rw [orI2, ← cmpS_lt, ← cmpS_eq a.site b.site, ← cmpI_lt a.no b.no]
 split
 ·constructor
  ·exact fun h => .inl h
  ·rintro (h | ⟨h, _⟩)
   ·exact h
   ·omega
 ·constructor
  ·exact fun h => .inr ⟨by omega, h⟩
  ·rintro (h | ⟨_, h⟩)
   ·omega
   ·exact h
def Mv.lt (a b : Mv) : Prop := cfM a b < 0
theorem Mv.lt_irrefl (a : Mv) : ¬ a.lt a := by
 unfold Mv.lt
 have := (cfM_eq0 a a).2 ⟨rfl, rfl⟩
 omega
theorem Mv.lt_trans (a b c : Mv) (h1 : a.lt b) (h2 : b.lt c) : a.lt c := by
 unfold Mv.lt at *
 rw [cfM_lt] at *
 rcases h1 with h1 | ⟨h1, h3⟩
 ·rcases h2 with h2 | ⟨h2, h4⟩
  ·exact .inl (strLt_trans h1 h2)
  ·exact .inl (h2 ▸ h1)
 ·rcases h2 with h2 | ⟨h2, h4⟩
  ·exact .inl (h1 ▸ h2)
  ·exact .inr ⟨h1.trans h2, by omega⟩
theorem Mv.lt_of (a b : Mv) (h1 : ¬ b.lt a) (h2 : cfM a b ≠ 0) : a.lt b := by
 unfold Mv.lt at *
 rw [cfM_neg a b] at h1
 omega
/-- what is not less than b, which is not less than c, is not less than c -/
theorem Mv.ntrans (a b c : Mv) (h1 : ¬ b.lt a) (h2 : ¬ c.lt b) : ¬ c.lt a := by
 intro h
 by_cases h3 : cfM a b = 0
 ·have e := (cfM_eq0 a b).1 h3
  refine h2 ?_
  unfold Mv.lt at *
  rw [cfM_lt] at *
  rw [← e.1, ← e.2]
  exact h
 ·exact h2 (Mv.lt_trans c a b h (Mv.lt_of a b h1 h3))
def ltM (a b : Mv) : Bool := decide (cfM a b < 0)
theorem ltM_nf (a b : Mv) : ltM a b = false ↔ ¬ a.lt b := by unfold ltM Mv.lt; rw [decide_eq_false_iff_not]
theorem pw_mem {α : Type} {R : α → α → Prop} : ∀ {l : List α}, l.Pairwise R → ∀ x ∈ l, ∀ y ∈ l, x = y ∨ R x y ∨ R y x
 |[], _, x, hx, _, _ => by cases hx
 |a :: l, h, x, hx, y, hy => by
  have hh := List.pairwise_cons.1 h
  rcases List.mem_cons.1 hx with h1 | h1
  ·rcases List.mem_cons.1 hy with h2 | h2
   ·exact .inl (h1.trans h2.symm)
   ·exact .inr (.inl (h1 ▸ hh.1 y h2))
  ·rcases List.mem_cons.1 hy with h2 | h2
   ·exact .inr (.inr (h2 ▸ hh.1 x h1))
   ·exact pw_mem hh.2 x h1 y h2
/-- two neighbours of the same place -/
def adjC : List Mv → Bool
 |a :: b :: l => decide (cfM a b = 0) || adjC (b :: l)
 |_ => false
theorem strict_of : ∀ {l : List Mv}, (l.Pairwise fun a b => ¬ b.lt a) → adjC l = false → l.Pairwise Mv.lt
 |[], _, _ => List.Pairwise.nil
 |[a], _, _ => List.pairwise_singleton _ _
 |a :: b :: l, h, hc => by
  have hh := List.pairwise_cons.1 h
  rw [adjC, Bool.or_eq_false_iff, decide_eq_false_iff_not] at hc
  have ih := strict_of hh.2 hc.2
  have hab := Mv.lt_of a b (hh.1 b (by simp)) hc.1
  refine List.pairwise_cons.2 ⟨fun y hy => ?_, ih⟩
  rcases List.mem_cons.1 hy with rfl | hy
  ·exact hab
  ·exact Mv.lt_trans a b y hab ((List.pairwise_cons.1 ih).1 y hy)
theorem srtM_sorted (c : List Mv) : (isort ltM c).Pairwise fun a b => ¬ b.lt a := by
 have := isort_sorted (lt := ltM) (fun a b h => by
  rw [ltM_nf]
  unfold ltM at h
  rw [decide_eq_true_eq] at h
  unfold Mv.lt
  rw [cfM_neg a b]
  omega) (fun a b c h1 h2 => by
  rw [ltM_nf] at *
  exact Mv.ntrans a b c h1 h2) c
 exact this.imp fun h => (ltM_nf _ _).1 h
theorem ddM_sorted (c : List Mv) : (dd (isort ltM c)).Pairwise fun a b => ¬ b.lt a := (srtM_sorted c).sublist (dd_sub _)
theorem ddM_mem (c : List Mv) (x : Mv) : x ∈ dd (isort ltM c) ↔ x ∈ c := by rw [dd_mem, (isort_perm ltM c).mem_iff]
end Lg
end
section
set_option linter.all false
set_option maxRecDepth 100000
set_option maxHeartbeats 8000000
namespace Lg
open Go Go.Proofs
theorem dropI_ne {a b : List Int} {k : Nat} {x y : Int} (h1 : a[k]? = some x) (h2 : b[k]? = some y) (h : x ≠ y) : a ≠ b := by
 rintro rfl
 rw [h1] at h2
 exact h (Option.some.inj h2)
theorem equalInts_fn (a b : List Int) (ha : a.length ≤ 1000000) (hb : b.length ≤ 1000000) : PFn Tryz.prog 52 [.ints a, .ints b] (· = .bool (decide (a = b))) := by
 refine PFn.mk (Spec.body Tryz.func52 rfl rfl (Tryz.ntmps52) rfl fun w0 own0 M => ?_)
 have hA := intRows_len a
 have hB := intRows_len b
 by_cases hl : a.length = b.length
 rotate_left
 ·have e : decide (a = b) = false := decide_eq_false (fun e => hl (by rw [e]))
  repeat' (first | refine goH ?_ | refine goV ?_ | refine goI ?_ | (refine Cw.k_cond ?_; first | (refine Cw.cond_dec rfl ?_ ?_ <;> intro hc <;> try omega) | refine Cw.cond_bool rfl ?_ ?_ <;> intro hc) | refine goR ?_ | refine goP ?_ | apply PSeq.cons | apply PSeq.yes rfl rfl rfl | exact goW | fail)
  exact Fin.ret (Ent.take goTk) (Outs.one rfl rfl) ⟨rfl, congrArg Tr.bool e.symm⟩
 repeat' (first | refine goH ?_ | refine goV ?_ | refine goI ?_ | (refine Cw.k_cond ?_; first | (refine Cw.cond_dec rfl ?_ ?_ <;> intro hc <;> try omega) | refine Cw.cond_bool rfl ?_ ?_ <;> intro hc) | refine goR ?_ | refine goP ?_ | apply PSeq.cons | apply PSeq.yes rfl rfl rfl | exact goW | fail)
 refine Cw.loopI [(0, _), (1, _), (11, _), (12, _)] _ (fun q e cc => ∃ (k : Nat), q = a.length - k ∧ (k ≤ a.length ∧ ∀ j, j < k → a[j]? = b[j]?) ∧ e = [(13, .int k)] ∧ cc = []) ⟨_, _, _, (Ent.mkP goSub goPm), 0, rfl, ⟨by omega, fun j h => absurd h (by omega)⟩, rfl, rfl⟩ ?_
 rintro _ _ _ ⟨k, rfl, ⟨hk, hV⟩, rfl, rfl⟩
 by_cases hkl : k < a.length
 ·obtain ⟨x, hx⟩ := at_lt hkl
  obtain ⟨y, hy⟩ := at_lt (l := b) (k := k) (by omega)
  have hr1 := intRows_at hx
  have hr2 := intRows_at hy
  by_cases hxy : x = y
  ·have nx : ∀ j, j < k + 1 → a[j]? = b[j]? := by
    intro j hj
    by_cases e : j = k
    ·subst e; rw [hx, hy, hxy]
    ·exact hV j (by omega)
   clear hV
   repeat' (first | refine goH ?_ | refine goV ?_ | refine goI ?_ | (refine Cw.k_cond ?_; first | (refine Cw.cond_dec rfl ?_ ?_ <;> intro hc <;> try omega) | refine Cw.cond_bool rfl ?_ ?_ <;> intro hc) | refine goR ?_ | refine goP ?_ | apply PSeq.cons | apply PSeq.yes rfl rfl rfl | exact goW | fail)
   all_goals first | exact ⟨_, _, _, (Ent.mk goSub goTk), ⟨k + 1, rfl, ⟨by omega, nx⟩, rfl, rfl⟩, by omega⟩ | (exfalso; omega)
  ·have e : decide (a = b) = false := decide_eq_false (dropI_ne hx hy hxy)
   clear hV
   repeat' (first | refine goH ?_ | refine goV ?_ | refine goI ?_ | (refine Cw.k_cond ?_; first | (refine Cw.cond_dec rfl ?_ ?_ <;> intro hc <;> try omega) | refine Cw.cond_bool rfl ?_ ?_ <;> intro hc) | refine goR ?_ | refine goP ?_ | apply PSeq.cons | apply PSeq.yes rfl rfl rfl | exact goW | fail)
   all_goals first | exact Fin.ret (Ent.take goTk) (Outs.one rfl rfl) ⟨rfl, congrArg Tr.bool e.symm⟩ | (exfalso; omega)
 ·have e : decide (a = b) = true := by
   refine decide_eq_true (List.ext_getElem? fun j => ?_)
   by_cases hj : j < k
   ·exact hV j hj
   ·rw [List.getElem?_eq_none (by omega), List.getElem?_eq_none (by omega)]
  clear hV
  repeat' (first | refine goH ?_ | refine goV ?_ | refine goI ?_ | (refine Cw.k_cond ?_; first | (refine Cw.cond_dec rfl ?_ ?_ <;> intro hc <;> try omega) | refine Cw.cond_bool rfl ?_ ?_ <;> intro hc) | refine goR ?_ | refine goP ?_ | apply PSeq.cons | apply PSeq.yes rfl rfl rfl | exact goW | fail)
  exact Fin.ret (Ent.take goTk) (Outs.one rfl rfl) ⟨rfl, congrArg Tr.bool e.symm⟩
end Lg
end
section
set_option linter.all false
set_option maxRecDepth 100000
set_option maxHeartbeats 1000000
namespace Lg
open Go Go.Proofs
theorem indexFunc_int {l : List Int} {p : Int → Bool} {g : Nat} {caps : List Value} {cin : List Chunk} (hl : l.length ≤ 1000000000)
  (hs : ∀ x, x ∈ l → Spec Tryz.prog g ([Tr.int x] ++ caps.map Tr.raw) cin (fun r cs => r = Tr.bool (p x) ∧ cs = cin)) :
  Spec Tryz.prog 113 [Tr.sl 1 (l.map (fun x => [Tr.int x])), Tr.raw (.func (.func g) #[] caps.toArray)] cin (fun r cs => r = Tr.int (idxFrom p l 0) ∧ cs = cin) := by
 refine Spec.body Tryz.func113 rfl rfl (Tryz.ntmps113) rfl fun w0 own0 M => ?_
 have hL : (l.map (fun x => [Tr.int x])).length = l.length := List.length_map _
 repeat' (first | refine goH ?_ | refine goV ?_ | refine goI ?_ | (refine Cw.k_cond ?_; first | (refine Cw.cond_dec rfl ?_ ?_ <;> intro hc <;> try omega) | refine Cw.cond_bool rfl ?_ ?_ <;> intro hc) | fail)
 refine Cw.loop (ι := Nat) (fun k => k ≤ l.length ∧ idxFrom p l 0 = idxFrom p (l.drop k) k) (fun k => [(0, Tr.sl 1 (l.map (fun x => [Tr.int x]))), (1, Tr.raw (.func (.func g) #[] caps.toArray)), (7, .int (l.map (fun x => [Tr.int x])).length), (8, .int k)]) (fun _ => cin) (fun k => l.length - k) ⟨0, ⟨by omega, rfl⟩, Ent.sub goSub⟩ ?_
 rintro k ⟨hk, hgo⟩
 by_cases hkl : k < l.length
 ·obtain ⟨x, hx⟩ : ∃ x, l[k]? = some x := ⟨_, List.getElem?_eq_getElem hkl⟩
  have hrow : (l.map (fun x => [Tr.int x]))[k]? = some [Tr.int x] := rows_at hx
  have hdrop := idxFrom_drop p hx
  rw [hdrop] at hgo
  have hsx := hs x (List.mem_of_getElem? hx)
  by_cases hp : p x = true
  ·rw [if_pos hp] at hgo
   rw [hp] at hsx
   repeat' (first | refine goH ?_ | refine goV ?_ | refine goI ?_ | (refine Cw.k_cond ?_; first | (refine Cw.cond_dec rfl ?_ ?_ <;> intro hc <;> try omega) | refine Cw.cond_bool rfl ?_ ?_ <;> intro hc) | (refine Ops.k_calla ?_; first | (refine Ops.call_fn rfl hsx (Evs.cons rfl Evs.nil) (by rw [List.append_nil]) rfl ?_; rintro r cs' ⟨rfl, hcs⟩; rw [hcs, List.append_nil])) | fail)
   exact Fin.ret Ent.refl (Outs.one rfl rfl) ⟨by rw [hgo], rfl⟩
  ·rw [if_neg hp] at hgo
   rw [Bool.not_eq_true] at hp
   rw [hp] at hsx
   repeat' (first | refine goH ?_ | refine goV ?_ | refine goI ?_ | (refine Cw.k_cond ?_; first | (refine Cw.cond_dec rfl ?_ ?_ <;> intro hc <;> try omega) | refine Cw.cond_bool rfl ?_ ?_ <;> intro hc) | (refine Ops.k_calla ?_; first | (refine Ops.call_fn rfl hsx (Evs.cons rfl Evs.nil) (by rw [List.append_nil]) rfl ?_; rintro r cs' ⟨rfl, hcs⟩; rw [hcs, List.append_nil])) | fail)
   exact ⟨k + 1, ⟨by omega, hgo⟩, by omega, Ent.sub goSub⟩
 ·rw [List.drop_eq_nil_of_le (by omega), idxFrom] at hgo
  repeat' (first | refine goH ?_ | refine goV ?_ | refine goI ?_ | (refine Cw.k_cond ?_; first | (refine Cw.cond_dec rfl ?_ ?_ <;> intro hc <;> try omega) | refine Cw.cond_bool rfl ?_ ?_ <;> intro hc) | fail)
  exact Fin.ret Ent.refl (Outs.one rfl rfl) ⟨by rw [hgo], rfl⟩

theorem containsFunc_int {l : List Int} {p : Int → Bool} {g : Nat} {caps : List Value} {cin : List Chunk} (hl : l.length ≤ 1000000000)
  (hs : ∀ x, x ∈ l → Spec Tryz.prog g ([Tr.int x] ++ caps.map Tr.raw) cin (fun r cs => r = Tr.bool (p x) ∧ cs = cin)) :
  Spec Tryz.prog 68 [Tr.sl 1 (l.map (fun x => [Tr.int x])), Tr.raw (.func (.func g) #[] caps.toArray)] cin (fun r cs => r = Tr.bool (l.any p) ∧ cs = cin) := by
 refine Spec.body Tryz.func68 rfl rfl (Tryz.ntmps68) rfl fun w0 own0 M => ?_
 repeat' (first | refine goH ?_ | refine goV ?_ | refine goI ?_ | (refine Cw.k_cond ?_; first | (refine Cw.cond_dec rfl ?_ ?_ <;> intro hc <;> try omega) | refine Cw.cond_bool rfl ?_ ?_ <;> intro hc) | (refine Ops.k_calla ?_; first | (refine Ops.k_callf 113 ?_; (refine Ops.call (indexFunc_int hl hs) (Evs.cons rfl (Evs.cons rfl Evs.nil)) (by rw [List.append_nil]) rfl ?_; rintro r cs' ⟨rfl, hcs⟩; rw [hcs, List.append_nil]))) | fail)
 refine Fin.ret Ent.refl (Outs.one rfl rfl) ⟨congrArg Tr.bool ?_, rfl⟩
 have := idxFrom_ge p l 0 (Int.le_refl _)
 by_cases h : 0 ≤ idxFrom p l 0
 ·simp [h, this.1 h]
 ·have h2 : l.any p = false := by rw [← Bool.not_eq_true]; exact fun e => h (this.2 e)
  simp [h, h2]

end Lg
end
