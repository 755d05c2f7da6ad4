/- A part of the proof of a law of this seat: it adds no condition. By an AI agent. -/
import Derived.Test.YtfgcjpkkbhnkgaaGreatDoorWal9
section
set_option linter.all false
set_option maxRecDepth 100000
set_option maxHeartbeats 8000000
namespace Lg
open Go Go.Proofs

attribute [local irreducible] intRows intsR strRows valsW rowsW

end Lg
end
section
set_option linter.all false
set_option maxRecDepth 100000
set_option maxHeartbeats 8000000
namespace Lg
open Go Go.Proofs

/-! ### the place of a word -/
def idxS (l : List ByteArray) (x : ByteArray) : Int := match l.findIdx? (fun y => decide (x = y)) with
 |some k => k
 |none => -1
theorem idxS_found {l : List ByteArray} {x : ByteArray} {k : Nat} (h : l[k]? = some x) (hn : ∀ j, j < k → l[j]? ≠ some x) : idxS l x = k := by
 unfold idxS
 have hk := (List.getElem?_eq_some_iff.1 h)
 obtain ⟨hlt, e⟩ := hk
 have : l.findIdx? (fun y => decide (x = y)) = some k := by
  rw [List.findIdx?_eq_some_iff_getElem]
  refine ⟨hlt, by simp [e], fun j hj => ?_⟩
  have := hn j hj
  rw [List.getElem?_eq_getElem (by omega)] at this
  simp
  intro e2
  exact this (by rw [← e2])
 rw [this]
theorem idxS_none {l : List ByteArray} {x : ByteArray} (hn : ∀ j, j < l.length → l[j]? ≠ some x) : idxS l x = -1 := by
 unfold idxS
 have : l.findIdx? (fun y => decide (x = y)) = none := by
  rw [List.findIdx?_eq_none_iff]
  intro y hy
  obtain ⟨j, hj, rfl⟩ := List.getElem_of_mem hy
  simp
  intro e
  exact hn j hj (by rw [List.getElem?_eq_getElem hj, ← e])
 rw [this]
theorem idxS_cases (l : List ByteArray) (x : ByteArray) : idxS l x = -1 ∨ ∃ k : Nat, idxS l x = k ∧ l[k]? = some x ∧ k < l.length := by
 unfold idxS
 cases h : l.findIdx? (fun y => decide (x = y)) with
 |none => exact .inl rfl
 |some k =>
  rw [List.findIdx?_eq_some_iff_getElem] at h
  obtain ⟨hlt, e, _⟩ := h
  refine .inr ⟨k, rfl, ?_, hlt⟩
  rw [List.getElem?_eq_getElem hlt]
  simp at e
  rw [e]
theorem index_fn (l : List ByteArray) (x : ByteArray) (hl : l.length ≤ 1000000) : PFn Tryz.prog 54 [.strs l, .str x] (· = .int (idxS l x)) := by
 refine PFn.mk (Spec.body Tryz.func54 rfl rfl (Tryz.ntmps54) rfl fun w0 own0 M => ?_)
 have hL := strRows_len l
 repeat' (first | refine goH ?_ | refine goV ?_ | refine goI ?_ | (refine Cw.k_cond ?_; first | (refine Cw.cond_dec rfl ?_ ?_ <;> intro hc <;> try omega) | refine Cw.cond_bool rfl ?_ ?_ <;> intro hc) | fail)
 refine Cw.loopI [(0, _), (1, _), (7, _)] _ (fun q e cc => ∃ (k : Nat), q = l.length - k ∧ (k ≤ l.length ∧ ∀ j, j < k → l[j]? ≠ some x) ∧ e = [(8, .int k)] ∧ cc = []) ⟨_, _, _, (Ent.mkP goSub goPm), 0, rfl, ⟨by omega, fun j h => absurd h (by omega)⟩, rfl, rfl⟩ ?_
 rintro _ _ _ ⟨k, rfl, ⟨hk, hV⟩, rfl, rfl⟩
 by_cases hkl : k < l.length
 ·obtain ⟨y, hy⟩ := at_lt hkl
  have hr := strRows_at hy
  by_cases hxy : x = y
  ·subst hxy
   have e := idxS_found hy hV
   clear hV
   repeat' (first | refine goH ?_ | refine goV ?_ | refine goI ?_ | (refine Cw.k_cond ?_; first | (refine Cw.cond_dec rfl ?_ ?_ <;> intro hc <;> try omega) | refine Cw.cond_bool rfl ?_ ?_ <;> intro hc) | fail)
   all_goals first | exact Fin.ret (Ent.take goTk) (Outs.one rfl rfl) ⟨rfl, congrArg Tr.int e.symm⟩ | exact absurd rfl hc
  ·have nx : ∀ j, j < k + 1 → l[j]? ≠ some x := by
    intro j hj
    by_cases e : j = k
    ·subst e; rw [hy]; intro h; cases h; exact hxy rfl
    ·exact hV j (by omega)
   clear hV
   repeat' (first | refine goH ?_ | refine goV ?_ | refine goI ?_ | (refine Cw.k_cond ?_; first | (refine Cw.cond_dec rfl ?_ ?_ <;> intro hc <;> try omega) | refine Cw.cond_bool rfl ?_ ?_ <;> intro hc) | fail)
   all_goals first | exact ⟨_, _, _, (Ent.mk goSub goTk), ⟨k + 1, rfl, ⟨by omega, nx⟩, rfl, rfl⟩, by omega⟩ | (exfalso; simp_all; done)
 ·have e : idxS l x = -1 := idxS_none (fun j hj => hV j (by omega))
  clear hV
  repeat' (first | refine goH ?_ | refine goV ?_ | refine goI ?_ | (refine Cw.k_cond ?_; first | (refine Cw.cond_dec rfl ?_ ?_ <;> intro hc <;> try omega) | refine Cw.cond_bool rfl ?_ ?_ <;> intro hc) | fail)
  exact Fin.ret (Ent.take goTk) (Outs.one rfl rfl) ⟨rfl, congrArg Tr.int e.symm⟩

/-! ### what is given and spent -/
def set2 (R : List (List Int)) (i j : Nat) (v : Int) : List (List Int) := R.set i ((R.getD i []).set j v)
def gvE (w : Wal) (a b : ByteArray) (c : Int) (cr : Bool) : Int :=
 if idxS w.sites a < 0 ∨ idxS w.sites b < 0 then 8 else if cr = false ∧ idxS w.sites a = idxS w.sites b then 6 else if c < 1 ∨ 1000000000 < c then 1
 else if cr = false ∧ rgt w (idxS w.sites a).toNat < c then 16 else if at2 w.rights (idxS w.sites a).toNat (idxS w.sites b).toNat + c > 1000000000 then 12 else 0
def gvW (w : Wal) (a b : ByteArray) (c : Int) : Wal := ⟨w.sites, set2 w.rights (idxS w.sites a).toNat (idxS w.sites b).toNat (at2 w.rights (idxS w.sites a).toNat (idxS w.sites b).toNat + c), w.used⟩
def spE (w : Wal) (a : ByteArray) (c : Int) : Int :=
 if idxS w.sites a < 0 then 8 else if c < 1 ∨ 1000000000 < c then 1 else if rgt w (idxS w.sites a).toNat < c then 16 else if w.used.getD (idxS w.sites a).toNat 0 + c > 1000000000 then 12 else 0
def spW (w : Wal) (a : ByteArray) (c : Int) : Wal := ⟨w.sites, w.rights, w.used.set (idxS w.sites a).toNat (w.used.getD (idxS w.sites a).toNat 0 + c)⟩
end Lg
end
section
set_option linter.all false
set_option maxRecDepth 100000
set_option maxHeartbeats 8000000
namespace Lg
open Go Go.Proofs

theorem Fin.ent {P : Program} {Γ : Ctx} {env env1 : Env} {cs cs1 : List Chunk} {fn : Func} {post : Tr → List Chunk → Prop} {ex : Exit} (h : Ent Γ env cs env1 cs1) (k : Fin P fn Γ post ex env1 cs1) : Fin P fn Γ post ex env cs := by
 unfold Fin at k ⊢
 obtain ⟨h0, e2, c2, r, h1, h2, h3⟩ := k
 exact ⟨h0, e2, c2, r, h.trans h1, h2, h3⟩
/-- a wallet of one's own is written no more -/
theorem Ent.settle_wal {Γ : Ctx} {env : Env} {cs cf : List Chunk} {adR adU : Option Addr} {capR capU n b : Nat} {E E2 T : TypeId} {L : List IL} {u : List Int} {s : List ByteArray} (hp : cs.Perm (Chunk.own adR capR 1 E (rowsW L) :: Chunk.bun (ownsW E2 L) :: Chunk.own adU capU 1 E2 (intRows u) :: Chunk.box b T [.strs s, Tr.raw (.slice adR n capR), Tr.raw (.slice adU n capU)] :: cf)) (h1 : (rowsW L).length = n) (h2 : (intRows u).length = n) :
  Ent Γ env cs env (Chunk.box b T [.strs s, .sl 1 (intsR (valsW L)), .ints u] :: cf) := by
 have h3 : n = (intsR (valsW L)).length := by rw [intsR_len, valsW_len, ← rowsW_len, h1]
 exact Ent.trans (ent_nestW (E2 := E2) hp (List.Perm.refl _)) (Ent.trans (Ent.settle_box (b := b) (i := 1) (ad := adR) (kk := 1) (rows := intsR (valsW L)) (List.Perm.cons _ (List.Perm.swap _ _ _)) rfl h3 rfl) (Ent.settle_box (b := b) (i := 2) (ad := adU) (kk := 1) (rows := intRows u) (List.Perm.swap _ _ _) rfl h2.symm rfl))
attribute [local irreducible] intRows intsR strRows valsW rowsW idxS rgt at2 set2
end Lg
end
