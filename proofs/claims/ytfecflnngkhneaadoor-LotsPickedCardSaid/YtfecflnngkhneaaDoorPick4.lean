/- A part of the proof of a law of this seat: it adds no condition. By an AI agent. -/
import Derived.Test.YtfecflnngkhneaaDoorCoil
import Derived.Test.YtfecflnngkhneaaDoorPick3
set_option linter.all false
set_option maxRecDepth 100000
set_option maxHeartbeats 4000000
namespace Lg
open Go Go.Proofs

/-- slices.SortStableFunc on a short slice -/
theorem stable_int {n : Nat} {xs : List Int} {ad : Option Addr} {cap : Nat} {g : Nat} {caps : List Value} {cin : List Chunk} {lt : Int → Int → Bool} {cf : Int → Int → Int} (hlt : ∀ a b, lt a b = decide (cf a b < 0)) (hl : xs.length < 20) (hn : n = xs.length)
    (hs : ∀ a b, a ∈ xs → b ∈ xs → Spec Tryd.prog g ([Tr.int a, Tr.int b] ++ caps.map Tr.raw) cin (fun r cs => r = Tr.int (cf a b) ∧ cs = cin)) :
    Spec Tryd.prog 75 [Tr.raw (.slice ad n cap), .int n, Tr.raw (.func (.func g) #[] caps.toArray)] (Chunk.own ad cap 1 3 (xs.map (fun x => [Tr.int x])) :: cin) (fun r cs => r = Tr.tup [] ∧ cs = Chunk.own ad cap 1 3 ((isort lt xs).map (fun x => [Tr.int x])) :: cin) := by
  have hi := insSort_int (ad := ad) (cap := cap) hlt (show xs.length ≤ 1000000 by omega) hn hs
  refine Spec.body Tryd.func75 rfl rfl (Tryd.ntmps75) rfl fun w0 own0 M => ?_
  repeat' (first | refine goH ?_ | refine goV ?_ | refine goI ?_ | (refine Cw.k_cond ?_; first | (refine Cw.cond_dec rfl (fun hc => ?_) (fun hc => ?_) <;> try (exfalso; omega)) | refine Cw.cond_bool rfl (fun hc => ?_) (fun hc => ?_)) | fail)
  refine Cw.loopI [(0, _), (1, _), (2, _), (6, _)] _ (fun q e c => q = 0 ∧ e = [(7, .int 0), (8, .int 20)] ∧ c = []) ⟨_, _, _, (Ent.mkP (by repeat' (first | exact Sub.nil | refine Sub.cons rfl ?_)) (by repeat' (first | exact List.Perm.refl _ | refine Perm.cons' (by first | exact pick0 | exact pickS pick0 | exact pickS (pickS pick0) | exact pickS (pickS (pickS pick0)) | exact pickS (pickS (pickS (pickS pick0)))) ?_))), rfl, rfl, rfl⟩ ?_
  rintro _ _ _ ⟨rfl, rfl, rfl⟩
  repeat' (first | refine goH ?_ | refine goV ?_ | refine goI ?_ | (refine Cw.k_cond ?_; first | (refine Cw.cond_dec rfl (fun hc => ?_) (fun hc => ?_) <;> try (exfalso; omega)) | refine Cw.cond_bool rfl (fun hc => ?_) (fun hc => ?_)) | (refine Ops.k_calla ?_; first | (refine Ops.call (cf := []) hi (Evs.cons rfl (Evs.cons rfl (Evs.cons rfl (Evs.cons rfl Evs.nil)))) (by simp) rfl ?_; rintro r cs' ⟨rfl, rfl⟩)) | fail)
  refine Cw.loopI [(0, _), (1, _), (2, _)] _ (fun q e c => q = 0 ∧ e = [(6, .int 20)] ∧ c = []) ⟨_, _, _, (Ent.mkP (by repeat' (first | exact Sub.nil | refine Sub.cons rfl ?_)) (by repeat' (first | exact List.Perm.refl _ | refine Perm.cons' (by first | exact pick0 | exact pickS pick0 | exact pickS (pickS pick0) | exact pickS (pickS (pickS pick0)) | exact pickS (pickS (pickS (pickS pick0)))) ?_))), rfl, rfl, rfl⟩ ?_
  rintro _ _ _ ⟨rfl, rfl, rfl⟩
  repeat' (first | refine goH ?_ | refine goV ?_ | refine goI ?_ | (refine Cw.k_cond ?_; first | (refine Cw.cond_dec rfl (fun hc => ?_) (fun hc => ?_) <;> try (exfalso; omega)) | refine Cw.cond_bool rfl (fun hc => ?_) (fun hc => ?_)) | fail)
  exact Fin.norm (Ent.mkP (by repeat' (first | exact Sub.nil | refine Sub.cons rfl ?_)) (by simp)) (Outs.zero rfl) ⟨rfl, rfl⟩
theorem sortStable_int {n : Nat} {xs : List Int} {ad : Option Addr} {cap : Nat} {g : Nat} {caps : List Value} {cin : List Chunk} {lt : Int → Int → Bool} {cf : Int → Int → Int} (hlt : ∀ a b, lt a b = decide (cf a b < 0)) (hl : xs.length < 20) (hn : n = xs.length)
    (hs : ∀ a b, a ∈ xs → b ∈ xs → Spec Tryd.prog g ([Tr.int a, Tr.int b] ++ caps.map Tr.raw) cin (fun r cs => r = Tr.int (cf a b) ∧ cs = cin)) :
    Spec Tryd.prog 68 [Tr.raw (.slice ad n cap), Tr.raw (.func (.func g) #[] caps.toArray)] (Chunk.own ad cap 1 3 (xs.map (fun x => [Tr.int x])) :: cin) (fun r cs => r = Tr.tup [] ∧ cs = Chunk.own ad cap 1 3 ((isort lt xs).map (fun x => [Tr.int x])) :: cin) := by
  have hi := stable_int (ad := ad) (cap := cap) hlt hl hn hs
  refine Spec.body Tryd.func68 rfl rfl (Tryd.ntmps68) rfl fun w0 own0 M => ?_
  repeat' (first | refine goH ?_ | refine goV ?_ | refine goI ?_ | (refine Cw.k_cond ?_; first | (refine Cw.cond_dec rfl (fun hc => ?_) (fun hc => ?_) <;> try (exfalso; omega)) | refine Cw.cond_bool rfl (fun hc => ?_) (fun hc => ?_)) | (refine Ops.k_calla ?_; first | (refine Ops.call (cf := []) hi (Evs.cons rfl (Evs.cons rfl (Evs.cons rfl Evs.nil))) (by simp) rfl ?_; rintro r cs' ⟨rfl, rfl⟩)) | fail)
  exact Fin.norm (Ent.mkP (by repeat' (first | exact Sub.nil | refine Sub.cons rfl ?_)) (by simp)) (Outs.zero rfl) ⟨rfl, rfl⟩


def cmpI (a b : Int) : Int := if a < b then -1 else if b < a then 1 else 0
theorem cmpI_lt (a b : Int) : (cmpI a b < 0) ↔ a < b := by unfold cmpI; split <;> (try split) <;> omega
theorem isNaN_fn (x : Int) : PFn Tryd.prog 76 [.int x] (· = .bool false) := by
  refine PFn.mk (Spec.body Tryd.func76 rfl rfl (Tryd.ntmps76) rfl fun w0 own0 M => ?_)
  repeat' (first | refine goH ?_ | (refine Ops.k_b_neq ?_; first | (refine Ops.val' rfl (OpV.neq_f rfl rfl (by omega)) ?_)) | refine goV ?_ | refine goI ?_ | (refine Cw.k_cond ?_; first | (refine Cw.cond_dec rfl (fun hc => ?_) (fun hc => ?_) <;> try (exfalso; omega)) | refine Cw.cond_bool rfl (fun hc => ?_) (fun hc => ?_)) | fail)
  exact Fin.ret (Ent.take (by repeat' (first | exact Take.nil | refine Take.cons (by first | exact pick0 | exact pickS pick0 | exact pickS (pickS pick0) | exact pickS (pickS (pickS pick0)) | exact pickS (pickS (pickS (pickS pick0)))) ?_))) (Outs.one rfl rfl) ⟨rfl, rfl⟩
theorem compare_fn (a b : Int) : PFn Tryd.prog 70 [.int a, .int b] (· = .int (cmpI a b)) := by
  refine PFn.mk (Spec.body Tryd.func70 rfl rfl (Tryd.ntmps70) rfl fun w0 own0 M => ?_)
  unfold cmpI
  repeat' (first | refine goH ?_ | refine goV ?_ | refine goI ?_ | (refine Cw.k_cond ?_; first | (refine Cw.cond_dec rfl (fun hc => ?_) (fun hc => ?_) <;> try (exfalso; omega)) | refine Cw.cond_bool rfl (fun hc => ?_) (fun hc => ?_)) | (refine Ops.k_calla ?_; first | (refine Ops.k_callf 76 ?_; refine Ops.callV (isNaN_fn _) (Evs.cons rfl Evs.nil) rfl ?_)) | fail)
  all_goals (refine Fin.ret (Ent.take (by repeat' (first | exact Take.nil | refine Take.cons (by first | exact pick0 | exact pickS pick0 | exact pickS (pickS pick0) | exact pickS (pickS (pickS pick0)) | exact pickS (pickS (pickS (pickS pick0)))) ?_))) (Outs.one rfl rfl) ⟨rfl, congrArg Tr.int ?_⟩)
  all_goals (repeat' split)
  all_goals omega

def expI (l : List Lot) (i : Int) : Int := match l[i.toNat]? with
  | none => 0
  | some x => x.exp
theorem picked1_fn (l : List Lot) (bx E : Nat) (ad : Option Addr) (cap n : Nat) (hn : n = l.length) (hl : l.length ≤ 1000000) (a b : Int) (ha : 0 ≤ a ∧ a < l.length) (hb : 0 ≤ b ∧ b < l.length) :
    Spec Tryd.prog 69 [.int a, .int b, .ptr bx] [Chunk.box bx E [Tr.raw (.slice ad n cap)], Chunk.own ad cap 4 64 (l.map Lot.row)] (fun r cs => r = Tr.int (cmpI (expI l a) (expI l b)) ∧ cs = [Chunk.box bx E [Tr.raw (.slice ad n cap)], Chunk.own ad cap 4 64 (l.map Lot.row)]) := by
  refine Spec.body Tryd.func69 rfl rfl (Tryd.ntmps69) rfl fun w0 own0 M => ?_
  have hL : (l.map Lot.row).length = l.length := List.length_map _
  obtain ⟨x, hx⟩ : ∃ x, l[a.toNat]? = some x := at_lt (by omega)
  obtain ⟨y, hy⟩ : ∃ y, l[b.toNat]? = some y := at_lt (by omega)
  have hrx : (l.map Lot.row)[a.toNat]? = some [.str x.id, .str x.prod, .int x.exp, .int x.many] := rows_at hx
  have hry : (l.map Lot.row)[b.toNat]? = some [.str y.id, .str y.prod, .int y.exp, .int y.many] := rows_at hy
  have hc := compare_fn x.exp y.exp
  have e1 : expI l a = x.exp := by unfold expI; rw [hx]
  have e2 : expI l b = y.exp := by unfold expI; rw [hy]
  rw [e1, e2]
  generalize cmpI x.exp y.exp = r at *
  repeat' (first | refine goH ?_ | refine goV ?_ | refine goI ?_ | (refine Cw.k_cond ?_; first | (refine Cw.cond_dec rfl (fun hc => ?_) (fun hc => ?_) <;> try (exfalso; omega)) | refine Cw.cond_bool rfl (fun hc => ?_) (fun hc => ?_)) | (refine Ops.k_calla ?_; first | (refine Ops.k_callf 70 ?_; refine Ops.callV hc (Evs.cons rfl (Evs.cons rfl Evs.nil)) rfl ?_)) | (apply OpW.k_call; first | (apply OpW.k_callf 70; exact OpW.callV hc (Evs.cons rfl (Evs.cons rfl Evs.nil)))) | refine goR ?_ | refine goP ?_ | apply PSeq.cons | apply PSeq.yes rfl rfl rfl | exact goW | fail)
  exact Fin.ret Ent.refl (Outs.one rfl rfl) ⟨rfl, rfl⟩
end Lg
