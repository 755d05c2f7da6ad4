/- A part of the proof of a law of this seat: it adds no condition. By an AI agent. -/
import Derived.Test.YtjknjnkkpfeahaaGreatDoorNumD
set_option linter.all false
set_option maxRecDepth 100000
set_option maxHeartbeats 8000000
namespace Lg
open Go Go.Proofs

/-! ### a text as a wallet -/
def eLw : ByteArray := ⟨#[]⟩
def okT (f : ByteArray) : Bool := okNum 10 f.data.toList
def nfT (f : ByteArray) : Int := valNum f.data.toList
def hasW (l : List ByteArray) (x : ByteArray) : Bool := decide (0 ≤ idxS l x)
def rowP (n : Nat) (x ln : ByteArray) : Option (List Int) := if (splS 32 ln).head? = some x ∧ (splS 32 ln).length = n + 2 ∧ (splS 32 ln).tail.all okT = true then some ((splS 32 ln).tail.map nfT) else none
def finW (w : Wal) : Wal × Int × Int := if walE w ≠ 0 then (wNil, 0, walE w) else (w, 0, 0)
def failW (k : Int) : Wal × Int × Int := (wNil, k, 9)
def psL (S : List ByteArray) : List ByteArray → Nat → List (List Int) → List Int → Wal × Int × Int
  | [], i, _, _ => failW ((i : Int) + 1)
  | [r], i, R, U => if i = S.length ∧ r = eLw then finW ⟨S, R, U⟩ else failW ((i : Int) + 1)
  | ln :: l2 :: ls, i, R, U => match S[i]? with
    | none => failW ((i : Int) + 1)
    | some x => match rowP S.length x ln with
      | none => failW ((i : Int) + 1)
      | some l => psL S (l2 :: ls) (i + 1) (R ++ [l.take S.length]) (U ++ [l.getD S.length 0])
def psH : List ByteArray → Wal × Int × Int
  | h :: l2 :: ls => if (splS 32 h).head? ≠ some walB ∨ hasW (splS 32 h) eLw = true then failW 0 else psL (splS 32 h).tail (l2 :: ls) 0 [] []
  | _ => failW 0
def psP (s : ByteArray) : Wal × Int × Int := if 200000 < s.size then (wNil, 0, 2) else psH (splS 10 s)
def psT (p : Wal × Int × Int) : Tr := .tup [.wal p.1, .int p.2.1, .int p.2.2]
theorem splS_neW (c : UInt8) (s : ByteArray) : splS c s ≠ [] := by
  unfold splS
  intro h
  exact splL_ne c _ (List.map_eq_nil_iff.1 h)
theorem psL_one (S : List ByteArray) (r : ByteArray) (i : Nat) (R : List (List Int)) (U : List Int) : psL S [r] i R U = if i = S.length ∧ r = eLw then finW ⟨S, R, U⟩ else failW ((i : Int) + 1) := rfl
theorem psL_end {S : List ByteArray} {ls : List ByteArray} {i : Nat} {R : List (List Int)} {U : List Int} (h : ¬ i < S.length) (h2 : ls ≠ [eLw]) : psL S ls i R U = failW ((i : Int) + 1) := by
  match ls, h2 with
  | [], _ => rfl
  | [r], h2 => rw [psL_one, if_neg (fun h => h2 (by rw [h.2]))]
  | _ :: _ :: _, _ =>
    unfold psL
    rw [List.getElem?_eq_none (by omega)]
theorem psL_none {S : List ByteArray} {ln : ByteArray} {ls : List ByteArray} (hl : ls ≠ []) {i : Nat} {R : List (List Int)} {U : List Int} {x : ByteArray} (hx : S[i]? = some x) (h : rowP S.length x ln = none) : psL S (ln :: ls) i R U = failW ((i : Int) + 1) := by
  match ls, hl with
  | _ :: _, _ => unfold psL; rw [hx]; simp only [h]
theorem psL_some {S : List ByteArray} {ln : ByteArray} {ls : List ByteArray} (hl : ls ≠ []) {i : Nat} {R : List (List Int)} {U : List Int} {x : ByteArray} {l : List Int} (hx : S[i]? = some x) (h : rowP S.length x ln = some l) : psL S (ln :: ls) i R U = psL S ls (i + 1) (R ++ [l.take S.length]) (U ++ [l.getD S.length 0]) := by
  match ls, hl with
  | _ :: _, _ =>
    conv => lhs; unfold psL
    rw [hx]
    simp only [h]
theorem psH_one (h : ByteArray) : psH [h] = failW 0 := rfl
theorem psH_cons (h : ByteArray) {ls : List ByteArray} (hl : ls ≠ []) : psH (h :: ls) = if (splS 32 h).head? ≠ some walB ∨ hasW (splS 32 h) eLw = true then failW 0 else psL (splS 32 h).tail ls 0 [] [] := by
  match ls, hl with
  | _ :: _, _ => rfl
theorem hasW_f {l : List ByteArray} {x : ByteArray} (h : hasW l x = false) : x ∉ l := by
  intro hx
  unfold hasW at h
  rw [decide_eq_false_iff_not] at h
  unfold idxS at h
  cases h9 : l.findIdx? (fun y => decide (x = y)) with
  | some k => rw [h9] at h; simp only at h; omega
  | none =>
    rw [List.findIdx?_eq_none_iff] at h9
    have := h9 x hx
    simp at this
theorem hasW_t {l : List ByteArray} {x : ByteArray} (h : hasW l x = true) : x ∈ l := by
  unfold hasW at h
  rw [decide_eq_true_iff] at h
  rcases idxS_cases l x with e | ⟨k, e, h1, _⟩
  · omega
  · exact List.mem_of_getElem? h1
theorem containsW_fn (l : List ByteArray) (x : ByteArray) (hl : l.length ≤ 1000000) : PFn Tryz.prog 36 [.strs l, .str x] (· = .bool (hasW l x)) := by
  have k := index_fn l x hl
  unfold hasW
  generalize idxS l x = v at *
  refine PFn.mk (Spec.body Tryz.func36 rfl rfl (Tryz.ntmps36) rfl fun w0 own0 M => ?_)
  repeat' (first | refine goH ?_ | refine goV ?_ | refine goI ?_ | (refine Cw.k_cond ?_; first | (refine Cw.cond_dec rfl (fun hc => ?_) (fun hc => ?_) <;> try (exfalso; omega)) | refine Cw.cond_bool rfl (fun hc => ?_) (fun hc => ?_)) | (refine Ops.k_calla ?_; first | (refine Ops.k_callf 62 ?_; refine Ops.callV k (Evs.cons rfl (Evs.cons rfl Evs.nil)) rfl ?_)) | fail)
  exact Fin.ret Ent.refl (Outs.one rfl rfl) ⟨rfl, rfl⟩
theorem fail_fn (k : Int) : PFn Tryz.prog 33 [.int k] (· = psT (failW k)) := by
  refine PFn.mk (Spec.body Tryz.func33 rfl rfl (Tryz.ntmps33) rfl fun w0 own0 M => ?_)
  repeat' (first | refine goH ?_ | refine goV ?_ | refine goB (fun b => ?_) | refine goI ?_ | (refine Cw.k_cond ?_; first | (refine Cw.cond_dec rfl (fun hc => ?_) (fun hc => ?_) <;> try (exfalso; omega)) | refine Cw.cond_bool rfl (fun hc => ?_) (fun hc => ?_)) | fail)
  refine Fin.ret (Ent.trans (Ent.imp_box goPk impW0) (Ent.trans (Ent.setbox (s := 2) rfl goPk) (Ent.take goTk))) (Outs.many rfl (OutL.cons goOe (OutL.cons goOe (OutL.cons goOe OutL.nil))) rfl) ⟨rfl, rfl⟩
theorem checkAny_fn (w : Wal) (h1 : w.sites.length ≤ 1000000) (h2 : w.rights.length = w.sites.length) (h3 : w.used.length = w.sites.length) (h4 : ∀ l ∈ w.rights, l.length = w.sites.length) : PFn Tryz.prog 21 [.wal w] (· = .int (walE w)) := by
  by_cases h : w.sites.length ≤ 12
  · exact checkWallet_fn w ⟨by omega, by omega, by omega, fun l hl => by have := h4 l hl; omega⟩
  · have hs : sitE w.sites = 2 := by unfold sitE; rw [if_neg (by omega), if_pos (by omega)]
    have kS := sitesFault_fn w.sites h1
    rw [hs] at kS
    rw [show walE w = 2 by unfold walE; rw [hs, if_pos (by decide)]]
    refine PFn.mk (Spec.body Tryz.func21 rfl rfl (Tryz.ntmps21) rfl fun w0 own0 M => ?_)
    repeat' (first | refine goH ?_ | refine goV ?_ | refine goB (fun b => ?_) | refine goG ?_ | (refine Ops.k_guard ?_; first | (refine Ops.guard_dec rfl rfl (fun hc => ?_) (fun hc => ?_) <;> try (exfalso; omega)) | refine Ops.guard_split rfl rfl (fun hc => ?_) (fun hc => ?_)) | refine goI ?_ | (refine Cw.k_cond ?_; first | (refine Cw.cond_dec rfl (fun hc => ?_) (fun hc => ?_) <;> try (exfalso; omega)) | refine Cw.cond_bool rfl (fun hc => ?_) (fun hc => ?_)) | (refine Ops.k_calla ?_; first | (refine Ops.k_callf 48 ?_; refine Ops.callV kS (Evs.cons rfl Evs.nil) rfl ?_)) | (apply OpW.k_call; first | (apply OpW.k_callf 48; exact OpW.callV kS (Evs.cons rfl Evs.nil))) | refine goR ?_ | refine goP ?_ | apply PSeq.cons | apply PSeq.yes rfl rfl rfl | exact goW | fail)
    exact Fin.ret (Ent.take goTk) (Outs.one rfl rfl) ⟨rfl, rfl⟩
theorem faultAny_fn (w : Wal) (h1 : w.sites.length ≤ 1000000) (h2 : w.rights.length = w.sites.length) (h3 : w.used.length = w.sites.length) (h4 : ∀ l ∈ w.rights, l.length = w.sites.length) : PFn Tryz.prog 6 [.wal w] (· = .int (walE w)) := by
  by_cases h : w.sites.length ≤ 12
  · exact walletFault_fn w ⟨by omega, by omega, by omega, fun l hl => by have := h4 l hl; omega⟩
  · have hs : sitE w.sites = 2 := by unfold sitE; rw [if_neg (by omega), if_pos (by omega)]
    have kS := kiosksFault_fn w.sites h1
    rw [hs] at kS
    rw [show walE w = 2 by unfold walE; rw [hs, if_pos (by decide)]]
    refine PFn.mk (Spec.body Tryz.func6 rfl rfl (Tryz.ntmps6) rfl fun w0 own0 M => ?_)
    repeat' (first | refine goH ?_ | refine goV ?_ | refine goB (fun b => ?_) | refine goC (fun ad cap => ?_) | refine goG ?_ | (refine Ops.k_guard ?_; first | (refine Ops.guard_dec rfl rfl (fun hc => ?_) (fun hc => ?_) <;> try (exfalso; omega)) | refine Ops.guard_split rfl rfl (fun hc => ?_) (fun hc => ?_)) | refine goI ?_ | (refine Cw.k_cond ?_; first | (refine Cw.cond_dec rfl (fun hc => ?_) (fun hc => ?_) <;> try (exfalso; omega)) | refine Cw.cond_bool rfl (fun hc => ?_) (fun hc => ?_)) | (refine Ops.k_calla ?_; first | (refine Ops.k_callf 26 ?_; refine Ops.callV kS (Evs.cons rfl Evs.nil) rfl ?_)) | (apply OpW.k_call; first | (apply OpW.k_callf 26; exact OpW.callV kS (Evs.cons rfl Evs.nil))) | refine goR ?_ | refine goP ?_ | apply PSeq.cons | apply PSeq.yes rfl rfl rfl | exact goW | fail)
    exact Fin.ret (Ent.take goTk) (Outs.one rfl rfl) ⟨rfl, rfl⟩
end Lg
