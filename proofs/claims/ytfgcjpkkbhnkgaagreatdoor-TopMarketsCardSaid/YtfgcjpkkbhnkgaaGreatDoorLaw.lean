/- A part of the proof of a law of this seat: it adds no condition. By an AI agent. -/
import Derived.Test.YtfgcjpkkbhnkgaaGreatDoorFrame
import Derived.Test.YtfgcjpkkbhnkgaaGreatDoorVendT
import Derived.Test.YtfgcjpkkbhnkgaaGreatDoorLay7
section
set_option linter.all false
set_option maxRecDepth 100000
set_option maxHeartbeats 4000000
namespace Lg
open Go Go.Proofs

structure Spot where
 x : Int
 y : Int
def Spot.row (s : Spot) : List Tr := [.int s.x, .int s.y]
def spotB (s : Spot) : Bool := decide (-10000 ≤ s.x ∧ s.x ≤ 10000 ∧ -10000 ≤ s.y ∧ s.y ≤ 10000)
def farI (a b : Spot) : Int := max (a.x - b.x) (b.x - a.x) + max (a.y - b.y) (b.y - a.y)
def SpBd (s : Spot) : Prop := -1000000 ≤ s.x ∧ s.x ≤ 1000000 ∧ -1000000 ≤ s.y ∧ s.y ≤ 1000000
theorem spotB_iff {s : Spot} : spotB s = true ↔ (-10000 ≤ s.x ∧ s.x ≤ 10000 ∧ -10000 ≤ s.y ∧ s.y ≤ 10000) := by simp [spotB]
theorem far_fn (a b : Spot) (ha : SpBd a) (hb : SpBd b) : PFn Tryz.prog 91 [.agg a.row, .agg b.row] (· = .int (farI a b)) := by
 obtain ⟨ax, ay⟩ := a
 obtain ⟨bx, by_⟩ := b
 unfold SpBd at ha hb
 simp only at ha hb
 refine PFn.mk (Spec.body Tryz.func91 rfl rfl (Tryz.ntmps91) rfl fun w0 own0 M => ?_)
 unfold Spot.row farI
 simp only
 repeat' (first | refine goH ?_ | refine goV ?_ | refine goB (fun b => ?_) | refine goI ?_ | (refine Cw.k_cond ?_; first | (refine Cw.cond_dec rfl ?_ ?_ <;> intro hc <;> try omega) | refine Cw.cond_bool rfl ?_ ?_ <;> intro hc) | fail)
 exact Fin.ret (Ent.take goTk) (Outs.one rfl rfl) ⟨rfl, rfl⟩
theorem isSpot_fn (a : Spot) : PFn Tryz.prog 90 [.agg a.row] (· = .bool (spotB a)) := by
 obtain ⟨ax, ay⟩ := a
 refine PFn.mk (Spec.body Tryz.func90 rfl rfl (Tryz.ntmps90) rfl fun w0 own0 M => ?_)
 unfold Spot.row
 simp only
 by_cases h1 : -10000 ≤ ax ∧ ax ≤ 10000
 ·by_cases h2 : -10000 ≤ ay ∧ ay ≤ 10000
  ·repeat' (first | refine goH ?_ | refine goV ?_ | refine goB (fun b => ?_) | refine goG ?_ | (refine Ops.k_guard ?_; first | (refine Ops.guard_dec rfl rfl ?_ ?_ <;> intro hc <;> try omega) | refine Ops.guard_split rfl rfl ?_ ?_ <;> intro hc) | refine goI ?_ | (refine Cw.k_cond ?_; first | (refine Cw.cond_dec rfl ?_ ?_ <;> intro hc <;> try omega) | refine Cw.cond_bool rfl ?_ ?_ <;> intro hc) | (refine Ops.k_calla ?_; first | (refine Ops.k_callf 19 ?_; refine Ops.callV (out_f ax (-10000) 10000 (by omega)) (Evs.cons rfl (Evs.cons rfl (Evs.cons rfl Evs.nil))) rfl ?_) | (refine Ops.k_callf 19 ?_; refine Ops.callV (out_f ay (-10000) 10000 (by omega)) (Evs.cons rfl (Evs.cons rfl (Evs.cons rfl Evs.nil))) rfl ?_)) | fail)
   exact Fin.ret (Ent.take goTk) (Outs.one rfl rfl) ⟨rfl, congrArg Tr.bool (spotB_iff.2 ⟨h1.1, h1.2, h2.1, h2.2⟩).symm⟩
  ·repeat' (first | refine goH ?_ | refine goV ?_ | refine goB (fun b => ?_) | refine goG ?_ | (refine Ops.k_guard ?_; first | (refine Ops.guard_dec rfl rfl ?_ ?_ <;> intro hc <;> try omega) | refine Ops.guard_split rfl rfl ?_ ?_ <;> intro hc) | refine goI ?_ | (refine Cw.k_cond ?_; first | (refine Cw.cond_dec rfl ?_ ?_ <;> intro hc <;> try omega) | refine Cw.cond_bool rfl ?_ ?_ <;> intro hc) | (refine Ops.k_calla ?_; first | (refine Ops.k_callf 19 ?_; refine Ops.callV (out_f ax (-10000) 10000 (by omega)) (Evs.cons rfl (Evs.cons rfl (Evs.cons rfl Evs.nil))) rfl ?_) | (refine Ops.k_callf 19 ?_; refine Ops.callV (out_t ay (-10000) 10000 (by omega)) (Evs.cons rfl (Evs.cons rfl (Evs.cons rfl Evs.nil))) rfl ?_)) | fail)
   refine Fin.ret (Ent.take goTk) (Outs.one rfl rfl) ⟨rfl, congrArg Tr.bool ?_⟩
   exact (decide_eq_false (fun h => h2 ⟨h.2.2.1, h.2.2.2⟩)).symm
 ·repeat' (first | refine goH ?_ | refine goV ?_ | refine goB (fun b => ?_) | refine goG ?_ | (refine Ops.k_guard ?_; first | (refine Ops.guard_dec rfl rfl ?_ ?_ <;> intro hc <;> try omega) | refine Ops.guard_split rfl rfl ?_ ?_ <;> intro hc) | refine goI ?_ | (refine Cw.k_cond ?_; first | (refine Cw.cond_dec rfl ?_ ?_ <;> intro hc <;> try omega) | refine Cw.cond_bool rfl ?_ ?_ <;> intro hc) | (refine Ops.k_calla ?_; first | (refine Ops.k_callf 19 ?_; refine Ops.callV (out_t ax (-10000) 10000 (by omega)) (Evs.cons rfl (Evs.cons rfl (Evs.cons rfl Evs.nil))) rfl ?_)) | fail)
  refine Fin.ret (Ent.take goTk) (Outs.one rfl rfl) ⟨rfl, congrArg Tr.bool ?_⟩
  exact (decide_eq_false (fun h => h1 ⟨h.1, h.2.1⟩)).symm
def farE (a b : Spot) : Int := if spotB a = true ∧ spotB b = true then 0 else 1
theorem farU_fn (a b : Spot) : PFn Tryz.prog 50 [.agg a.row, .agg b.row] (· = .tup [.int (if farE a b ≠ 0 then 0 else farI a b), .int (farE a b)]) := by
 have k1 := isSpot_fn a
 have k2 := isSpot_fn b
 refine PFn.mk (Spec.body Tryz.func50 rfl rfl (Tryz.ntmps50) rfl fun w0 own0 M => ?_)
 cases h1 : spotB a
 ·rw [h1] at k1
  have e : farE a b = 1 := by unfold farE; rw [h1, if_neg (by simp)]
  rw [e]
  unfold Spot.row at *
  repeat' (first | refine goH ?_ | refine goV ?_ | refine goB (fun b => ?_) | refine goG ?_ | (refine Ops.k_guard ?_; first | (refine Ops.guard_dec rfl rfl ?_ ?_ <;> intro hc <;> try omega) | refine Ops.guard_split rfl rfl ?_ ?_ <;> intro hc) | refine goI ?_ | (refine Cw.k_cond ?_; first | (refine Cw.cond_dec rfl ?_ ?_ <;> intro hc <;> try omega) | refine Cw.cond_bool rfl ?_ ?_ <;> intro hc) | (refine Ops.k_calla ?_; first | (refine Ops.k_callf 90 ?_; refine Ops.callV k1 (Evs.cons rfl Evs.nil) rfl ?_)) | fail)
  refine Fin.ret (Ent.take goTk) (Outs.many rfl (OutL.cons goOe (OutL.cons goOe OutL.nil)) rfl) ⟨rfl, rfl⟩
 rw [h1] at k1
 cases h2 : spotB b
 ·rw [h2] at k2
  have e : farE a b = 1 := by unfold farE; rw [h2, if_neg (by simp)]
  rw [e]
  unfold Spot.row at *
  repeat' (first | refine goH ?_ | refine goV ?_ | refine goB (fun b => ?_) | refine goG ?_ | (refine Ops.k_guard ?_; first | (refine Ops.guard_dec rfl rfl ?_ ?_ <;> intro hc <;> try omega) | refine Ops.guard_split rfl rfl ?_ ?_ <;> intro hc) | refine goI ?_ | (refine Cw.k_cond ?_; first | (refine Cw.cond_dec rfl ?_ ?_ <;> intro hc <;> try omega) | refine Cw.cond_bool rfl ?_ ?_ <;> intro hc) | (refine Ops.k_calla ?_; first | (refine Ops.k_callf 90 ?_; refine Ops.callV k1 (Evs.cons rfl Evs.nil) rfl ?_) | (refine Ops.k_callf 90 ?_; refine Ops.callV k2 (Evs.cons rfl Evs.nil) rfl ?_)) | fail)
  refine Fin.ret (Ent.take goTk) (Outs.many rfl (OutL.cons goOe (OutL.cons goOe OutL.nil)) rfl) ⟨rfl, rfl⟩
 rw [h2] at k2
 have e : farE a b = 0 := by unfold farE; rw [if_pos ⟨h1, h2⟩]
 rw [e]
 have b1 := spotB_iff.1 h1
 have b2 := spotB_iff.1 h2
 have k3 := far_fn a b ⟨by omega, by omega, by omega, by omega⟩ ⟨by omega, by omega, by omega, by omega⟩
 unfold Spot.row at *
 repeat' (first | refine goH ?_ | refine goV ?_ | refine goB (fun b => ?_) | refine goG ?_ | (refine Ops.k_guard ?_; first | (refine Ops.guard_dec rfl rfl ?_ ?_ <;> intro hc <;> try omega) | refine Ops.guard_split rfl rfl ?_ ?_ <;> intro hc) | refine goI ?_ | (refine Cw.k_cond ?_; first | (refine Cw.cond_dec rfl ?_ ?_ <;> intro hc <;> try omega) | refine Cw.cond_bool rfl ?_ ?_ <;> intro hc) | (refine Ops.k_calla ?_; first | (refine Ops.k_callf 90 ?_; refine Ops.callV k1 (Evs.cons rfl Evs.nil) rfl ?_) | (refine Ops.k_callf 90 ?_; refine Ops.callV k2 (Evs.cons rfl Evs.nil) rfl ?_) | (refine Ops.k_callf 91 ?_; refine Ops.callV k3 (Evs.cons rfl (Evs.cons rfl Evs.nil)) rfl ?_)) | fail)
 refine Fin.ret (Ent.take goTk) (Outs.many rfl (OutL.cons goOe (OutL.cons goOe OutL.nil)) rfl) ⟨rfl, rfl⟩
end Lg
end
section
set_option linter.all false
set_option maxRecDepth 100000
set_option maxHeartbeats 8000000
namespace Lg
open Go Go.Proofs

/-! ### all packages do something -/
theorem even72_fn : PFn Tryz.prog 51 [.int 7, .int 2] (· = .tup [.int 4, .int 0]) := by
 have hd : PFn Tryz.prog 125 [.int 7, .int 2] (· = .int 3) := by
  refine PFn.mk (Spec.body Tryz.func125 rfl rfl (Tryz.ntmps125) rfl fun w0 own0 M => ?_)
  repeat' (first | refine goH ?_ | refine goV ?_ | refine goI ?_ | (refine Cw.k_cond ?_; first | (refine Cw.cond_dec rfl ?_ ?_ <;> intro hc <;> try omega) | refine Cw.cond_bool rfl ?_ ?_ <;> intro hc) | fail)
  exact Fin.ret (Ent.take goTk) (Outs.one rfl rfl) ⟨rfl, rfl⟩
 have he : PFn Tryz.prog 92 [.int 7, .int 2] (· = .int 4) := by
  refine PFn.mk (Spec.body Tryz.func92 rfl rfl (Tryz.ntmps92) rfl fun w0 own0 M => ?_)
  repeat' (first | refine goH ?_ | refine goV ?_ | refine goG ?_ | (refine Ops.k_guard ?_; first | (refine Ops.guard_dec rfl rfl ?_ ?_ <;> intro hc <;> try omega) | refine Ops.guard_split rfl rfl ?_ ?_ <;> intro hc) | refine goI ?_ | (refine Cw.k_cond ?_; first | (refine Cw.cond_dec rfl ?_ ?_ <;> intro hc <;> try omega) | refine Cw.cond_bool rfl ?_ ?_ <;> intro hc) | (refine Ops.k_calla ?_; first | (refine Ops.k_callf 125 ?_; refine Ops.callV hd (Evs.cons rfl (Evs.cons rfl Evs.nil)) rfl ?_)) | fail)
  exact Fin.ret (Ent.take goTk) (Outs.one rfl rfl) ⟨rfl, rfl⟩
 have h1 := out_fn 7 (-1000000000000000) 1000000000000000
 have h2 := out_fn 2 1 1000000000
 rw [show outB 7 (-1000000000000000) 1000000000000000 = false by decide] at h1
 rw [show outB 2 1 1000000000 = false by decide] at h2
 refine PFn.mk (Spec.body Tryz.func51 rfl rfl (Tryz.ntmps51) rfl fun w0 own0 M => ?_)
 repeat' (first | refine goH ?_ | refine goV ?_ | refine goG ?_ | (refine Ops.k_guard ?_; first | (refine Ops.guard_dec rfl rfl ?_ ?_ <;> intro hc <;> try omega) | refine Ops.guard_split rfl rfl ?_ ?_ <;> intro hc) | refine goI ?_ | (refine Cw.k_cond ?_; first | (refine Cw.cond_dec rfl ?_ ?_ <;> intro hc <;> try omega) | refine Cw.cond_bool rfl ?_ ?_ <;> intro hc) | (refine Ops.k_calla ?_; first | (refine Ops.k_callf 92 ?_; refine Ops.callV he (Evs.cons rfl (Evs.cons rfl Evs.nil)) rfl ?_) | (refine Ops.k_callf 19 ?_; refine Ops.callV h1 (Evs.cons rfl (Evs.cons rfl (Evs.cons rfl Evs.nil))) rfl ?_) | (refine Ops.k_callf 19 ?_; refine Ops.callV h2 (Evs.cons rfl (Evs.cons rfl (Evs.cons rfl Evs.nil))) rfl ?_)) | fail)
 exact Fin.ret (Ent.take goTk) (Outs.two rfl rfl rfl) ⟨rfl, rfl⟩
theorem ready_fn : PFn Tryz.prog 15 [] (· = .bool true) := by
 have kT := totalX_fn [⟨10, 3, 5⟩]
 rw [show total1 [⟨10, 3, 5⟩] = (30, 0) from rfl] at kT
 have kS := share12_fn
 have kR := rate_fn [⟨1, 7, false⟩]
 rw [show rate1 [⟨1, 7, false⟩] = (⟨7, 1⟩, 0) from rfl] at kR
 have kC := count_fn [⟨⟨#[97]⟩, ⟨#[99, 97, 110]⟩, 0, 3⟩] (by simp) ⟨#[99, 97, 110]⟩
 have c1 : lotsErr [⟨⟨#[97]⟩, ⟨#[99, 97, 110]⟩, 0, 3⟩] = 0 := by decide +kernel
 have c2 : isKey ⟨#[99, 97, 110]⟩ = true := by decide +kernel
 have c3 : countI [⟨⟨#[97]⟩, ⟨#[99, 97, 110]⟩, 0, 3⟩] ⟨#[99, 97, 110]⟩ = 3 := by simp [countI, sumF]
 rw [show countErr [⟨⟨#[97]⟩, ⟨#[99, 97, 110]⟩, 0, 3⟩] ⟨#[99, 97, 110]⟩ = 0 by unfold countErr; rw [c1, c2]; rfl, c3, if_neg (by decide)] at kC
 have kW := worth_fn [⟨⟨#[97]⟩, ⟨#[103]⟩, [5], [], []⟩] ⟨by simp, by simp⟩ [1] (by simp)
 have w1 : offersE [⟨⟨#[97]⟩, ⟨#[103]⟩, [5], [], []⟩] = 0 := by decide +kernel
 have w2 : cntsE [⟨⟨#[97]⟩, ⟨#[103]⟩, [5], [], []⟩] [1] = 0 := by decide +kernel
 have w4 : worthL [⟨⟨#[97]⟩, ⟨#[103]⟩, [5], [], []⟩] [1] = 5 := by decide +kernel
 have w3 : worthE [⟨⟨#[97]⟩, ⟨#[103]⟩, [5], [], []⟩] [1] = 0 := by unfold worthE; rw [if_neg (by omega)]; exact w2
 rw [w3, w4, if_neg (by decide)] at kW
 have kF := farU_fn ⟨3, 0⟩ ⟨0, -4⟩
 rw [show farE ⟨3, 0⟩ ⟨0, -4⟩ = 0 by decide +kernel, show farI ⟨3, 0⟩ ⟨0, -4⟩ = 7 by decide +kernel, if_neg (by decide)] at kF
 unfold Spot.row at kF
 have kE := even72_fn
 have kQ : PFn Tryz.prog 52 [.sl 1 [[Tr.int 1], [Tr.int 2]], .sl 1 [[Tr.int 1], [Tr.int 2]]] (· = .bool true) := equalInts_fn [1, 2] [1, 2] (by simp) (by simp)
 have kH := session_hello
 clear c1 c2 c3 w1 w2 w3 w4
 refine PFn.mk (Spec.body Tryz.func15 rfl rfl (Tryz.ntmps15) rfl fun w0 own0 M => ?_)
 repeat' (first | refine goH ?_ | ((fail_if_success refine Ops.k_c_call ?_); refine goV ?_) | ((fail_if_success refine Ops.k_c_call ?_); refine goB (fun b => ?_)) | refine goG ?_ | (refine Ops.k_guard ?_; first | (refine Ops.guard_dec rfl rfl ?_ ?_ <;> intro hc <;> try omega) | refine Ops.guard_split rfl rfl ?_ ?_ <;> intro hc) | refine goI ?_ | (refine Cw.k_cond ?_; first | (refine Cw.cond_dec rfl ?_ ?_ <;> intro hc <;> try omega) | refine Cw.cond_bool rfl ?_ ?_ <;> intro hc) | (refine Ops.k_calla ?_; first | (refine Ops.k_callf 45 ?_; refine Ops.callV kT (Evs.cons rfl Evs.nil) rfl ?_) | (refine Ops.k_callf 46 ?_; refine Ops.callV kS (Evs.cons rfl (Evs.cons rfl Evs.nil)) rfl ?_) | (refine Ops.k_callf 47 ?_; refine Ops.callV kR (Evs.cons rfl Evs.nil) rfl ?_) | (refine Ops.k_callf 48 ?_; refine Ops.callV kC (Evs.cons rfl (Evs.cons rfl Evs.nil)) rfl ?_)) | fail)
 refine Ops.ent (Ent.imp (s := 42) rfl (Imp.sl1 (row' := [Tr.str ⟨#[97]⟩, Tr.str ⟨#[103]⟩, .ints [5], .strs [], .strs []]) (.cons Imp.refl (.cons Imp.refl (.cons Imp.refl (.cons Imp.nil (.cons Imp.nil .nil))))))) ?_
 repeat' (first | refine goH ?_ | (refine Ops.k_b_eql ?_; first | (first | refine Ops.val' rfl (OpV.eqlS_t rfl rfl rfl) ?_ | refine Ops.val' rfl (OpV.eql_t rfl rfl rfl) ?_)) | refine goV ?_ | refine goB (fun b => ?_) | refine goG ?_ | (refine Ops.k_guard ?_; first | (refine Ops.guard_dec rfl rfl ?_ ?_ <;> intro hc <;> try omega) | refine Ops.guard_split rfl rfl ?_ ?_ <;> intro hc) | refine goI ?_ | (refine Cw.k_cond ?_; first | (refine Cw.cond_dec rfl ?_ ?_ <;> intro hc <;> try omega) | refine Cw.cond_bool rfl ?_ ?_ <;> intro hc) | (refine Ops.k_calla ?_; first | (refine Ops.k_callf 49 ?_; refine Ops.callV kW (Evs.cons rfl (Evs.cons rfl Evs.nil)) rfl ?_) | (refine Ops.k_callf 50 ?_; refine Ops.callV kF (Evs.cons rfl (Evs.cons rfl Evs.nil)) rfl ?_) | (refine Ops.k_callf 51 ?_; refine Ops.callV kE (Evs.cons rfl (Evs.cons rfl Evs.nil)) rfl ?_) | (refine Ops.k_callf 52 ?_; refine Ops.callV kQ (Evs.cons rfl (Evs.cons rfl Evs.nil)) rfl ?_) | (refine Ops.k_callf 53 ?_; refine Ops.callV kH (Evs.cons rfl Evs.nil) rfl ?_)) | fail)
 all_goals exact Fin.ret (Ent.take goTk) (Outs.one rfl rfl) ⟨rfl, rfl⟩
end Lg
end
section
set_option linter.all false
namespace Lg
open Go Go.Proofs

theorem Ops.shut0 {P : Program} {Γ : Ctx} {env : Env} {cs : List Chunk} {Q : Post} {R : Array Oper} {l : List Oper} {ty b : Nat} {cells : List Tr} {rows : List (List Tr)} (h : cells = [Tr.sl 1 rows, Tr.int ((0 : Nat) : Int)]) (k : Ops P Γ R l env (Chunk.strm ty b rows 0 :: cs) Q) : Ops P Γ R l env (Chunk.box b ty cells :: cs) Q := by
 subst h
 exact Ops.ent (Ent.shut_strm (m := 0) (Nat.le_refl 0)) k
end Lg
end
