/- A part of the proof of a law of this seat: it adds no condition. By an AI agent. -/
import Derived.Test.YthgcdnfhfejijaaGreatDoorFrame
import Derived.Test.YthgcdnfhfejijaaGreatDoorSess
import Derived.Test.YthgcdnfhfejijaaGreatDoorDem4
import Derived.Test.YthgcdnfhfejijaaGreatDoorCnt
import Derived.Test.YthgcdnfhfejijaaGreatDoorLay7
section
set_option linter.all false
set_option maxRecDepth 100000
set_option maxHeartbeats 4000000
namespace Lg
open Go Go.Proofs

structure Spot where
 x : Int
 y : Int
def Spot.row (s : Spot) : List Tr := [.int s.x, .int s.y]
def spotB (s : Spot) : Bool := decide (-10000 ≤ s.x ∧ s.x ≤ 10000 ∧ -10000 ≤ s.y ∧ s.y ≤ 10000)
def farI (a b : Spot) : Int := max (a.x - b.x) (b.x - a.x) + max (a.y - b.y) (b.y - a.y)
def SpBd (s : Spot) : Prop := -1000000 ≤ s.x ∧ s.x ≤ 1000000 ∧ -1000000 ≤ s.y ∧ s.y ≤ 1000000
theorem spotB_iff {s : Spot} : spotB s = true ↔ (-10000 ≤ s.x ∧ s.x ≤ 10000 ∧ -10000 ≤ s.y ∧ s.y ≤ 10000) := by simp [spotB]
theorem far_fn (a b : Spot) (ha : SpBd a) (hb : SpBd b) : PFn Tryz.prog 75 [.agg a.row, .agg b.row] (· = .int (farI a b)) := by
 obtain ⟨ax, ay⟩ := a
 obtain ⟨bx, by_⟩ := b
 unfold SpBd at ha hb
 simp only at ha hb
 refine PFn.mk (Spec.body Tryz.func75 rfl rfl (Tryz.ntmps75) rfl fun w0 own0 M => ?_)
 unfold Spot.row farI
 simp only
 repeat' (first | refine goH ?_ | refine goV ?_ | refine goB (fun b => ?_) | refine goI ?_ | (refine Cw.k_cond ?_; first | (refine Cw.cond_dec rfl ?_ ?_ <;> intro hc <;> try omega) | refine Cw.cond_bool rfl ?_ ?_ <;> intro hc) | fail)
 exact Fin.ret (Ent.take goTk) (Outs.one rfl rfl) ⟨rfl, rfl⟩
theorem isSpot_fn (a : Spot) : PFn Tryz.prog 74 [.agg a.row] (· = .bool (spotB a)) := by
 obtain ⟨ax, ay⟩ := a
 refine PFn.mk (Spec.body Tryz.func74 rfl rfl (Tryz.ntmps74) rfl fun w0 own0 M => ?_)
 unfold Spot.row
 simp only
 by_cases h1 : -10000 ≤ ax ∧ ax ≤ 10000
 ·by_cases h2 : -10000 ≤ ay ∧ ay ≤ 10000
  ·repeat' (first | refine goH ?_ | refine goV ?_ | refine goB (fun b => ?_) | refine goG ?_ | (refine Ops.k_guard ?_; first | (refine Ops.guard_dec rfl rfl ?_ ?_ <;> intro hc <;> try omega) | refine Ops.guard_split rfl rfl ?_ ?_ <;> intro hc) | refine goI ?_ | (refine Cw.k_cond ?_; first | (refine Cw.cond_dec rfl ?_ ?_ <;> intro hc <;> try omega) | refine Cw.cond_bool rfl ?_ ?_ <;> intro hc) | (refine Ops.k_calla ?_; first | (refine Ops.k_callf 32 ?_; refine Ops.callV (out_f ax (-10000) 10000 (by omega)) (Evs.cons rfl (Evs.cons rfl (Evs.cons rfl Evs.nil))) rfl ?_) | (refine Ops.k_callf 32 ?_; refine Ops.callV (out_f ay (-10000) 10000 (by omega)) (Evs.cons rfl (Evs.cons rfl (Evs.cons rfl Evs.nil))) rfl ?_)) | fail)
   exact Fin.ret (Ent.take goTk) (Outs.one rfl rfl) ⟨rfl, congrArg Tr.bool (spotB_iff.2 ⟨h1.1, h1.2, h2.1, h2.2⟩).symm⟩
  ·repeat' (first | refine goH ?_ | refine goV ?_ | refine goB (fun b => ?_) | refine goG ?_ | (refine Ops.k_guard ?_; first | (refine Ops.guard_dec rfl rfl ?_ ?_ <;> intro hc <;> try omega) | refine Ops.guard_split rfl rfl ?_ ?_ <;> intro hc) | refine goI ?_ | (refine Cw.k_cond ?_; first | (refine Cw.cond_dec rfl ?_ ?_ <;> intro hc <;> try omega) | refine Cw.cond_bool rfl ?_ ?_ <;> intro hc) | (refine Ops.k_calla ?_; first | (refine Ops.k_callf 32 ?_; refine Ops.callV (out_f ax (-10000) 10000 (by omega)) (Evs.cons rfl (Evs.cons rfl (Evs.cons rfl Evs.nil))) rfl ?_) | (refine Ops.k_callf 32 ?_; refine Ops.callV (out_t ay (-10000) 10000 (by omega)) (Evs.cons rfl (Evs.cons rfl (Evs.cons rfl Evs.nil))) rfl ?_)) | fail)
   refine Fin.ret (Ent.take goTk) (Outs.one rfl rfl) ⟨rfl, congrArg Tr.bool ?_⟩
   exact (decide_eq_false (fun h => h2 ⟨h.2.2.1, h.2.2.2⟩)).symm
 ·repeat' (first | refine goH ?_ | refine goV ?_ | refine goB (fun b => ?_) | refine goG ?_ | (refine Ops.k_guard ?_; first | (refine Ops.guard_dec rfl rfl ?_ ?_ <;> intro hc <;> try omega) | refine Ops.guard_split rfl rfl ?_ ?_ <;> intro hc) | refine goI ?_ | (refine Cw.k_cond ?_; first | (refine Cw.cond_dec rfl ?_ ?_ <;> intro hc <;> try omega) | refine Cw.cond_bool rfl ?_ ?_ <;> intro hc) | (refine Ops.k_calla ?_; first | (refine Ops.k_callf 32 ?_; refine Ops.callV (out_t ax (-10000) 10000 (by omega)) (Evs.cons rfl (Evs.cons rfl (Evs.cons rfl Evs.nil))) rfl ?_)) | fail)
  refine Fin.ret (Ent.take goTk) (Outs.one rfl rfl) ⟨rfl, congrArg Tr.bool ?_⟩
  exact (decide_eq_false (fun h => h1 ⟨h.1, h.2.1⟩)).symm
def farE (a b : Spot) : Int := if spotB a = true ∧ spotB b = true then 0 else 1
theorem farU_fn (a b : Spot) : PFn Tryz.prog 42 [.agg a.row, .agg b.row] (· = .tup [.int (if farE a b ≠ 0 then 0 else farI a b), .int (farE a b)]) := by
 have k1 := isSpot_fn a
 have k2 := isSpot_fn b
 refine PFn.mk (Spec.body Tryz.func42 rfl rfl (Tryz.ntmps42) rfl fun w0 own0 M => ?_)
 cases h1 : spotB a
 ·rw [h1] at k1
  have e : farE a b = 1 := by unfold farE; rw [h1, if_neg (by simp)]
  rw [e]
  unfold Spot.row at *
  repeat' (first | refine goH ?_ | refine goV ?_ | refine goB (fun b => ?_) | refine goG ?_ | (refine Ops.k_guard ?_; first | (refine Ops.guard_dec rfl rfl ?_ ?_ <;> intro hc <;> try omega) | refine Ops.guard_split rfl rfl ?_ ?_ <;> intro hc) | refine goI ?_ | (refine Cw.k_cond ?_; first | (refine Cw.cond_dec rfl ?_ ?_ <;> intro hc <;> try omega) | refine Cw.cond_bool rfl ?_ ?_ <;> intro hc) | (refine Ops.k_calla ?_; first | (refine Ops.k_callf 74 ?_; refine Ops.callV k1 (Evs.cons rfl Evs.nil) rfl ?_)) | fail)
  refine Fin.ret (Ent.take goTk) (Outs.many rfl (OutL.cons goOe (OutL.cons goOe OutL.nil)) rfl) ⟨rfl, rfl⟩
 rw [h1] at k1
 cases h2 : spotB b
 ·rw [h2] at k2
  have e : farE a b = 1 := by unfold farE; rw [h2, if_neg (by simp)]
  rw [e]
  unfold Spot.row at *
  repeat' (first | refine goH ?_ | refine goV ?_ | refine goB (fun b => ?_) | refine goG ?_ | (refine Ops.k_guard ?_; first | (refine Ops.guard_dec rfl rfl ?_ ?_ <;> intro hc <;> try omega) | refine Ops.guard_split rfl rfl ?_ ?_ <;> intro hc) | refine goI ?_ | (refine Cw.k_cond ?_; first | (refine Cw.cond_dec rfl ?_ ?_ <;> intro hc <;> try omega) | refine Cw.cond_bool rfl ?_ ?_ <;> intro hc) | (refine Ops.k_calla ?_; first | (refine Ops.k_callf 74 ?_; refine Ops.callV k1 (Evs.cons rfl Evs.nil) rfl ?_) | (refine Ops.k_callf 74 ?_; refine Ops.callV k2 (Evs.cons rfl Evs.nil) rfl ?_)) | fail)
  refine Fin.ret (Ent.take goTk) (Outs.many rfl (OutL.cons goOe (OutL.cons goOe OutL.nil)) rfl) ⟨rfl, rfl⟩
 rw [h2] at k2
 have e : farE a b = 0 := by unfold farE; rw [if_pos ⟨h1, h2⟩]
 rw [e]
 have b1 := spotB_iff.1 h1
 have b2 := spotB_iff.1 h2
 have k3 := far_fn a b ⟨by omega, by omega, by omega, by omega⟩ ⟨by omega, by omega, by omega, by omega⟩
 unfold Spot.row at *
 repeat' (first | refine goH ?_ | refine goV ?_ | refine goB (fun b => ?_) | refine goG ?_ | (refine Ops.k_guard ?_; first | (refine Ops.guard_dec rfl rfl ?_ ?_ <;> intro hc <;> try omega) | refine Ops.guard_split rfl rfl ?_ ?_ <;> intro hc) | refine goI ?_ | (refine Cw.k_cond ?_; first | (refine Cw.cond_dec rfl ?_ ?_ <;> intro hc <;> try omega) | refine Cw.cond_bool rfl ?_ ?_ <;> intro hc) | (refine Ops.k_calla ?_; first | (refine Ops.k_callf 74 ?_; refine Ops.callV k1 (Evs.cons rfl Evs.nil) rfl ?_) | (refine Ops.k_callf 74 ?_; refine Ops.callV k2 (Evs.cons rfl Evs.nil) rfl ?_) | (refine Ops.k_callf 75 ?_; refine Ops.callV k3 (Evs.cons rfl (Evs.cons rfl Evs.nil)) rfl ?_)) | fail)
 refine Fin.ret (Ent.take goTk) (Outs.many rfl (OutL.cons goOe (OutL.cons goOe OutL.nil)) rfl) ⟨rfl, rfl⟩
end Lg
end
section
set_option linter.all false
set_option maxRecDepth 100000
set_option maxHeartbeats 8000000
namespace Lg
open Go Go.Proofs

/-! ### all packages do something -/
theorem even72_fn : PFn Tryz.prog 43 [.int 7, .int 2] (· = .tup [.int 4, .int 0]) := by
 have hd : PFn Tryz.prog 107 [.int 7, .int 2] (· = .int 3) := by
  refine PFn.mk (Spec.body Tryz.func107 rfl rfl (Tryz.ntmps107) rfl fun w0 own0 M => ?_)
  repeat' (first | refine goH ?_ | refine goV ?_ | refine goI ?_ | (refine Cw.k_cond ?_; first | (refine Cw.cond_dec rfl ?_ ?_ <;> intro hc <;> try omega) | refine Cw.cond_bool rfl ?_ ?_ <;> intro hc) | fail)
  exact Fin.ret (Ent.take goTk) (Outs.one rfl rfl) ⟨rfl, rfl⟩
 have he : PFn Tryz.prog 76 [.int 7, .int 2] (· = .int 4) := by
  refine PFn.mk (Spec.body Tryz.func76 rfl rfl (Tryz.ntmps76) rfl fun w0 own0 M => ?_)
  repeat' (first | refine goH ?_ | refine goV ?_ | refine goG ?_ | (refine Ops.k_guard ?_; first | (refine Ops.guard_dec rfl rfl ?_ ?_ <;> intro hc <;> try omega) | refine Ops.guard_split rfl rfl ?_ ?_ <;> intro hc) | refine goI ?_ | (refine Cw.k_cond ?_; first | (refine Cw.cond_dec rfl ?_ ?_ <;> intro hc <;> try omega) | refine Cw.cond_bool rfl ?_ ?_ <;> intro hc) | (refine Ops.k_calla ?_; first | (refine Ops.k_callf 107 ?_; refine Ops.callV hd (Evs.cons rfl (Evs.cons rfl Evs.nil)) rfl ?_)) | fail)
  exact Fin.ret (Ent.take goTk) (Outs.one rfl rfl) ⟨rfl, rfl⟩
 have h1 := out_fn 7 (-1000000000000000) 1000000000000000
 have h2 := out_fn 2 1 1000000000
 rw [show outB 7 (-1000000000000000) 1000000000000000 = false by decide] at h1
 rw [show outB 2 1 1000000000 = false by decide] at h2
 refine PFn.mk (Spec.body Tryz.func43 rfl rfl (Tryz.ntmps43) rfl fun w0 own0 M => ?_)
 repeat' (first | refine goH ?_ | refine goV ?_ | refine goG ?_ | (refine Ops.k_guard ?_; first | (refine Ops.guard_dec rfl rfl ?_ ?_ <;> intro hc <;> try omega) | refine Ops.guard_split rfl rfl ?_ ?_ <;> intro hc) | refine goI ?_ | (refine Cw.k_cond ?_; first | (refine Cw.cond_dec rfl ?_ ?_ <;> intro hc <;> try omega) | refine Cw.cond_bool rfl ?_ ?_ <;> intro hc) | (refine Ops.k_calla ?_; first | (refine Ops.k_callf 76 ?_; refine Ops.callV he (Evs.cons rfl (Evs.cons rfl Evs.nil)) rfl ?_) | (refine Ops.k_callf 32 ?_; refine Ops.callV h1 (Evs.cons rfl (Evs.cons rfl (Evs.cons rfl Evs.nil))) rfl ?_) | (refine Ops.k_callf 32 ?_; refine Ops.callV h2 (Evs.cons rfl (Evs.cons rfl (Evs.cons rfl Evs.nil))) rfl ?_)) | fail)
 exact Fin.ret (Ent.take goTk) (Outs.two rfl rfl rfl) ⟨rfl, rfl⟩
theorem ready_fn : PFn Tryz.prog 17 [] (· = .bool true) := by
 have kT := totalX_fn [⟨10, 3, 5⟩]
 rw [show total1 [⟨10, 3, 5⟩] = (30, 0) from rfl] at kT
 have kS := share12_fn
 have kR := rate_fn [⟨1, 7, false⟩]
 rw [show rate1 [⟨1, 7, false⟩] = (⟨7, 1⟩, 0) from rfl] at kR
 have kC := count_fn [⟨⟨#[97]⟩, ⟨#[99, 97, 110]⟩, 0, 3⟩] (by simp) ⟨#[99, 97, 110]⟩
 have c1 : lotsErr [⟨⟨#[97]⟩, ⟨#[99, 97, 110]⟩, 0, 3⟩] = 0 := by decide +kernel
 have c2 : isKey ⟨#[99, 97, 110]⟩ = true := by decide +kernel
 have c3 : countI [⟨⟨#[97]⟩, ⟨#[99, 97, 110]⟩, 0, 3⟩] ⟨#[99, 97, 110]⟩ = 3 := by simp [countI, sumF]
 rw [show countErr [⟨⟨#[97]⟩, ⟨#[99, 97, 110]⟩, 0, 3⟩] ⟨#[99, 97, 110]⟩ = 0 by unfold countErr; rw [c1, c2]; rfl, c3, if_neg (by decide)] at kC
 have kW := worth_fn [⟨⟨#[97]⟩, ⟨#[103]⟩, [5], [], []⟩] ⟨by simp, by simp⟩ [1] (by simp)
 have w1 : offersE [⟨⟨#[97]⟩, ⟨#[103]⟩, [5], [], []⟩] = 0 := by decide +kernel
 have w2 : cntsE [⟨⟨#[97]⟩, ⟨#[103]⟩, [5], [], []⟩] [1] = 0 := by decide +kernel
 have w4 : worthL [⟨⟨#[97]⟩, ⟨#[103]⟩, [5], [], []⟩] [1] = 5 := by decide +kernel
 have w3 : worthE [⟨⟨#[97]⟩, ⟨#[103]⟩, [5], [], []⟩] [1] = 0 := by unfold worthE; rw [if_neg (by omega)]; exact w2
 rw [w3, w4, if_neg (by decide)] at kW
 have kF := farU_fn ⟨3, 0⟩ ⟨0, -4⟩
 rw [show farE ⟨3, 0⟩ ⟨0, -4⟩ = 0 by decide +kernel, show farI ⟨3, 0⟩ ⟨0, -4⟩ = 7 by decide +kernel, if_neg (by decide)] at kF
 unfold Spot.row at kF
 have kE := even72_fn
 have kQ : PFn Tryz.prog 44 [.sl 1 [[Tr.int 1], [Tr.int 2]], .sl 1 [[Tr.int 1], [Tr.int 2]]] (· = .bool true) := equalInts_fn [1, 2] [1, 2] (by simp) (by simp)
 have kH := session_hello
 clear c1 c2 c3 w1 w2 w3 w4
 refine PFn.mk (Spec.body Tryz.func17 rfl rfl (Tryz.ntmps17) rfl fun w0 own0 M => ?_)
 repeat' (first | refine goH ?_ | ((fail_if_success refine Ops.k_c_call ?_); refine goV ?_) | ((fail_if_success refine Ops.k_c_call ?_); refine goB (fun b => ?_)) | refine goG ?_ | (refine Ops.k_guard ?_; first | (refine Ops.guard_dec rfl rfl ?_ ?_ <;> intro hc <;> try omega) | refine Ops.guard_split rfl rfl ?_ ?_ <;> intro hc) | refine goI ?_ | (refine Cw.k_cond ?_; first | (refine Cw.cond_dec rfl ?_ ?_ <;> intro hc <;> try omega) | refine Cw.cond_bool rfl ?_ ?_ <;> intro hc) | (refine Ops.k_calla ?_; first | (refine Ops.k_callf 37 ?_; refine Ops.callV kT (Evs.cons rfl Evs.nil) rfl ?_) | (refine Ops.k_callf 38 ?_; refine Ops.callV kS (Evs.cons rfl (Evs.cons rfl Evs.nil)) rfl ?_) | (refine Ops.k_callf 39 ?_; refine Ops.callV kR (Evs.cons rfl Evs.nil) rfl ?_) | (refine Ops.k_callf 40 ?_; refine Ops.callV kC (Evs.cons rfl (Evs.cons rfl Evs.nil)) rfl ?_)) | fail)
 refine Ops.ent (Ent.imp (s := 42) rfl (Imp.sl1 (row' := [Tr.str ⟨#[97]⟩, Tr.str ⟨#[103]⟩, .ints [5], .strs [], .strs []]) (.cons Imp.refl (.cons Imp.refl (.cons Imp.refl (.cons Imp.nil (.cons Imp.nil .nil))))))) ?_
 repeat' (first | refine goH ?_ | (refine Ops.k_b_eql ?_; first | (first | refine Ops.val' rfl (OpV.eqlS_t rfl rfl rfl) ?_ | refine Ops.val' rfl (OpV.eql_t rfl rfl rfl) ?_)) | refine goV ?_ | refine goB (fun b => ?_) | refine goG ?_ | (refine Ops.k_guard ?_; first | (refine Ops.guard_dec rfl rfl ?_ ?_ <;> intro hc <;> try omega) | refine Ops.guard_split rfl rfl ?_ ?_ <;> intro hc) | refine goI ?_ | (refine Cw.k_cond ?_; first | (refine Cw.cond_dec rfl ?_ ?_ <;> intro hc <;> try omega) | refine Cw.cond_bool rfl ?_ ?_ <;> intro hc) | (refine Ops.k_calla ?_; first | (refine Ops.k_callf 41 ?_; refine Ops.callV kW (Evs.cons rfl (Evs.cons rfl Evs.nil)) rfl ?_) | (refine Ops.k_callf 42 ?_; refine Ops.callV kF (Evs.cons rfl (Evs.cons rfl Evs.nil)) rfl ?_) | (refine Ops.k_callf 43 ?_; refine Ops.callV kE (Evs.cons rfl (Evs.cons rfl Evs.nil)) rfl ?_) | (refine Ops.k_callf 44 ?_; refine Ops.callV kQ (Evs.cons rfl (Evs.cons rfl Evs.nil)) rfl ?_) | (refine Ops.k_callf 45 ?_; refine Ops.callV kH (Evs.cons rfl Evs.nil) rfl ?_)) | fail)
 all_goals exact Fin.ret (Ent.take goTk) (Outs.one rfl rfl) ⟨rfl, rfl⟩
end Lg
end
section
set_option linter.all false
set_option maxRecDepth 100000
set_option maxHeartbeats 8000000
namespace Lg
open Go Go.Proofs

/-! ### the law TopCounters -/
theorem TcI.t0 {k : Nat} {M : List Nt} {t p q : Int} (h : TcI k M t p q) : 0 ≤ t := by
 obtain ⟨u, hu⟩ := h.l
 have := h.tt _ (List.mem_of_getLast? hu)
 omega
theorem MX.mono {b k j : Nat} {p q : Int} {E : List Int} {ch : Chunk} (h : MX b k p q E ch) (hkj : k ≤ j) : MX b j p q E ch := by
 obtain ⟨T, L, Y, i, o, x, hI, hm⟩ := h
 obtain ⟨va, vb, hY, h1, h2⟩ := hm.y
 have := hm.p
 have := hm.q
 have := hm.i
 have := hm.o
 have := hm.x
 exact ⟨T, L, Y, i, o, x, hI, { hm with y := ⟨va, vb, hY, by omega, by omega⟩, p := by omega, q := by omega, i := by omega, o := by omega, x := by omega }⟩
def pkN (G : List Nt) (x : Int) : Rdg := match G[x.toNat]? with
 |some y => ntR y
 |none => ⟨0, []⟩
theorem pkN_at {G : List Nt} {x : Int} {y : Nt} (h : G[x.toNat]? = some y) : pkN G x = ntR y := by unfold pkN; rw [h]
theorem pkN_perm {G : List Nt} {l : List Int} (h : l.Perm (idL G.length)) : (l.map (pkN G)).Perm (G.map ntR) := by
 refine idL_pick (G.map ntR) (by rw [List.length_map]; exact h) (pkN G) fun k x hx => ?_
 rw [List.getElem?_map] at hx
 cases hg : G[k]? with
 |none => rw [hg] at hx; cases hx
 |some y =>
  rw [hg] at hx
  rw [pkN_at (y := y) (by rw [Int.toNat_natCast]; exact hg)]
  exact Option.some.inj hx
theorem sumP_take {dv : List (Int × Int)} {i : Nat} {x : Int × Int} (h : dv[i]? = some x) : sumP (dv.take (i + 1)) = sumP (dv.take i) + x.2 := by rw [take_at h, sumP_snoc]
theorem sumP_take_le {dv : List (Int × Int)} (h : ∀ x ∈ dv, 1 ≤ x.2) (i : Nat) : 0 ≤ sumP (dv.take i) ∧ sumP (dv.take i) ≤ sumP dv := by
 induction dv generalizing i with
 |nil => simp [sumP, sumL, sumF]
 |cons y l ih =>
  have h1 := h y (by simp)
  have h2 := sumP_len (dv := l) fun x hx => h x (by simp [hx])
  cases i with
  |zero => rw [List.take_zero, sumP_cons]; show 0 ≤ (0 : Int) ∧ (0 : Int) ≤ _; omega
  |succ i =>
   have h3 := ih (fun x hx => h x (by simp [hx])) i
   rw [List.take_succ_cons, sumP_cons, sumP_cons]
   omega
theorem topCounters_law (xs : List Int) : Spec Tryz.prog 3 [Tr.ints xs] [] (fun r _ => r = Tr.bool true) := by
 refine Spec.body Tryz.func3 rfl rfl (Tryz.ntmps3) rfl fun w0 own0 M => ?_
 have kR := ready_fn
 repeat' (first | refine goH ?_ | ((fail_if_success refine Ops.k_c_call ?_); refine goV ?_) | ((fail_if_success refine Ops.k_c_call ?_); refine goB (fun b => ?_)) | ((fail_if_success refine Ops.k_c_call ?_); refine goC (fun ad cap => ?_)) | refine goG ?_ | (refine Ops.k_guard ?_; first | (refine Ops.guard_dec rfl rfl ?_ ?_ <;> intro hc <;> try omega) | refine Ops.guard_split rfl rfl ?_ ?_ <;> intro hc) | refine goI ?_ | (refine Cw.k_cond ?_; first | (refine Cw.cond_dec rfl ?_ ?_ <;> intro hc <;> try omega) | refine Cw.cond_bool rfl ?_ ?_ <;> intro hc) | (refine Ops.k_calla ?_; first | (refine Ops.k_callf 4 ?_; (refine Ops.call MX.new (Evs.cons rfl Evs.nil) goPm rfl ?_; rintro r cs' ⟨bm, ch, hM, rfl, rfl⟩))) | refine goR ?_ | refine goP ?_ | apply PSeq.cons | apply PSeq.yes rfl rfl rfl | exact goW | fail)
 rename_i bs b3 b4 b5 b7
 obtain ⟨b8, rfl⟩ : ∃ b8, b8 = b := ⟨_, rfl⟩
 refine Ops.ent (Ent.trans (Ent.perm goPk) (Ent.shut_strm (ty := 25) (b := bs) (rows := intRows xs) (n := 0) (m := 0) (Nat.le_refl _))) ?_
 repeat' (first | refine goH ?_ | (refine Ops.k_makeFunc ?_; first | (refine Ops.makeFunc (vs := [_, _, _, _]) rfl rfl ?_)) | ((fail_if_success refine Ops.k_c_call ?_); refine goV ?_) | ((fail_if_success refine Ops.k_c_call ?_); refine goB (fun b => ?_)) | ((fail_if_success refine Ops.k_c_call ?_); refine goC (fun ad cap => ?_)) | refine goG ?_ | (refine Ops.k_guard ?_; first | (refine Ops.guard_dec rfl rfl ?_ ?_ <;> intro hc <;> try omega) | refine Ops.guard_split rfl rfl ?_ ?_ <;> intro hc) | refine goI ?_ | (refine Cw.k_cond ?_; first | (refine Cw.cond_dec rfl ?_ ?_ <;> intro hc <;> try omega) | refine Cw.cond_bool rfl ?_ ?_ <;> intro hc) | (refine Ops.k_calla ?_; first | (refine Ops.k_callf 5 ?_; (refine Ops.callG (next_gen 1000 (by omega)) (Evs.cons rfl (Evs.cons rfl Evs.nil)) goPk (by omega) rfl ?_; rintro r ⟨u, rfl, hu⟩; unfold InRange at hu))) | refine goR ?_ | refine goP ?_ | apply PSeq.cons | apply PSeq.yes rfl rfl rfl | exact goW | fail)
 obtain ⟨b9, rfl⟩ : ∃ b9, b9 = b := ⟨_, rfl⟩
 have hN0 := note_fn (b5 := b5) (b8 := b8) (b9 := b9) (b3 := b3) (bs := bs) (n := 0) (c := 1) (cap := 0) (ad := none) (rows := []) (xs := xs) (t := u) hM (by omega) rfl (by omega) (by omega) (by omega) (by omega) (by omega)
 refine Ops.ent (Ent.nil 2 49) ?_
 repeat' (first | refine goH ?_ | refine goV ?_ | refine goB (fun b => ?_) | refine goC (fun ad cap => ?_) | refine goG ?_ | (refine Ops.k_guard ?_; first | (refine Ops.guard_dec rfl rfl ?_ ?_ <;> intro hc <;> try omega) | refine Ops.guard_split rfl rfl ?_ ?_ <;> intro hc) | refine goI ?_ | (refine Cw.k_cond ?_; first | (refine Cw.cond_dec rfl ?_ ?_ <;> intro hc <;> try omega) | refine Cw.cond_bool rfl ?_ ?_ <;> intro hc) | (refine Ops.k_calla ?_; first | (refine Ops.call_fn (caps := [.pointer (some ⟨b5, 0, none⟩), .pointer (some ⟨b8, 0, none⟩), .pointer (some ⟨b9, 0, none⟩), .pointer (some ⟨b3, 0, none⟩)]) (args := []) rfl hN0 Evs.nil goPm rfl ?_; rintro r cs' ⟨ch1, ad1, cap1, v1, hM1, hv1, rfl, rfl⟩) | (refine Ops.k_callf 5 ?_; (refine Ops.callG (next_gen 6 (by omega)) (Evs.cons rfl (Evs.cons rfl Evs.nil)) goPk (by omega) rfl ?_; rintro r ⟨m, rfl, hm⟩; unfold InRange at hm))) | refine goR ?_ | refine goP ?_ | apply PSeq.cons | apply PSeq.yes rfl rfl rfl | exact goW | fail)
 clear hN0 hM
 have hT0 := TcI.start (u := u) (v := v1) (by omega) hv1
 refine Cw.loopI [(3, _), (5, _), (7, _), (8, _), (10, _), (49, _)] _ (fun qq e cc => ∃ (k : Nat) (G : List Nt) (t p q : Int) (ch : Chunk) (ad : Option Addr) (cap c : Nat) (rows : List (List Tr)), qq = 6 - k ∧ (((k : Int) ≤ m ∧ k ≤ 6) ∧ TcI k G t p q ∧ MX bm (5 * k) p q [] ch ∧ (0 ≤ p ∧ p ≤ 5 * k) ∧ (0 ≤ q ∧ q ≤ 5 * k) ∧ rows = G.map ntRow ∧ rows.length = k + 1 ∧ c ≤ 3 + 1000 * k) ∧ e = [(50, .int k)] ∧ cc = [ch, Chunk.box b8 40 [Tr.raw (.slice ad (k + 1) cap)], Chunk.own ad cap 2 49 rows, Chunk.box b9 3 [.int t], Chunk.strm 25 bs (intRows xs) c])
  ⟨_, _, _, (Ent.mkP goSub goPm), 0, [(u, 0, 0)], u + v1, 0, 0, ch1, ad1, cap1, _, [ntRow (u, 0, 0)], rfl, ⟨⟨by omega, by omega⟩, hT0, hM1, by omega, by omega, rfl, rfl, by omega⟩, rfl, rfl⟩ ?_
 clear hM1 hT0 hv1 hu
 rintro _ _ _ ⟨k, G, t, p, q, ch, ad, cap, c, rows, rfl, ⟨⟨hk, hk6⟩, hG, hM, hp, hq, hrs, hrl, hc⟩, rfl, rfl⟩
 by_cases hkm : (k : Int) < m
 ·repeat' (first | refine goH ?_ | refine goV ?_ | refine goB (fun b => ?_) | refine goC (fun ad cap => ?_) | refine goG ?_ | (refine Ops.k_guard ?_; first | (refine Ops.guard_dec rfl rfl ?_ ?_ <;> intro hc <;> try omega) | refine Ops.guard_split rfl rfl ?_ ?_ <;> intro hc) | refine goI ?_ | (refine Cw.k_cond ?_; first | (refine Cw.cond_dec rfl ?_ ?_ <;> intro hc <;> try omega) | refine Cw.cond_bool rfl ?_ ?_ <;> intro hc) | (refine Ops.k_calla ?_; first | (refine Ops.k_callf 5 ?_; (refine Ops.callG (next_gen 5 (by omega)) (Evs.cons rfl (Evs.cons rfl Evs.nil)) goPk (by omega) rfl ?_; rintro r ⟨j, rfl, hj⟩; unfold InRange at hj))) | refine goR ?_ | refine goP ?_ | apply PSeq.cons | apply PSeq.yes rfl rfl rfl | exact goW | fail)
  refine Cw.loopI [(3, _), (5, _), (7, _), (8, _), (10, _), (49, _), (50, _), (53, _)] _ (fun qq e cc => ∃ (i : Nat) (p' q' : Int) (ch : Chunk) (c' : Nat), qq = 5 - i ∧ (((i : Int) ≤ j ∧ i ≤ 5) ∧ MX bm (5 * k + i) p' q' [] ch ∧ (p ≤ p' ∧ p' ≤ p + i) ∧ (q ≤ q' ∧ q' ≤ q + i) ∧ c' ≤ c + 2 + 20 * i) ∧ e = [(54, .int i)] ∧ cc = [ch, Chunk.strm 25 bs (intRows xs) c'])
   ⟨_, _, _, (Ent.mkP goSub goPm), 0, p, q, ch, _, rfl, ⟨⟨by omega, by omega⟩, hM, by omega, by omega, by omega⟩, rfl, rfl⟩ ?_
  clear hM
  rintro _ _ _ ⟨i, p', q', ch, c', rfl, ⟨⟨hi, hi5⟩, hM, hp', hq', hc'⟩, rfl, rfl⟩
  by_cases hij : (i : Int) < j
  ·repeat' (first | refine goH ?_ | ((fail_if_success refine Ops.k_c_call ?_); refine goV ?_) | ((fail_if_success refine Ops.k_c_call ?_); refine goB (fun b => ?_)) | ((fail_if_success refine Ops.k_c_call ?_); refine goC (fun ad cap => ?_)) | refine goG ?_ | (refine Ops.k_guard ?_; first | (refine Ops.guard_dec rfl rfl ?_ ?_ <;> intro hc <;> try omega) | refine Ops.guard_split rfl rfl ?_ ?_ <;> intro hc) | refine goI ?_ | (refine Cw.k_cond ?_; first | (refine Cw.cond_dec rfl ?_ ?_ <;> intro hc <;> try omega) | refine Cw.cond_bool rfl ?_ ?_ <;> intro hc) | (refine Ops.k_calla ?_; first | (refine Ops.call (hM.ins (by simp)) (Evs.cons rfl (Evs.cons rfl Evs.nil)) goPm rfl ?_; rintro r cs' ⟨ch1, hM1, rfl, rfl⟩)) | refine goR ?_ | refine goP ?_ | apply PSeq.cons | apply PSeq.yes rfl rfl rfl | exact goW | fail)
   repeat' (first | refine goH ?_ | refine goV ?_ | refine goB (fun b => ?_) | refine goC (fun ad cap => ?_) | refine goG ?_ | (refine Ops.k_guard ?_; first | (refine Ops.guard_dec rfl rfl ?_ ?_ <;> intro hc <;> try omega) | refine Ops.guard_split rfl rfl ?_ ?_ <;> intro hc) | refine goI ?_ | (refine Cw.k_cond ?_; first | (refine Cw.cond_dec rfl ?_ ?_ <;> intro hc <;> try omega) | refine Cw.cond_bool rfl ?_ ?_ <;> intro hc) | (refine Ops.k_calla ?_; first | (refine Ops.call (hM1.ins (by simp)) (Evs.cons rfl (Evs.cons rfl Evs.nil)) goPm rfl ?_; rintro r cs' ⟨ch2, hM2, rfl, rfl⟩)) | fail)
   refine Cw.region_strm (m := 4) 1 goPk rfl (by decide +kernel) rfl ?_
   have g1 : ∀ r : Tr, (∃ v, r = .str v ∧ v ∈ ([kyA, kyB] : List ByteArray)) → ∀ w A v, r.rd w A v → (Tr.strS fun s => s = kyA ∨ s = kyB).rd w A v := by
    rintro r ⟨v, rfl, hv⟩ w A u hu
    exact ⟨v, rd_raw hu, by simpa using hv⟩
   repeat' (first | refine PSeqH.nil ?_ | apply PSeqH.cons | apply PSeqH.yes rfl rfl rfl | refine PSeqH.no rfl rfl rfl ?_ | refine PSeqH.pass rfl rfl rfl ?_ | exact OpH.callG (oneU_gen (l := [kyA, kyB]) (by repeat' (first | exact IsStrs.nil | apply IsStrs.cons)) (by simp)) (Nat.le_refl _) (by simp only [List.length_cons, List.length_nil]; omega) (Evs.cons rfl (Evs.cons rfl Evs.nil)) g1 | exact goX | fail)
   refine Ops.open_slot (i := 63) rfl open_strS ?_
   rintro key hkey
   obtain ⟨y0, hP⟩ := hM2.press (by omega) key hkey
   repeat' (first | refine goH ?_ | ((fail_if_success refine Ops.k_c_call ?_); refine goV ?_) | ((fail_if_success refine Ops.k_c_call ?_); refine goB (fun b => ?_)) | ((fail_if_success refine Ops.k_c_call ?_); refine goC (fun ad cap => ?_)) | refine goG ?_ | (refine Ops.k_guard ?_; first | (refine Ops.guard_dec rfl rfl ?_ ?_ <;> intro hc <;> try omega) | refine Ops.guard_split rfl rfl ?_ ?_ <;> intro hc) | refine goI ?_ | (refine Cw.k_cond ?_; first | (refine Cw.cond_dec rfl ?_ ?_ <;> intro hc <;> try omega) | refine Cw.cond_bool rfl ?_ ?_ <;> intro hc) | (refine Ops.k_calla ?_; first | (refine Ops.call hP (Evs.cons rfl (Evs.cons rfl Evs.nil)) goPm rfl ?_; rintro r cs' ⟨ch3, p2, q2, E2, hM3, hp2, hq2, rfl, rfl⟩)) | refine goR ?_ | refine goP ?_ | apply PSeq.cons | apply PSeq.yes rfl rfl rfl | exact goW | fail)
   repeat' (first | refine goH ?_ | refine goV ?_ | refine goB (fun b => ?_) | refine goC (fun ad cap => ?_) | refine goG ?_ | (refine Ops.k_guard ?_; first | (refine Ops.guard_dec rfl rfl ?_ ?_ <;> intro hc <;> try omega) | refine Ops.guard_split rfl rfl ?_ ?_ <;> intro hc) | refine goI ?_ | (refine Cw.k_cond ?_; first | (refine Cw.cond_dec rfl ?_ ?_ <;> intro hc <;> try omega) | refine Cw.cond_bool rfl ?_ ?_ <;> intro hc) | (refine Ops.k_calla ?_; first | (refine Ops.call hM3.back (Evs.cons rfl Evs.nil) goPm rfl ?_; rintro r cs' ⟨ch4, hM4, rfl, rfl⟩)) | refine goR ?_ | refine goP ?_ | apply PSeq.cons | apply PSeq.yes rfl rfl rfl | exact goW | fail)
   exact ⟨_, _, _, (Ent.mk goSub goTk), ⟨i + 1, p2, q2, ch4, _, rfl, ⟨⟨by omega, by omega⟩, hM4, by omega, by omega, by omega⟩, rfl, rfl⟩, by omega⟩
  ·have hN := note_fn (b5 := b5) (b8 := b8) (b9 := b9) (b3 := b3) (bs := bs) (n := k + 1) (c := c') (cap := cap) (ad := ad) (rows := rows) (xs := xs) (t := t) hM (by omega) hrl (by omega) (by have := hG.b; have := hG.t0; omega) (by omega) (by omega) (by omega)
   repeat' (first | refine goH ?_ | refine goV ?_ | refine goB (fun b => ?_) | refine goC (fun ad cap => ?_) | refine goG ?_ | (refine Ops.k_guard ?_; first | (refine Ops.guard_dec rfl rfl ?_ ?_ <;> intro hc <;> try omega) | refine Ops.guard_split rfl rfl ?_ ?_ <;> intro hc) | refine goI ?_ | (refine Cw.k_cond ?_; first | (refine Cw.cond_dec rfl ?_ ?_ <;> intro hc <;> try omega) | refine Cw.cond_bool rfl ?_ ?_ <;> intro hc) | (refine Ops.k_calla ?_; first | (refine Ops.call_fn (caps := [.pointer (some ⟨b5, 0, none⟩), .pointer (some ⟨b8, 0, none⟩), .pointer (some ⟨b9, 0, none⟩), .pointer (some ⟨b3, 0, none⟩)]) (args := []) rfl hN Evs.nil goPm rfl ?_; rintro r cs' ⟨ch1, ad1, cap1, v1, hM1, hv1, rfl, rfl⟩)) | refine goR ?_ | refine goP ?_ | apply PSeq.cons | apply PSeq.yes rfl rfl rfl | exact goW | fail)
   have hG2 := hG.next (p' := p') (q' := q') (v := v1) (by omega) (by omega) hv1
   have hrs2 : rows ++ [ntRow (t, p', q')] = (G ++ [(t, p', q')]).map ntRow := by rw [List.map_append, hrs]; rfl
   have hrl2 : (rows ++ [ntRow (t, p', q')]).length = k + 1 + 1 := by rw [List.length_append, hrl]; rfl
   exact ⟨_, _, _, (Ent.mk goSub goTk), ⟨k + 1, _, _, p', q', ch1, _, _, _, _, rfl, ⟨⟨by omega, by omega⟩, hG2, hM1.mono (by omega), by omega, by omega, hrs2, hrl2, by omega⟩, rfl, rfl⟩, by omega⟩
 have hN6 : k ≤ 6 := hk6
 clear hk hm
 repeat' (first | refine goH ?_ | ((fail_if_success refine Ops.k_c_call ?_); refine goV ?_) | ((fail_if_success refine Ops.k_c_call ?_); refine goB (fun b => ?_)) | ((fail_if_success refine Ops.k_c_call ?_); refine goC (fun ad cap => ?_)) | refine goG ?_ | (refine Ops.k_guard ?_; first | (refine Ops.guard_dec rfl rfl ?_ ?_ <;> intro hc <;> try omega) | refine Ops.guard_split rfl rfl ?_ ?_ <;> intro hc) | refine goI ?_ | (refine Cw.k_cond ?_; first | (refine Cw.cond_dec rfl ?_ ?_ <;> intro hc <;> try omega) | refine Cw.cond_bool rfl ?_ ?_ <;> intro hc) | (refine Ops.k_calla ?_; first | (refine Ops.k_callf 13 ?_; (refine Ops.callG (orderP_gen (k + 1) (by omega)) (Evs.cons rfl (Evs.cons rfl Evs.nil)) goPk (by omega) rfl ?_; rintro r ⟨l, rfl, hl⟩))) | refine goR ?_ | refine goP ?_ | apply PSeq.cons | apply PSeq.yes rfl rfl rfl | exact goW | fail)
 have hGn := hG.n
 have hll : l.length = k + 1 := by rw [hl.length_eq, idL_len]
 have hlr : (intRows l).length = k + 1 := by rw [intRows_len, hll]
 refine Cw.loopI [(5, _), (7, _), (8, _), (75, _), (76, _)] _ (fun qq e cc => ∃ (i : Nat) (ad2 : Option Addr) (cap2 : Nat) (R : List (List Tr)), qq = k + 1 - i ∧ (i ≤ k + 1 ∧ R = ((l.take i).map (pkN G)).map Rdg.row ∧ R.length = i) ∧ e = [(11, Tr.raw (.slice ad2 i cap2)), (77, .int i)] ∧ cc = [Chunk.own ad2 cap2 2 49 R])
  ⟨_, _, _, Ent.trans (Ent.nil 2 49) (Ent.mkP goSub goPm), 0, none, 0, [], rfl, ⟨by omega, rfl, rfl⟩, rfl, rfl⟩ ?_
 rintro _ _ _ ⟨i, ad2, cap2, R, rfl, ⟨hi, hR, hRl⟩, rfl, rfl⟩
 by_cases hik : i < k + 1
 ·obtain ⟨x, hx⟩ := at_lt (l := l) (k := i) (by omega)
  have hxb := idL_mem ((hl.mem_iff).1 (List.mem_of_getElem? hx))
  obtain ⟨y, hy⟩ := at_lt (l := G) (k := x.toNat) (by omega)
  have r1 : (intRows l)[i]? = some [.int x] := intRows_at hx
  have r2 : rows[x.toNat]? = some [.int y.1, .sl 1 [[.int (y.2.1 % 10)], [.int (y.2.2 % 10)]]] := by rw [hrs, List.getElem?_map, hy]; rfl
  have hR2 : R ++ [[.int y.1, .sl 1 [[.int (y.2.1 % 10)], [.int (y.2.2 % 10)]]]] = ((l.take (i + 1)).map (pkN G)).map Rdg.row := by rw [take_at hx, List.map_append, List.map_append, hR, List.map_cons, List.map_nil, pkN_at hy]; rfl
  have hRl2 : (R ++ [[Tr.int y.1, Tr.sl 1 [[Tr.int (y.2.1 % 10)], [Tr.int (y.2.2 % 10)]]]]).length = i + 1 := by rw [List.length_append, hRl]; rfl
  clear hR hl hx hy
  repeat' (first | refine goH ?_ | refine goV ?_ | refine goB (fun b => ?_) | refine goC (fun ad cap => ?_) | refine goG ?_ | (refine Ops.k_guard ?_; first | (refine Ops.guard_dec rfl rfl ?_ ?_ <;> intro hc <;> try omega) | refine Ops.guard_split rfl rfl ?_ ?_ <;> intro hc) | refine goI ?_ | (refine Cw.k_cond ?_; first | (refine Cw.cond_dec rfl ?_ ?_ <;> intro hc <;> try omega) | refine Cw.cond_bool rfl ?_ ?_ <;> intro hc) | refine goR ?_ | refine goP ?_ | apply PSeq.cons | apply PSeq.yes rfl rfl rfl | exact goW | fail)
  erw [hRl2]
  exact ⟨_, _, _, (Ent.mk goSub goTk), ⟨i + 1, _, _, _, rfl, ⟨by omega, hR2, hRl2⟩, rfl, rfl⟩, by omega⟩
 have hik2 : i = k + 1 := by omega
 rw [List.take_of_length_le (by omega)] at hR
 have hL := pkN_perm (G := G) (l := l) (by rw [hGn]; exact hl)
 generalize l.map (pkN G) = L at *
 obtain ⟨kS, kA, dv, kD, hsum, hpos⟩ := counters_fn hG hk6 (by omega) (by omega) hL
 obtain ⟨va, vb, i0, o0, x0, r0, T0, hA⟩ := hM.audit (by omega)
 have hdl := sumP_len hpos
 subst hR
 refine Cw.ent (Ent.settle (s := 11) rfl goPk (by omega)) ?_
 repeat' (first | refine goH ?_ | refine goV ?_ | refine goB (fun b => ?_) | refine goC (fun ad cap => ?_) | refine goG ?_ | (refine Ops.k_guard ?_; first | (refine Ops.guard_dec rfl rfl ?_ ?_ <;> intro hc <;> try omega) | refine Ops.guard_split rfl rfl ?_ ?_ <;> intro hc) | refine goI ?_ | (refine Cw.k_cond ?_; first | (refine Cw.cond_dec rfl ?_ ?_ <;> intro hc <;> try omega) | refine Cw.cond_bool rfl ?_ ?_ <;> intro hc) | (refine Ops.k_calla ?_; first | refine Ops.callV kS (Evs.cons rfl (Evs.cons rfl Evs.nil)) rfl ?_ | (refine Ops.call hA (Evs.cons rfl Evs.nil) goPm rfl ?_; rintro y cs' ⟨ch', hM', rfl, rfl⟩) | refine Ops.callV kA (Evs.cons rfl (Evs.cons rfl (Evs.cons rfl (Evs.cons rfl Evs.nil)))) rfl ?_ | refine Ops.callV kD (Evs.cons rfl (Evs.cons rfl (Evs.cons rfl Evs.nil))) rfl ?_) | (apply OpW.k_call; first | exact OpW.callV kS (Evs.cons rfl (Evs.cons rfl Evs.nil)) | exact OpW.callV kA (Evs.cons rfl (Evs.cons rfl (Evs.cons rfl (Evs.cons rfl Evs.nil)))) | exact OpW.callV kD (Evs.cons rfl (Evs.cons rfl (Evs.cons rfl Evs.nil)))) | refine goR ?_ | refine goP ?_ | apply PSeq.cons | apply PSeq.yes rfl rfl rfl | exact goW | fail)
 have hdr : (dv.map prD).length = dv.length := List.length_map _
 refine Cw.loopI [(14, _), (17, _), (18, _), (20, _), (139, _), (140, _)] _ (fun qq e cc => ∃ (i : Nat) (s : Int), qq = dv.length - i ∧ (i ≤ dv.length ∧ s = sumP (dv.take i)) ∧ e = [(21, .int s), (141, .int i)] ∧ cc = [])
  ⟨_, _, _, (Ent.mkP goSub goPm), 0, 0, rfl, ⟨by omega, rfl⟩, rfl, rfl⟩ ?_
 clear kS kA kD hA hM' hM hL hl hRl hik hik2 hi hlr hll hrl hrs hG hkm hc
 rintro _ _ _ ⟨i, s, rfl, ⟨hi, hs⟩, rfl, rfl⟩
 have hb := sumP_take_le hpos i
 by_cases hil : i < dv.length
 ·obtain ⟨x, hx⟩ := at_lt hil
  have r1 : (dv.map prD)[i]? = some [.int x.1, .int x.2] := by rw [List.getElem?_map, hx]; rfl
  have hs2 := sumP_take hx
  have hb2 := sumP_take_le hpos (i + 1)
  clear hpos hx
  repeat' (first | refine goH ?_ | refine goV ?_ | refine goB (fun b => ?_) | refine goC (fun ad cap => ?_) | refine goG ?_ | (refine Ops.k_guard ?_; first | (refine Ops.guard_dec rfl rfl ?_ ?_ <;> intro hc <;> try omega) | refine Ops.guard_split rfl rfl ?_ ?_ <;> intro hc) | refine goI ?_ | (refine Cw.k_cond ?_; first | (refine Cw.cond_dec rfl ?_ ?_ <;> intro hc <;> try omega) | refine Cw.cond_bool rfl ?_ ?_ <;> intro hc) | refine goR ?_ | refine goP ?_ | apply PSeq.cons | apply PSeq.yes rfl rfl rfl | exact goW | fail)
  exact ⟨_, _, _, (Ent.mk goSub goTk), ⟨i + 1, _, rfl, ⟨by omega, by rw [hs2, hs]⟩, rfl, rfl⟩, by omega⟩
 have hi2 : i = dv.length := by omega
 rw [List.take_of_length_le (by omega)] at hs
 have hsp : s = p := by omega
 subst hsp
 clear hpos
 repeat' (first | refine goH ?_ | refine goV ?_ | refine goB (fun b => ?_) | refine goC (fun ad cap => ?_) | refine goG ?_ | (refine Ops.k_guard ?_; first | (refine Ops.guard_dec rfl rfl ?_ ?_ <;> intro hc <;> try omega) | refine Ops.guard_split rfl rfl ?_ ?_ <;> intro hc) | refine goI ?_ | (refine Cw.k_cond ?_; first | (refine Cw.cond_dec rfl ?_ ?_ <;> intro hc <;> try omega) | refine Cw.cond_bool rfl ?_ ?_ <;> intro hc) | (refine Ops.k_calla ?_; first | (refine Ops.k_callf 17 ?_; refine Ops.callV kR Evs.nil rfl ?_)) | (apply OpW.k_call; first | (apply OpW.k_callf 17; exact OpW.callV kR Evs.nil)) | refine goR ?_ | refine goP ?_ | apply PSeq.cons | apply PSeq.yes rfl rfl rfl | exact goW | fail)
 all_goals exact Fin.ret Ent.refl (Outs.one rfl rfl) (congrArg Tr.bool (decide_eq_true rfl))
end Lg
end
