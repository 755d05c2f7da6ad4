/- A part of the proof of a law of this seat: it adds no condition. By an AI agent. -/
import Derived.Test.YtmncgklajohcbaaGreatDoorLgRng
import Derived.Test.YtmncgklajohcbaaGreatDoorKey
import Derived.Test.YtmncgklajohcbaaGreatDoorCmpOr
section
set_option linter.all false
set_option maxRecDepth 100000
set_option maxHeartbeats 4000000
namespace Lg
open Go Go.Proofs

theorem cmpOrI_fn (l : List Int) (hl : l.length ≤ 1000) : PFn Tryz.prog 31 [.ints l] (· = .int (orI l)) := by
  refine PFn.mk (Spec.body Tryz.func31 rfl rfl (Tryz.ntmps31) rfl fun w0 own0 M => ?_)
  have hL := intRows_len l
  repeat' (first | refine goH ?_ | refine goV ?_ | refine goI ?_ | (refine Cw.k_cond ?_; first | (refine Cw.cond_dec rfl (fun hc => ?_) (fun hc => ?_) <;> try (exfalso; omega)) | refine Cw.cond_bool rfl (fun hc => ?_) (fun hc => ?_)) | fail)
  refine Cw.loop (ι := Nat) (fun k => k ≤ l.length ∧ orI (l.drop k) = orI l) (fun k => [(3, .int 0), (6, .ints l), (7, .int (intRows l).length), (8, .int k)]) (fun _ => []) (fun k => l.length - k) ⟨0, ⟨by omega, rfl⟩, (Ent.mk goSub goTk)⟩ ?_
  rintro k ⟨hk, h1⟩
  by_cases hkl : k < l.length
  · obtain ⟨x, hx⟩ := at_lt hkl
    have hrow := intRows_at hx
    rw [drop_at hx, orI_cons] at h1
    by_cases hz : x = 0
    · rw [if_neg (by omega)] at h1
      repeat' (first | refine goH ?_ | refine goV ?_ | refine goI ?_ | (refine Cw.k_cond ?_; first | (refine Cw.cond_dec rfl (fun hc => ?_) (fun hc => ?_) <;> try (exfalso; omega)) | refine Cw.cond_bool rfl (fun hc => ?_) (fun hc => ?_)) | fail)
      exact ⟨k + 1, ⟨by omega, h1⟩, by omega, (Ent.mk goSub goTk)⟩
    · rw [if_pos hz] at h1
      repeat' (first | refine goH ?_ | refine goV ?_ | refine goI ?_ | (refine Cw.k_cond ?_; first | (refine Cw.cond_dec rfl (fun hc => ?_) (fun hc => ?_) <;> try (exfalso; omega)) | refine Cw.cond_bool rfl (fun hc => ?_) (fun hc => ?_)) | fail)
      exact Fin.ret Ent.refl (Outs.one rfl rfl) ⟨rfl, congrArg Tr.int h1⟩
  · rw [List.drop_eq_nil_of_le (by omega), orI] at h1
    repeat' (first | refine goH ?_ | refine goV ?_ | refine goI ?_ | (refine Cw.k_cond ?_; first | (refine Cw.cond_dec rfl (fun hc => ?_) (fun hc => ?_) <;> try (exfalso; omega)) | refine Cw.cond_bool rfl (fun hc => ?_) (fun hc => ?_)) | fail)
    exact Fin.ret Ent.refl (Outs.one rfl rfl) ⟨rfl, congrArg Tr.int h1⟩
end Lg
end
section
set_option linter.all false
set_option maxRecDepth 100000
set_option maxHeartbeats 8000000
namespace Lg
open Go Go.Proofs

/-! ### strings compared; names with numbers -/
theorem cmpString_fn (a b : ByteArray) : PFn Tryz.prog 66 [.str a, .str b] (· = .int (cmpS a b)) := by
  have hx : ∀ w, (callFunc 78 #[.string a, .string b]).run Tryz.prog w = .ok (.value (.int .i64 (cmpS a b))) w := fun w => by
    rw [run_callFunc_extern Tryz.func78 (by kernel_rfl) (by kernel_rfl) (by kernel_rfl) (e := Extern.BytealgCompare.compare) (by kernel_rfl), Lib.run_compareString, cmpS_cb]
    rfl
  refine PFn.mk (Spec.body Tryz.func66 rfl rfl (Tryz.ntmps66) rfl fun w0 own0 M => ?_)
  repeat' (first | refine Ops.nil ?_ | refine Then.norm ?_ | refine Cw.seq ?_ | refine Cw.region ?_ | refine Cw.block ?_ | refine Cw.exit ?_ | refine Cw.skip ?_ | refine Cw.ret ?_ | refine Then.exit ?_ | refine Then.ret ?_ | refine InB.exit ?_ | refine InB.norm ?_ | refine InB.ret ?_ | refine InB.exit_ne rfl ?_ | (refine Ops.k_move ?_; first | refine Ops.move rfl rfl ?_ | refine Ops.move_any rfl ?_) | (refine Ops.k_assign ?_; first | refine Ops.assign rfl rfl ?_ | refine Ops.assign_any rfl ?_) | (refine Cw.k_cond ?_; first | refine Cw.cond_true rfl ?_ | refine Cw.cond_false rfl ?_ | (refine Cw.cond_dec rfl (fun hc => ?_) (fun hc => ?_) <;> try (exfalso; omega)) | refine Cw.cond_bool rfl (fun hc => ?_) (fun hc => ?_)) | refine Ops.ext2 hx rfl rfl rfl ?_)
  exact Fin.ret (Ent.take goTk) (Outs.one rfl rfl) ⟨rfl, rfl⟩
theorem compareS_fn (a b : ByteArray) : PFn Tryz.prog 33 [.str a, .str b] (· = .int (cmpS a b)) := by
  have k1 := cmpString_fn a b
  refine PFn.mk (Spec.body Tryz.func33 rfl rfl (Tryz.ntmps33) rfl fun w0 own0 M => ?_)
  repeat' (first | refine Ops.nil ?_ | refine Then.norm ?_ | refine Cw.seq ?_ | refine Cw.region ?_ | refine Cw.block ?_ | refine Cw.exit ?_ | refine Cw.skip ?_ | refine Cw.ret ?_ | refine Then.exit ?_ | refine Then.ret ?_ | refine InB.exit ?_ | refine InB.norm ?_ | refine InB.ret ?_ | refine InB.exit_ne rfl ?_ | (refine Ops.k_move ?_; first | refine Ops.move rfl rfl ?_ | refine Ops.move_any rfl ?_) | (refine Ops.k_assign ?_; first | refine Ops.assign rfl rfl ?_ | refine Ops.assign_any rfl ?_) | (refine Cw.k_cond ?_; first | refine Cw.cond_true rfl ?_ | refine Cw.cond_false rfl ?_ | (refine Cw.cond_dec rfl (fun hc => ?_) (fun hc => ?_) <;> try (exfalso; omega)) | refine Cw.cond_bool rfl (fun hc => ?_) (fun hc => ?_)) | (refine Ops.k_calla ?_; first | (refine Ops.k_callf 66 ?_; refine Ops.callV k1 (Evs.cons rfl (Evs.cons rfl Evs.nil)) rfl ?_)))
  exact Fin.ret (Ent.take goTk) (Outs.one rfl rfl) ⟨rfl, rfl⟩
end Lg
end
section
set_option linter.all false
set_option maxRecDepth 100000
set_option maxHeartbeats 8000000
namespace Lg
open Go Go.Proofs

/-! ### what is wrong with codes -/
def Cd.row (x : Cd) : List Tr := [.int x.at_, .str x.key, .bool x.on]
abbrev Tr.cds (l : List Cd) : Tr := Tr.sl 3 (l.map Cd.row)
def Wn.row (x : Wn) : List Tr := [.int x.fr, .int x.to]
abbrev Tr.wns (l : List Wn) : Tr := Tr.sl 2 (l.map Wn.row)
theorem orIC (a b : Int) : orI [a, b] = if a ≠ 0 then a else b := by
  rw [orI_cons]
  split
  · rfl
  · rw [orI_cons]
    split
    · rfl
    · rename_i h; rw [orI]; omega
theorem cmpI_eqC (a b : Int) : cmpI a b = 0 ↔ a = b := by unfold cmpI; split <;> (try split) <;> omega
theorem cmpI_negC (a b : Int) : cmpI b a = -cmpI a b := by unfold cmpI; split <;> (try split) <;> (try split) <;> omega
theorem cmpS_negC (a b : ByteArray) : cmpS b a = -cmpS a b := by
  unfold cmpS
  cases h1 : strLt a b <;> cases h2 : strLt b a
  · rfl
  · rfl
  · rfl
  · rw [strLt_asymm h1] at h2; cases h2
def cfC (a b : Cd) : Int := orI [cmpI a.at_ b.at_, cmpS a.key b.key]
theorem cfC_neg (a b : Cd) : cfC b a = -cfC a b := by
  unfold cfC
  rw [orIC, orIC, cmpS_negC a.key b.key, cmpI_negC a.at_ b.at_]
  split
  · rw [if_pos (by omega)]
  · rw [if_neg (by omega)]
def ordC : Option Cd → Cd → Bool
  | none, _ => false
  | some y, x => decide (cfC x y < 0)
theorem ordC_some {y x : Cd} (h : ordC (some y) x = false) : y.at_ ≤ x.at_ := by
  unfold ordC cfC at h
  rw [decide_eq_false_iff_not, orIC] at h
  refine Classical.byContradiction fun h2 => h ?_
  have h3 := (cmpI_lt x.at_ y.at_).2 (by omega)
  rw [if_pos (by omega)]
  exact h3
def prvC (l : List Cd) : Nat → Option Cd
  | 0 => none
  | j + 1 => l[j]?
def cdX (p : Option Cd) (x : Cd) : Int := if momentB x.at_ = false then 1 else if isKey x.key = false then 5 else if ordC p x = true then 7 else 0
def cdE (l : List Cd) (k : Nat) : Int := match l[k]? with
  | none => 0
  | some x => cdX (prvC l k) x
def codesE (l : List Cd) : Int := if l.length > 3000 then 2 else firstE (cdE l) 0 l.length
structure CdF (E : Int) (x : Cd) (mB q ob : Bool) (N : Int) : Prop where
  e1 : (!mB) = true → E = 1
  e5 : (!mB) = false → (!q) = true → E = 5
  e7 : (!mB) = false → (!q) = false → ob = true → E = 7
  ok : (!mB) = false → (!q) = false → ob = false → E = N
theorem cdF {l : List Cd} {k : Nat} {x : Cd} {p : Option Cd} {E : Int} (hx : l[k]? = some x) (hp : prvC l k = p) (hV : E = firstE (cdE l) k (l.length - k)) (hkl : k < l.length) : CdF E x (momentB x.at_) (isKey x.key) (ordC p x) (firstE (cdE l) (k + 1) (l.length - (k + 1))) := by
  have he : cdE l k = cdX p x := by unfold cdE; rw [hx, hp]
  have fin : ∀ c : Int, cdX p x = c → c ≠ 0 → E = c := fun c h1 h2 => hV.trans (firstE_bad hkl (he.trans h1) h2)
  have nxt : cdX p x = 0 → E = firstE (cdE l) (k + 1) (l.length - (k + 1)) := fun h1 => hV.trans (firstE_ok hkl (he.trans h1))
  clear hV he
  unfold cdX at fin nxt
  generalize ordC p x = ob at *
  generalize isKey x.key = q1 at *
  generalize momentB x.at_ = mB at *
  refine ⟨?_, ?_, ?_, ?_⟩
  · intro h; exact fin 1 (by rw [if_pos (by simpa using h)]) (by decide)
  · intro h h2; exact fin 5 (by rw [if_neg (by simpa using h), if_pos (by simpa using h2)]) (by decide)
  · intro h h2 h3; exact fin 7 (by rw [if_neg (by simpa using h), if_neg (by simpa using h2), if_pos h3]) (by decide)
  · intro h h2 h3; exact nxt (by rw [if_neg (by simpa using h), if_neg (by simpa using h2), if_neg (by simp [h3])])
theorem codes_ok {l : List Cd} (h : codesE l = 0) : l.length ≤ 3000 ∧ CdOk l := by
  unfold codesE at h
  split at h
  · cases h
  have hz := firstE_zero h
  have hX : ∀ k x, l[k]? = some x → momentB x.at_ = true ∧ ordC (prvC l k) x = false := fun k x hx => by
    have := hz k (Nat.zero_le _) (by have := (List.getElem?_eq_some_iff.1 hx).1; omega)
    unfold cdE at this
    rw [hx] at this
    simp only at this
    unfold cdX at this
    split at this
    · cases this
    split at this
    · cases this
    split at this
    · cases this
    rename_i h1 h2 h3
    exact ⟨by simpa using h1, by simpa using h3⟩
  refine ⟨by omega, ?_, fun c hc => ?_⟩
  · rw [List.pairwise_iff_getElem]
    intro i j hi hj hij
    have H : ∀ d (hd : i + d < l.length), l[i].at_ ≤ l[i + d].at_ := by
      intro d
      induction d with
      | zero => intro hd; exact Int.le_refl _
      | succ d ih =>
        intro hd
        have h1 := ih (by omega)
        have h2 := (hX (i + d + 1) _ (List.getElem?_eq_getElem hd)).2
        rw [show prvC l (i + d + 1) = some l[i + d] from List.getElem?_eq_getElem (by omega)] at h2
        exact Int.le_trans h1 (ordC_some h2)
    obtain ⟨d, rfl⟩ : ∃ d, j = i + d := ⟨j - i, by omega⟩
    exact H d hj
  · obtain ⟨i, hi⟩ := List.getElem?_of_mem hc
    have h1 := (hX i c hi).1
    unfold momentB at h1
    rw [decide_eq_true_iff] at h1
    exact h1
theorem checkCodes_fn (l : List Cd) (hl : l.length ≤ 1000000) : PFn Tryz.prog 10 [.cds l] (· = .int (codesE l)) := by
  refine PFn.mk (Spec.body Tryz.func10 rfl rfl (Tryz.ntmps10) rfl fun w0 own0 M => ?_)
  have hL : (l.map Cd.row).length = l.length := List.length_map _
  by_cases h3000 : l.length > 3000
  · rw [show codesE l = 2 by unfold codesE; rw [if_pos h3000]]
    repeat' (first | refine goH ?_ | refine goV ?_ | refine goB (fun b => ?_) | refine goG ?_ | (refine Ops.k_guard ?_; first | (refine Ops.guard_dec rfl rfl (fun hc => ?_) (fun hc => ?_) <;> try (exfalso; omega)) | refine Ops.guard_split rfl rfl (fun hc => ?_) (fun hc => ?_)) | refine goI ?_ | (refine Cw.k_cond ?_; first | (refine Cw.cond_dec rfl (fun hc => ?_) (fun hc => ?_) <;> try (exfalso; omega)) | refine Cw.cond_bool rfl (fun hc => ?_) (fun hc => ?_)) | refine goR ?_ | refine goP ?_ | apply PSeq.cons | apply PSeq.yes rfl rfl rfl | exact goW | fail)
    exact Fin.ret (Ent.take goTk) (Outs.one rfl rfl) ⟨rfl, rfl⟩
  have hV0 : codesE l = firstE (cdE l) 0 (l.length - 0) := by unfold codesE; rw [if_neg h3000]; rfl
  generalize codesE l = E at *
  repeat' (first | refine goH ?_ | refine goV ?_ | refine goB (fun b => ?_) | refine goG ?_ | (refine Ops.k_guard ?_; first | (refine Ops.guard_dec rfl rfl (fun hc => ?_) (fun hc => ?_) <;> try (exfalso; omega)) | refine Ops.guard_split rfl rfl (fun hc => ?_) (fun hc => ?_)) | refine goI ?_ | (refine Cw.k_cond ?_; first | (refine Cw.cond_dec rfl (fun hc => ?_) (fun hc => ?_) <;> try (exfalso; omega)) | refine Cw.cond_bool rfl (fun hc => ?_) (fun hc => ?_)) | refine goR ?_ | refine goP ?_ | apply PSeq.cons | apply PSeq.yes rfl rfl rfl | exact goW | fail)
  refine Cw.loopI [(0, _), (8, _), (9, _)] _ (fun n e c => ∃ k : Nat, n = l.length - k ∧ (k ≤ l.length ∧ E = firstE (cdE l) k (l.length - k)) ∧ e = [(10, .int k)] ∧ c = []) ⟨_, _, _, (Ent.mkP goSub goPm), 0, rfl, ⟨by omega, hV0⟩, rfl, rfl⟩ ?_
  clear hV0
  rintro _ _ _ ⟨k, rfl, ⟨hk, hV⟩, rfl, rfl⟩
  by_cases hkl : k < l.length
  rotate_left
  · rw [firstE_end hkl] at hV
    subst hV
    repeat' (first | refine goH ?_ | refine goV ?_ | refine goB (fun b => ?_) | refine goG ?_ | (refine Ops.k_guard ?_; first | (refine Ops.guard_dec rfl rfl (fun hc => ?_) (fun hc => ?_) <;> try (exfalso; omega)) | refine Ops.guard_split rfl rfl (fun hc => ?_) (fun hc => ?_)) | refine goI ?_ | (refine Cw.k_cond ?_; first | (refine Cw.cond_dec rfl (fun hc => ?_) (fun hc => ?_) <;> try (exfalso; omega)) | refine Cw.cond_bool rfl (fun hc => ?_) (fun hc => ?_)) | refine goR ?_ | refine goP ?_ | apply PSeq.cons | apply PSeq.yes rfl rfl rfl | exact goW | fail)
    exact Fin.ret (Ent.take goTk) (Outs.one rfl rfl) ⟨rfl, rfl⟩
  obtain ⟨x, hx⟩ := at_lt hkl
  have hrow : (l.map Cd.row)[k]? = some [.int x.at_, .str x.key, .bool x.on] := rows_at hx
  have k1 := key_fn x.key
  have k2 := moment_fn x.at_
  by_cases hk0 : k = 0
  · have F := cdF (p := none) hx (by rw [hk0]; rfl) hV hkl
    rw [show ordC none x = false from rfl] at F
    generalize isKey x.key = q1 at *
    generalize momentB x.at_ = q2 at *
    clear hV hx
    repeat' (first | refine goH ?_ | refine goV ?_ | refine goB (fun b => ?_) | refine goG ?_ | (refine Ops.k_guard ?_; first | (refine Ops.guard_dec rfl rfl (fun hc => ?_) (fun hc => ?_) <;> try (exfalso; omega)) | refine Ops.guard_split rfl rfl (fun hc => ?_) (fun hc => ?_)) | refine goI ?_ | (refine Cw.k_cond ?_; first | (refine Cw.cond_dec rfl (fun hc => ?_) (fun hc => ?_) <;> try (exfalso; omega)) | refine Cw.cond_bool rfl (fun hc => ?_) (fun hc => ?_)) | (refine Ops.k_calla ?_; first | (refine Ops.k_callf 35 ?_; refine Ops.callV k1 (Evs.cons rfl Evs.nil) rfl ?_) | (refine Ops.k_callf 34 ?_; refine Ops.callV k2 (Evs.cons rfl Evs.nil) rfl ?_)) | (apply OpW.k_call; first | (apply OpW.k_callf 35; exact OpW.callV k1 (Evs.cons rfl Evs.nil)) | (apply OpW.k_callf 34; exact OpW.callV k2 (Evs.cons rfl Evs.nil))) | refine goR ?_ | refine goP ?_ | apply PSeq.cons | apply PSeq.yes rfl rfl rfl | exact goW | fail)
    all_goals first
      | (exfalso; omega)
      | exact ⟨_, _, _, (Ent.mk goSub goTk), ⟨k + 1, rfl, ⟨by omega, F.ok (by assumption) (by assumption) rfl⟩, rfl, rfl⟩, by omega⟩
      | (refine Fin.ret (Ent.take goTk) (Outs.one rfl rfl) ⟨rfl, ?_⟩; first | (rw [F.e1 (by assumption)]; done) | (rw [F.e5 (by assumption) (by assumption)]; done))
  obtain ⟨j, hj⟩ : ∃ j, k = j + 1 := ⟨k - 1, by omega⟩
  obtain ⟨y, hy⟩ := at_lt (l := l) (k := j) (by omega)
  have hrow2 : (l.map Cd.row)[((k : Int) - 1).toNat]? = some [.int y.at_, .str y.key, .bool y.on] := by rw [show ((k : Int) - 1).toNat = j by omega]; exact rows_at hy
  have F := cdF (p := some y) hx (by rw [hj]; exact hy) hV hkl
  have k3 := compare_fn x.at_ y.at_
  have k4 := compareS_fn x.key y.key
  have k5 := cmpOrI_fn [cmpI x.at_ y.at_, cmpS x.key y.key] (by simp)
  rw [show orI [cmpI x.at_ y.at_, cmpS x.key y.key] = cfC x y from rfl] at k5
  rw [show ordC (some y) x = decide (cfC x y < 0) from rfl] at F
  have hneg := cfC_neg x y
  generalize cfC y x = o2 at *
  generalize cfC x y = o at *
  generalize isKey x.key = q1 at *
  generalize momentB x.at_ = q2 at *
  generalize cmpI x.at_ y.at_ = c1 at *
  generalize cmpS x.key y.key = c2 at *
  clear hV hx hy
  repeat' (first | refine goH ?_ | refine goV ?_ | refine goB (fun b => ?_) | refine goG ?_ | (refine Ops.k_guard ?_; first | (refine Ops.guard_dec rfl rfl (fun hc => ?_) (fun hc => ?_) <;> try (exfalso; omega)) | refine Ops.guard_split rfl rfl (fun hc => ?_) (fun hc => ?_)) | refine goI ?_ | (refine Cw.k_cond ?_; first | (refine Cw.cond_dec rfl (fun hc => ?_) (fun hc => ?_) <;> try (exfalso; omega)) | refine Cw.cond_bool rfl (fun hc => ?_) (fun hc => ?_)) | (refine Ops.k_calla ?_; first | (refine Ops.k_callf 35 ?_; refine Ops.callV k1 (Evs.cons rfl Evs.nil) rfl ?_) | (refine Ops.k_callf 34 ?_; refine Ops.callV k2 (Evs.cons rfl Evs.nil) rfl ?_) | (refine Ops.k_callf 32 ?_; refine Ops.callV k3 (Evs.cons rfl (Evs.cons rfl Evs.nil)) rfl ?_) | (refine Ops.k_callf 33 ?_; refine Ops.callV k4 (Evs.cons rfl (Evs.cons rfl Evs.nil)) rfl ?_) | (refine Ops.k_callf 31 ?_; refine Ops.callV k5 (Evs.cons rfl Evs.nil) rfl ?_)) | (apply OpW.k_call; first | (apply OpW.k_callf 35; exact OpW.callV k1 (Evs.cons rfl Evs.nil)) | (apply OpW.k_callf 34; exact OpW.callV k2 (Evs.cons rfl Evs.nil)) | (apply OpW.k_callf 32; exact OpW.callV k3 (Evs.cons rfl (Evs.cons rfl Evs.nil))) | (apply OpW.k_callf 33; exact OpW.callV k4 (Evs.cons rfl (Evs.cons rfl Evs.nil))) | (apply OpW.k_callf 31; exact OpW.callV k5 (Evs.cons rfl Evs.nil))) | refine goR ?_ | refine goP ?_ | apply PSeq.cons | apply PSeq.yes rfl rfl rfl | exact goW | fail)
  all_goals first
    | (exfalso; omega)
    | exact ⟨_, _, _, (Ent.mk goSub goTk), ⟨k + 1, rfl, ⟨by omega, F.ok (by assumption) (by assumption) (decide_eq_false (by omega))⟩, rfl, rfl⟩, by omega⟩
    | (refine Fin.ret (Ent.take goTk) (Outs.one rfl rfl) ⟨rfl, ?_⟩; first | (rw [F.e1 (by assumption)]; done) | (rw [F.e5 (by assumption) (by assumption)]; done) | (rw [F.e7 (by assumption) (by assumption) (decide_eq_true (by omega))]; done))
theorem codesFault_fn (l : List Cd) (hl : l.length ≤ 1000000) : PFn Tryz.prog 9 [.cds l] (· = .int (codesE l)) := by
  refine PFn.mk (Spec.body Tryz.func9 rfl rfl (Tryz.ntmps9) rfl fun w0 own0 M => ?_)
  have hL : (l.map Cd.row).length = l.length := List.length_map _
  by_cases h3000 : l.length > 3000
  · rw [show codesE l = 2 by unfold codesE; rw [if_pos h3000]]
    repeat' (first | refine goH ?_ | refine goV ?_ | refine goB (fun b => ?_) | refine goG ?_ | (refine Ops.k_guard ?_; first | (refine Ops.guard_dec rfl rfl (fun hc => ?_) (fun hc => ?_) <;> try (exfalso; omega)) | refine Ops.guard_split rfl rfl (fun hc => ?_) (fun hc => ?_)) | refine goI ?_ | (refine Cw.k_cond ?_; first | (refine Cw.cond_dec rfl (fun hc => ?_) (fun hc => ?_) <;> try (exfalso; omega)) | refine Cw.cond_bool rfl (fun hc => ?_) (fun hc => ?_)) | refine goR ?_ | refine goP ?_ | apply PSeq.cons | apply PSeq.yes rfl rfl rfl | exact goW | fail)
    exact Fin.ret (Ent.take goTk) (Outs.one rfl rfl) ⟨rfl, rfl⟩
  have hV0 : codesE l = firstE (cdE l) 0 (l.length - 0) := by unfold codesE; rw [if_neg h3000]; rfl
  generalize codesE l = E at *
  repeat' (first | refine goH ?_ | refine goV ?_ | refine goB (fun b => ?_) | refine goG ?_ | (refine Ops.k_guard ?_; first | (refine Ops.guard_dec rfl rfl (fun hc => ?_) (fun hc => ?_) <;> try (exfalso; omega)) | refine Ops.guard_split rfl rfl (fun hc => ?_) (fun hc => ?_)) | refine goI ?_ | (refine Cw.k_cond ?_; first | (refine Cw.cond_dec rfl (fun hc => ?_) (fun hc => ?_) <;> try (exfalso; omega)) | refine Cw.cond_bool rfl (fun hc => ?_) (fun hc => ?_)) | refine goR ?_ | refine goP ?_ | apply PSeq.cons | apply PSeq.yes rfl rfl rfl | exact goW | fail)
  refine Cw.loopI [(0, _), (8, _), (9, _)] _ (fun n e c => ∃ k : Nat, n = l.length - k ∧ (k ≤ l.length ∧ E = firstE (cdE l) k (l.length - k)) ∧ e = [(10, .int k)] ∧ c = []) ⟨_, _, _, (Ent.mkP goSub goPm), 0, rfl, ⟨by omega, hV0⟩, rfl, rfl⟩ ?_
  clear hV0
  rintro _ _ _ ⟨k, rfl, ⟨hk, hV⟩, rfl, rfl⟩
  by_cases hkl : k < l.length
  rotate_left
  · rw [firstE_end hkl] at hV
    subst hV
    repeat' (first | refine goH ?_ | refine goV ?_ | refine goB (fun b => ?_) | refine goG ?_ | (refine Ops.k_guard ?_; first | (refine Ops.guard_dec rfl rfl (fun hc => ?_) (fun hc => ?_) <;> try (exfalso; omega)) | refine Ops.guard_split rfl rfl (fun hc => ?_) (fun hc => ?_)) | refine goI ?_ | (refine Cw.k_cond ?_; first | (refine Cw.cond_dec rfl (fun hc => ?_) (fun hc => ?_) <;> try (exfalso; omega)) | refine Cw.cond_bool rfl (fun hc => ?_) (fun hc => ?_)) | refine goR ?_ | refine goP ?_ | apply PSeq.cons | apply PSeq.yes rfl rfl rfl | exact goW | fail)
    exact Fin.ret (Ent.take goTk) (Outs.one rfl rfl) ⟨rfl, rfl⟩
  obtain ⟨x, hx⟩ := at_lt hkl
  have hrow : (l.map Cd.row)[k]? = some [.int x.at_, .str x.key, .bool x.on] := rows_at hx
  have k1 := keyOf_fn x.key
  have k2 := refMoment_fn x.at_
  by_cases hk0 : k = 0
  · have F := cdF (p := none) hx (by rw [hk0]; rfl) hV hkl
    rw [show ordC none x = false from rfl] at F
    generalize isKey x.key = q1 at *
    generalize momentB x.at_ = q2 at *
    clear hV hx
    repeat' (first | refine goH ?_ | refine goV ?_ | refine goB (fun b => ?_) | refine goG ?_ | (refine Ops.k_guard ?_; first | (refine Ops.guard_dec rfl rfl (fun hc => ?_) (fun hc => ?_) <;> try (exfalso; omega)) | refine Ops.guard_split rfl rfl (fun hc => ?_) (fun hc => ?_)) | refine goI ?_ | (refine Cw.k_cond ?_; first | (refine Cw.cond_dec rfl (fun hc => ?_) (fun hc => ?_) <;> try (exfalso; omega)) | refine Cw.cond_bool rfl (fun hc => ?_) (fun hc => ?_)) | (refine Ops.k_calla ?_; first | (refine Ops.k_callf 30 ?_; refine Ops.callV k1 (Evs.cons rfl Evs.nil) rfl ?_) | (refine Ops.k_callf 29 ?_; refine Ops.callV k2 (Evs.cons rfl Evs.nil) rfl ?_)) | (apply OpW.k_call; first | (apply OpW.k_callf 30; exact OpW.callV k1 (Evs.cons rfl Evs.nil)) | (apply OpW.k_callf 29; exact OpW.callV k2 (Evs.cons rfl Evs.nil))) | refine goR ?_ | refine goP ?_ | apply PSeq.cons | apply PSeq.yes rfl rfl rfl | exact goW | fail)
    all_goals first
      | (exfalso; omega)
      | exact ⟨_, _, _, (Ent.mk goSub goTk), ⟨k + 1, rfl, ⟨by omega, F.ok (by assumption) (by assumption) rfl⟩, rfl, rfl⟩, by omega⟩
      | (refine Fin.ret (Ent.take goTk) (Outs.one rfl rfl) ⟨rfl, ?_⟩; first | (rw [F.e1 (by assumption)]; done) | (rw [F.e5 (by assumption) (by assumption)]; done))
  obtain ⟨j, hj⟩ : ∃ j, k = j + 1 := ⟨k - 1, by omega⟩
  obtain ⟨y, hy⟩ := at_lt (l := l) (k := j) (by omega)
  have hrow2 : (l.map Cd.row)[((k : Int) - 1).toNat]? = some [.int y.at_, .str y.key, .bool y.on] := by rw [show ((k : Int) - 1).toNat = j by omega]; exact rows_at hy
  have F := cdF (p := some y) hx (by rw [hj]; exact hy) hV hkl
  have k3 := compare_fn y.at_ x.at_
  have k4 := compareS_fn y.key x.key
  have k5 := cmpOrI_fn [cmpI y.at_ x.at_, cmpS y.key x.key] (by simp)
  rw [show orI [cmpI y.at_ x.at_, cmpS y.key x.key] = cfC y x from rfl] at k5
  rw [show ordC (some y) x = decide (cfC x y < 0) from rfl] at F
  have hneg := cfC_neg x y
  generalize cfC y x = o2 at *
  generalize cfC x y = o at *
  generalize isKey x.key = q1 at *
  generalize momentB x.at_ = q2 at *
  generalize cmpI y.at_ x.at_ = c1 at *
  generalize cmpS y.key x.key = c2 at *
  clear hV hx hy
  repeat' (first | refine goH ?_ | refine goV ?_ | refine goB (fun b => ?_) | refine goG ?_ | (refine Ops.k_guard ?_; first | (refine Ops.guard_dec rfl rfl (fun hc => ?_) (fun hc => ?_) <;> try (exfalso; omega)) | refine Ops.guard_split rfl rfl (fun hc => ?_) (fun hc => ?_)) | refine goI ?_ | (refine Cw.k_cond ?_; first | (refine Cw.cond_dec rfl (fun hc => ?_) (fun hc => ?_) <;> try (exfalso; omega)) | refine Cw.cond_bool rfl (fun hc => ?_) (fun hc => ?_)) | (refine Ops.k_calla ?_; first | (refine Ops.k_callf 30 ?_; refine Ops.callV k1 (Evs.cons rfl Evs.nil) rfl ?_) | (refine Ops.k_callf 29 ?_; refine Ops.callV k2 (Evs.cons rfl Evs.nil) rfl ?_) | (refine Ops.k_callf 32 ?_; refine Ops.callV k3 (Evs.cons rfl (Evs.cons rfl Evs.nil)) rfl ?_) | (refine Ops.k_callf 33 ?_; refine Ops.callV k4 (Evs.cons rfl (Evs.cons rfl Evs.nil)) rfl ?_) | (refine Ops.k_callf 31 ?_; refine Ops.callV k5 (Evs.cons rfl Evs.nil) rfl ?_)) | (apply OpW.k_call; first | (apply OpW.k_callf 30; exact OpW.callV k1 (Evs.cons rfl Evs.nil)) | (apply OpW.k_callf 29; exact OpW.callV k2 (Evs.cons rfl Evs.nil)) | (apply OpW.k_callf 32; exact OpW.callV k3 (Evs.cons rfl (Evs.cons rfl Evs.nil))) | (apply OpW.k_callf 33; exact OpW.callV k4 (Evs.cons rfl (Evs.cons rfl Evs.nil))) | (apply OpW.k_callf 31; exact OpW.callV k5 (Evs.cons rfl Evs.nil))) | refine goR ?_ | refine goP ?_ | apply PSeq.cons | apply PSeq.yes rfl rfl rfl | exact goW | fail)
  all_goals first
    | (exfalso; omega)
    | exact ⟨_, _, _, (Ent.mk goSub goTk), ⟨k + 1, rfl, ⟨by omega, F.ok (by assumption) (by assumption) (decide_eq_false (by omega))⟩, rfl, rfl⟩, by omega⟩
    | (refine Fin.ret (Ent.take goTk) (Outs.one rfl rfl) ⟨rfl, ?_⟩; first | (rw [F.e1 (by assumption)]; done) | (rw [F.e5 (by assumption) (by assumption)]; done) | (rw [F.e7 (by assumption) (by assumption) (decide_eq_true (by omega))]; done))
end Lg
end
