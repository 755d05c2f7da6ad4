/- A part of the proof of a law of this seat: it adds no condition. By an AI agent. -/
import Derived.Test.YtjknjnkkpfeahaaGreatDoorLgX5
import Derived.Test.YtjknjnkkpfeahaaGreatDoorCmpOr
section
set_option linter.all false
set_option maxRecDepth 100000
set_option maxHeartbeats 4000000
namespace Lg
open Go Go.Proofs

def keyE (l : List ByteArray) (k : Nat) : Int := match l[k]? with
  | none => 0
  | some x => if isKey x = false then 5 else if prevB (fun x y => strLe x y) l k x then 7 else 0
def riseE (l : List ByteArray) : Int := firstE (keyE l) 0 l.length
def sitE (l : List ByteArray) : Int := if l.length = 0 then 8 else if l.length > 12 then 2 else riseE l
theorem sitesLoop (l : List ByteArray) (hl : l.length ≤ 1000000) (h10 : 15 = 15 → 0 < l.length ∧ l.length ≤ 12) : PFn Tryz.prog 48 [.strs l] (· = .int (riseE l)) := by
  refine PFn.mk (Spec.body Tryz.func48 rfl rfl (Tryz.ntmps48) rfl fun w0 own0 M => ?_)
  have hL := strRows_len l
  have hV0 : riseE l = firstE (keyE l) 0 (l.length - 0) := rfl
  try have h11 := h10 rfl
  repeat' (first | refine goH ?_ | refine goV ?_ | refine goG ?_ | (refine Ops.k_guard ?_; first | (refine Ops.guard_dec rfl rfl (fun hc => ?_) (fun hc => ?_) <;> try (exfalso; omega)) | refine Ops.guard_split rfl rfl (fun hc => ?_) (fun hc => ?_)) | refine goI ?_ | (refine Cw.k_cond ?_; first | (refine Cw.cond_dec rfl (fun hc => ?_) (fun hc => ?_) <;> try (exfalso; omega)) | refine Cw.cond_bool rfl (fun hc => ?_) (fun hc => ?_)) | fail)
  refine Cw.loopI [(0, _), (13, _), (14, _)] _ (fun n e c => ∃ k : Nat, n = l.length - k ∧ (k ≤ l.length ∧ riseE l = firstE (keyE l) k (l.length - k)) ∧ e = [(15, .int k)] ∧ c = []) ⟨_, _, _, (Ent.mkP goSub goPm), 0, rfl, ⟨by omega, hV0⟩, rfl, rfl⟩ ?_
  rintro _ _ _ ⟨k, rfl, ⟨hk, hV⟩, rfl, rfl⟩
  by_cases hkl : k < l.length
  · obtain ⟨x, hx⟩ := at_lt hkl
    have hrow := strRows_at hx
    have hkey := key_fn x
    have fin : ∀ c, keyE l k = c → c ≠ 0 → riseE l = c := fun c h1 h2 => hV.trans (firstE_bad hkl h1 h2)
    have nxt : keyE l k = 0 → riseE l = firstE (keyE l) (k + 1) (l.length - (k + 1)) := fun h1 => hV.trans (firstE_ok hkl h1)
    by_cases g1 : isKey x = false
    · rw [g1] at hkey
      repeat' (first | refine goH ?_ | refine goV ?_ | refine goG ?_ | (refine Ops.k_guard ?_; first | (refine Ops.guard_dec rfl rfl (fun hc => ?_) (fun hc => ?_) <;> try (exfalso; omega)) | refine Ops.guard_split rfl rfl (fun hc => ?_) (fun hc => ?_)) | refine goI ?_ | (refine Cw.k_cond ?_; first | (refine Cw.cond_dec rfl (fun hc => ?_) (fun hc => ?_) <;> try (exfalso; omega)) | refine Cw.cond_bool rfl (fun hc => ?_) (fun hc => ?_)) | (refine Ops.k_calla ?_; first | (refine Ops.k_callf 67 ?_; refine Ops.callV hkey (Evs.cons rfl Evs.nil) rfl ?_)) | fail)
      exact Fin.ret (Ent.take goTk) (Outs.one rfl rfl) ⟨rfl, congrArg Tr.int (fin 5 (by simp [keyE, hx, g1]) (by decide)).symm⟩
    replace g1 : isKey x = true := by simpa using g1
    rw [g1] at hkey
    cases k with
    | zero =>
      repeat' (first | refine goH ?_ | refine goV ?_ | refine goG ?_ | (refine Ops.k_guard ?_; first | (refine Ops.guard_dec rfl rfl (fun hc => ?_) (fun hc => ?_) <;> try (exfalso; omega)) | refine Ops.guard_split rfl rfl (fun hc => ?_) (fun hc => ?_)) | refine goI ?_ | (refine Cw.k_cond ?_; first | (refine Cw.cond_dec rfl (fun hc => ?_) (fun hc => ?_) <;> try (exfalso; omega)) | refine Cw.cond_bool rfl (fun hc => ?_) (fun hc => ?_)) | (refine Ops.k_calla ?_; first | (refine Ops.k_callf 67 ?_; refine Ops.callV hkey (Evs.cons rfl Evs.nil) rfl ?_)) | fail)
      exact ⟨_, _, _, (Ent.mk goSub goTk), ⟨_, rfl, ⟨by omega, nxt (by simp [keyE, hx, prevB, g1])⟩, rfl, rfl⟩, by omega⟩
    | succ j =>
      obtain ⟨y, hy⟩ := at_lt (l := l) (k := j) (by omega)
      have hrow2 : (strRows l)[(((j + 1 : Nat) : Int) - 1).toNat]? = some [.str y] := by rw [show (((j + 1 : Nat) : Int) - 1).toNat = j by omega]; exact strRows_at hy
      have hp : prevB (fun x y => strLe x y) l (j + 1) x = (strLt x y || decide (x = y)) := by simp [prevB, hy, strLe]
      cases g2 : (strLt x y || decide (x = y))
      · rw [g2] at hp
        repeat' (first | refine goH ?_ | refine goV ?_ | refine goG ?_ | (refine Ops.k_guard ?_; first | (refine Ops.guard_dec rfl rfl (fun hc => ?_) (fun hc => ?_) <;> try (exfalso; omega)) | refine Ops.guard_split rfl rfl (fun hc => ?_) (fun hc => ?_)) | refine goI ?_ | (refine Cw.k_cond ?_; first | (refine Cw.cond_dec rfl (fun hc => ?_) (fun hc => ?_) <;> try (exfalso; omega)) | refine Cw.cond_bool rfl (fun hc => ?_) (fun hc => ?_)) | (refine Ops.k_calla ?_; first | (refine Ops.k_callf 67 ?_; refine Ops.callV hkey (Evs.cons rfl Evs.nil) rfl ?_)) | fail)
        all_goals first | (exfalso; simp_all; done) | exact ⟨_, _, _, (Ent.mk goSub goTk), ⟨_, rfl, ⟨by omega, nxt (by simp [keyE, hx, g1, hp])⟩, rfl, rfl⟩, by omega⟩
      · rw [g2] at hp
        repeat' (first | refine goH ?_ | refine goV ?_ | refine goG ?_ | (refine Ops.k_guard ?_; first | (refine Ops.guard_dec rfl rfl (fun hc => ?_) (fun hc => ?_) <;> try (exfalso; omega)) | refine Ops.guard_split rfl rfl (fun hc => ?_) (fun hc => ?_)) | refine goI ?_ | (refine Cw.k_cond ?_; first | (refine Cw.cond_dec rfl (fun hc => ?_) (fun hc => ?_) <;> try (exfalso; omega)) | refine Cw.cond_bool rfl (fun hc => ?_) (fun hc => ?_)) | (refine Ops.k_calla ?_; first | (refine Ops.k_callf 67 ?_; refine Ops.callV hkey (Evs.cons rfl Evs.nil) rfl ?_)) | fail)
        all_goals first | (exfalso; simp_all; done) | exact Fin.ret (Ent.take goTk) (Outs.one rfl rfl) ⟨rfl, congrArg Tr.int (fin 7 (by simp [keyE, hx, g1, hp]) (by decide)).symm⟩
  · repeat' (first | refine goH ?_ | refine goV ?_ | refine goG ?_ | (refine Ops.k_guard ?_; first | (refine Ops.guard_dec rfl rfl (fun hc => ?_) (fun hc => ?_) <;> try (exfalso; omega)) | refine Ops.guard_split rfl rfl (fun hc => ?_) (fun hc => ?_)) | refine goI ?_ | (refine Cw.k_cond ?_; first | (refine Cw.cond_dec rfl (fun hc => ?_) (fun hc => ?_) <;> try (exfalso; omega)) | refine Cw.cond_bool rfl (fun hc => ?_) (fun hc => ?_)) | fail)
    refine Fin.ret (Ent.take goTk) (Outs.one rfl rfl) ⟨rfl, congrArg Tr.int ?_⟩
    rw [hV, firstE_end hkl]
theorem riseLoop (l : List ByteArray) (hl : l.length ≤ 1000000) (h10 : 7 = 15 → 0 < l.length ∧ l.length ≤ 12) : PFn Tryz.prog 56 [.strs l] (· = .int (riseE l)) := by
  refine PFn.mk (Spec.body Tryz.func56 rfl rfl (Tryz.ntmps56) rfl fun w0 own0 M => ?_)
  have hL := strRows_len l
  have hV0 : riseE l = firstE (keyE l) 0 (l.length - 0) := rfl
  try have h11 := h10 rfl
  repeat' (first | refine goH ?_ | refine goV ?_ | refine goG ?_ | (refine Ops.k_guard ?_; first | (refine Ops.guard_dec rfl rfl (fun hc => ?_) (fun hc => ?_) <;> try (exfalso; omega)) | refine Ops.guard_split rfl rfl (fun hc => ?_) (fun hc => ?_)) | refine goI ?_ | (refine Cw.k_cond ?_; first | (refine Cw.cond_dec rfl (fun hc => ?_) (fun hc => ?_) <;> try (exfalso; omega)) | refine Cw.cond_bool rfl (fun hc => ?_) (fun hc => ?_)) | fail)
  refine Cw.loopI [(0, _), (5, _), (6, _)] _ (fun n e c => ∃ k : Nat, n = l.length - k ∧ (k ≤ l.length ∧ riseE l = firstE (keyE l) k (l.length - k)) ∧ e = [(7, .int k)] ∧ c = []) ⟨_, _, _, (Ent.mkP goSub goPm), 0, rfl, ⟨by omega, hV0⟩, rfl, rfl⟩ ?_
  rintro _ _ _ ⟨k, rfl, ⟨hk, hV⟩, rfl, rfl⟩
  by_cases hkl : k < l.length
  · obtain ⟨x, hx⟩ := at_lt hkl
    have hrow := strRows_at hx
    have hkey := keyOf_fn x
    have fin : ∀ c, keyE l k = c → c ≠ 0 → riseE l = c := fun c h1 h2 => hV.trans (firstE_bad hkl h1 h2)
    have nxt : keyE l k = 0 → riseE l = firstE (keyE l) (k + 1) (l.length - (k + 1)) := fun h1 => hV.trans (firstE_ok hkl h1)
    by_cases g1 : isKey x = false
    · rw [g1] at hkey
      repeat' (first | refine goH ?_ | refine goV ?_ | refine goG ?_ | (refine Ops.k_guard ?_; first | (refine Ops.guard_dec rfl rfl (fun hc => ?_) (fun hc => ?_) <;> try (exfalso; omega)) | refine Ops.guard_split rfl rfl (fun hc => ?_) (fun hc => ?_)) | refine goI ?_ | (refine Cw.k_cond ?_; first | (refine Cw.cond_dec rfl (fun hc => ?_) (fun hc => ?_) <;> try (exfalso; omega)) | refine Cw.cond_bool rfl (fun hc => ?_) (fun hc => ?_)) | (refine Ops.k_calla ?_; first | (refine Ops.k_callf 71 ?_; refine Ops.callV hkey (Evs.cons rfl Evs.nil) rfl ?_)) | fail)
      exact Fin.ret (Ent.take goTk) (Outs.one rfl rfl) ⟨rfl, congrArg Tr.int (fin 5 (by simp [keyE, hx, g1]) (by decide)).symm⟩
    replace g1 : isKey x = true := by simpa using g1
    rw [g1] at hkey
    cases k with
    | zero =>
      repeat' (first | refine goH ?_ | refine goV ?_ | refine goG ?_ | (refine Ops.k_guard ?_; first | (refine Ops.guard_dec rfl rfl (fun hc => ?_) (fun hc => ?_) <;> try (exfalso; omega)) | refine Ops.guard_split rfl rfl (fun hc => ?_) (fun hc => ?_)) | refine goI ?_ | (refine Cw.k_cond ?_; first | (refine Cw.cond_dec rfl (fun hc => ?_) (fun hc => ?_) <;> try (exfalso; omega)) | refine Cw.cond_bool rfl (fun hc => ?_) (fun hc => ?_)) | (refine Ops.k_calla ?_; first | (refine Ops.k_callf 71 ?_; refine Ops.callV hkey (Evs.cons rfl Evs.nil) rfl ?_)) | fail)
      exact ⟨_, _, _, (Ent.mk goSub goTk), ⟨_, rfl, ⟨by omega, nxt (by simp [keyE, hx, prevB, g1])⟩, rfl, rfl⟩, by omega⟩
    | succ j =>
      obtain ⟨y, hy⟩ := at_lt (l := l) (k := j) (by omega)
      have hrow2 : (strRows l)[(((j + 1 : Nat) : Int) - 1).toNat]? = some [.str y] := by rw [show (((j + 1 : Nat) : Int) - 1).toNat = j by omega]; exact strRows_at hy
      have hp : prevB (fun x y => strLe x y) l (j + 1) x = (strLt x y || decide (x = y)) := by simp [prevB, hy, strLe]
      cases g2 : (strLt x y || decide (x = y))
      · rw [g2] at hp
        repeat' (first | refine goH ?_ | refine goV ?_ | refine goG ?_ | (refine Ops.k_guard ?_; first | (refine Ops.guard_dec rfl rfl (fun hc => ?_) (fun hc => ?_) <;> try (exfalso; omega)) | refine Ops.guard_split rfl rfl (fun hc => ?_) (fun hc => ?_)) | refine goI ?_ | (refine Cw.k_cond ?_; first | (refine Cw.cond_dec rfl (fun hc => ?_) (fun hc => ?_) <;> try (exfalso; omega)) | refine Cw.cond_bool rfl (fun hc => ?_) (fun hc => ?_)) | (refine Ops.k_calla ?_; first | (refine Ops.k_callf 71 ?_; refine Ops.callV hkey (Evs.cons rfl Evs.nil) rfl ?_)) | fail)
        all_goals first | (exfalso; simp_all; done) | exact ⟨_, _, _, (Ent.mk goSub goTk), ⟨_, rfl, ⟨by omega, nxt (by simp [keyE, hx, g1, hp])⟩, rfl, rfl⟩, by omega⟩
      · rw [g2] at hp
        repeat' (first | refine goH ?_ | refine goV ?_ | refine goG ?_ | (refine Ops.k_guard ?_; first | (refine Ops.guard_dec rfl rfl (fun hc => ?_) (fun hc => ?_) <;> try (exfalso; omega)) | refine Ops.guard_split rfl rfl (fun hc => ?_) (fun hc => ?_)) | refine goI ?_ | (refine Cw.k_cond ?_; first | (refine Cw.cond_dec rfl (fun hc => ?_) (fun hc => ?_) <;> try (exfalso; omega)) | refine Cw.cond_bool rfl (fun hc => ?_) (fun hc => ?_)) | (refine Ops.k_calla ?_; first | (refine Ops.k_callf 71 ?_; refine Ops.callV hkey (Evs.cons rfl Evs.nil) rfl ?_)) | fail)
        all_goals first | (exfalso; simp_all; done) | exact Fin.ret (Ent.take goTk) (Outs.one rfl rfl) ⟨rfl, congrArg Tr.int (fin 7 (by simp [keyE, hx, g1, hp]) (by decide)).symm⟩
  · repeat' (first | refine goH ?_ | refine goV ?_ | refine goG ?_ | (refine Ops.k_guard ?_; first | (refine Ops.guard_dec rfl rfl (fun hc => ?_) (fun hc => ?_) <;> try (exfalso; omega)) | refine Ops.guard_split rfl rfl (fun hc => ?_) (fun hc => ?_)) | refine goI ?_ | (refine Cw.k_cond ?_; first | (refine Cw.cond_dec rfl (fun hc => ?_) (fun hc => ?_) <;> try (exfalso; omega)) | refine Cw.cond_bool rfl (fun hc => ?_) (fun hc => ?_)) | fail)
    refine Fin.ret (Ent.take goTk) (Outs.one rfl rfl) ⟨rfl, congrArg Tr.int ?_⟩
    rw [hV, firstE_end hkl]
theorem risingKeys_fn (l : List ByteArray) (hl : l.length ≤ 1000000) : PFn Tryz.prog 56 [.strs l] (· = .int (riseE l)) := riseLoop l hl (by omega)
theorem sitesFault_fn (l : List ByteArray) (hl : l.length ≤ 1000000) : PFn Tryz.prog 48 [.strs l] (· = .int (sitE l)) := by
  unfold sitE
  have hL := strRows_len l
  by_cases h1 : l.length = 0
  · rw [if_pos h1]
    refine PFn.mk (Spec.body Tryz.func48 rfl rfl (Tryz.ntmps48) rfl fun w0 own0 M => ?_)
    repeat' (first | refine goH ?_ | refine goV ?_ | refine goG ?_ | (refine Ops.k_guard ?_; first | (refine Ops.guard_dec rfl rfl (fun hc => ?_) (fun hc => ?_) <;> try (exfalso; omega)) | refine Ops.guard_split rfl rfl (fun hc => ?_) (fun hc => ?_)) | refine goI ?_ | (refine Cw.k_cond ?_; first | (refine Cw.cond_dec rfl (fun hc => ?_) (fun hc => ?_) <;> try (exfalso; omega)) | refine Cw.cond_bool rfl (fun hc => ?_) (fun hc => ?_)) | fail)
    exact Fin.ret (Ent.take goTk) (Outs.one rfl rfl) ⟨rfl, rfl⟩
  rw [if_neg h1]
  by_cases h2 : l.length > 12
  · rw [if_pos h2]
    refine PFn.mk (Spec.body Tryz.func48 rfl rfl (Tryz.ntmps48) rfl fun w0 own0 M => ?_)
    repeat' (first | refine goH ?_ | refine goV ?_ | refine goG ?_ | (refine Ops.k_guard ?_; first | (refine Ops.guard_dec rfl rfl (fun hc => ?_) (fun hc => ?_) <;> try (exfalso; omega)) | refine Ops.guard_split rfl rfl (fun hc => ?_) (fun hc => ?_)) | refine goI ?_ | (refine Cw.k_cond ?_; first | (refine Cw.cond_dec rfl (fun hc => ?_) (fun hc => ?_) <;> try (exfalso; omega)) | refine Cw.cond_bool rfl (fun hc => ?_) (fun hc => ?_)) | fail)
    exact Fin.ret (Ent.take goTk) (Outs.one rfl rfl) ⟨rfl, rfl⟩
  rw [if_neg h2]
  exact sitesLoop l hl (fun _ => by omega)
theorem kiosksFault_fn (l : List ByteArray) (hl : l.length ≤ 1000000) : PFn Tryz.prog 26 [.strs l] (· = .int (sitE l)) := by
  have hr := risingKeys_fn l hl
  have hL := strRows_len l
  refine PFn.mk (Spec.body Tryz.func26 rfl rfl (Tryz.ntmps26) rfl fun w0 own0 M => ?_)
  by_cases h1 : l.length = 0
  · repeat' (first | refine goH ?_ | refine goV ?_ | refine goI ?_ | (refine Cw.k_cond ?_; first | (refine Cw.cond_dec rfl (fun hc => ?_) (fun hc => ?_) <;> try (exfalso; omega)) | refine Cw.cond_bool rfl (fun hc => ?_) (fun hc => ?_)) | fail)
    exact Fin.ret (Ent.take goTk) (Outs.one rfl rfl) ⟨rfl, by unfold sitE; rw [if_pos h1]⟩
  by_cases h2 : l.length > 12
  · repeat' (first | refine goH ?_ | refine goV ?_ | refine goI ?_ | (refine Cw.k_cond ?_; first | (refine Cw.cond_dec rfl (fun hc => ?_) (fun hc => ?_) <;> try (exfalso; omega)) | refine Cw.cond_bool rfl (fun hc => ?_) (fun hc => ?_)) | fail)
    exact Fin.ret (Ent.take goTk) (Outs.one rfl rfl) ⟨rfl, by unfold sitE; rw [if_neg h1, if_pos h2]⟩
  repeat' (first | refine goH ?_ | refine goV ?_ | refine goI ?_ | (refine Cw.k_cond ?_; first | (refine Cw.cond_dec rfl (fun hc => ?_) (fun hc => ?_) <;> try (exfalso; omega)) | refine Cw.cond_bool rfl (fun hc => ?_) (fun hc => ?_)) | (refine Ops.k_calla ?_; first | (refine Ops.k_callf 56 ?_; refine Ops.callV hr (Evs.cons rfl Evs.nil) rfl ?_)) | fail)
  exact Fin.ret (Ent.take goTk) (Outs.one rfl rfl) ⟨rfl, by unfold sitE; rw [if_neg h1, if_neg h2]⟩
end Lg
end
section
set_option linter.all false
set_option maxRecDepth 100000
set_option maxHeartbeats 8000000
namespace Lg
open Go Go.Proofs

def badForm (w : Wal) : Bool := decide (w.rights.length ≠ w.sites.length) || (decide (w.used.length ≠ w.sites.length) || w.rights.any (formB w.sites.length))
def walE (w : Wal) : Int := if sitE w.sites ≠ 0 then sitE w.sites else if badForm w = true then 3 else if (w.rights.flatten ++ w.used).any bC = true then 1 else firstE (rgtE w) 0 w.sites.length
theorem walE_len {w : Wal} (h : sitE w.sites = 0) : w.sites.length ≤ 12 := by
  unfold sitE at h
  split at h
  · omega
  · split at h
    · omega
    · omega
theorem wok_of {w : Wal} (h1 : sitE w.sites = 0) (h2 : badForm w = false) (h3 : (w.rights.flatten ++ w.used).any bC = false) : WOk w := by
  unfold badForm at h2
  simp only [Bool.or_eq_false_iff, decide_eq_false_iff_not] at h2
  obtain ⟨a1, a2, a3⟩ := h2
  have hb := bC_ok h3
  refine ⟨walE_len h1, by omega, by omega, formB_ok a3, fun x hx => hb x (List.mem_append_right _ hx), fun l hl x hx => hb x (List.mem_append_left _ (List.mem_flatten.2 ⟨l, hl, hx⟩))⟩
theorem wok_E {w : Wal} (h : walE w = 0) : WOk w := by
  unfold walE at h
  by_cases h1 : sitE w.sites ≠ 0
  · rw [if_pos h1] at h; exact absurd h h1
  rw [if_neg h1] at h
  cases h2 : badForm w
  · rw [h2, if_neg (by decide)] at h
    cases h3 : (w.rights.flatten ++ w.used).any bC
    · exact wok_of (by omega) h2 h3
    · rw [h3, if_pos rfl] at h; cases h
  · rw [h2, if_pos rfl] at h; cases h
theorem rightsD_fn (w : Wal) (h : WOk w) (i : Nat) (hi : i < w.sites.length) : PFn Tryz.prog 53 [.wal w, .int i] (· = .int (rgt w i)) := by
  have hS := strRows_len w.sites
  have hR := intsR_len w.rights
  have hU := intRows_len w.used
  have n1 := h.n1
  have nr := h.r
  have nu := h.u
  obtain ⟨li, x, e1, e2, e3, b1, b2⟩ := h.at2 hi hi
  obtain ⟨y, u1, u2, b3, b4⟩ := h.us hi
  have r1 := intsR_at e1
  have r2 := intRows_at e2
  have r3 := intRows_at u1
  have hli := h.rr li (List.mem_of_getElem? e1)
  have hlr := intRows_len li
  have g0 : rgtN w.rights w.used i 0 = x - y := by unfold rgtN; rw [e3, u2]
  refine PFn.mk (Spec.body Tryz.func53 rfl rfl (Tryz.ntmps53) rfl fun w0 own0 M => ?_)
  repeat' (first | refine goH ?_ | refine goV ?_ | refine goB (fun b => ?_) | refine goI ?_ | (refine Cw.k_cond ?_; first | (refine Cw.cond_dec rfl (fun hc => ?_) (fun hc => ?_) <;> try (exfalso; omega)) | refine Cw.cond_bool rfl (fun hc => ?_) (fun hc => ?_)) | refine goR ?_ | refine goP ?_ | apply PSeq.cons | apply PSeq.yes rfl rfl rfl | exact goW | fail)
  refine Cw.loopI [(1, _), (2, _), (23, _)] _ (fun q e cc => ∃ (j : Nat) (v : Int), q = w.sites.length - j ∧ (j ≤ w.sites.length ∧ v = rgtN w.rights w.used i j) ∧ e = [(5, .int v), (24, .int j)] ∧ cc = []) ⟨_, _, _, (Ent.mkP goSub goPm), 0, x - y, rfl, ⟨by omega, g0.symm⟩, rfl, rfl⟩ ?_
  rintro _ _ _ ⟨j, v, rfl, ⟨hj, hv⟩, rfl, rfl⟩
  by_cases hjl : j < w.sites.length
  rotate_left
  · repeat' (first | refine goH ?_ | refine goV ?_ | refine goB (fun b => ?_) | refine goI ?_ | (refine Cw.k_cond ?_; first | (refine Cw.cond_dec rfl (fun hc => ?_) (fun hc => ?_) <;> try (exfalso; omega)) | refine Cw.cond_bool rfl (fun hc => ?_) (fun hc => ?_)) | refine goR ?_ | refine goP ?_ | apply PSeq.cons | apply PSeq.yes rfl rfl rfl | exact goW | fail)
    refine Fin.ret (Ent.take goTk) (Outs.one rfl rfl) ⟨rfl, congrArg Tr.int ?_⟩
    rw [hv, show j = w.sites.length by omega]
    rfl
  have bd := rgtN_bd h hi j hj
  rw [← hv] at bd
  by_cases hji : j = i
  · have nx : v = rgtN w.rights w.used i (j + 1) := by rw [hv]; rw [rgtN]; rw [if_pos hji]
    repeat' (first | refine goH ?_ | refine goV ?_ | refine goB (fun b => ?_) | refine goI ?_ | (refine Cw.k_cond ?_; first | (refine Cw.cond_dec rfl (fun hc => ?_) (fun hc => ?_) <;> try (exfalso; omega)) | refine Cw.cond_bool rfl (fun hc => ?_) (fun hc => ?_)) | refine goR ?_ | refine goP ?_ | apply PSeq.cons | apply PSeq.yes rfl rfl rfl | exact goW | fail)
    exact ⟨_, _, _, (Ent.mk goSub goTk), ⟨j + 1, v, rfl, ⟨by omega, nx⟩, rfl, rfl⟩, by omega⟩
  · obtain ⟨lj, p, f1, f2, f3, c1, c2⟩ := h.at2 hjl hi
    obtain ⟨li', q, f4, f5, f6, c3, c4⟩ := h.at2 hi hjl
    rw [e1] at f4
    cases f4
    have r4 := intsR_at f1
    have r5 := intRows_at f2
    have r6 := intRows_at f5
    have hlj := h.rr lj (List.mem_of_getElem? f1)
    have hljr := intRows_len lj
    have nx : v + (p - q) = rgtN w.rights w.used i (j + 1) := by rw [hv]; conv => rhs; rw [rgtN]
                                                                 rw [if_neg hji, f3, f6]
    repeat' (first | refine goH ?_ | refine goV ?_ | refine goB (fun b => ?_) | refine goI ?_ | (refine Cw.k_cond ?_; first | (refine Cw.cond_dec rfl (fun hc => ?_) (fun hc => ?_) <;> try (exfalso; omega)) | refine Cw.cond_bool rfl (fun hc => ?_) (fun hc => ?_)) | refine goR ?_ | refine goP ?_ | apply PSeq.cons | apply PSeq.yes rfl rfl rfl | exact goW | fail)
    exact ⟨_, _, _, (Ent.mk goSub goTk), ⟨j + 1, _, rfl, ⟨by omega, nx⟩, rfl, rfl⟩, by omega⟩
theorem rightsR_fn (w : Wal) (h : WOk w) (i : Nat) (hi : i < w.sites.length) : PFn Tryz.prog 30 [.wal w, .int i] (· = .int (rgt w i)) := by
  have hS := strRows_len w.sites
  have hR := intsR_len w.rights
  have hU := intRows_len w.used
  have n1 := h.n1
  have nr := h.r
  have nu := h.u
  obtain ⟨li, x, e1, e2, e3, b1, b2⟩ := h.at2 hi hi
  obtain ⟨y, u1, u2, b3, b4⟩ := h.us hi
  have r1 := intsR_at e1
  have r2 := intRows_at e2
  have r3 := intRows_at u1
  have hli := h.rr li (List.mem_of_getElem? e1)
  have hlr := intRows_len li
  have g0 : rgtN w.rights w.used i 0 = x - y := by unfold rgtN; rw [e3, u2]
  refine PFn.mk (Spec.body Tryz.func30 rfl rfl (Tryz.ntmps30) rfl fun w0 own0 M => ?_)
  repeat' (first | refine goH ?_ | refine goV ?_ | refine goB (fun b => ?_) | refine goI ?_ | (refine Cw.k_cond ?_; first | (refine Cw.cond_dec rfl (fun hc => ?_) (fun hc => ?_) <;> try (exfalso; omega)) | refine Cw.cond_bool rfl (fun hc => ?_) (fun hc => ?_)) | refine goR ?_ | refine goP ?_ | apply PSeq.cons | apply PSeq.yes rfl rfl rfl | exact goW | fail)
  refine Cw.loopI [(1, _), (2, _), (23, _)] _ (fun q e cc => ∃ (j : Nat) (v : Int), q = w.sites.length - j ∧ (j ≤ w.sites.length ∧ v = rgtN w.rights w.used i j) ∧ e = [(5, .int v), (24, .int j)] ∧ cc = []) ⟨_, _, _, (Ent.mkP goSub goPm), 0, x - y, rfl, ⟨by omega, g0.symm⟩, rfl, rfl⟩ ?_
  rintro _ _ _ ⟨j, v, rfl, ⟨hj, hv⟩, rfl, rfl⟩
  by_cases hjl : j < w.sites.length
  rotate_left
  · repeat' (first | refine goH ?_ | refine goV ?_ | refine goB (fun b => ?_) | refine goI ?_ | (refine Cw.k_cond ?_; first | (refine Cw.cond_dec rfl (fun hc => ?_) (fun hc => ?_) <;> try (exfalso; omega)) | refine Cw.cond_bool rfl (fun hc => ?_) (fun hc => ?_)) | refine goR ?_ | refine goP ?_ | apply PSeq.cons | apply PSeq.yes rfl rfl rfl | exact goW | fail)
    refine Fin.ret (Ent.take goTk) (Outs.one rfl rfl) ⟨rfl, congrArg Tr.int ?_⟩
    rw [hv, show j = w.sites.length by omega]
    rfl
  have bd := rgtN_bd h hi j hj
  rw [← hv] at bd
  by_cases hji : j = i
  · have nx : v = rgtN w.rights w.used i (j + 1) := by rw [hv]; rw [rgtN]; rw [if_pos hji]
    repeat' (first | refine goH ?_ | refine goV ?_ | refine goB (fun b => ?_) | refine goI ?_ | (refine Cw.k_cond ?_; first | (refine Cw.cond_dec rfl (fun hc => ?_) (fun hc => ?_) <;> try (exfalso; omega)) | refine Cw.cond_bool rfl (fun hc => ?_) (fun hc => ?_)) | refine goR ?_ | refine goP ?_ | apply PSeq.cons | apply PSeq.yes rfl rfl rfl | exact goW | fail)
    exact ⟨_, _, _, (Ent.mk goSub goTk), ⟨j + 1, v, rfl, ⟨by omega, nx⟩, rfl, rfl⟩, by omega⟩
  · obtain ⟨lj, p, f1, f2, f3, c1, c2⟩ := h.at2 hjl hi
    obtain ⟨li', q, f4, f5, f6, c3, c4⟩ := h.at2 hi hjl
    rw [e1] at f4
    cases f4
    have r4 := intsR_at f1
    have r5 := intRows_at f2
    have r6 := intRows_at f5
    have hlj := h.rr lj (List.mem_of_getElem? f1)
    have hljr := intRows_len lj
    have nx : v + (p - q) = rgtN w.rights w.used i (j + 1) := by rw [hv]; conv => rhs; rw [rgtN]
                                                                 rw [if_neg hji, f3, f6]
    repeat' (first | refine goH ?_ | refine goV ?_ | refine goB (fun b => ?_) | refine goI ?_ | (refine Cw.k_cond ?_; first | (refine Cw.cond_dec rfl (fun hc => ?_) (fun hc => ?_) <;> try (exfalso; omega)) | refine Cw.cond_bool rfl (fun hc => ?_) (fun hc => ?_)) | refine goR ?_ | refine goP ?_ | apply PSeq.cons | apply PSeq.yes rfl rfl rfl | exact goW | fail)
    exact ⟨_, _, _, (Ent.mk goSub goTk), ⟨j + 1, _, rfl, ⟨by omega, nx⟩, rfl, rfl⟩, by omega⟩
end Lg
end
section
set_option linter.all false
set_option maxRecDepth 100000
set_option maxHeartbeats 8000000
namespace Lg
open Go Go.Proofs

theorem indexFunc_intL {l : List (List Int)} {p : (List Int) → Bool} {g : Nat} {caps : List Value} {cin : List Chunk} (hl : l.length ≤ 1000000000)
    (hs : ∀ x, x ∈ l → Spec Tryz.prog g ([Tr.ints x] ++ caps.map Tr.raw) cin (fun r cs => r = Tr.bool (p x) ∧ cs = cin)) :
    Spec Tryz.prog 57 [Tr.sl 1 (l.map (fun x => [Tr.ints x])), Tr.raw (.func (.func g) #[] caps.toArray)] cin (fun r cs => r = Tr.int (idxFrom p l 0) ∧ cs = cin) := by
  refine Spec.body Tryz.func57 rfl rfl (Tryz.ntmps57) rfl fun w0 own0 M => ?_
  have hL : (l.map (fun x => [Tr.ints x])).length = l.length := List.length_map _
  repeat' (first | refine goH ?_ | refine goV ?_ | refine goI ?_ | (refine Cw.k_cond ?_; first | (refine Cw.cond_dec rfl (fun hc => ?_) (fun hc => ?_) <;> try (exfalso; omega)) | refine Cw.cond_bool rfl (fun hc => ?_) (fun hc => ?_)) | fail)
  refine Cw.loop (ι := Nat) (fun k => k ≤ l.length ∧ idxFrom p l 0 = idxFrom p (l.drop k) k) (fun k => [(0, Tr.sl 1 (l.map (fun x => [Tr.ints x]))), (1, Tr.raw (.func (.func g) #[] caps.toArray)), (7, .int (l.map (fun x => [Tr.ints x])).length), (8, .int k)]) (fun _ => cin) (fun k => l.length - k) ⟨0, ⟨by omega, rfl⟩, Ent.sub goSub⟩ ?_
  rintro k ⟨hk, hgo⟩
  by_cases hkl : k < l.length
  · obtain ⟨x, hx⟩ : ∃ x, l[k]? = some x := ⟨_, List.getElem?_eq_getElem hkl⟩
    have hrow : (l.map (fun x => [Tr.ints x]))[k]? = some [Tr.ints x] := rows_at hx
    have hdrop := idxFrom_drop p hx
    rw [hdrop] at hgo
    have hsx := hs x (List.mem_of_getElem? hx)
    by_cases hp : p x = true
    · rw [if_pos hp] at hgo
      rw [hp] at hsx
      repeat' (first | refine goH ?_ | refine goV ?_ | refine goI ?_ | (refine Cw.k_cond ?_; first | (refine Cw.cond_dec rfl (fun hc => ?_) (fun hc => ?_) <;> try (exfalso; omega)) | refine Cw.cond_bool rfl (fun hc => ?_) (fun hc => ?_)) | (refine Ops.k_calla ?_; first | (refine Ops.call_fn rfl hsx (Evs.cons rfl Evs.nil) (by rw [List.append_nil]) rfl ?_; rintro r cs' ⟨rfl, hcs⟩; rw [hcs, List.append_nil])) | fail)
      exact Fin.ret Ent.refl (Outs.one rfl rfl) ⟨by rw [hgo], rfl⟩
    · rw [if_neg hp] at hgo
      rw [Bool.not_eq_true] at hp
      rw [hp] at hsx
      repeat' (first | refine goH ?_ | refine goV ?_ | refine goI ?_ | (refine Cw.k_cond ?_; first | (refine Cw.cond_dec rfl (fun hc => ?_) (fun hc => ?_) <;> try (exfalso; omega)) | refine Cw.cond_bool rfl (fun hc => ?_) (fun hc => ?_)) | (refine Ops.k_calla ?_; first | (refine Ops.call_fn rfl hsx (Evs.cons rfl Evs.nil) (by rw [List.append_nil]) rfl ?_; rintro r cs' ⟨rfl, hcs⟩; rw [hcs, List.append_nil])) | fail)
      exact ⟨k + 1, ⟨by omega, hgo⟩, by omega, Ent.sub goSub⟩
  · rw [List.drop_eq_nil_of_le (by omega), idxFrom] at hgo
    repeat' (first | refine goH ?_ | refine goV ?_ | refine goI ?_ | (refine Cw.k_cond ?_; first | (refine Cw.cond_dec rfl (fun hc => ?_) (fun hc => ?_) <;> try (exfalso; omega)) | refine Cw.cond_bool rfl (fun hc => ?_) (fun hc => ?_)) | fail)
    exact Fin.ret Ent.refl (Outs.one rfl rfl) ⟨by rw [hgo], rfl⟩

theorem containsFunc_intL {l : List (List Int)} {p : (List Int) → Bool} {g : Nat} {caps : List Value} {cin : List Chunk} (hl : l.length ≤ 1000000000)
    (hs : ∀ x, x ∈ l → Spec Tryz.prog g ([Tr.ints x] ++ caps.map Tr.raw) cin (fun r cs => r = Tr.bool (p x) ∧ cs = cin)) :
    Spec Tryz.prog 27 [Tr.sl 1 (l.map (fun x => [Tr.ints x])), Tr.raw (.func (.func g) #[] caps.toArray)] cin (fun r cs => r = Tr.bool (l.any p) ∧ cs = cin) := by
  refine Spec.body Tryz.func27 rfl rfl (Tryz.ntmps27) rfl fun w0 own0 M => ?_
  repeat' (first | refine goH ?_ | refine goV ?_ | refine goI ?_ | (refine Cw.k_cond ?_; first | (refine Cw.cond_dec rfl (fun hc => ?_) (fun hc => ?_) <;> try (exfalso; omega)) | refine Cw.cond_bool rfl (fun hc => ?_) (fun hc => ?_)) | (refine Ops.k_calla ?_; first | (refine Ops.k_callf 57 ?_; (refine Ops.call (indexFunc_intL hl hs) (Evs.cons rfl (Evs.cons rfl Evs.nil)) (by rw [List.append_nil]) rfl ?_; rintro r cs' ⟨rfl, hcs⟩; rw [hcs, List.append_nil]))) | fail)
  refine Fin.ret Ent.refl (Outs.one rfl rfl) ⟨congrArg Tr.bool ?_, rfl⟩
  have := idxFrom_ge p l 0 (Int.le_refl _)
  by_cases h : 0 ≤ idxFrom p l 0
  · simp [h, this.1 h]
  · have h2 : l.any p = false := by rw [← Bool.not_eq_true]; exact fun e => h (this.2 e)
    simp [h, h2]

theorem formD_fn (n b : Nat) (x : List Int) : Spec Tryz.prog 49 ([.ints x] ++ [Value.pointer (some ⟨b, 0, none⟩)].map Tr.raw) [Chunk.box b 3 [.int n]] (fun r cs => r = .bool (formB n x) ∧ cs = [Chunk.box b 3 [.int n]]) := by
  refine Spec.body Tryz.func49 rfl rfl (Tryz.ntmps49) rfl fun w0 own0 M => ?_
  have hx := intRows_len x
  repeat' (first | refine goH ?_ | refine goV ?_ | refine goI ?_ | (refine Cw.k_cond ?_; first | (refine Cw.cond_dec rfl (fun hc => ?_) (fun hc => ?_) <;> try (exfalso; omega)) | refine Cw.cond_bool rfl (fun hc => ?_) (fun hc => ?_)) | fail)
  refine Fin.ret (Ent.take goTk) (Outs.one rfl rfl) ⟨congrArg Tr.bool ?_, rfl⟩
  unfold formB
  rw [Bool.eq_iff_iff, decide_eq_true_iff, decide_eq_true_iff, hx]
  omega
theorem formR_fn (n b : Nat) (x : List Int) : Spec Tryz.prog 28 ([.ints x] ++ [Value.pointer (some ⟨b, 0, none⟩)].map Tr.raw) [Chunk.box b 3 [.int n]] (fun r cs => r = .bool (formB n x) ∧ cs = [Chunk.box b 3 [.int n]]) := by
  refine Spec.body Tryz.func28 rfl rfl (Tryz.ntmps28) rfl fun w0 own0 M => ?_
  have hx := intRows_len x
  repeat' (first | refine goH ?_ | refine goV ?_ | refine goI ?_ | (refine Cw.k_cond ?_; first | (refine Cw.cond_dec rfl (fun hc => ?_) (fun hc => ?_) <;> try (exfalso; omega)) | refine Cw.cond_bool rfl (fun hc => ?_) (fun hc => ?_)) | fail)
  refine Fin.ret (Ent.take goTk) (Outs.one rfl rfl) ⟨congrArg Tr.bool ?_, rfl⟩
  unfold formB
  rw [Bool.eq_iff_iff, decide_eq_true_iff, decide_eq_true_iff, hx]
  omega
theorem bC_fn (x : Int) : PFn Tryz.prog 51 [.int x] (· = .bool (bC x)) := by
  refine PFn.mk (Spec.body Tryz.func51 rfl rfl (Tryz.ntmps51) rfl fun w0 own0 M => ?_)
  repeat' (first | refine goH ?_ | refine goV ?_ | refine goI ?_ | (refine Cw.k_cond ?_; first | (refine Cw.cond_dec rfl (fun hc => ?_) (fun hc => ?_) <;> try (exfalso; omega)) | refine Cw.cond_bool rfl (fun hc => ?_) (fun hc => ?_)) | (refine Ops.k_calla ?_; first | (refine Ops.k_callf 52 ?_; refine Ops.callV (out_fn x 0 1000000000) (Evs.cons rfl (Evs.cons rfl (Evs.cons rfl Evs.nil))) rfl ?_)) | fail)
  refine Fin.ret (Ent.take goTk) (Outs.one rfl rfl) ⟨rfl, congrArg Tr.bool ?_⟩
  unfold bC outB
  rfl
theorem walE_3 {w : Wal} (h0 : sitE w.sites = 0) (h : badForm w = true) : walE w = 3 := by
  unfold walE
  rw [if_neg (by omega), if_pos h]
theorem walE_1 {w : Wal} (h0 : sitE w.sites = 0) (h : badForm w = false) (h1 : (w.rights.flatten ++ w.used).any bC = true) : walE w = 1 := by
  unfold walE
  rw [if_neg (by omega), if_neg (by rw [h]; decide), if_pos h1]
theorem walE_0 {w : Wal} (h0 : sitE w.sites = 0) (h : badForm w = false) (h1 : (w.rights.flatten ++ w.used).any bC = false) : walE w = firstE (rgtE w) 0 w.sites.length := by
  unfold walE
  rw [if_neg (by omega), if_neg (by rw [h]; decide), if_neg (by rw [h1]; decide)]
theorem checkWallet_fn (w : Wal) (hb : WBd w) : PFn Tryz.prog 21 [.wal w] (· = .int (walE w)) := by
  have hS := strRows_len w.sites
  have hR := intsR_len w.rights
  have hU := intRows_len w.used
  have n1 := hb.n1
  have nr := hb.r
  have nu := hb.u
  have kS := sitesFault_fn w.sites (by omega)
  have k1 : ∀ (n b : Nat), Spec Tryz.prog 27 [.sl 1 (intsR w.rights), Tr.raw (.func (.func 49) #[] [Value.pointer (some ⟨b, 0, none⟩)].toArray)] [Chunk.box b 3 [.int n]] (fun r cs => r = .bool (w.rights.any (formB n)) ∧ cs = [Chunk.box b 3 [.int n]]) := fun n b => containsFunc_intL (p := formB n) (caps := [.pointer (some ⟨b, 0, none⟩)]) (cin := [Chunk.box b 3 [.int n]]) (l := w.rights) (by omega) (fun x _ => formD_fn n b x)
  refine PFn.mk (Spec.body Tryz.func21 rfl rfl (Tryz.ntmps21) rfl fun w0 own0 M => ?_)
  by_cases h1 : sitE w.sites ≠ 0
  · have e : walE w = sitE w.sites := by unfold walE; rw [if_pos h1]
    rw [e]
    generalize sitE w.sites = c at *
    repeat' (first | refine goH ?_ | refine goV ?_ | refine goB (fun b => ?_) | refine goG ?_ | (refine Ops.k_guard ?_; first | (refine Ops.guard_dec rfl rfl (fun hc => ?_) (fun hc => ?_) <;> try (exfalso; omega)) | refine Ops.guard_split rfl rfl (fun hc => ?_) (fun hc => ?_)) | refine goI ?_ | (refine Cw.k_cond ?_; first | (refine Cw.cond_dec rfl (fun hc => ?_) (fun hc => ?_) <;> try (exfalso; omega)) | refine Cw.cond_bool rfl (fun hc => ?_) (fun hc => ?_)) | (refine Ops.k_calla ?_; first | (refine Ops.k_callf 48 ?_; refine Ops.callV kS (Evs.cons rfl Evs.nil) rfl ?_)) | (apply OpW.k_call; first | (apply OpW.k_callf 48; exact OpW.callV kS (Evs.cons rfl Evs.nil))) | refine goR ?_ | refine goP ?_ | apply PSeq.cons | apply PSeq.yes rfl rfl rfl | exact goW | fail)
    exact Fin.ret (Ent.take goTk) (Outs.one rfl rfl) ⟨rfl, rfl⟩
  have h0 : sitE w.sites = 0 := by omega
  rw [h0] at kS
  repeat' (first | refine goH ?_ | refine goV ?_ | refine goB (fun b => ?_) | refine goG ?_ | (refine Ops.k_guard ?_; first | (refine Ops.guard_dec rfl rfl (fun hc => ?_) (fun hc => ?_) <;> try (exfalso; omega)) | refine Ops.guard_split rfl rfl (fun hc => ?_) (fun hc => ?_)) | refine goI ?_ | (refine Cw.k_cond ?_; first | (refine Cw.cond_dec rfl (fun hc => ?_) (fun hc => ?_) <;> try (exfalso; omega)) | refine Cw.cond_bool rfl (fun hc => ?_) (fun hc => ?_)) | (refine Ops.k_calla ?_; first | (refine Ops.k_callf 48 ?_; refine Ops.callV kS (Evs.cons rfl Evs.nil) rfl ?_) | (refine Ops.k_callf 27 ?_; (refine Ops.call (k1 _ _) (Evs.cons rfl (Evs.cons rfl Evs.nil)) goPm rfl ?_; rintro r cs' ⟨rfl, rfl⟩))) | (apply OpW.k_call; first | (apply OpW.k_callf 48; exact OpW.callV kS (Evs.cons rfl Evs.nil))) | fail)
  · exact Fin.ret (Ent.take goTk) (Outs.one rfl rfl) ⟨rfl, congrArg Tr.int (walE_3 h0 (by unfold badForm; simp; omega)).symm⟩
  · exact Fin.ret (Ent.take goTk) (Outs.one rfl rfl) ⟨rfl, congrArg Tr.int (walE_3 h0 (by unfold badForm; simp; omega)).symm⟩
  · rename_i hc1 hc2
    rw [hS] at hc
    exact Fin.ret (Ent.take goTk) (Outs.one rfl rfl) ⟨rfl, congrArg Tr.int (walE_3 h0 (by unfold badForm; rw [hc]; simp)).symm⟩
  rename_i hc1 hc2
  rw [hS] at hc
  have hbf : badForm w = false := by unfold badForm; rw [Bool.or_eq_false_iff, Bool.or_eq_false_iff]; exact ⟨by simp; omega, by simp; omega, by simpa using hc⟩
  have q1 : w.rights.flatten.length ≤ 10000 := flat_bd (n := 100) (m := 100) hb.rr (by omega)
  have hfl := intRows_len w.rights.flatten
  have k2 := (concat_fn w.rights (by omega) (by omega)).val
  have e3 : [w.rights.flatten, w.used].flatten = w.rights.flatten ++ w.used := by simp
  have k3 := (concat_fn [w.rights.flatten, w.used] (by simp) (by rw [e3, List.length_append]; omega)).val
  rw [e3] at k3
  have k4 : Spec Tryz.prog 50 [.ints (w.rights.flatten ++ w.used), Tr.raw (.func (.func 51) #[] #[])] [] (fun r cs => r = .bool ((w.rights.flatten ++ w.used).any bC) ∧ cs = []) := containsFunc_int (p := bC) (caps := []) (cin := []) (l := w.rights.flatten ++ w.used) (by rw [List.length_append]; omega) (fun x _ => (bC_fn x).lend)
  have hW3 := walE_1 h0 hbf
  have hW4 := walE_0 h0 hbf
  have hwo := wok_of h0 hbf
  by_cases g1 : (w.rights.flatten ++ w.used).any bC = true
  · have e := hW3 g1
    rw [g1] at k4
    clear hW4 hwo
    repeat' (first | refine goH ?_ | refine goV ?_ | refine goB (fun b => ?_) | refine goG ?_ | (refine Ops.k_guard ?_; first | (refine Ops.guard_dec rfl rfl (fun hc => ?_) (fun hc => ?_) <;> try (exfalso; omega)) | refine Ops.guard_split rfl rfl (fun hc => ?_) (fun hc => ?_)) | refine goI ?_ | (refine Cw.k_cond ?_; first | (refine Cw.cond_dec rfl (fun hc => ?_) (fun hc => ?_) <;> try (exfalso; omega)) | refine Cw.cond_bool rfl (fun hc => ?_) (fun hc => ?_)) | (refine Ops.k_calla ?_; first | (refine Ops.k_callf 29 ?_; refine Ops.callV k2 (Evs.cons rfl Evs.nil) rfl ?_) | (refine Ops.k_callf 29 ?_; refine Ops.callV k3 (Evs.cons rfl Evs.nil) rfl ?_) | (refine Ops.k_callf 50 ?_; refine Ops.callS k4 (Evs.cons rfl (Evs.cons rfl Evs.nil)) (List.Perm.refl _) rfl ?_)) | (apply OpW.k_call; first | (apply OpW.k_callf 29; exact OpW.callV k2 (Evs.cons rfl Evs.nil)) | (apply OpW.k_callf 29; exact OpW.callV k3 (Evs.cons rfl Evs.nil)) | (apply OpW.k_callf 50; exact OpW.callS k4 (Evs.cons rfl (Evs.cons rfl Evs.nil)) (List.Perm.refl _))) | refine goR ?_ | refine goP ?_ | apply PSeq.cons | apply PSeq.yes rfl rfl rfl | exact goW | fail)
    exact Fin.ret (Ent.take goTk) (Outs.one rfl rfl) ⟨rfl, congrArg Tr.int e.symm⟩
  have g0 : (w.rights.flatten ++ w.used).any bC = false := by simpa using g1
  have hV0 := hW4 g0
  have hw := hwo g0
  rw [g0] at k4
  clear hW4 hwo hW3 g1
  repeat' (first | refine goH ?_ | refine goV ?_ | refine goB (fun b => ?_) | refine goG ?_ | (refine Ops.k_guard ?_; first | (refine Ops.guard_dec rfl rfl (fun hc => ?_) (fun hc => ?_) <;> try (exfalso; omega)) | refine Ops.guard_split rfl rfl (fun hc => ?_) (fun hc => ?_)) | refine goI ?_ | (refine Cw.k_cond ?_; first | (refine Cw.cond_dec rfl (fun hc => ?_) (fun hc => ?_) <;> try (exfalso; omega)) | refine Cw.cond_bool rfl (fun hc => ?_) (fun hc => ?_)) | (refine Ops.k_calla ?_; first | (refine Ops.k_callf 29 ?_; refine Ops.callV k2 (Evs.cons rfl Evs.nil) rfl ?_) | (refine Ops.k_callf 29 ?_; refine Ops.callV k3 (Evs.cons rfl Evs.nil) rfl ?_) | (refine Ops.k_callf 50 ?_; refine Ops.callS k4 (Evs.cons rfl (Evs.cons rfl Evs.nil)) (List.Perm.refl _) rfl ?_)) | (apply OpW.k_call; first | (apply OpW.k_callf 29; exact OpW.callV k2 (Evs.cons rfl Evs.nil)) | (apply OpW.k_callf 29; exact OpW.callV k3 (Evs.cons rfl Evs.nil)) | (apply OpW.k_callf 50; exact OpW.callS k4 (Evs.cons rfl (Evs.cons rfl Evs.nil)) (List.Perm.refl _))) | refine goR ?_ | refine goP ?_ | apply PSeq.cons | apply PSeq.yes rfl rfl rfl | exact goW | fail)
  clear k1 k2 k3 k4 e3
  refine Cw.loopI [(1, _), (43, _)] _ (fun q e cc => ∃ (k : Nat), q = w.sites.length - k ∧ (k ≤ w.sites.length ∧ walE w = firstE (rgtE w) k (w.sites.length - k)) ∧ e = [(44, .int k)] ∧ cc = []) ⟨_, _, _, (Ent.mkP goSub goPm), 0, rfl, ⟨by omega, hV0⟩, rfl, rfl⟩ ?_
  clear hV0
  rintro _ _ _ ⟨k, rfl, ⟨hk, hV⟩, rfl, rfl⟩
  by_cases hkl : k < w.sites.length
  rotate_left
  · repeat' (first | refine goH ?_ | refine goV ?_ | refine goB (fun b => ?_) | refine goG ?_ | (refine Ops.k_guard ?_; first | (refine Ops.guard_dec rfl rfl (fun hc => ?_) (fun hc => ?_) <;> try (exfalso; omega)) | refine Ops.guard_split rfl rfl (fun hc => ?_) (fun hc => ?_)) | refine goI ?_ | (refine Cw.k_cond ?_; first | (refine Cw.cond_dec rfl (fun hc => ?_) (fun hc => ?_) <;> try (exfalso; omega)) | refine Cw.cond_bool rfl (fun hc => ?_) (fun hc => ?_)) | refine goR ?_ | refine goP ?_ | apply PSeq.cons | apply PSeq.yes rfl rfl rfl | exact goW | fail)
    refine Fin.ret (Ent.take goTk) (Outs.one rfl rfl) ⟨rfl, congrArg Tr.int ?_⟩
    rw [hV, firstE_end hkl]
  have kR := rightsD_fn w hw k hkl
  have fin : ∀ c, rgtE w k = c → c ≠ 0 → walE w = c := fun c h1 h2 => hV.trans (firstE_bad hkl h1 h2)
  have nxt : rgtE w k = 0 → walE w = firstE (rgtE w) (k + 1) (w.sites.length - (k + 1)) := fun h1 => hV.trans (firstE_ok hkl h1)
  have hE : rgtE w k = if rgt w k < 0 then 16 else 0 := rfl
  clear hV
  by_cases g : rgt w k < 0
  · rw [if_pos g] at hE
    have hF := fin 16 hE (by decide)
    clear fin nxt
    repeat' (first | refine goH ?_ | refine goV ?_ | refine goB (fun b => ?_) | refine goG ?_ | (refine Ops.k_guard ?_; first | (refine Ops.guard_dec rfl rfl (fun hc => ?_) (fun hc => ?_) <;> try (exfalso; omega)) | refine Ops.guard_split rfl rfl (fun hc => ?_) (fun hc => ?_)) | refine goI ?_ | (refine Cw.k_cond ?_; first | (refine Cw.cond_dec rfl (fun hc => ?_) (fun hc => ?_) <;> try (exfalso; omega)) | refine Cw.cond_bool rfl (fun hc => ?_) (fun hc => ?_)) | (refine Ops.k_calla ?_; first | (refine Ops.k_callf 53 ?_; refine Ops.callV kR (Evs.cons rfl (Evs.cons rfl Evs.nil)) rfl ?_)) | (apply OpW.k_call; first | (apply OpW.k_callf 53; exact OpW.callV kR (Evs.cons rfl (Evs.cons rfl Evs.nil)))) | refine goR ?_ | refine goP ?_ | apply PSeq.cons | apply PSeq.yes rfl rfl rfl | exact goW | fail)
    exact Fin.ret (Ent.take goTk) (Outs.one rfl rfl) ⟨rfl, congrArg Tr.int hF.symm⟩
  · rw [if_neg g] at hE
    have hN := nxt hE
    clear fin nxt
    repeat' (first | refine goH ?_ | refine goV ?_ | refine goB (fun b => ?_) | refine goG ?_ | (refine Ops.k_guard ?_; first | (refine Ops.guard_dec rfl rfl (fun hc => ?_) (fun hc => ?_) <;> try (exfalso; omega)) | refine Ops.guard_split rfl rfl (fun hc => ?_) (fun hc => ?_)) | refine goI ?_ | (refine Cw.k_cond ?_; first | (refine Cw.cond_dec rfl (fun hc => ?_) (fun hc => ?_) <;> try (exfalso; omega)) | refine Cw.cond_bool rfl (fun hc => ?_) (fun hc => ?_)) | (refine Ops.k_calla ?_; first | (refine Ops.k_callf 53 ?_; refine Ops.callV kR (Evs.cons rfl (Evs.cons rfl Evs.nil)) rfl ?_)) | (apply OpW.k_call; first | (apply OpW.k_callf 53; exact OpW.callV kR (Evs.cons rfl (Evs.cons rfl Evs.nil)))) | refine goR ?_ | refine goP ?_ | apply PSeq.cons | apply PSeq.yes rfl rfl rfl | exact goW | fail)
    exact ⟨_, _, _, (Ent.mk goSub goTk), ⟨k + 1, rfl, ⟨by omega, hN⟩, rfl, rfl⟩, by omega⟩
end Lg
end
