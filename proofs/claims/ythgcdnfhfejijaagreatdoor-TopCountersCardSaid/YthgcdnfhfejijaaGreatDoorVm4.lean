/- A part of the proof of a law of this seat: it adds no condition. By an AI agent. -/
import Derived.Test.YthgcdnfhfejijaaGreatDoorVend1
section
set_option linter.all false
set_option maxRecDepth 100000
set_option maxHeartbeats 4000000
namespace Lg
open Go Go.Proofs

def vc (l : List Tube) : List (Nat × Nat) := l.map fun d => (d.val.toNat, d.cnt.toNat)
@[simp] theorem vc_len (l : List Tube) : (vc l).length = l.length := by simp [vc]
/-- the row of the table behind k tubes -/
def payK (N : Int) (l : List Tube) (k : Nat) : Nat → Int := pay N (zeroPay N) ((vc l).take k)
def tabRows (N : Int) (l : List Tube) (n k : Nat) : List (List Tr) := (List.range (k + 1)).map fun j => [Tr.ints (gl (payK N l j) n)]
@[simp] theorem tabRows_len (N : Int) (l : List Tube) (n k : Nat) : (tabRows N l n k).length = k + 1 := by simp [tabRows]
theorem tabRows_next (N : Int) (l : List Tube) (n k : Nat) : tabRows N l n (k + 1) = tabRows N l n k ++ [[Tr.ints (gl (payK N l (k + 1)) n)]] := by
 unfold tabRows
 rw [List.range_succ, List.map_append]
 rfl
theorem tabRows_get {N : Int} {l : List Tube} {n k j : Nat} (h : j ≤ k) : (tabRows N l n k)[j]? = some [Tr.ints (gl (payK N l j) n)] := by
 unfold tabRows
 rw [List.getElem?_map, List.getElem?_range (by omega)]
 rfl
theorem payK_next {N : Int} {l : List Tube} {k : Nat} {d : Tube} (h : l[k]? = some d) : payK N l (k + 1) = fur N (payK N l k) d.val.toNat d.cnt.toNat := by
 unfold payK
 have : (vc l)[k]? = some (d.val.toNat, d.cnt.toNat) := by unfold vc; rw [List.getElem?_map, h]; rfl
 rw [take_at this, pay_app]
theorem zeroPay_bd (a : Nat) : 0 ≤ zeroPay nev a ∧ zeroPay nev a ≤ nev := by unfold zeroPay nev; split <;> omega
theorem payK_bd (l : List Tube) (k a : Nat) : 0 ≤ payK nev l k a ∧ payK nev l k a ≤ 1073741824 :=
 ⟨pay_nn nev (by unfold nev; omega) _ _ (fun a => (zeroPay_bd a).1) a, pay_le nev _ _ (fun a => (zeroPay_bd a).2) a⟩

theorem payments_fn (l : List Tube) (ho : TbOk l) (most : Nat) (hm : most ≤ 20000) : PFn Tryz.prog 55 [.tubes l, .int most] (· = .sl 1 (tabRows nev l (most + 1) l.length)) := by
 refine PFn.mk (Spec.body Tryz.func55 rfl rfl (Tryz.ntmps55) rfl fun w0 own0 M => ?_)
 have hL : (l.map Tube.row).length = l.length := List.length_map _
 have hlen := ho.len
 repeat' (first | refine goH ?_ | refine goV ?_ | refine goB (fun b => ?_) | refine goC (fun ad cap => ?_) | refine goI ?_ | (refine Cw.k_cond ?_; first | (refine Cw.cond_dec rfl ?_ ?_ <;> intro hc <;> try omega) | refine Cw.cond_bool rfl ?_ ?_ <;> intro hc) | refine goR ?_ | refine goP ?_ | apply PSeq.cons | apply PSeq.yes rfl rfl rfl | exact goW | fail)
 rw [show ((most : Int) + 1).toNat = most + 1 by omega, glR_rep']
 refine Cw.loop (ι := Nat × List (List Tr)) (fun s => 1 ≤ s.1 ∧ s.1 ≤ most + 1 ∧ ∃ g, s.2 = intRows (gl g (most + 1)) ∧ ∀ a, a < s.1 → g a = zeroPay nev a)
  (fun s => [(0, .tubes l), (1, .int most), (5, Tr.raw (.slice ad (most + 1) cap)), (6, .int s.1)])
  (fun s => [Chunk.own ad cap 1 3 s.2]) (fun s => most + 1 - s.1) ⟨(1, intRows (gl (fun _ => 0) (most + 1))), ⟨by simp only; omega, by simp only; omega, (fun _ => 0), rfl, fun a h => by simp only at h; have : a = 0 := (by omega); subst this; rfl⟩, (Ent.mk goSub goTk)⟩ ?_
 rintro ⟨k, rows⟩ ⟨hk0, hk, g, hg, hdone⟩
 simp only at hk0 hk hg hdone ⊢
 have hrl : rows.length = most + 1 := by rw [hg]; simp
 by_cases hkl : k ≤ most
 ·have hrow : rows[((k : Nat) : Int).toNat]? = some [Tr.int (g k)] := by rw [hg]; exact glR_get (by omega)
  repeat' (first | refine goH ?_ | refine goV ?_ | refine goB (fun b => ?_) | refine goC (fun ad cap => ?_) | refine goI ?_ | (refine Cw.k_cond ?_; first | (refine Cw.cond_dec rfl ?_ ?_ <;> intro hc <;> try omega) | refine Cw.cond_bool rfl ?_ ?_ <;> intro hc) | refine goR ?_ | refine goP ?_ | apply PSeq.cons | apply PSeq.yes rfl rfl rfl | exact goW | fail)
  refine ⟨(k + 1, _), ?_, ?_, (Ent.mk goSub goTk)⟩
  ·refine ⟨by simp only; omega, by simp only; omega, (fun i => if i = k then nev else g i), ?_, ?_⟩
   ·simp only
    rw [hg]
    exact glR_set
   ·intro a ha
    simp only at ha ⊢
    by_cases e : a = k
    ·subst e
     rw [if_pos rfl]
     unfold zeroPay
     rw [if_neg (by omega)]
    ·rw [if_neg e]
     exact hdone a (by omega)
  ·simp only; omega
 have h0 : rows = intRows (gl (payK nev l 0) (most + 1)) := by
  rw [hg]
  refine congrArg intRows (gl_ext fun j hj => ?_)
  rw [hdone j (by omega)]
  rfl
 repeat' (first | refine goH ?_ | ((fail_if_success refine Ops.k_buildSlice ?_); refine goV ?_) | ((fail_if_success refine Ops.k_buildSlice ?_); refine goB (fun b => ?_)) | ((fail_if_success refine Ops.k_buildSlice ?_); refine goC (fun ad cap => ?_)) | refine goI ?_ | (refine Cw.k_cond ?_; first | (refine Cw.cond_dec rfl ?_ ?_ <;> intro hc <;> try omega) | refine Cw.cond_bool rfl ?_ ?_ <;> intro hc) | refine goR ?_ | refine goP ?_ | apply PSeq.cons | apply PSeq.yes rfl rfl rfl | exact goW | fail)
 refine Ops.ent (Ent.settle (s := 21) rfl goPk (by omega)) ?_
 rw [h0]
 refine Ops.buildSlice_own (by exact Parts.cons rfl rfl rfl (by exact Parts.nil)) rfl rfl rfl (fun ad cap => ?_)
 repeat' (first | refine goH ?_ | refine goV ?_ | refine goB (fun b => ?_) | refine goC (fun ad cap => ?_) | refine goI ?_ | (refine Cw.k_cond ?_; first | (refine Cw.cond_dec rfl ?_ ?_ <;> intro hc <;> try omega) | refine Cw.cond_bool rfl ?_ ?_ <;> intro hc) | refine goR ?_ | refine goP ?_ | apply PSeq.cons | apply PSeq.yes rfl rfl rfl | exact goW | fail)
 refine Cw.loop (ι := Nat × Option Addr × Nat × List (List Tr)) (fun s => s.1 ≤ l.length ∧ s.2.2.2 = tabRows nev l (most + 1) s.1)
  (fun s => [(23, .tubes l), (24, .int (l.map Tube.row).length), (25, .int s.1), (7, Tr.raw (.slice s.2.1 s.2.2.2.length s.2.2.1))])
  (fun s => [Chunk.own s.2.1 s.2.2.1 1 22 s.2.2.2]) (fun s => l.length - s.1) ⟨(0, _, _, _), ⟨by simp only; omega, ?_⟩, (Ent.mk goSub goTk)⟩ ?_
 ·rfl
 clear hk0 hk hg hdone hrl hkl h0
 rintro ⟨k, ad, cap, rows⟩ ⟨hk, hrows⟩
 simp only at hk hrows ⊢
 have hrl : rows.length = k + 1 := by rw [hrows]; simp
 by_cases hkl : k < l.length
 ·obtain ⟨d, hd⟩ := at_lt hkl
  have hv := ho.val d (List.mem_of_getElem? hd)
  have hc := ho.cnt d (List.mem_of_getElem? hd)
  have hrow : (l.map Tube.row)[k]? = some [Tr.int d.val, Tr.int d.cnt, Tr.int d.most] := rows_at hd
  have hlast : rows[((rows.length : Int) - 1).toNat]? = some [Tr.ints (gl (payK nev l k) (most + 1))] := by
   rw [hrl, show (((k + 1 : Nat) : Int) - 1).toNat = k by omega, hrows]
   exact tabRows_get (Nat.le_refl _)
  have hfur := further_fn (payK nev l k) (most + 1) d.val.toNat d.cnt.toNat d.most (by omega) (by omega) (by omega) (payK_bd l k)
  rw [← payK_next hd, show ((d.val.toNat : Nat) : Int) = d.val by omega, show ((d.cnt.toNat : Nat) : Int) = d.cnt by omega] at hfur
  repeat' (first | refine goH ?_ | refine goV ?_ | refine goB (fun b => ?_) | refine goC (fun ad cap => ?_) | refine goI ?_ | (refine Cw.k_cond ?_; first | (refine Cw.cond_dec rfl ?_ ?_ <;> intro hc <;> try omega) | refine Cw.cond_bool rfl ?_ ?_ <;> intro hc) | (refine Ops.k_calla ?_; first | (refine Ops.k_callf 85 ?_; refine Ops.callV hfur (Evs.cons rfl (Evs.cons rfl Evs.nil)) rfl ?_)) | (apply OpW.k_call; first | (apply OpW.k_callf 85; exact OpW.callV hfur (Evs.cons rfl (Evs.cons rfl Evs.nil)))) | refine goR ?_ | refine goP ?_ | apply PSeq.cons | apply PSeq.yes rfl rfl rfl | exact goW | fail)
  refine ⟨(k + 1, _, _, _), ?_, ?_, (Ent.mk goSub goTk)⟩
  ·refine ⟨by simp only; omega, ?_⟩
   simp only
   rw [tabRows_next, ← hrows]
   all_goals rfl
  ·simp only; omega
 ·have : k = l.length := by omega
  subst this
  repeat' (first | refine goH ?_ | refine goV ?_ | refine goB (fun b => ?_) | refine goC (fun ad cap => ?_) | refine goI ?_ | (refine Cw.k_cond ?_; first | (refine Cw.cond_dec rfl ?_ ?_ <;> intro hc <;> try omega) | refine Cw.cond_bool rfl ?_ ?_ <;> intro hc) | refine goR ?_ | refine goP ?_ | apply PSeq.cons | apply PSeq.yes rfl rfl rfl | exact goW | fail)
  refine Fin.ret (Ent.trans (Ent.settle (s := 4) rfl goPk rfl) (Ent.take goTk)) (Outs.one rfl rfl) ⟨rfl, ?_⟩
  rw [hrows]
end Lg
end
section
set_option linter.all false
set_option maxRecDepth 100000
set_option maxHeartbeats 1000000
namespace Lg
open Go Go.Proofs

/-! ### amounts that can be paid -/
theorem payK_small {l : List Tube} (ho : TbOk l) {k : Nat} (hk : k ≤ l.length) (a : Nat) : payK nev l k a = nev ∨ payK nev l k a ≤ 10000 := by
 have hl : ((vc l).take k).length = k := by simp; omega
 have hlen := ho.len
 have := pay_rel (N := nev) (M := nev) (l := (vc l).take k) (B := 0) (b := zeroPay nev) (d := zeroPay nev) (fun t ht => by
  obtain ⟨d, hd, rfl⟩ := List.mem_map.1 (List.mem_of_mem_take ht)
  have := ho.cnt d hd
  simp only
  omega) zeroPay_rel (Int.le_refl _) (by rw [hl]; unfold nev; omega) (by rw [hl]; unfold nev; omega) a
 have h2 := (payK_bd l k a).2
 unfold PRel at this
 rw [hl] at this
 unfold payK at h2 ⊢
 unfold nev at *
 omega
/-! ### the windows of amounts -/
structure Win where
 fr : Int
 to : Int
def Win.row (x : Win) : List Tr := [Tr.int x.fr, Tr.int x.to]

/-- rows of bools -/
def gb (g : Nat → Bool) (n : Nat) : List (List Tr) := (List.range n).map fun j => [Tr.bool (g j)]
@[simp] theorem gb_len (g : Nat → Bool) (n : Nat) : (gb g n).length = n := by simp [gb]
end Lg
end
section
set_option linter.all false
set_option maxRecDepth 100000
set_option maxHeartbeats 1000000
namespace Lg
open Go Go.Proofs

/-! ### paying: which coins -/
def lastOk (p : Nat → Bool) : Nat → Nat
 |0 => 0
 |m + 1 => if p (m + 1) = true then m + 1 else lastOk p m
theorem lastOk_le (p : Nat → Bool) : ∀ m, lastOk p m ≤ m
 |0 => Nat.le_refl _
 |m + 1 => by
  unfold lastOk
  split
  ·exact Nat.le_refl _
  ·have := lastOk_le p m; omega
theorem lastOk_yes {p : Nat → Bool} {m : Nat} (h : p m = true) : lastOk p m = m := by
 cases m with
 |zero => rfl
 |succ m => rw [lastOk, if_pos h]
theorem lastOk_no {p : Nat → Bool} {m : Nat} (h : p (m + 1) = false) : lastOk p (m + 1) = lastOk p m := by rw [lastOk, if_neg (by rw [h]; simp)]
theorem lastOk_ok {p : Nat → Bool} : ∀ {m : Nat}, (∃ n, n ≤ m ∧ p n = true) → p (lastOk p m) = true
 |0, ⟨n, h1, h2⟩ => by
  have : n = 0 := by omega
  subst this
  exact h2
 |m + 1, ⟨n, h1, h2⟩ => by
  cases hp : p (m + 1) with
  |true => rw [lastOk_yes hp, hp]
  |false =>
   rw [lastOk_no hp]
   refine lastOk_ok ⟨n, ?_, h2⟩
   by_cases e : n = m + 1
   ·subst e; rw [hp] at h2; cases h2
   ·omega
theorem lastOk_congr {p q : Nat → Bool} : ∀ {m : Nat}, (∀ n, n ≤ m → p n = q n) → lastOk p m = lastOk q m
 |0, _ => rfl
 |m + 1, h => by
  unfold lastOk
  rw [h (m + 1) (Nat.le_refl _), lastOk_congr (m := m) fun n hn => h n (by omega)]

def tAt (l : List Tube) (k : Nat) : Tube := l.getD k ⟨0, 0, 0⟩
theorem tAt_eq {l : List Tube} {k : Nat} {d : Tube} (h : l[k]? = some d) : tAt l k = d := by simp [tAt, h]
def tv (l : List Tube) (k : Nat) : Nat := (tAt l k).val.toNat
def tc (l : List Tube) (k : Nat) : Nat := (tAt l k).cnt.toNat
def okB (N : Int) (l : List Tube) (k x n : Nat) : Bool := decide (payK N l k (x - n * tv l k) + n = payK N l (k + 1) x)
def mostOf (l : List Tube) (k x : Nat) : Nat := min (tc l k) (x / tv l k)
def pk (N : Int) (l : List Tube) (k x : Nat) : Nat := lastOk (okB N l k x) (mostOf l k x)
/-- what is left before the tube below i is used: tubes from i on are done -/
def leftD (f : Nat → Nat → Nat) (l : List Tube) (a : Nat) : Nat → Nat
 |0 => a
 |d + 1 => leftD f l a d - f (l.length - 1 - d) (leftD f l a d) * tv l (l.length - 1 - d)
def leftK (f : Nat → Nat → Nat) (l : List Tube) (a i : Nat) : Nat := leftD f l a (l.length - i)
def chg (f : Nat → Nat → Nat) (l : List Tube) (a k : Nat) : Int := f k (leftK f l a (k + 1))
theorem leftK_top (f : Nat → Nat → Nat) (l : List Tube) (a : Nat) : leftK f l a l.length = a := by unfold leftK; rw [Nat.sub_self]; rfl
theorem leftK_step (f : Nat → Nat → Nat) (l : List Tube) (a k : Nat) (h : k < l.length) : leftK f l a k = leftK f l a (k + 1) - f k (leftK f l a (k + 1)) * tv l k := by
 unfold leftK
 rw [show l.length - k = (l.length - (k + 1)) + 1 by omega, leftD, show l.length - 1 - (l.length - (k + 1)) = k by omega]
theorem leftD_le (f : Nat → Nat → Nat) (l : List Tube) (a : Nat) : ∀ d, leftD f l a d ≤ a
 |0 => Nat.le_refl _
 |d + 1 => by
  have := leftD_le f l a d
  unfold leftD
  omega
theorem leftK_le (f : Nat → Nat → Nat) (l : List Tube) (a i : Nat) : leftK f l a i ≤ a := leftD_le f l a _

def nevR : Int := 1099511627776
theorem payK_relR {l : List Tube} (ho : TbOk l) {k : Nat} (hk : k ≤ l.length) (a : Nat) : PRel nev nevR 10000 (payK nev l k a) (payK nevR l k a) := by
 have hl : ((vc l).take k).length = k := by simp; omega
 have hlen := ho.len
 have := pay_rel (N := nev) (M := nevR) (l := (vc l).take k) (B := 0) (b := zeroPay nev) (d := zeroPay nevR) (fun t ht => by
  obtain ⟨d, hd, rfl⟩ := List.mem_map.1 (List.mem_of_mem_take ht)
  have := ho.cnt d hd
  simp only
  omega) zeroPay_rel (Int.le_refl _) (by rw [hl]; unfold nev; omega) (by rw [hl]; unfold nevR; omega) a
 rw [hl] at this
 unfold payK PRel at *
 omega
theorem tube_at {l : List Tube} (ho : TbOk l) {k : Nat} (hk : k < l.length) : l[k]? = some (tAt l k) ∧ 1 ≤ tv l k ∧ tv l k ≤ 10000 ∧ tc l k ≤ 1000 ∧ (tAt l k).val = tv l k ∧ (tAt l k).cnt = tc l k := by
 obtain ⟨d, hd⟩ : ∃ d, l[k]? = some d := ⟨_, List.getElem?_eq_getElem hk⟩
 have h1 := ho.val d (List.mem_of_getElem? hd)
 have h2 := ho.cnt d (List.mem_of_getElem? hd)
 unfold tv tc
 rw [tAt_eq hd]
 exact ⟨hd, by omega, by omega, by omega, by omega, by omega⟩
theorem payK_nextT {N : Int} {l : List Tube} (ho : TbOk l) {k : Nat} (hk : k < l.length) : payK N l (k + 1) = fur N (payK N l k) (tv l k) (tc l k) := payK_next (tube_at ho hk).1

/-- for an amount that can be paid both tables choose the same coins, and there is a choice -/
theorem pk_same {l : List Tube} (ho : TbOk l) {k x : Nat} (hk : k < l.length) (hx : payK nev l (k + 1) x < nev) :
  pk nev l k x = pk nevR l k x ∧ okB nev l k x (pk nev l k x) = true ∧ payK nev l k (x - pk nev l k x * tv l k) < nev := by
 have hsm := payK_small ho (k := k + 1) (by omega) x
 have hR1 := payK_relR ho (k := k + 1) (by omega) x
 have hex : ∃ n, n ≤ mostOf l k x ∧ okB nev l k x n = true := by
  obtain ⟨n, h1, h2⟩ := minTo_mem (f := fun n => (n : Int) + payK nev l k (x - n * tv l k)) (min (tc l k) (x / tv l k))
  refine ⟨n, h1, ?_⟩
  unfold okB
  rw [decide_eq_true_eq]
  rw [payK_nextT ho hk] at hx ⊢
  unfold fur at hx ⊢
  omega
 have hok := lastOk_ok hex
 refine ⟨lastOk_congr fun n hn => ?_, hok, ?_⟩
 ·unfold okB
  have hR0 := payK_relR ho (k := k) (by omega) (x - n * tv l k)
  have hnc : n ≤ 1000 := by
   have := (tube_at ho hk).2.2.2.1
   unfold mostOf at hn
   omega
  unfold PRel nev nevR at *
  rw [Bool.eq_iff_iff, decide_eq_true_eq, decide_eq_true_eq]
  omega
 ·have hok2 : payK nev l k (x - pk nev l k x * tv l k) + (pk nev l k x : Nat) = payK nev l (k + 1) x := of_decide_eq_true hok
  omega

theorem leftK_can {l : List Tube} (ho : TbOk l) {a : Nat} (ha : payK nev l l.length a < nev) (d : Nat) : d ≤ l.length → payK nev l (l.length - d) (leftK (pk nev l) l a (l.length - d)) < nev := by
 induction d with
 |zero => intro _; rw [Nat.sub_zero, leftK_top]; exact ha
 |succ d ih =>
  intro hd
  have ih := ih (by omega)
  have hs := leftK_step (pk nev l) l a (l.length - (d + 1)) (by omega)
  rw [show l.length - (d + 1) + 1 = l.length - d by omega] at hs
  have := (pk_same ho (k := l.length - (d + 1)) (x := leftK (pk nev l) l a (l.length - d)) (by omega) (by rw [show l.length - (d + 1) + 1 = l.length - d by omega]; exact ih)).2.2
  rw [hs]
  exact this
theorem leftK_can' {l : List Tube} (ho : TbOk l) {a : Nat} (ha : payK nev l l.length a < nev) {i : Nat} (hi : i ≤ l.length) : payK nev l i (leftK (pk nev l) l a i) < nev := by
 have := leftK_can ho ha (l.length - i) (by omega)
 rwa [show l.length - (l.length - i) = i by omega] at this
end Lg
end
