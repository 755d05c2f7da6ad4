/- A part of the proof of a law of this seat: it adds no condition. By an AI agent. -/
import Derived.Test.YtojdcihnfjjlaaaVm3
set_option linter.all false
set_option maxRecDepth 100000
set_option maxHeartbeats 1000000
namespace Lg
open Go Go.Proofs

/-! ### paying: which coins -/
def lastOk (p : Nat → Bool) : Nat → Nat
  | 0 => 0
  | m + 1 => if p (m + 1) = true then m + 1 else lastOk p m
theorem lastOk_le (p : Nat → Bool) : ∀ m, lastOk p m ≤ m
  | 0 => Nat.le_refl _
  | m + 1 => by
    unfold lastOk
    split
    · exact Nat.le_refl _
    · have := lastOk_le p m; omega
theorem lastOk_yes {p : Nat → Bool} {m : Nat} (h : p m = true) : lastOk p m = m := by
  cases m with
  | zero => rfl
  | succ m => rw [lastOk, if_pos h]
theorem lastOk_no {p : Nat → Bool} {m : Nat} (h : p (m + 1) = false) : lastOk p (m + 1) = lastOk p m := by rw [lastOk, if_neg (by rw [h]; simp)]
theorem lastOk_ok {p : Nat → Bool} : ∀ {m : Nat}, (∃ n, n ≤ m ∧ p n = true) → p (lastOk p m) = true
  | 0, ⟨n, h1, h2⟩ => by
    have : n = 0 := by omega
    subst this
    exact h2
  | m + 1, ⟨n, h1, h2⟩ => by
    cases hp : p (m + 1) with
    | true => rw [lastOk_yes hp, hp]
    | false =>
      rw [lastOk_no hp]
      refine lastOk_ok ⟨n, ?_, h2⟩
      by_cases e : n = m + 1
      · subst e; rw [hp] at h2; cases h2
      · omega
theorem lastOk_congr {p q : Nat → Bool} : ∀ {m : Nat}, (∀ n, n ≤ m → p n = q n) → lastOk p m = lastOk q m
  | 0, _ => rfl
  | m + 1, h => by
    unfold lastOk
    rw [h (m + 1) (Nat.le_refl _), lastOk_congr (m := m) fun n hn => h n (by omega)]

def tAt (l : List Tube) (k : Nat) : Tube := l.getD k ⟨0, 0, 0⟩
theorem tAt_eq {l : List Tube} {k : Nat} {d : Tube} (h : l[k]? = some d) : tAt l k = d := by simp [tAt, h]
def tv (l : List Tube) (k : Nat) : Nat := (tAt l k).val.toNat
def tc (l : List Tube) (k : Nat) : Nat := (tAt l k).cnt.toNat
def okB (N : Int) (l : List Tube) (k x n : Nat) : Bool := decide (payK N l k (x - n * tv l k) + n = payK N l (k + 1) x)
def mostOf (l : List Tube) (k x : Nat) : Nat := min (tc l k) (x / tv l k)
def pk (N : Int) (l : List Tube) (k x : Nat) : Nat := lastOk (okB N l k x) (mostOf l k x)
/-- what is left before the tube below i is used: tubes from i on are done -/
def leftD (f : Nat → Nat → Nat) (l : List Tube) (a : Nat) : Nat → Nat
  | 0 => a
  | d + 1 => leftD f l a d - f (l.length - 1 - d) (leftD f l a d) * tv l (l.length - 1 - d)
def leftK (f : Nat → Nat → Nat) (l : List Tube) (a i : Nat) : Nat := leftD f l a (l.length - i)
def chg (f : Nat → Nat → Nat) (l : List Tube) (a k : Nat) : Int := f k (leftK f l a (k + 1))
theorem leftK_top (f : Nat → Nat → Nat) (l : List Tube) (a : Nat) : leftK f l a l.length = a := by unfold leftK; rw [Nat.sub_self]; rfl
theorem leftK_step (f : Nat → Nat → Nat) (l : List Tube) (a k : Nat) (h : k < l.length) : leftK f l a k = leftK f l a (k + 1) - f k (leftK f l a (k + 1)) * tv l k := by
  unfold leftK
  rw [show l.length - k = (l.length - (k + 1)) + 1 by omega, leftD, show l.length - 1 - (l.length - (k + 1)) = k by omega]
theorem leftD_le (f : Nat → Nat → Nat) (l : List Tube) (a : Nat) : ∀ d, leftD f l a d ≤ a
  | 0 => Nat.le_refl _
  | d + 1 => by
    have := leftD_le f l a d
    unfold leftD
    omega
theorem leftK_le (f : Nat → Nat → Nat) (l : List Tube) (a i : Nat) : leftK f l a i ≤ a := leftD_le f l a _

def nevR : Int := 1099511627776
theorem payK_relR {l : List Tube} (ho : TOk l) {k : Nat} (hk : k ≤ l.length) (a : Nat) : PRel nev nevR 10000 (payK nev l k a) (payK nevR l k a) := by
  have hl : ((vc l).take k).length = k := by simp; omega
  have hlen := ho.len
  have := pay_rel (N := nev) (M := nevR) (l := (vc l).take k) (B := 0) (b := zeroPay nev) (d := zeroPay nevR) (fun t ht => by
    obtain ⟨d, hd, rfl⟩ := List.mem_map.1 (List.mem_of_mem_take ht)
    have := ho.cnt d hd
    simp only
    omega) zeroPay_rel (Int.le_refl _) (by rw [hl]; unfold nev; omega) (by rw [hl]; unfold nevR; omega) a
  rw [hl] at this
  unfold payK PRel at *
  omega
theorem zeroPayR_bd (a : Nat) : 0 ≤ zeroPay nevR a ∧ zeroPay nevR a ≤ nevR := by unfold zeroPay nevR; split <;> omega
theorem payKR_bd (l : List Tube) (k a : Nat) : 0 ≤ payK nevR l k a ∧ payK nevR l k a ≤ 1099511627776 :=
  ⟨pay_nn nevR (by unfold nevR; omega) _ _ (fun a => (zeroPayR_bd a).1) a, pay_le nevR _ _ (fun a => (zeroPayR_bd a).2) a⟩
theorem tube_at {l : List Tube} (ho : TOk l) {k : Nat} (hk : k < l.length) : l[k]? = some (tAt l k) ∧ 1 ≤ tv l k ∧ tv l k ≤ 10000 ∧ tc l k ≤ 1000 ∧ (tAt l k).val = tv l k ∧ (tAt l k).cnt = tc l k := by
  obtain ⟨d, hd⟩ : ∃ d, l[k]? = some d := ⟨_, List.getElem?_eq_getElem hk⟩
  have h1 := ho.val d (List.mem_of_getElem? hd)
  have h2 := ho.cnt d (List.mem_of_getElem? hd)
  unfold tv tc
  rw [tAt_eq hd]
  exact ⟨hd, by omega, by omega, by omega, by omega, by omega⟩
theorem payK_nextT {N : Int} {l : List Tube} (ho : TOk l) {k : Nat} (hk : k < l.length) : payK N l (k + 1) = fur N (payK N l k) (tv l k) (tc l k) := payK_next (tube_at ho hk).1

/-- for an amount that can be paid both tables choose the same coins, and there is a choice -/
theorem pk_same {l : List Tube} (ho : TOk l) {k x : Nat} (hk : k < l.length) (hx : payK nev l (k + 1) x < nev) :
    pk nev l k x = pk nevR l k x ∧ okB nev l k x (pk nev l k x) = true ∧ payK nev l k (x - pk nev l k x * tv l k) < nev := by
  have hsm := payK_small ho (k := k + 1) (by omega) x
  have hR1 := payK_relR ho (k := k + 1) (by omega) x
  have hex : ∃ n, n ≤ mostOf l k x ∧ okB nev l k x n = true := by
    obtain ⟨n, h1, h2⟩ := minTo_mem (f := fun n => (n : Int) + payK nev l k (x - n * tv l k)) (min (tc l k) (x / tv l k))
    refine ⟨n, h1, ?_⟩
    unfold okB
    rw [decide_eq_true_eq]
    rw [payK_nextT ho hk] at hx ⊢
    unfold fur at hx ⊢
    omega
  have hok := lastOk_ok hex
  refine ⟨lastOk_congr fun n hn => ?_, hok, ?_⟩
  · unfold okB
    have hR0 := payK_relR ho (k := k) (by omega) (x - n * tv l k)
    have hnc : n ≤ 1000 := by
      have := (tube_at ho hk).2.2.2.1
      unfold mostOf at hn
      omega
    unfold PRel nev nevR at *
    rw [Bool.eq_iff_iff, decide_eq_true_eq, decide_eq_true_eq]
    omega
  · have hok2 : payK nev l k (x - pk nev l k x * tv l k) + (pk nev l k x : Nat) = payK nev l (k + 1) x := of_decide_eq_true hok
    omega

theorem okB_same {l : List Tube} (ho : TOk l) {k x : Nat} (hk : k < l.length) (hx : payK nev l (k + 1) x < nev) {n : Nat} (hn : n ≤ mostOf l k x) : okB nev l k x n = okB nevR l k x n := by
  have hsm := payK_small ho (k := k + 1) (by omega) x
  have hR1 := payK_relR ho (k := k + 1) (by omega) x
  unfold okB
  have hR0 := payK_relR ho (k := k) (by omega) (x - n * tv l k)
  have hnc : n ≤ 1000 := by
    have := (tube_at ho hk).2.2.2.1
    unfold mostOf at hn
    omega
  unfold PRel nev nevR at *
  rw [Bool.eq_iff_iff, decide_eq_true_eq, decide_eq_true_eq]
  omega
theorem pk_okR {l : List Tube} (ho : TOk l) {k x : Nat} (hk : k < l.length) (hx : payK nev l (k + 1) x < nev) : okB nevR l k x (pk nevR l k x) = true := by
  obtain ⟨h1, h2, _⟩ := pk_same ho hk hx
  rw [← h1, ← okB_same ho hk hx (show pk nev l k x ≤ mostOf l k x from lastOk_le _ _)]
  exact h2

theorem leftK_can {l : List Tube} (ho : TOk l) {a : Nat} (ha : payK nev l l.length a < nev) (d : Nat) : d ≤ l.length → payK nev l (l.length - d) (leftK (pk nev l) l a (l.length - d)) < nev := by
  induction d with
  | zero => intro _; rw [Nat.sub_zero, leftK_top]; exact ha
  | succ d ih =>
    intro hd
    have ih := ih (by omega)
    have hs := leftK_step (pk nev l) l a (l.length - (d + 1)) (by omega)
    rw [show l.length - (d + 1) + 1 = l.length - d by omega] at hs
    have := (pk_same ho (k := l.length - (d + 1)) (x := leftK (pk nev l) l a (l.length - d)) (by omega) (by rw [show l.length - (d + 1) + 1 = l.length - d by omega]; exact ih)).2.2
    rw [hs]
    exact this
theorem leftK_can' {l : List Tube} (ho : TOk l) {a : Nat} (ha : payK nev l l.length a < nev) {i : Nat} (hi : i ≤ l.length) : payK nev l i (leftK (pk nev l) l a i) < nev := by
  have := leftK_can ho ha (l.length - i) (by omega)
  rwa [show l.length - (l.length - i) = i by omega] at this
theorem left_same {l : List Tube} (ho : TOk l) {a : Nat} (ha : payK nev l l.length a < nev) (d : Nat) : d ≤ l.length → leftD (pk nevR l) l a d = leftD (pk nev l) l a d := by
  induction d with
  | zero => intro _; unfold leftD; exact Eq.refl a
  | succ d ih =>
    intro hd
    have ih := ih (by omega)
    have hc := leftK_can ho ha d (by omega)
    have hs := pk_same ho (k := l.length - 1 - d) (x := leftK (pk nev l) l a (l.length - d)) (by omega) (by rw [show l.length - 1 - d + 1 = l.length - d by omega]; exact hc)
    unfold leftK at hs
    rw [show l.length - (l.length - d) = d by omega] at hs
    rw [leftD, leftD, ih, hs.1]
theorem chg_same {l : List Tube} (ho : TOk l) {a : Nat} (ha : payK nev l l.length a < nev) {k : Nat} (hk : k < l.length) : chg (pk nevR l) l a k = chg (pk nev l) l a k := by
  unfold chg leftK
  rw [left_same ho ha _ (by omega)]
  have := (pk_same ho hk (leftK_can' ho ha (i := k + 1) (by omega))).1
  unfold leftK at this
  rw [this]
end Lg
