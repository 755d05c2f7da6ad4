/- A part of the proof of a law of this seat: it adds no condition. By an AI agent. -/
import Derived.Test.YtcojnmobcfpeeaaDoorVm3
section
set_option linter.all false
set_option maxRecDepth 100000
set_option maxHeartbeats 1000000
namespace Lg
open Go Go.Proofs

/-! ### paying: which coins -/
def lastOk (p : Nat → Bool) : Nat → Nat
 |0 => 0
 |m + 1 => if p (m + 1) = true then m + 1 else lastOk p m
theorem lastOk_le (p : Nat → Bool) : ∀ m, lastOk p m ≤ m
 |0 => Nat.le_refl _
 |m + 1 => by
  unfold lastOk
  split
  ·exact Nat.le_refl _
  ·have := lastOk_le p m; omega
theorem lastOk_yes {p : Nat → Bool} {m : Nat} (h : p m = true) : lastOk p m = m := by
 cases m with
 |zero => rfl
 |succ m => rw [lastOk, if_pos h]
theorem lastOk_no {p : Nat → Bool} {m : Nat} (h : p (m + 1) = false) : lastOk p (m + 1) = lastOk p m := by rw [lastOk, if_neg (by rw [h]; simp)]
theorem lastOk_ok {p : Nat → Bool} : ∀ {m : Nat}, (∃ n, n ≤ m ∧ p n = true) → p (lastOk p m) = true
 |0, ⟨n, h1, h2⟩ => by
  have : n = 0 := by omega
  subst this
  exact h2
 |m + 1, ⟨n, h1, h2⟩ => by
  cases hp : p (m + 1) with
  |true => rw [lastOk_yes hp, hp]
  |false =>
   rw [lastOk_no hp]
   refine lastOk_ok ⟨n, ?_, h2⟩
   by_cases e : n = m + 1
   ·subst e; rw [hp] at h2; cases h2
   ·omega
theorem lastOk_congr {p q : Nat → Bool} : ∀ {m : Nat}, (∀ n, n ≤ m → p n = q n) → lastOk p m = lastOk q m
 |0, _ => rfl
 |m + 1, h => by
  unfold lastOk
  rw [h (m + 1) (Nat.le_refl _), lastOk_congr (m := m) fun n hn => h n (by omega)]

def tAt (l : List Tube) (k : Nat) : Tube := l.getD k ⟨0, 0, 0⟩
theorem tAt_eq {l : List Tube} {k : Nat} {d : Tube} (h : l[k]? = some d) : tAt l k = d := by simp [tAt, h]
def tv (l : List Tube) (k : Nat) : Nat := (tAt l k).val.toNat
def tc (l : List Tube) (k : Nat) : Nat := (tAt l k).cnt.toNat
def okB (N : Int) (l : List Tube) (k x n : Nat) : Bool := decide (payK N l k (x - n * tv l k) + n = payK N l (k + 1) x)
def mostOf (l : List Tube) (k x : Nat) : Nat := min (tc l k) (x / tv l k)
def pk (N : Int) (l : List Tube) (k x : Nat) : Nat := lastOk (okB N l k x) (mostOf l k x)
/-- what is left before the tube below i is used: tubes from i on are done -/
def leftD (f : Nat → Nat → Nat) (l : List Tube) (a : Nat) : Nat → Nat
 |0 => a
 |d + 1 => leftD f l a d - f (l.length - 1 - d) (leftD f l a d) * tv l (l.length - 1 - d)
def leftK (f : Nat → Nat → Nat) (l : List Tube) (a i : Nat) : Nat := leftD f l a (l.length - i)
def chg (f : Nat → Nat → Nat) (l : List Tube) (a k : Nat) : Int := f k (leftK f l a (k + 1))
theorem leftK_top (f : Nat → Nat → Nat) (l : List Tube) (a : Nat) : leftK f l a l.length = a := by unfold leftK; rw [Nat.sub_self]; rfl
theorem leftK_step (f : Nat → Nat → Nat) (l : List Tube) (a k : Nat) (h : k < l.length) : leftK f l a k = leftK f l a (k + 1) - f k (leftK f l a (k + 1)) * tv l k := by
 unfold leftK
 rw [show l.length - k = (l.length - (k + 1)) + 1 by omega, leftD, show l.length - 1 - (l.length - (k + 1)) = k by omega]
theorem leftD_le (f : Nat → Nat → Nat) (l : List Tube) (a : Nat) : ∀ d, leftD f l a d ≤ a
 |0 => Nat.le_refl _
 |d + 1 => by
  have := leftD_le f l a d
  unfold leftD
  omega
theorem leftK_le (f : Nat → Nat → Nat) (l : List Tube) (a i : Nat) : leftK f l a i ≤ a := leftD_le f l a _

def nevR : Int := 1099511627776
theorem payK_relR {l : List Tube} (ho : TbOk l) {k : Nat} (hk : k ≤ l.length) (a : Nat) : PRel nev nevR 10000 (payK nev l k a) (payK nevR l k a) := by
 have hl : ((vc l).take k).length = k := by simp; omega
 have hlen := ho.len
 have := pay_rel (N := nev) (M := nevR) (l := (vc l).take k) (B := 0) (b := zeroPay nev) (d := zeroPay nevR) (fun t ht => by
  obtain ⟨d, hd, rfl⟩ := List.mem_map.1 (List.mem_of_mem_take ht)
  have := ho.cnt d hd
  simp only
  omega) zeroPay_rel (Int.le_refl _) (by rw [hl]; unfold nev; omega) (by rw [hl]; unfold nevR; omega) a
 rw [hl] at this
 unfold payK PRel at *
 omega
theorem zeroPayR_bd (a : Nat) : 0 ≤ zeroPay nevR a ∧ zeroPay nevR a ≤ nevR := by unfold zeroPay nevR; split <;> omega
theorem payKR_bd (l : List Tube) (k a : Nat) : 0 ≤ payK nevR l k a ∧ payK nevR l k a ≤ 1099511627776 :=
 ⟨pay_nn nevR (by unfold nevR; omega) _ _ (fun a => (zeroPayR_bd a).1) a, pay_le nevR _ _ (fun a => (zeroPayR_bd a).2) a⟩
theorem tube_at {l : List Tube} (ho : TbOk l) {k : Nat} (hk : k < l.length) : l[k]? = some (tAt l k) ∧ 1 ≤ tv l k ∧ tv l k ≤ 10000 ∧ tc l k ≤ 1000 ∧ (tAt l k).val = tv l k ∧ (tAt l k).cnt = tc l k := by
 obtain ⟨d, hd⟩ : ∃ d, l[k]? = some d := ⟨_, List.getElem?_eq_getElem hk⟩
 have h1 := ho.val d (List.mem_of_getElem? hd)
 have h2 := ho.cnt d (List.mem_of_getElem? hd)
 unfold tv tc
 rw [tAt_eq hd]
 exact ⟨hd, by omega, by omega, by omega, by omega, by omega⟩
theorem payK_nextT {N : Int} {l : List Tube} (ho : TbOk l) {k : Nat} (hk : k < l.length) : payK N l (k + 1) = fur N (payK N l k) (tv l k) (tc l k) := payK_next (tube_at ho hk).1

/-- for an amount that can be paid both tables choose the same coins, and there is a choice -/
theorem pk_same {l : List Tube} (ho : TbOk l) {k x : Nat} (hk : k < l.length) (hx : payK nev l (k + 1) x < nev) :
  pk nev l k x = pk nevR l k x ∧ okB nev l k x (pk nev l k x) = true ∧ payK nev l k (x - pk nev l k x * tv l k) < nev := by
 have hsm := payK_small ho (k := k + 1) (by omega) x
 have hR1 := payK_relR ho (k := k + 1) (by omega) x
 have hex : ∃ n, n ≤ mostOf l k x ∧ okB nev l k x n = true := by
  obtain ⟨n, h1, h2⟩ := minTo_mem (f := fun n => (n : Int) + payK nev l k (x - n * tv l k)) (min (tc l k) (x / tv l k))
  refine ⟨n, h1, ?_⟩
  unfold okB
  rw [decide_eq_true_eq]
  rw [payK_nextT ho hk] at hx ⊢
  unfold fur at hx ⊢
  omega
 have hok := lastOk_ok hex
 refine ⟨lastOk_congr fun n hn => ?_, hok, ?_⟩
 ·unfold okB
  have hR0 := payK_relR ho (k := k) (by omega) (x - n * tv l k)
  have hnc : n ≤ 1000 := by
   have := (tube_at ho hk).2.2.2.1
   unfold mostOf at hn
   omega
  unfold PRel nev nevR at *
  rw [Bool.eq_iff_iff, decide_eq_true_eq, decide_eq_true_eq]
  omega
 ·have hok2 : payK nev l k (x - pk nev l k x * tv l k) + (pk nev l k x : Nat) = payK nev l (k + 1) x := of_decide_eq_true hok
  omega

theorem okB_same {l : List Tube} (ho : TbOk l) {k x : Nat} (hk : k < l.length) (hx : payK nev l (k + 1) x < nev) {n : Nat} (hn : n ≤ mostOf l k x) : okB nev l k x n = okB nevR l k x n := by
 have hsm := payK_small ho (k := k + 1) (by omega) x
 have hR1 := payK_relR ho (k := k + 1) (by omega) x
 unfold okB
 have hR0 := payK_relR ho (k := k) (by omega) (x - n * tv l k)
 have hnc : n ≤ 1000 := by
  have := (tube_at ho hk).2.2.2.1
  unfold mostOf at hn
  omega
 unfold PRel nev nevR at *
 rw [Bool.eq_iff_iff, decide_eq_true_eq, decide_eq_true_eq]
 omega
theorem pk_okR {l : List Tube} (ho : TbOk l) {k x : Nat} (hk : k < l.length) (hx : payK nev l (k + 1) x < nev) : okB nevR l k x (pk nevR l k x) = true := by
 obtain ⟨h1, h2, _⟩ := pk_same ho hk hx
 rw [← h1, ← okB_same ho hk hx (show pk nev l k x ≤ mostOf l k x from lastOk_le _ _)]
 exact h2

theorem leftK_can {l : List Tube} (ho : TbOk l) {a : Nat} (ha : payK nev l l.length a < nev) (d : Nat) : d ≤ l.length → payK nev l (l.length - d) (leftK (pk nev l) l a (l.length - d)) < nev := by
 induction d with
 |zero => intro _; rw [Nat.sub_zero, leftK_top]; exact ha
 |succ d ih =>
  intro hd
  have ih := ih (by omega)
  have hs := leftK_step (pk nev l) l a (l.length - (d + 1)) (by omega)
  rw [show l.length - (d + 1) + 1 = l.length - d by omega] at hs
  have := (pk_same ho (k := l.length - (d + 1)) (x := leftK (pk nev l) l a (l.length - d)) (by omega) (by rw [show l.length - (d + 1) + 1 = l.length - d by omega]; exact ih)).2.2
  rw [hs]
  exact this
theorem leftK_can' {l : List Tube} (ho : TbOk l) {a : Nat} (ha : payK nev l l.length a < nev) {i : Nat} (hi : i ≤ l.length) : payK nev l i (leftK (pk nev l) l a i) < nev := by
 have := leftK_can ho ha (l.length - i) (by omega)
 rwa [show l.length - (l.length - i) = i by omega] at this
theorem left_same {l : List Tube} (ho : TbOk l) {a : Nat} (ha : payK nev l l.length a < nev) (d : Nat) : d ≤ l.length → leftD (pk nevR l) l a d = leftD (pk nev l) l a d := by
 induction d with
 |zero => intro _; unfold leftD; exact Eq.refl a
 |succ d ih =>
  intro hd
  have ih := ih (by omega)
  have hc := leftK_can ho ha d (by omega)
  have hs := pk_same ho (k := l.length - 1 - d) (x := leftK (pk nev l) l a (l.length - d)) (by omega) (by rw [show l.length - 1 - d + 1 = l.length - d by omega]; exact hc)
  unfold leftK at hs
  rw [show l.length - (l.length - d) = d by omega] at hs
  rw [leftD, leftD, ih, hs.1]
theorem chg_same {l : List Tube} (ho : TbOk l) {a : Nat} (ha : payK nev l l.length a < nev) {k : Nat} (hk : k < l.length) : chg (pk nevR l) l a k = chg (pk nev l) l a k := by
 unfold chg leftK
 rw [left_same ho ha _ (by omega)]
 have := (pk_same ho hk (leftK_can' ho ha (i := k + 1) (by omega))).1
 unfold leftK at this
 rw [this]
end Lg
end
section
set_option linter.all false
set_option maxRecDepth 100000
set_option maxHeartbeats 4000000
namespace Lg
open Go Go.Proofs

theorem mul_bd {a b A B : Int} (ha : 0 ≤ a ∧ a ≤ A) (hb : 0 ≤ b ∧ b ≤ B) : 0 ≤ a * b ∧ a * b ≤ A * B :=
 ⟨Int.mul_nonneg ha.1 hb.1, Int.mul_le_mul ha.2 hb.2 hb.1 (by omega)⟩
theorem mul_side {n v x : Nat} (h : n * v ≤ x) (hx : x ≤ 20000) : (0 ≤ (n : Int) * (v : Int) ∧ (n : Int) * (v : Int) ≤ x) ∧ (-9223372036854775808 ≤ (n : Int) * (v : Int) ∧ (n : Int) * (v : Int) ≤ 9223372036854775807) ∧ (x : Int) - (n : Int) * (v : Int) = ((x - n * v : Nat) : Int) := by
 have e : (n : Int) * (v : Int) = ((n * v : Nat) : Int) := (Int.natCast_mul n v).symm
 rw [e]
 omega
theorem most_int (l : List Tube) (k x : Nat) : min (tc l k : Int) ((x : Int) / (tv l k : Int)) = (mostOf l k x : Nat) := by
 unfold mostOf
 have : ((x / tv l k : Nat) : Int) = (x : Int) / (tv l k : Int) := Int.natCast_ediv x (tv l k)
 rw [← this]
 omega
theorem most_le {l : List Tube} {k x n : Nat} (hv : 1 ≤ tv l k) (h : n ≤ mostOf l k x) : n * tv l k ≤ x := by
 have : n ≤ x / tv l k := by unfold mostOf at h; omega
 exact (Nat.le_div_iff_mul_le (by omega)).1 this
theorem tube_row {l : List Tube} (ho : TbOk l) {k : Nat} (hk : k < l.length) : (l.map Tube.row)[((k : Nat) : Int).toNat]? = some [Tr.int (tv l k : Int), Tr.int (tc l k : Int), Tr.int (tAt l k).most] := by
 obtain ⟨h1, _, _, _, h2, h3⟩ := tube_at ho hk
 have := rows_at (f := Tube.row) h1
 unfold Tube.row at this ⊢
 rw [h2, h3] at this
 exact this

theorem paidO_no (l : List Tube) (ho : TbOk l) (a : Nat) (ha : a ≤ 20000) (hno : ¬ payK nev l l.length a < nev) : Spec Tryd.prog 54 [.tubes l, .int a] [] (fun r cs => r = .tup [Tr.raw (.slice none 0 0), .bool false] ∧ cs = []) := by
 have hp := payments_fn l ho a ha
 have hL : (l.map Tube.row).length = l.length := List.length_map _
 have htab : (tabRows nev l (a + 1) l.length)[((l.map Tube.row).length : Int).toNat]? = some [Tr.ints (gl (payK nev l l.length) (a + 1))] := by
  rw [hL]
  exact tabRows_get (Nat.le_refl _)
 have hT := tabRows_len nev l (a + 1) l.length
 have hn := glR_len (payK nev l l.length) (a + 1)
 have hrow : (intRows (gl (payK nev l l.length) (a + 1)))[((a : Nat) : Int).toNat]? = some [Tr.int (payK nev l l.length a)] := glR_get (by omega)
 have hno2 : ¬ payK nev l l.length a < 1073741824 := hno
 clear hno
 refine Spec.body Tryd.func54 rfl rfl (Tryd.ntmps54) rfl fun w0 own0 M => ?_
 repeat' (first | refine goH ?_ | refine goV ?_ | refine goB (fun b => ?_) | refine goC (fun ad cap => ?_) | refine goG ?_ | (refine Ops.k_guard ?_; first | (refine Ops.guard_dec rfl rfl ?_ ?_ <;> intro hc <;> try omega) | refine Ops.guard_split rfl rfl ?_ ?_ <;> intro hc) | refine goI ?_ | (refine Cw.k_cond ?_; first | (refine Cw.cond_dec rfl ?_ ?_ <;> intro hc <;> try omega) | refine Cw.cond_bool rfl ?_ ?_ <;> intro hc) | (refine Ops.k_calla ?_; first | (refine Ops.k_callf 72 ?_; refine Ops.callV hp (Evs.cons rfl (Evs.cons rfl Evs.nil)) rfl ?_)) | (apply OpW.k_call; first | (apply OpW.k_callf 72; exact OpW.callV hp (Evs.cons rfl (Evs.cons rfl Evs.nil)))) | refine goR ?_ | refine goP ?_ | apply PSeq.cons | apply PSeq.yes rfl rfl rfl | exact goW | fail)
 exact Fin.ret (Ent.take goTk) (Outs.two rfl rfl rfl) ⟨rfl, rfl⟩

theorem paidO_yes (l : List Tube) (ho : TbOk l) (a : Nat) (ha : a ≤ 20000) (hy : payK nev l l.length a < nev) : Spec Tryd.prog 54 [.tubes l, .int a] [] (fun r cs => ∃ (ad : Option Addr) (cap : Nat), r = .tup [Tr.raw (.slice ad l.length cap), .bool true] ∧ cs = [Chunk.own ad cap 1 3 (intRows (gl (chg (pk nev l) l a) l.length))]) := by
 have hp := payments_fn l ho a ha
 have hL : (l.map Tube.row).length = l.length := List.length_map _
 have hlen := ho.len
 have htab : (tabRows nev l (a + 1) l.length)[((l.map Tube.row).length : Int).toNat]? = some [Tr.ints (gl (payK nev l l.length) (a + 1))] := by
  rw [hL]
  exact tabRows_get (Nat.le_refl _)
 have hT := tabRows_len nev l (a + 1) l.length
 have hn := glR_len (payK nev l l.length) (a + 1)
 have hrow : (intRows (gl (payK nev l l.length) (a + 1)))[((a : Nat) : Int).toNat]? = some [Tr.int (payK nev l l.length a)] := glR_get (by omega)
 have hy2 : payK nev l l.length a < 1073741824 := hy
 refine Spec.body Tryd.func54 rfl rfl (Tryd.ntmps54) rfl fun w0 own0 M => ?_
 repeat' (first | refine goH ?_ | refine goV ?_ | refine goB (fun b => ?_) | refine goC (fun ad cap => ?_) | refine goG ?_ | (refine Ops.k_guard ?_; first | (refine Ops.guard_dec rfl rfl ?_ ?_ <;> intro hc <;> try omega) | refine Ops.guard_split rfl rfl ?_ ?_ <;> intro hc) | refine goI ?_ | (refine Cw.k_cond ?_; first | (refine Cw.cond_dec rfl ?_ ?_ <;> intro hc <;> try omega) | refine Cw.cond_bool rfl ?_ ?_ <;> intro hc) | (refine Ops.k_calla ?_; first | (refine Ops.k_callf 72 ?_; refine Ops.callV hp (Evs.cons rfl (Evs.cons rfl Evs.nil)) rfl ?_)) | (apply OpW.k_call; first | (apply OpW.k_callf 72; exact OpW.callV hp (Evs.cons rfl (Evs.cons rfl Evs.nil)))) | refine goR ?_ | refine goP ?_ | apply PSeq.cons | apply PSeq.yes rfl rfl rfl | exact goW | fail)
 rw [show ((l.map Tube.row).length : Int).toNat = l.length by omega, glR_rep']
 clear htab hn hrow hy2
 refine Cw.loop (ι := Nat × List (List Tr)) (fun s => s.1 ≤ l.length ∧ ∃ g, s.2 = intRows (gl g l.length) ∧ ∀ k, s.1 ≤ k → k < l.length → g k = chg (pk nev l) l a k)
  (fun s => [(0, .tubes l), (1, .int (leftK (pk nev l) l a s.1)), (6, .sl 1 (tabRows nev l (a + 1) l.length)), (7, Tr.raw (.slice ad l.length cap)), (8, .int ((s.1 : Int) - 1))])
  (fun s => [Chunk.own ad cap 1 3 s.2]) (fun s => s.1) ⟨(l.length, intRows (gl (fun _ => 0) l.length)), ⟨Nat.le_refl _, _, rfl, fun k h1 h2 => absurd h2 (by simp only at h1; omega)⟩, ?_⟩ ?_
 ·simp only
  rw [leftK_top, ← hL]
  exact (Ent.mk goSub goTk)
 rintro ⟨i, rows⟩ ⟨hi, g, hg, hdone⟩
 simp only at hi hg hdone ⊢
 have hrl : rows.length = l.length := by rw [hg]; simp
 cases i with
 |zero =>
  repeat' (first | refine goH ?_ | refine goV ?_ | refine goB (fun b => ?_) | refine goC (fun ad cap => ?_) | refine goG ?_ | (refine Ops.k_guard ?_; first | (refine Ops.guard_dec rfl rfl ?_ ?_ <;> intro hc <;> try omega) | refine Ops.guard_split rfl rfl ?_ ?_ <;> intro hc) | refine goI ?_ | (refine Cw.k_cond ?_; first | (refine Cw.cond_dec rfl ?_ ?_ <;> intro hc <;> try omega) | refine Cw.cond_bool rfl ?_ ?_ <;> intro hc) | refine goR ?_ | refine goP ?_ | apply PSeq.cons | apply PSeq.yes rfl rfl rfl | exact goW | fail)
  refine Fin.ret (Ent.take (Take.cons goPk Take.nil)) (Outs.two rfl rfl rfl) ⟨_, _, rfl, ?_⟩
  rw [hg, gl_ext (f := g) (g := chg (pk nev l) l a) fun j hj => hdone j (Nat.zero_le _) hj]
 |succ j =>
  obtain ⟨x, hx⟩ : ∃ x, x = leftK (pk nev l) l a (j + 1) := ⟨_, rfl⟩
  have hxa : x ≤ a := by rw [hx]; exact leftK_le _ _ _ _
  have hcan : payK nev l (j + 1) x < nev := by rw [hx]; exact leftK_can' ho hy (by omega)
  obtain ⟨_, hv1, hv2, hc1, _⟩ := tube_at ho (k := j) (by omega)
  obtain ⟨_, hok, _⟩ := pk_same ho (k := j) (x := x) (by omega) hcan
  have hstep := leftK_step (pk nev l) l a j (by omega)
  rw [← hx] at hstep
  have hchg : chg (pk nev l) l a j = (pk nev l j x : Nat) := by unfold chg; rw [← hx]
  have hrow := tube_row ho (k := j) (by omega)
  have hmi := most_int l j x
  rw [← hx, show ((j + 1 : Nat) : Int) - 1 = (j : Int) by omega]
  have hdiv : (0 : Int) ≤ (x : Int) / (tv l j : Int) := Int.ediv_nonneg (by omega) (by omega)
  repeat' (first | refine goH ?_ | refine goV ?_ | refine goB (fun b => ?_) | refine goC (fun ad cap => ?_) | refine goG ?_ | (refine Ops.k_guard ?_; first | (refine Ops.guard_dec rfl rfl ?_ ?_ <;> intro hc <;> try omega) | refine Ops.guard_split rfl rfl ?_ ?_ <;> intro hc) | refine goI ?_ | (refine Cw.k_cond ?_; first | (refine Cw.cond_dec rfl ?_ ?_ <;> intro hc <;> try omega) | refine Cw.cond_bool rfl ?_ ?_ <;> intro hc) | refine goR ?_ | refine goP ?_ | apply PSeq.cons | apply PSeq.yes rfl rfl rfl | exact goW | fail)
  rw [hmi]
  refine Cw.loop (ι := Nat) (fun n => n ≤ mostOf l j x ∧ lastOk (okB nev l j x) n = pk nev l j x)
   (fun n => [(0, .tubes l), (1, .int x), (6, .sl 1 (tabRows nev l (a + 1) l.length)), (7, Tr.raw (.slice ad l.length cap)), (8, .int j), (9, .int (tv l j)), (10, .int n)])
   (fun _ => [Chunk.own ad cap 1 3 rows]) (fun n => n) ⟨mostOf l j x, ⟨Nat.le_refl _, rfl⟩, (Ent.mk goSub goTk)⟩ ?_
  rintro n ⟨hn, hlast⟩
  have hnx := most_le hv1 hn
  obtain ⟨m1, m2, m3⟩ := mul_side hnx (by omega)
  have hnc : n ≤ 1000 := by unfold mostOf at hn; omega
  have hb0 := payK_bd l j (x - n * tv l j)
  have hb1 := payK_bd l (j + 1) x
  have ht0 : (tabRows nev l (a + 1) l.length)[((j : Nat) : Int).toNat]? = some [Tr.ints (gl (payK nev l j) (a + 1))] := tabRows_get (by omega)
  have ht1 : (tabRows nev l (a + 1) l.length)[((j : Int) + 1).toNat]? = some [Tr.ints (gl (payK nev l (j + 1)) (a + 1))] := tabRows_get (j := j + 1) (by omega)
  have hg0 : (intRows (gl (payK nev l j) (a + 1)))[((x : Int) - (n : Int) * (tv l j : Int)).toNat]? = some [Tr.int (payK nev l j (x - n * tv l j))] := by
   rw [m3]
   exact glR_get (by omega)
  have hg1 : (intRows (gl (payK nev l (j + 1)) (a + 1)))[((x : Nat) : Int).toNat]? = some [Tr.int (payK nev l (j + 1) x)] := glR_get (by omega)
  have hl0 := glR_len (payK nev l j) (a + 1)
  have hl1 := glR_len (payK nev l (j + 1)) (a + 1)
  by_cases hkn : payK nev l j (x - n * tv l j) + n = payK nev l (j + 1) x
  ·have hpk : pk nev l j x = n := by
    rw [← hlast]
    exact lastOk_yes (decide_eq_true hkn)
   have hrj : rows[((j : Nat) : Int).toNat]? = some [Tr.int (g j)] := by rw [hg]; exact glR_get (by omega)
   repeat' (first | refine goH ?_ | refine goV ?_ | refine goB (fun b => ?_) | refine goC (fun ad cap => ?_) | refine goG ?_ | (refine Ops.k_guard ?_; first | (refine Ops.guard_dec rfl rfl ?_ ?_ <;> intro hc <;> try omega) | refine Ops.guard_split rfl rfl ?_ ?_ <;> intro hc) | refine goI ?_ | (refine Cw.k_cond ?_; first | (refine Cw.cond_dec rfl ?_ ?_ <;> intro hc <;> try omega) | refine Cw.cond_bool rfl ?_ ?_ <;> intro hc) | refine goR ?_ | refine goP ?_ | apply PSeq.cons | apply PSeq.yes rfl rfl rfl | exact goW | fail)
   rw [m3, show x - n * tv l j = leftK (pk nev l) l a j by rw [hstep, hpk]]
   refine ⟨(j, _), ?_, ?_, (Ent.mk goSub goTk)⟩
   ·refine ⟨by simp only; omega, (fun i => if i = j then (n : Int) else g i), ?_, ?_⟩
    ·simp only
     rw [hg]
     exact glR_set
    ·intro k h1 h2
     simp only at h1 ⊢
     by_cases e : k = j
     ·subst e; rw [if_pos rfl, hchg, hpk]
     ·rw [if_neg e]; exact hdone k (by omega) h2
   ·simp only; omega
  ·have hn0 : n ≠ 0 := fun e => by
    subst e
    have h0 : pk nev l j x = 0 := by rw [← hlast]; rfl
    rw [h0] at hok
    exact hkn (of_decide_eq_true hok)
   obtain ⟨m, rfl⟩ : ∃ m, n = m + 1 := ⟨n - 1, by omega⟩
   repeat' (first | refine goH ?_ | refine goV ?_ | refine goB (fun b => ?_) | refine goC (fun ad cap => ?_) | refine goG ?_ | (refine Ops.k_guard ?_; first | (refine Ops.guard_dec rfl rfl ?_ ?_ <;> intro hc <;> try omega) | refine Ops.guard_split rfl rfl ?_ ?_ <;> intro hc) | refine goI ?_ | (refine Cw.k_cond ?_; first | (refine Cw.cond_dec rfl ?_ ?_ <;> intro hc <;> try omega) | refine Cw.cond_bool rfl ?_ ?_ <;> intro hc) | refine goR ?_ | refine goP ?_ | apply PSeq.cons | apply PSeq.yes rfl rfl rfl | exact goW | fail)
   refine ⟨m, ⟨by omega, ?_⟩, by omega, ?_⟩
   ·rw [← hlast]
    exact (lastOk_no (decide_eq_false hkn)).symm
   ·rw [show ((m + 1 : Nat) : Int) - 1 = (m : Int) by omega]
    exact (Ent.mk goSub goTk)

end Lg
end
section
set_option linter.all false
set_option maxRecDepth 100000
set_option maxHeartbeats 8000000
namespace Lg
open Go Go.Proofs

/-! ### machines: loads, fills, prices, the box, coins given back (the program's side) -/
def tAtS (S : List SlotM) (k : Nat) : SlotM := S.getD k ⟨.empty, .empty, 0, 0, 0⟩
def loadO (S : List SlotM) (n : Option Nat) (m : Int) : Int := match n with
 |none => 8
 |some k => if m < 1 then 1 else if (tAtS S k).most - (tAtS S k).cnt < m then 12 else 0
def addCnt (S : List SlotM) (k : Nat) (m : Int) : List SlotM := S.set k { tAtS S k with cnt := (tAtS S k).cnt + m }
def loadL (S : List SlotM) (n : Option Nat) (m : Int) : List SlotM := match n with
 |none => S
 |some k => if loadO S (some k) m = 0 then addCnt S k m else S
theorem tAtS_eq {S : List SlotM} {k : Nat} {d : SlotM} (h : S[k]? = some d) : tAtS S k = d := by unfold tAtS; rw [List.getD_eq_getElem?_getD, h]; rfl
theorem slotRow_set (S : List SlotM) (k : Nat) (d : SlotM) : (S.map SlotM.row).set k [.str d.key, .str d.prod, .int d.price, .int d.most, .int d.cnt] = (S.set k d).map SlotM.row := by rw [List.map_set]; rfl
theorem load_fn {b : Nat} {aT aS aJ aE aY : Option Addr} {nT cT nS cS nJ cJ nE cE nY cY : Nat} {K : List Int} {H i o f c x r : Int} (S : List SlotM) (key : ByteArray) (m : Int) (hl : S.length ≤ 1000) (hn : nS = S.length) (hm : -9223372036854775808 ≤ m ∧ m ≤ 9223372036854775807) (hS : ∀ x ∈ S, 0 ≤ x.cnt ∧ x.cnt ≤ x.most ∧ x.most ≤ 1000) :
  Spec Tryd.prog 25 [.ptr b, .str key, .int m] [mX b aT nT cT K aS nS cS H aJ nJ cJ aE nE cE aY nY cY i o f c x r, ownS aS cS S] (fun y cs => y = .int (loadO S (slotN S key) m) ∧ cs = [mX b aT nT cT K aS nS cS H aJ nJ cJ aE nE cE aY nY cY i o f c x r, ownS aS cS (loadL S (slotN S key) m)]) := by
 have kS := slot_fn (b := b) (aT := aT) (nT := nT) (cT := cT) (K := K) (aS := aS) (nS := nS) (cS := cS) (H := H) (aJ := aJ) (nJ := nJ) (cJ := cJ) (aE := aE) (nE := nE) (cE := cE) (aY := aY) (nY := nY) (cY := cY) (i := i) (o := o) (f := f) (c := c) (x := x) (r := r) S key hl hn
 have hSr : (S.map SlotM.row).length = nS := by rw [List.length_map, hn]
 cases hk : slotN S key with
 |none =>
  rw [hk] at kS
  unfold ixN at kS
  simp only at kS
  unfold loadO loadL
  refine Spec.body Tryd.func25 rfl rfl (Tryd.ntmps25) rfl fun w0 own0 M => ?_
  repeat' (first | refine goH ?_ | refine goV ?_ | refine goB (fun b => ?_) | refine goC (fun ad cap => ?_) | (refine Ops.k_nilCheck ?_; first | refine Ops.nilCheck_eptr rfl rfl ?_) | refine goG ?_ | (refine Ops.k_guard ?_; first | (refine Ops.guard_dec rfl rfl ?_ ?_ <;> intro hc <;> try omega) | refine Ops.guard_split rfl rfl ?_ ?_ <;> intro hc) | refine goI ?_ | (refine Cw.k_cond ?_; first | (refine Cw.cond_dec rfl ?_ ?_ <;> intro hc <;> try omega) | refine Cw.cond_bool rfl ?_ ?_ <;> intro hc) | exact OpV.w (OpV.nilCheck_eptr rfl) | (refine Ops.k_calla ?_; first | (refine Ops.k_callf 52 ?_; refine Ops.callS kS (Evs.cons rfl (Evs.cons rfl Evs.nil)) goPm rfl ?_)) | (apply OpW.k_call; first | (apply OpW.k_callf 52; exact OpW.callS kS (Evs.cons rfl (Evs.cons rfl Evs.nil)) goPm)) | refine goR ?_ | refine goP ?_ | apply PSeq.cons | apply PSeq.yes rfl rfl rfl | exact goW | fail)
  exact Fin.ret (Ent.take (Take.cons goPk (Take.cons goPk Take.nil))) (Outs.one rfl rfl) ⟨rfl, rfl⟩
 |some k =>
  obtain ⟨d, hd, _, hkl⟩ := findN_some (p := slotP key) hk
  rw [hk] at kS
  unfold ixN at kS
  simp only at kS
  have hb := hS d (List.mem_of_getElem? hd)
  have hrow : (S.map SlotM.row)[((k : Nat) : Int).toNat]? = some [.str d.key, .str d.prod, .int d.price, .int d.most, .int d.cnt] := by rw [Int.toNat_natCast]; exact rows_at hd
  have hAt := tAtS_eq hd
  by_cases h1 : m < 1
  ·have hO : loadO S (some k) m = 1 := by unfold loadO; simp only; rw [if_pos h1]
   have hL : loadL S (some k) m = S := by unfold loadL; simp only; rw [if_neg (by rw [hO]; decide)]
   rw [hO, hL]
   refine Spec.body Tryd.func25 rfl rfl (Tryd.ntmps25) rfl fun w0 own0 M => ?_
   repeat' (first | refine goH ?_ | refine goV ?_ | refine goB (fun b => ?_) | refine goC (fun ad cap => ?_) | (refine Ops.k_nilCheck ?_; first | refine Ops.nilCheck_eptr rfl rfl ?_) | refine goG ?_ | (refine Ops.k_guard ?_; first | (refine Ops.guard_dec rfl rfl ?_ ?_ <;> intro hc <;> try omega) | refine Ops.guard_split rfl rfl ?_ ?_ <;> intro hc) | refine goI ?_ | (refine Cw.k_cond ?_; first | (refine Cw.cond_dec rfl ?_ ?_ <;> intro hc <;> try omega) | refine Cw.cond_bool rfl ?_ ?_ <;> intro hc) | exact OpV.w (OpV.nilCheck_eptr rfl) | (refine Ops.k_calla ?_; first | (refine Ops.k_callf 52 ?_; refine Ops.callS kS (Evs.cons rfl (Evs.cons rfl Evs.nil)) goPm rfl ?_)) | (apply OpW.k_call; first | (apply OpW.k_callf 52; exact OpW.callS kS (Evs.cons rfl (Evs.cons rfl Evs.nil)) goPm)) | refine goR ?_ | refine goP ?_ | apply PSeq.cons | apply PSeq.yes rfl rfl rfl | exact goW | fail)
   exact Fin.ret (Ent.take (Take.cons goPk (Take.cons goPk Take.nil))) (Outs.one rfl rfl) ⟨rfl, rfl⟩
  by_cases h2 : d.most - d.cnt < m
  ·have hO : loadO S (some k) m = 12 := by unfold loadO; simp only; rw [if_neg h1, hAt, if_pos h2]
   have hL : loadL S (some k) m = S := by unfold loadL; simp only; rw [if_neg (by rw [hO]; decide)]
   rw [hO, hL]
   refine Spec.body Tryd.func25 rfl rfl (Tryd.ntmps25) rfl fun w0 own0 M => ?_
   repeat' (first | refine goH ?_ | refine goV ?_ | refine goB (fun b => ?_) | refine goC (fun ad cap => ?_) | (refine Ops.k_nilCheck ?_; first | refine Ops.nilCheck_eptr rfl rfl ?_) | refine goG ?_ | (refine Ops.k_guard ?_; first | (refine Ops.guard_dec rfl rfl ?_ ?_ <;> intro hc <;> try omega) | refine Ops.guard_split rfl rfl ?_ ?_ <;> intro hc) | refine goI ?_ | (refine Cw.k_cond ?_; first | (refine Cw.cond_dec rfl ?_ ?_ <;> intro hc <;> try omega) | refine Cw.cond_bool rfl ?_ ?_ <;> intro hc) | exact OpV.w (OpV.nilCheck_eptr rfl) | (refine Ops.k_calla ?_; first | (refine Ops.k_callf 52 ?_; refine Ops.callS kS (Evs.cons rfl (Evs.cons rfl Evs.nil)) goPm rfl ?_)) | (apply OpW.k_call; first | (apply OpW.k_callf 52; exact OpW.callS kS (Evs.cons rfl (Evs.cons rfl Evs.nil)) goPm)) | refine goR ?_ | refine goP ?_ | apply PSeq.cons | apply PSeq.yes rfl rfl rfl | exact goW | fail)
   exact Fin.ret (Ent.take (Take.cons goPk (Take.cons goPk Take.nil))) (Outs.one rfl rfl) ⟨rfl, rfl⟩
  have hO : loadO S (some k) m = 0 := by unfold loadO; simp only; rw [if_neg h1, hAt, if_neg h2]
  have hL : loadL S (some k) m = S.set k { d with cnt := d.cnt + m } := by unfold loadL; simp only; rw [if_pos hO]; unfold addCnt; rw [hAt]
  rw [hO, hL]
  have e4 : (S.map SlotM.row).set ((k : Nat) : Int).toNat [.str d.key, .str d.prod, .int d.price, .int d.most, .int (d.cnt + m)] = (S.set k { d with cnt := d.cnt + m }).map SlotM.row := by rw [Int.toNat_natCast]; exact slotRow_set S k { d with cnt := d.cnt + m }
  refine Spec.body Tryd.func25 rfl rfl (Tryd.ntmps25) rfl fun w0 own0 M => ?_
  repeat' (first | refine goH ?_ | refine goV ?_ | refine goB (fun b => ?_) | refine goC (fun ad cap => ?_) | (refine Ops.k_nilCheck ?_; first | refine Ops.nilCheck_eptr rfl rfl ?_) | refine goG ?_ | (refine Ops.k_guard ?_; first | (refine Ops.guard_dec rfl rfl ?_ ?_ <;> intro hc <;> try omega) | refine Ops.guard_split rfl rfl ?_ ?_ <;> intro hc) | refine goI ?_ | (refine Cw.k_cond ?_; first | (refine Cw.cond_dec rfl ?_ ?_ <;> intro hc <;> try omega) | refine Cw.cond_bool rfl ?_ ?_ <;> intro hc) | exact OpV.w (OpV.nilCheck_eptr rfl) | (refine Ops.k_calla ?_; first | (refine Ops.k_callf 52 ?_; refine Ops.callS kS (Evs.cons rfl (Evs.cons rfl Evs.nil)) goPm rfl ?_)) | (apply OpW.k_call; first | (apply OpW.k_callf 52; exact OpW.callS kS (Evs.cons rfl (Evs.cons rfl Evs.nil)) goPm)) | refine goR ?_ | refine goP ?_ | apply PSeq.cons | apply PSeq.yes rfl rfl rfl | exact goW | fail)
  erw [e4]
  exact Fin.ret (Ent.take (Take.cons goPk (Take.cons goPk Take.nil))) (Outs.one rfl rfl) ⟨rfl, rfl⟩

def priO (n : Option Nat) (m : Int) : Int := match n with
 |none => 8
 |some k => if m < 1 ∨ 20000 < m then 1 else 0
def priL (S : List SlotM) (n : Option Nat) (m : Int) : List SlotM := match n with
 |none => S
 |some k => if m < 1 ∨ 20000 < m then S else S.set k { tAtS S k with price := m }
theorem price_fn {b : Nat} {aT aS aJ aE aY : Option Addr} {nT cT nS cS nJ cJ nE cE nY cY : Nat} {K : List Int} {H i o f c x r : Int} (S : List SlotM) (key : ByteArray) (m : Int) (hl : S.length ≤ 1000) (hn : nS = S.length) :
  Spec Tryd.prog 29 [.ptr b, .str key, .int m] [mX b aT nT cT K aS nS cS H aJ nJ cJ aE nE cE aY nY cY i o f c x r, ownS aS cS S] (fun y cs => y = .int (priO (slotN S key) m) ∧ cs = [mX b aT nT cT K aS nS cS H aJ nJ cJ aE nE cE aY nY cY i o f c x r, ownS aS cS (priL S (slotN S key) m)]) := by
 have kS := slot_fn (b := b) (aT := aT) (nT := nT) (cT := cT) (K := K) (aS := aS) (nS := nS) (cS := cS) (H := H) (aJ := aJ) (nJ := nJ) (cJ := cJ) (aE := aE) (nE := nE) (cE := cE) (aY := aY) (nY := nY) (cY := cY) (i := i) (o := o) (f := f) (c := c) (x := x) (r := r) S key hl hn
 have hSr : (S.map SlotM.row).length = nS := by rw [List.length_map, hn]
 have kO := out_fn m 1 20000
 cases hk : slotN S key with
 |none =>
  rw [hk] at kS
  unfold ixN at kS
  simp only at kS
  unfold priO priL
  refine Spec.body Tryd.func29 rfl rfl (Tryd.ntmps29) rfl fun w0 own0 M => ?_
  repeat' (first | refine goH ?_ | refine goV ?_ | refine goB (fun b => ?_) | refine goC (fun ad cap => ?_) | (refine Ops.k_nilCheck ?_; first | refine Ops.nilCheck_eptr rfl rfl ?_) | refine goG ?_ | (refine Ops.k_guard ?_; first | (refine Ops.guard_dec rfl rfl ?_ ?_ <;> intro hc <;> try omega) | refine Ops.guard_split rfl rfl ?_ ?_ <;> intro hc) | refine goI ?_ | (refine Cw.k_cond ?_; first | (refine Cw.cond_dec rfl ?_ ?_ <;> intro hc <;> try omega) | refine Cw.cond_bool rfl ?_ ?_ <;> intro hc) | exact OpV.w (OpV.nilCheck_eptr rfl) | (refine Ops.k_calla ?_; first | (refine Ops.k_callf 52 ?_; refine Ops.callS kS (Evs.cons rfl (Evs.cons rfl Evs.nil)) goPm rfl ?_)) | (apply OpW.k_call; first | (apply OpW.k_callf 52; exact OpW.callS kS (Evs.cons rfl (Evs.cons rfl Evs.nil)) goPm)) | refine goR ?_ | refine goP ?_ | apply PSeq.cons | apply PSeq.yes rfl rfl rfl | exact goW | fail)
  exact Fin.ret (Ent.take (Take.cons goPk (Take.cons goPk Take.nil))) (Outs.one rfl rfl) ⟨rfl, rfl⟩
 |some k =>
  obtain ⟨d, hd, _, hkl⟩ := findN_some (p := slotP key) hk
  rw [hk] at kS
  unfold ixN at kS
  simp only at kS
  have hrow : (S.map SlotM.row)[((k : Nat) : Int).toNat]? = some [.str d.key, .str d.prod, .int d.price, .int d.most, .int d.cnt] := by rw [Int.toNat_natCast]; exact rows_at hd
  unfold priL priO
  simp only
  rw [tAtS_eq hd]
  by_cases h1 : m < 1 ∨ 20000 < m
  ·rw [if_pos h1, if_pos h1]
   rw [show outB m 1 20000 = true by simp [outB]; omega] at kO
   refine Spec.body Tryd.func29 rfl rfl (Tryd.ntmps29) rfl fun w0 own0 M => ?_
   repeat' (first | refine goH ?_ | refine goV ?_ | refine goB (fun b => ?_) | refine goC (fun ad cap => ?_) | refine goG ?_ | (refine Ops.k_guard ?_; first | (refine Ops.guard_dec rfl rfl ?_ ?_ <;> intro hc <;> try omega) | refine Ops.guard_split rfl rfl ?_ ?_ <;> intro hc) | refine goI ?_ | (refine Cw.k_cond ?_; first | (refine Cw.cond_dec rfl ?_ ?_ <;> intro hc <;> try omega) | refine Cw.cond_bool rfl ?_ ?_ <;> intro hc) | (refine Ops.k_calla ?_; first | (refine Ops.k_callf 52 ?_; refine Ops.callS kS (Evs.cons rfl (Evs.cons rfl Evs.nil)) goPm rfl ?_) | (refine Ops.k_callf 45 ?_; refine Ops.callV kO (Evs.cons rfl (Evs.cons rfl (Evs.cons rfl Evs.nil))) rfl ?_)) | (apply OpW.k_call; first | (apply OpW.k_callf 52; exact OpW.callS kS (Evs.cons rfl (Evs.cons rfl Evs.nil)) goPm) | (apply OpW.k_callf 45; exact OpW.callV kO (Evs.cons rfl (Evs.cons rfl (Evs.cons rfl Evs.nil))))) | refine goR ?_ | refine goP ?_ | apply PSeq.cons | apply PSeq.yes rfl rfl rfl | exact goW | fail)
   exact Fin.ret (Ent.take (Take.cons goPk (Take.cons goPk Take.nil))) (Outs.one rfl rfl) ⟨rfl, rfl⟩
  rw [if_neg h1, if_neg h1]
  rw [show outB m 1 20000 = false by simp [outB]; omega] at kO
  have e4 : (S.map SlotM.row).set ((k : Nat) : Int).toNat [.str d.key, .str d.prod, .int m, .int d.most, .int d.cnt] = (S.set k { d with price := m }).map SlotM.row := by rw [Int.toNat_natCast]; exact slotRow_set S k { d with price := m }
  refine Spec.body Tryd.func29 rfl rfl (Tryd.ntmps29) rfl fun w0 own0 M => ?_
  repeat' (first | refine goH ?_ | refine goV ?_ | refine goB (fun b => ?_) | refine goC (fun ad cap => ?_) | refine goG ?_ | (refine Ops.k_guard ?_; first | (refine Ops.guard_dec rfl rfl ?_ ?_ <;> intro hc <;> try omega) | refine Ops.guard_split rfl rfl ?_ ?_ <;> intro hc) | refine goI ?_ | (refine Cw.k_cond ?_; first | (refine Cw.cond_dec rfl ?_ ?_ <;> intro hc <;> try omega) | refine Cw.cond_bool rfl ?_ ?_ <;> intro hc) | (refine Ops.k_calla ?_; first | (refine Ops.k_callf 52 ?_; refine Ops.callS kS (Evs.cons rfl (Evs.cons rfl Evs.nil)) goPm rfl ?_) | (refine Ops.k_callf 45 ?_; refine Ops.callV kO (Evs.cons rfl (Evs.cons rfl (Evs.cons rfl Evs.nil))) rfl ?_)) | (apply OpW.k_call; first | (apply OpW.k_callf 52; exact OpW.callS kS (Evs.cons rfl (Evs.cons rfl Evs.nil)) goPm) | (apply OpW.k_callf 45; exact OpW.callV kO (Evs.cons rfl (Evs.cons rfl (Evs.cons rfl Evs.nil))))) | refine goR ?_ | refine goP ?_ | apply PSeq.cons | apply PSeq.yes rfl rfl rfl | exact goW | fail)
  erw [e4]
  exact Fin.ret (Ent.take (Take.cons goPk (Take.cons goPk Take.nil))) (Outs.one rfl rfl) ⟨rfl, rfl⟩

def filO (T : List Tube) (n : Option Nat) (m : Int) : Int := match n with
 |none => 8
 |some k => if m < 1 then 1 else if (tAt T k).most - (tAt T k).cnt < m then 12 else 0
def addT (T : List Tube) (k : Nat) (m : Int) : List Tube := T.set k { tAt T k with cnt := (tAt T k).cnt + m }
def filL (T : List Tube) (n : Option Nat) (m : Int) : List Tube := match n with
 |none => T
 |some k => if filO T (some k) m = 0 then addT T k m else T
theorem tubeRow_set (T : List Tube) (k : Nat) (d : Tube) : (T.map Tube.row).set k [.int d.val, .int d.cnt, .int d.most] = (T.set k d).map Tube.row := by rw [List.map_set]; rfl
theorem fill_fn {b : Nat} {aT aS aJ aE aY : Option Addr} {nT cT nS cS nJ cJ nE cE nY cY : Nat} {K : List Int} {H i o f c x r : Int} (T : List Tube) (v m : Int) (hl : T.length ≤ 1000) (hn : nT = T.length) (hv : 0 ≤ v ∧ v ≤ 10000) (hf : 0 ≤ f ∧ f ≤ 1000000000000) (hm : -9223372036854775808 ≤ m ∧ m ≤ 9223372036854775807) (hT : ∀ x ∈ T, 0 ≤ x.cnt ∧ x.cnt ≤ x.most ∧ x.most ≤ 1000) :
  Spec Tryd.prog 27 [.ptr b, .int v, .int m] [mX b aT nT cT K aS nS cS H aJ nJ cJ aE nE cE aY nY cY i o f c x r, ownT aT cT T] (fun y cs => y = .int (filO T (tubeN T v) m) ∧ cs = [mX b aT nT cT K aS nS cS H aJ nJ cJ aE nE cE aY nY cY i o (if filO T (tubeN T v) m = 0 then f + m * v else f) c x r, ownT aT cT (filL T (tubeN T v) m)]) := by
 have kS := tube_fn (b := b) (aT := aT) (nT := nT) (cT := cT) (K := K) (aS := aS) (nS := nS) (cS := cS) (H := H) (aJ := aJ) (nJ := nJ) (cJ := cJ) (aE := aE) (nE := nE) (cE := cE) (aY := aY) (nY := nY) (cY := cY) (i := i) (o := o) (f := f) (c := c) (x := x) (r := r) T v hl hn
 have hSr : (T.map Tube.row).length = nT := by rw [List.length_map, hn]
 cases hk : tubeN T v with
 |none =>
  rw [hk] at kS
  unfold ixN at kS
  simp only at kS
  unfold filL filO
  simp only
  rw [if_neg (by decide)]
  refine Spec.body Tryd.func27 rfl rfl (Tryd.ntmps27) rfl fun w0 own0 M => ?_
  repeat' (first | refine goH ?_ | refine goV ?_ | refine goB (fun b => ?_) | refine goC (fun ad cap => ?_) | (refine Ops.k_nilCheck ?_; first | refine Ops.nilCheck_eptr rfl rfl ?_) | refine goG ?_ | (refine Ops.k_guard ?_; first | (refine Ops.guard_dec rfl rfl ?_ ?_ <;> intro hc <;> try omega) | refine Ops.guard_split rfl rfl ?_ ?_ <;> intro hc) | refine goI ?_ | (refine Cw.k_cond ?_; first | (refine Cw.cond_dec rfl ?_ ?_ <;> intro hc <;> try omega) | refine Cw.cond_bool rfl ?_ ?_ <;> intro hc) | exact OpV.w (OpV.nilCheck_eptr rfl) | (refine Ops.k_calla ?_; first | (refine Ops.k_callf 61 ?_; refine Ops.callS kS (Evs.cons rfl (Evs.cons rfl Evs.nil)) goPm rfl ?_)) | (apply OpW.k_call; first | (apply OpW.k_callf 61; exact OpW.callS kS (Evs.cons rfl (Evs.cons rfl Evs.nil)) goPm)) | refine goR ?_ | refine goP ?_ | apply PSeq.cons | apply PSeq.yes rfl rfl rfl | exact goW | fail)
  exact Fin.ret (Ent.take (Take.cons goPk (Take.cons goPk Take.nil))) (Outs.one rfl rfl) ⟨rfl, rfl⟩
 |some k =>
  obtain ⟨d, hd, _, hkl⟩ := findN_some (p := tubeP v) hk
  rw [hk] at kS
  unfold ixN at kS
  simp only at kS
  have hb := hT d (List.mem_of_getElem? hd)
  have hrow : (T.map Tube.row)[((k : Nat) : Int).toNat]? = some [.int d.val, .int d.cnt, .int d.most] := by rw [Int.toNat_natCast]; exact rows_at hd
  have hAt := tAt_eq hd
  by_cases h1 : m < 1
  ·have hO : filO T (some k) m = 1 := by unfold filO; simp only; rw [if_pos h1]
   have hL : filL T (some k) m = T := by unfold filL; simp only; rw [if_neg (by rw [hO]; decide)]
   rw [hO, hL, if_neg (by decide)]
   refine Spec.body Tryd.func27 rfl rfl (Tryd.ntmps27) rfl fun w0 own0 M => ?_
   repeat' (first | refine goH ?_ | refine goV ?_ | refine goB (fun b => ?_) | refine goC (fun ad cap => ?_) | (refine Ops.k_nilCheck ?_; first | refine Ops.nilCheck_eptr rfl rfl ?_) | refine goG ?_ | (refine Ops.k_guard ?_; first | (refine Ops.guard_dec rfl rfl ?_ ?_ <;> intro hc <;> try omega) | refine Ops.guard_split rfl rfl ?_ ?_ <;> intro hc) | refine goI ?_ | (refine Cw.k_cond ?_; first | (refine Cw.cond_dec rfl ?_ ?_ <;> intro hc <;> try omega) | refine Cw.cond_bool rfl ?_ ?_ <;> intro hc) | exact OpV.w (OpV.nilCheck_eptr rfl) | (refine Ops.k_calla ?_; first | (refine Ops.k_callf 61 ?_; refine Ops.callS kS (Evs.cons rfl (Evs.cons rfl Evs.nil)) goPm rfl ?_)) | (apply OpW.k_call; first | (apply OpW.k_callf 61; exact OpW.callS kS (Evs.cons rfl (Evs.cons rfl Evs.nil)) goPm)) | refine goR ?_ | refine goP ?_ | apply PSeq.cons | apply PSeq.yes rfl rfl rfl | exact goW | fail)
   exact Fin.ret (Ent.take (Take.cons goPk (Take.cons goPk Take.nil))) (Outs.one rfl rfl) ⟨rfl, rfl⟩
  by_cases h2 : d.most - d.cnt < m
  ·have hO : filO T (some k) m = 12 := by unfold filO; simp only; rw [if_neg h1, hAt, if_pos h2]
   have hL : filL T (some k) m = T := by unfold filL; simp only; rw [if_neg (by rw [hO]; decide)]
   rw [hO, hL, if_neg (by decide)]
   refine Spec.body Tryd.func27 rfl rfl (Tryd.ntmps27) rfl fun w0 own0 M => ?_
   repeat' (first | refine goH ?_ | refine goV ?_ | refine goB (fun b => ?_) | refine goC (fun ad cap => ?_) | (refine Ops.k_nilCheck ?_; first | refine Ops.nilCheck_eptr rfl rfl ?_) | refine goG ?_ | (refine Ops.k_guard ?_; first | (refine Ops.guard_dec rfl rfl ?_ ?_ <;> intro hc <;> try omega) | refine Ops.guard_split rfl rfl ?_ ?_ <;> intro hc) | refine goI ?_ | (refine Cw.k_cond ?_; first | (refine Cw.cond_dec rfl ?_ ?_ <;> intro hc <;> try omega) | refine Cw.cond_bool rfl ?_ ?_ <;> intro hc) | exact OpV.w (OpV.nilCheck_eptr rfl) | (refine Ops.k_calla ?_; first | (refine Ops.k_callf 61 ?_; refine Ops.callS kS (Evs.cons rfl (Evs.cons rfl Evs.nil)) goPm rfl ?_)) | (apply OpW.k_call; first | (apply OpW.k_callf 61; exact OpW.callS kS (Evs.cons rfl (Evs.cons rfl Evs.nil)) goPm)) | refine goR ?_ | refine goP ?_ | apply PSeq.cons | apply PSeq.yes rfl rfl rfl | exact goW | fail)
   exact Fin.ret (Ent.take (Take.cons goPk (Take.cons goPk Take.nil))) (Outs.one rfl rfl) ⟨rfl, rfl⟩
  have hO : filO T (some k) m = 0 := by unfold filO; simp only; rw [if_neg h1, hAt, if_neg h2]
  have hL : filL T (some k) m = T.set k { d with cnt := d.cnt + m } := by unfold filL; simp only; rw [if_pos hO]; unfold addT; rw [hAt]
  rw [hO, hL, if_pos rfl]
  have hmv := mul_bd (a := m) (b := v) (A := 1000) (B := 10000) (by omega) (by omega)
  have e4 : (T.map Tube.row).set ((k : Nat) : Int).toNat [.int d.val, .int (d.cnt + m), .int d.most] = (T.set k { d with cnt := d.cnt + m }).map Tube.row := by rw [Int.toNat_natCast]; exact tubeRow_set T k { d with cnt := d.cnt + m }
  refine Spec.body Tryd.func27 rfl rfl (Tryd.ntmps27) rfl fun w0 own0 M => ?_
  repeat' (first | refine goH ?_ | refine goV ?_ | refine goB (fun b => ?_) | refine goC (fun ad cap => ?_) | (refine Ops.k_nilCheck ?_; first | refine Ops.nilCheck_eptr rfl rfl ?_) | refine goG ?_ | (refine Ops.k_guard ?_; first | (refine Ops.guard_dec rfl rfl ?_ ?_ <;> intro hc <;> try omega) | refine Ops.guard_split rfl rfl ?_ ?_ <;> intro hc) | refine goI ?_ | (refine Cw.k_cond ?_; first | (refine Cw.cond_dec rfl ?_ ?_ <;> intro hc <;> try omega) | refine Cw.cond_bool rfl ?_ ?_ <;> intro hc) | exact OpV.w (OpV.nilCheck_eptr rfl) | (refine Ops.k_calla ?_; first | (refine Ops.k_callf 61 ?_; refine Ops.callS kS (Evs.cons rfl (Evs.cons rfl Evs.nil)) goPm rfl ?_)) | (apply OpW.k_call; first | (apply OpW.k_callf 61; exact OpW.callS kS (Evs.cons rfl (Evs.cons rfl Evs.nil)) goPm)) | refine goR ?_ | refine goP ?_ | apply PSeq.cons | apply PSeq.yes rfl rfl rfl | exact goW | fail)
  erw [e4]
  exact Fin.ret (Ent.take (Take.cons goPk (Take.cons goPk Take.nil))) (Outs.one rfl rfl) ⟨rfl, rfl⟩

theorem collect_fn {b : Nat} {aT aS aJ aE aY : Option Addr} {nT cT nS cS nJ cJ nE cE nY cY : Nat} {K : List Int} {H i o f c x r : Int} (hc : 0 ≤ c ∧ c ≤ 1000000000000) (hx : 0 ≤ x ∧ x ≤ 1000000000000) :
  Spec Tryd.prog 31 [.ptr b] [mX b aT nT cT K aS nS cS H aJ nJ cJ aE nE cE aY nY cY i o f c x r] (fun y cs => y = .int x ∧ cs = [mX b aT nT cT K aS nS cS H aJ nJ cJ aE nE cE aY nY cY i o f (c + x) 0 r]) := by
 refine Spec.body Tryd.func31 rfl rfl (Tryd.ntmps31) rfl fun w0 own0 M => ?_
 repeat' (first | refine goH ?_ | refine goV ?_ | refine goB (fun b => ?_) | refine goC (fun ad cap => ?_) | refine goG ?_ | (refine Ops.k_guard ?_; first | (refine Ops.guard_dec rfl rfl ?_ ?_ <;> intro hc <;> try omega) | refine Ops.guard_split rfl rfl ?_ ?_ <;> intro hc) | refine goI ?_ | (refine Cw.k_cond ?_; first | (refine Cw.cond_dec rfl ?_ ?_ <;> intro hc <;> try omega) | refine Cw.cond_bool rfl ?_ ?_ <;> intro hc) | refine goR ?_ | refine goP ?_ | apply PSeq.cons | apply PSeq.yes rfl rfl rfl | exact goW | fail)
 exact Fin.ret (Ent.take (Take.cons goPk Take.nil)) (Outs.one rfl rfl) ⟨rfl, rfl⟩
theorem back_fn {b : Nat} {aT aS aJ aE aY : Option Addr} {nT cT nS cS nJ cJ nE cE nY cY : Nat} {K : List Int} {H i o f c x r : Int} (E : List Int) (hn : nE = E.length) :
  Spec Tryd.prog 18 [.ptr b] [mX b aT nT cT K aS nS cS H aJ nJ cJ aE nE cE aY nY cY i o f c x r, ownI aE cE E] (fun y cs => y = .ints E ∧ cs = [mX b aT nT cT K aS nS cS H aJ nJ cJ none 0 0 aY nY cY i o f c x 0]) := by
 have hl : nE = (intRows E).length := by rw [intRows_len, hn]
 refine Spec.body Tryd.func18 rfl rfl (Tryd.ntmps18) rfl fun w0 own0 M => ?_
 repeat' (first | refine goH ?_ | refine goV ?_ | refine goB (fun b => ?_) | refine goC (fun ad cap => ?_) | refine goG ?_ | (refine Ops.k_guard ?_; first | (refine Ops.guard_dec rfl rfl ?_ ?_ <;> intro hc <;> try omega) | refine Ops.guard_split rfl rfl ?_ ?_ <;> intro hc) | refine goI ?_ | (refine Cw.k_cond ?_; first | (refine Cw.cond_dec rfl ?_ ?_ <;> intro hc <;> try omega) | refine Cw.cond_bool rfl ?_ ?_ <;> intro hc) | refine goR ?_ | refine goP ?_ | apply PSeq.cons | apply PSeq.yes rfl rfl rfl | exact goW | fail)
 exact Fin.ret (Ent.trans (Ent.settle (s := 2) rfl goPk hl) (Ent.take (Take.cons goPk Take.nil))) (Outs.one rfl rfl) ⟨rfl, rfl⟩
end Lg
end
