/- A part of the proof of a law of this seat: it adds no condition. By an AI agent. -/
import Derived.Test.YteooghfcfmmkkaaLgGo
import Derived.Test.YteooghfcfmmkkaaLgLend
import Derived.Test.YteooghfcfmmkkaaVend4
section
set_option linter.all false
set_option maxRecDepth 100000
set_option maxHeartbeats 1000000
namespace Lg
open Go Go.Proofs

/-! ### amounts that can be paid -/
def rch (b : Nat → Bool) (v : Nat) : Nat → Nat → Bool
  | 0 => b
  | j + 1 => fun a => rch b v j a || (decide (v ≤ a) && rch b v j (a - v))
theorem rch_succ (b : Nat → Bool) (v j a : Nat) : rch b v (j + 1) a = (rch b v j a || (decide (v ≤ a) && rch b v j (a - v))) := rfl
theorem rch_iff {b : Nat → Bool} {v : Nat} : ∀ {j a : Nat}, rch b v j a = true ↔ ∃ n, n ≤ j ∧ n * v ≤ a ∧ b (a - n * v) = true
  | 0, a => ⟨fun h => ⟨0, Nat.le_refl _, by omega, by simpa [rch] using h⟩, fun ⟨n, h1, h2, h3⟩ => by
      have : n = 0 := by omega
      subst this
      simpa [rch] using h3⟩
  | j + 1, a => by
    rw [rch_succ, Bool.or_eq_true, Bool.and_eq_true, decide_eq_true_eq, rch_iff, rch_iff]
    constructor
    · rintro (⟨n, h1, h2, h3⟩ | ⟨h0, n, h1, h2, h3⟩)
      · exact ⟨n, by omega, h2, h3⟩
      · refine ⟨n + 1, by omega, by rw [Nat.add_mul]; omega, ?_⟩
        rw [show a - (n + 1) * v = a - v - n * v by rw [Nat.add_mul]; omega]
        exact h3
    · rintro ⟨n, h1, h2, h3⟩
      by_cases e : n ≤ j
      · exact .inl ⟨n, e, h2, h3⟩
      · right
        have : n = j + 1 := by omega
        subst this
        rw [Nat.add_mul] at h2 h3
        refine ⟨by omega, j, Nat.le_refl _, by omega, ?_⟩
        rw [show a - v - j * v = a - (j * v + 1 * v) by omega]
        exact h3
theorem rch_fix {b : Nat → Bool} {v j most : Nat} (h : ∀ a, a ≤ most → rch b v (j + 1) a = rch b v j a) : ∀ i a, a ≤ most → rch b v (j + i) a = rch b v j a
  | 0, a, _ => rfl
  | i + 1, a, ha => by
    rw [← Nat.add_assoc, rch_succ, rch_fix h i a ha, rch_fix h i (a - v) (by omega), ← rch_succ]
    exact h a ha

def canK (l : List Tube) (k a : Nat) : Bool := decide (payK nev l k a < nev)
theorem payK_small {l : List Tube} (ho : TbOk l) {k : Nat} (hk : k ≤ l.length) (a : Nat) : payK nev l k a = nev ∨ payK nev l k a ≤ 10000 := by
  have hl : ((vc l).take k).length = k := by simp; omega
  have hlen := ho.len
  have := pay_rel (N := nev) (M := nev) (l := (vc l).take k) (B := 0) (b := zeroPay nev) (d := zeroPay nev) (fun t ht => by
    obtain ⟨d, hd, rfl⟩ := List.mem_map.1 (List.mem_of_mem_take ht)
    have := ho.cnt d hd
    simp only
    omega) zeroPay_rel (Int.le_refl _) (by rw [hl]; unfold nev; omega) (by rw [hl]; unfold nev; omega) a
  have h2 := (payK_bd l k a).2
  unfold PRel at this
  rw [hl] at this
  unfold payK at h2 ⊢
  unfold nev at *
  omega
theorem canK_zero (l : List Tube) (a : Nat) : canK l 0 a = decide (a = 0) := by
  unfold canK payK
  show decide (zeroPay nev a < nev) = _
  unfold zeroPay
  by_cases h : a = 0
  · subst h; rfl
  · rw [if_neg h, decide_eq_false (by omega), decide_eq_false h]
theorem canK_next {l : List Tube} (ho : TbOk l) {k : Nat} {d : Tube} (h : l[k]? = some d) (a : Nat) : canK l (k + 1) a = rch (canK l k) d.val.toNat d.cnt.toNat a := by
  have hk : k < l.length := (List.getElem?_eq_some_iff.1 h).1
  have hc := ho.cnt d (List.mem_of_getElem? h)
  have hv := ho.val d (List.mem_of_getElem? h)
  rw [Bool.eq_iff_iff, rch_iff]
  unfold canK
  rw [decide_eq_true_eq, payK_next h]
  unfold fur
  obtain ⟨n0, hn0, hm0⟩ := minTo_mem (f := fun n => (n : Int) + payK nev l k (a - n * d.val.toNat)) (min d.cnt.toNat (a / d.val.toNat))
  have hdiv : ∀ n, n ≤ a / d.val.toNat ↔ n * d.val.toNat ≤ a := fun n => Nat.le_div_iff_mul_le (by omega)
  constructor
  · intro hlt
    refine ⟨n0, by omega, (hdiv n0).1 (by omega), ?_⟩
    rw [decide_eq_true_eq]
    have := payK_small ho (k := k) (by omega) (a - n0 * d.val.toNat)
    unfold nev at *
    omega
  · rintro ⟨n, h1, h2, h3⟩
    rw [decide_eq_true_eq] at h3
    have hle := minTo_le (f := fun n => (n : Int) + payK nev l k (a - n * d.val.toNat)) (k := min d.cnt.toNat (a / d.val.toNat)) (n := n) (by have := (hdiv n).2 h2; omega)
    have := payK_small ho (k := k) (by omega) (a - n * d.val.toNat)
    unfold nev at *
    omega

/-! ### the windows of amounts -/
structure Win where
  fr : Int
  to : Int
def Win.row (x : Win) : List Tr := [Tr.int x.fr, Tr.int x.to]

/-- the windows of the numbers below n for which p holds -/
def wins (p : Nat → Bool) : Nat → List Win
  | 0 => []
  | n + 1 => if p n = true then (if n ≠ 0 ∧ p (n - 1) = true then (wins p n).dropLast ++ [⟨((wins p n).getLastD ⟨0, 0⟩).fr, (n : Int) + 1⟩] else wins p n ++ [⟨n, (n : Int) + 1⟩]) else wins p n
theorem wins_succ (p : Nat → Bool) (n : Nat) : wins p (n + 1) = if p n = true then (if n ≠ 0 ∧ p (n - 1) = true then (wins p n).dropLast ++ [⟨((wins p n).getLastD ⟨0, 0⟩).fr, (n : Int) + 1⟩] else wins p n ++ [⟨n, (n : Int) + 1⟩]) else wins p n := rfl
theorem wins_off {p : Nat → Bool} {n : Nat} (h : p n = false) : wins p (n + 1) = wins p n := by rw [wins_succ, h]; rfl
theorem wins_new {p : Nat → Bool} {n : Nat} (h : p n = true) (h2 : n = 0 ∨ p (n - 1) = false) : wins p (n + 1) = wins p n ++ [⟨n, (n : Int) + 1⟩] := by
  rw [wins_succ, if_pos h, if_neg]
  rintro ⟨h3, h4⟩
  rcases h2 with h2 | h2
  · exact h3 h2
  · rw [h2] at h4; cases h4
theorem wins_on {p : Nat → Bool} {n : Nat} (h : p n = true) (h2 : n ≠ 0) (h3 : p (n - 1) = true) {W : List Win} {w : Win} (hw : wins p n = W ++ [w]) : wins p (n + 1) = W ++ [⟨w.fr, (n : Int) + 1⟩] := by
  rw [wins_succ, if_pos h, if_pos ⟨h2, h3⟩, hw]
  simp
/-- the last window ends at n if and only if n - 1 is in it -/
theorem wins_last (p : Nat → Bool) : ∀ n : Nat, (wins p n).length ≤ n ∧ (∀ W w, wins p n = W ++ [w] → w.to ≤ (n : Int) ∧ (w.to = (n : Int) ↔ n ≠ 0 ∧ p (n - 1) = true)) ∧ (n ≠ 0 → p (n - 1) = true → ∃ W w, wins p n = W ++ [w] ∧ w.to = (n : Int))
  | 0 => ⟨by simp [wins], fun W w h => by simp [wins] at h, fun h => absurd rfl h⟩
  | n + 1 => by
    obtain ⟨h0, h1, h2⟩ := wins_last p n
    simp only [Nat.add_sub_cancel]
    cases hp : p n with
    | false =>
      rw [wins_off hp]
      refine ⟨by omega, fun W w h => ?_, fun _ h => by cases h⟩
      obtain ⟨h3, h4⟩ := h1 W w h
      refine ⟨by omega, ⟨fun h => by omega, fun h => by simp at h⟩⟩
    | true =>
      by_cases hc : n ≠ 0 ∧ p (n - 1) = true
      · obtain ⟨W, w, hw, hto⟩ := h2 hc.1 hc.2
        rw [wins_on hp hc.1 hc.2 hw]
        refine ⟨by rw [hw] at h0; simp at h0 ⊢; omega, fun W' w' h => ?_, fun _ _ => ⟨W, _, rfl, by simp⟩⟩
        obtain ⟨_, e2⟩ := List.append_inj' h rfl
        rw [← (List.cons.inj e2).1]
        exact ⟨by simp, by simp [hc, hp]⟩
      · rw [wins_new hp (by rcases Nat.eq_zero_or_pos n with h | h; exact .inl h; right; cases hq : p (n - 1) with | false => rfl | true => exact absurd ⟨by omega, hq⟩ hc)]
        refine ⟨by simp; omega, fun W' w' h => ?_, fun _ _ => ⟨wins p n, _, rfl, by simp⟩⟩
        obtain ⟨_, e2⟩ := List.append_inj' h rfl
        rw [← (List.cons.inj e2).1]
        exact ⟨by simp, by simp [hp]⟩

/-- rows of bools -/
def gb (g : Nat → Bool) (n : Nat) : List (List Tr) := (List.range n).map fun j => [Tr.bool (g j)]
@[simp] theorem gb_len (g : Nat → Bool) (n : Nat) : (gb g n).length = n := by simp [gb]
theorem gb_get {g : Nat → Bool} {n j : Nat} (h : j < n) : (gb g n)[j]? = some [Tr.bool (g j)] := by
  unfold gb
  rw [List.getElem?_map, List.getElem?_range h]
  rfl
theorem gb_set {g : Nat → Bool} {n j : Nat} {x : Bool} : (gb g n).set j [Tr.bool x] = gb (fun i => if i = j then x else g i) n := by
  apply List.ext_getElem?
  intro i
  by_cases hi : i < n
  · rw [gb_get hi, List.getElem?_set]
    by_cases e : j = i
    · subst e; simp [hi]
    · rw [if_neg e, gb_get hi, if_neg (fun h => e h.symm)]
  · rw [List.getElem?_eq_none (by simp; omega), List.getElem?_eq_none (by simp; omega)]
theorem gb_rep (n : Nat) : List.replicate n (List.map Tr.raw [Value.bool false]) = gb (fun _ => false) n := by
  apply List.ext_getElem?
  intro i
  by_cases hi : i < n
  · rw [gb_get hi, List.getElem?_replicate, if_pos hi]; rfl
  · rw [List.getElem?_eq_none (by simp; omega), List.getElem?_eq_none (by simp; omega)]
theorem gb_ext {f g : Nat → Bool} {n : Nat} (h : ∀ j, j < n → f j = g j) : gb f n = gb g n := by
  unfold gb
  exact List.map_congr_left fun j hj => by rw [h j (by simpa using hj)]
end Lg
end
section
set_option linter.all false
set_option maxRecDepth 100000
set_option maxHeartbeats 4000000
namespace Lg
open Go Go.Proofs

theorem reached_fn (l : List Tube) (ho : TbOk l) (most : Nat) (hm : most ≤ 20000) : PFn Try.prog 30 [.tubes l, .int most] (· = .sl 1 (gb (canK l l.length) (most + 1))) := by
  have hp := payments_fn l ho most hm
  refine PFn.mk (Spec.body Try.func30 rfl rfl (Try.ntmps30) rfl fun w0 own0 M => ?_)
  have hL : (l.map Tube.row).length = l.length := List.length_map _
  have htab : (tabRows nev l (most + 1) l.length)[((l.map Tube.row).length : Int).toNat]? = some [Tr.ints (gl (payK nev l l.length) (most + 1))] := by
    rw [hL]
    exact tabRows_get (Nat.le_refl _)
  have hT := tabRows_len nev l (most + 1) l.length
  have hn := glR_len (payK nev l l.length) (most + 1)
  repeat' (first | refine goH ?_ | refine goV ?_ | refine goC (fun ad cap => ?_) | refine goI ?_ | (refine Cw.k_cond ?_; first | (refine Cw.cond_dec rfl (fun hc => ?_) (fun hc => ?_) <;> try (exfalso; omega)) | refine Cw.cond_bool rfl (fun hc => ?_) (fun hc => ?_)) | (refine Ops.k_calla ?_; first | (refine Ops.k_callf 46 ?_; refine Ops.callV hp (Evs.cons rfl (Evs.cons rfl Evs.nil)) rfl ?_)) | fail)
  rw [show ((most : Int) + 1).toNat = most + 1 by omega, gb_rep]
  refine Cw.loop (ι := Nat × List (List Tr)) (fun s => s.1 ≤ most + 1 ∧ ∃ g, s.2 = gb g (most + 1) ∧ ∀ a, a < s.1 → g a = canK l l.length a)
    (fun s => [(6, Tr.raw (.slice ad (most + 1) cap)), (19, .ints (gl (payK nev l l.length) (most + 1))), (20, .int (intRows (gl (payK nev l l.length) (most + 1))).length), (21, .int s.1)])
    (fun s => [Chunk.own ad cap 1 4 s.2]) (fun s => most + 1 - s.1) ⟨(0, gb (fun _ => false) (most + 1)), ⟨by simp only; omega, _, rfl, fun a h => by simp only at h; omega⟩, (Ent.mk goSub goTk)⟩ ?_
  rintro ⟨k, rows⟩ ⟨hk, g, hg, hdone⟩
  simp only at hk hg hdone ⊢
  have hrl : rows.length = most + 1 := by rw [hg]; simp
  by_cases hkl : k < most + 1
  · have hrow : rows[((k : Nat) : Int).toNat]? = some [Tr.bool (g k)] := by rw [hg]; exact gb_get hkl
    have hrow2 : (intRows (gl (payK nev l l.length) (most + 1)))[((k : Nat) : Int).toNat]? = some [Tr.int (payK nev l l.length k)] := glR_get hkl
    repeat' (first | refine goH ?_ | refine goV ?_ | refine goC (fun ad cap => ?_) | refine goI ?_ | (refine Cw.k_cond ?_; first | (refine Cw.cond_dec rfl (fun hc => ?_) (fun hc => ?_) <;> try (exfalso; omega)) | refine Cw.cond_bool rfl (fun hc => ?_) (fun hc => ?_)) | fail)
    refine ⟨(k + 1, _), ?_, ?_, (Ent.mk goSub goTk)⟩
    · refine ⟨by simp only; omega, (fun i => if i = k then canK l l.length k else g i), ?_, ?_⟩
      · simp only
        rw [hg]
        exact gb_set
      · intro a ha
        simp only at ha ⊢
        by_cases e : a = k
        · subst e; rw [if_pos rfl]
        · rw [if_neg e]; exact hdone a (by omega)
    · simp only; omega
  · repeat' (first | refine goH ?_ | refine goV ?_ | refine goC (fun ad cap => ?_) | refine goI ?_ | (refine Cw.k_cond ?_; first | (refine Cw.cond_dec rfl (fun hc => ?_) (fun hc => ?_) <;> try (exfalso; omega)) | refine Cw.cond_bool rfl (fun hc => ?_) (fun hc => ?_)) | fail)
    refine Fin.ret (Ent.trans (Ent.settle (s := 4) rfl goPk (by omega)) (Ent.take goTk)) (Outs.one rfl rfl) ⟨rfl, congrArg (Tr.sl 1) ?_⟩
    rw [hg]
    exact gb_ext fun j hj => hdone j (by omega)

theorem payable_fn (l : List Tube) (ho : TbOk l) (most : Nat) (hm : most ≤ 20000) : PFn Try.prog 38 [.tubes l, .int most] (· = .sl 1 (gb (canK l l.length) (most + 1))) := by
  refine PFn.mk (Spec.body Try.func38 rfl rfl (Try.ntmps38) rfl fun w0 own0 M => ?_)
  have hL : (l.map Tube.row).length = l.length := List.length_map _
  have hlen := ho.len
  have hrow0 : (List.replicate (((most : Int) + 1).toNat) (List.map Tr.raw [Value.bool false]))[(0 : Int).toNat]? = some [Tr.bool false] := by
    rw [show ((most : Int) + 1).toNat = most + 1 by omega]
    rfl
  repeat' (first | refine goH ?_ | refine goV ?_ | refine goB (fun b => ?_) | refine goC (fun ad cap => ?_) | refine goG ?_ | (refine Ops.k_guard ?_; first | (refine Ops.guard_dec rfl rfl (fun hc => ?_) (fun hc => ?_) <;> try (exfalso; omega)) | refine Ops.guard_split rfl rfl (fun hc => ?_) (fun hc => ?_)) | refine goI ?_ | (refine Cw.k_cond ?_; first | (refine Cw.cond_dec rfl (fun hc => ?_) (fun hc => ?_) <;> try (exfalso; omega)) | refine Cw.cond_bool rfl (fun hc => ?_) (fun hc => ?_)) | fail)
  rw [show ((most : Int) + 1).toNat = most + 1 by omega, gb_rep]
  refine Cw.loop (ι := Nat × List (List Tr)) (fun s => s.1 ≤ l.length ∧ ∃ g, s.2 = gb g (most + 1) ∧ ∀ a, a ≤ most → g a = canK l s.1 a)
    (fun s => [(1, .int most), (5, Tr.raw (.slice ad (most + 1) cap)), (15, .tubes l), (16, .int (l.map Tube.row).length), (17, .int s.1)])
    (fun s => [Chunk.own ad cap 1 4 s.2]) (fun s => l.length - s.1) ⟨(0, _), ⟨by simp only; omega, (fun i => if i = 0 then true else false), ?_, ?_⟩, (Ent.mk goSub goTk)⟩ ?_
  · exact gb_set
  · intro a ha
    rw [canK_zero]
    by_cases e : a = 0 <;> simp [e]
  clear hrow0
  rintro ⟨k, rows⟩ ⟨hk, g, hg, hdone⟩
  simp only at hk hg hdone ⊢
  have hrl : rows.length = most + 1 := by rw [hg]; simp
  by_cases hkl : ¬ k < l.length
  · have : k = l.length := by omega
    subst this
    repeat' (first | refine goH ?_ | refine goV ?_ | refine goB (fun b => ?_) | refine goC (fun ad cap => ?_) | refine goG ?_ | (refine Ops.k_guard ?_; first | (refine Ops.guard_dec rfl rfl (fun hc => ?_) (fun hc => ?_) <;> try (exfalso; omega)) | refine Ops.guard_split rfl rfl (fun hc => ?_) (fun hc => ?_)) | refine goI ?_ | (refine Cw.k_cond ?_; first | (refine Cw.cond_dec rfl (fun hc => ?_) (fun hc => ?_) <;> try (exfalso; omega)) | refine Cw.cond_bool rfl (fun hc => ?_) (fun hc => ?_)) | fail)
    refine Fin.ret (Ent.trans (Ent.settle (s := 4) rfl goPk (by omega)) (Ent.take goTk)) (Outs.one rfl rfl) ⟨rfl, congrArg (Tr.sl 1) ?_⟩
    rw [hg]
    exact gb_ext fun j hj => hdone j (by omega)
  obtain ⟨d, hd⟩ := at_lt (l := l) (k := k) (by omega)
  have hv := ho.val d (List.mem_of_getElem? hd)
  have hct := ho.cnt d (List.mem_of_getElem? hd)
  have hrow : (l.map Tube.row)[k]? = some [Tr.int d.val, Tr.int d.cnt, Tr.int d.most] := rows_at hd
  repeat' (first | refine goH ?_ | refine goV ?_ | refine goB (fun b => ?_) | refine goC (fun ad cap => ?_) | refine goG ?_ | (refine Ops.k_guard ?_; first | (refine Ops.guard_dec rfl rfl (fun hc => ?_) (fun hc => ?_) <;> try (exfalso; omega)) | refine Ops.guard_split rfl rfl (fun hc => ?_) (fun hc => ?_)) | refine goI ?_ | (refine Cw.k_cond ?_; first | (refine Cw.cond_dec rfl (fun hc => ?_) (fun hc => ?_) <;> try (exfalso; omega)) | refine Cw.cond_bool rfl (fun hc => ?_) (fun hc => ?_)) | fail)
  obtain ⟨v, hvv⟩ : ∃ v : Nat, d.val = (v : Int) := ⟨d.val.toNat, by omega⟩
  obtain ⟨c, hcc⟩ : ∃ c : Nat, d.cnt = (c : Int) := ⟨d.cnt.toNat, by omega⟩
  have hnext : ∀ a, canK l (k + 1) a = rch (canK l k) v c a := fun a => by
    have := canK_next ho hd a
    rwa [show d.val.toNat = v by omega, show d.cnt.toNat = c by omega] at this
  obtain ⟨dv, dc, dm⟩ := d
  simp only at hvv hcc hv hrow hct
  subst hvv hcc
  refine Cw.loop (ι := Nat × List (List Tr)) (fun s => s.1 ≤ c ∧ ∃ g, s.2 = gb g (most + 1) ∧ ∀ a, a ≤ most → g a = rch (canK l k) v s.1 a)
    (fun s => [(1, .int most), (5, Tr.raw (.slice ad (most + 1) cap)), (7, .ptr b), (15, .tubes l), (16, .int (l.map Tube.row).length), (17, .int k), (22, .int c), (23, .int s.1)])
    (fun s => [Chunk.own ad cap 1 4 s.2, Chunk.box b 46 [Tr.int v, Tr.int c, Tr.int dm]]) (fun s => c - s.1) ⟨(0, rows), ⟨by simp only; omega, g, hg, hdone⟩, (Ent.mk goSub goTk)⟩ ?_
  clear hg hdone hrl
  rintro ⟨j, rows⟩ ⟨hj, g, hg, hdone⟩
  simp only at hj hg hdone ⊢
  have hrl : rows.length = most + 1 := by rw [hg]; simp
  by_cases hjl : ¬ j < c
  · have : j = c := by omega
    subst this
    repeat' (first | refine goH ?_ | refine goV ?_ | refine goB (fun b => ?_) | refine goC (fun ad cap => ?_) | refine goG ?_ | (refine Ops.k_guard ?_; first | (refine Ops.guard_dec rfl rfl (fun hc => ?_) (fun hc => ?_) <;> try (exfalso; omega)) | refine Ops.guard_split rfl rfl (fun hc => ?_) (fun hc => ?_)) | refine goI ?_ | (refine Cw.k_cond ?_; first | (refine Cw.cond_dec rfl (fun hc => ?_) (fun hc => ?_) <;> try (exfalso; omega)) | refine Cw.cond_bool rfl (fun hc => ?_) (fun hc => ?_)) | fail)
    refine ⟨(k + 1, _), ?_, ?_, (Ent.mk goSub goTk)⟩
    · exact ⟨by simp only; omega, g, hg, fun a ha => by rw [hdone a ha, hnext]⟩
    · simp only; omega
  repeat' (first | refine goH ?_ | refine goV ?_ | refine goB (fun b => ?_) | refine goC (fun ad cap => ?_) | refine goG ?_ | (refine Ops.k_guard ?_; first | (refine Ops.guard_dec rfl rfl (fun hc => ?_) (fun hc => ?_) <;> try (exfalso; omega)) | refine Ops.guard_split rfl rfl (fun hc => ?_) (fun hc => ?_)) | refine goI ?_ | (refine Cw.k_cond ?_; first | (refine Cw.cond_dec rfl (fun hc => ?_) (fun hc => ?_) <;> try (exfalso; omega)) | refine Cw.cond_bool rfl (fun hc => ?_) (fun hc => ?_)) | fail)
  refine Cw.loop (ι := Nat × Bool × List (List Tr)) (fun s => s.1 ≤ most ∧ (∃ g, s.2.2 = gb g (most + 1) ∧ ∀ a, a ≤ most → g a = if s.1 < a then rch (canK l k) v (j + 1) a else rch (canK l k) v j a) ∧ (s.2.1 = false → ∀ a, a ≤ most → s.1 < a → rch (canK l k) v (j + 1) a = rch (canK l k) v j a))
    (fun s => [(1, .int most), (5, Tr.raw (.slice ad (most + 1) cap)), (7, .ptr b), (8, .bool s.2.1), (9, .int s.1), (15, .tubes l), (16, .int (l.map Tube.row).length), (17, .int k), (22, .int c), (23, .int j)])
    (fun s => [Chunk.own ad cap 1 4 s.2.2, Chunk.box b 46 [Tr.int v, Tr.int c, Tr.int dm]]) (fun s => s.1) ⟨(most, false, rows), ⟨Nat.le_refl _, ⟨g, hg, fun a ha => by rw [if_neg (by simp only; omega)]; exact hdone a ha⟩, fun _ a h1 h2 => absurd h2 (by simp only; omega)⟩, (Ent.mk goSub goTk)⟩ ?_
  clear hg hdone hrl
  rintro ⟨a, ch, rows⟩ ⟨ha, ⟨g, hg, hgv⟩, hfix⟩
  simp only at ha hg hgv hfix ⊢
  have hrl : rows.length = most + 1 := by rw [hg]; simp
  by_cases hav : v ≤ a
  · have hr1 : rows[((a : Int) - v).toNat]? = some [Tr.bool (g (a - v))] := by
      rw [hg, show ((a : Int) - v).toNat = a - v by omega]
      exact gb_get (by omega)
    have hr2 : rows[((a : Nat) : Int).toNat]? = some [Tr.bool (g a)] := by rw [hg]; exact gb_get (by omega)
    have e1 : g (a - v) = rch (canK l k) v j (a - v) := by rw [hgv _ (by omega), if_neg (by omega)]
    have e2 : g a = rch (canK l k) v j a := by rw [hgv _ ha, if_neg (by omega)]
    have e3 : rch (canK l k) v (j + 1) a = (g a || g (a - v)) := by rw [rch_succ, ← e2, ← e1, decide_eq_true hav, Bool.true_and]
    have hset : rows.set a [Tr.bool true] = gb (fun i => if i = a then true else g i) (most + 1) := by rw [hg, gb_set]
    have hpos : 0 < a := by omega
    have hca : ((a : Nat) : Int) - 1 = ((a - 1 : Nat) : Int) := by omega
    have hnx : ∀ (x : Nat), x ≤ most → x ≠ a → g x = if a - 1 < x then rch (canK l k) v (j + 1) x else rch (canK l k) v j x := fun x hx hxa => by
      rw [hgv x hx]
      by_cases h : a < x
      · rw [if_pos h, if_pos (by omega)]
      · rw [if_neg h, if_neg (by omega)]
    have hsame : (rch (canK l k) v (j + 1) a = rch (canK l k) v j a) → ch = false → ∀ x, x ≤ most → a - 1 < x → rch (canK l k) v (j + 1) x = rch (canK l k) v j x := fun h1 h2 x h3 h4 => by
      by_cases h : a < x
      · exact hfix h2 x h3 h
      · have : x = a := by omega
        subst this
        exact h1
    cases b1 : g (a - v)
    · rw [b1] at hr1 e3
      rw [Bool.or_false] at e3
      repeat' (first | refine goH ?_ | refine goV ?_ | refine goB (fun b => ?_) | refine goC (fun ad cap => ?_) | refine goG ?_ | (refine Ops.k_guard ?_; first | (refine Ops.guard_dec rfl rfl (fun hc => ?_) (fun hc => ?_) <;> try (exfalso; omega)) | refine Ops.guard_split rfl rfl (fun hc => ?_) (fun hc => ?_)) | refine goI ?_ | (refine Cw.k_cond ?_; first | (refine Cw.cond_dec rfl (fun hc => ?_) (fun hc => ?_) <;> try (exfalso; omega)) | refine Cw.cond_bool rfl (fun hc => ?_) (fun hc => ?_)) | fail)
      all_goals rw [hca]
      all_goals refine ⟨(a - 1, _, _), ?_, ?_, (Ent.mk goSub goTk)⟩
      all_goals first
        | (refine ⟨by simp only; omega, ⟨g, hg, fun x hx => ?_⟩, hsame (by rw [e3, e2])⟩
           by_cases hxa : x = a
           · subst hxa; rw [if_pos (by simp only; omega), e3]
           · exact hnx x hx hxa)
        | (simp only; omega)
    · cases b2 : g a
      · rw [b1] at hr1 e3
        rw [b2] at hr2 e3
        repeat' (first | refine goH ?_ | refine goV ?_ | refine goB (fun b => ?_) | refine goC (fun ad cap => ?_) | refine goG ?_ | (refine Ops.k_guard ?_; first | (refine Ops.guard_dec rfl rfl (fun hc => ?_) (fun hc => ?_) <;> try (exfalso; omega)) | refine Ops.guard_split rfl rfl (fun hc => ?_) (fun hc => ?_)) | refine goI ?_ | (refine Cw.k_cond ?_; first | (refine Cw.cond_dec rfl (fun hc => ?_) (fun hc => ?_) <;> try (exfalso; omega)) | refine Cw.cond_bool rfl (fun hc => ?_) (fun hc => ?_)) | fail)
        all_goals rw [hca]
        all_goals refine ⟨(a - 1, _, _), ?_, ?_, (Ent.mk goSub goTk)⟩
        all_goals first
          | (refine ⟨by simp only; omega, ⟨_, hset, fun x hx => ?_⟩, fun h => by simp at h⟩
             by_cases hxa : x = a
             · show (if x = a then true else g x) = if a - 1 < x then _ else _
               rw [if_pos hxa, if_pos (by omega), hxa, e3]; rfl
             · show (if x = a then true else g x) = if a - 1 < x then _ else _
               rw [if_neg hxa]; exact hnx x hx hxa)
          | (simp only; omega)
      · rw [b1] at hr1 e3
        rw [b2] at hr2 e3 e2
        repeat' (first | refine goH ?_ | refine goV ?_ | refine goB (fun b => ?_) | refine goC (fun ad cap => ?_) | refine goG ?_ | (refine Ops.k_guard ?_; first | (refine Ops.guard_dec rfl rfl (fun hc => ?_) (fun hc => ?_) <;> try (exfalso; omega)) | refine Ops.guard_split rfl rfl (fun hc => ?_) (fun hc => ?_)) | refine goI ?_ | (refine Cw.k_cond ?_; first | (refine Cw.cond_dec rfl (fun hc => ?_) (fun hc => ?_) <;> try (exfalso; omega)) | refine Cw.cond_bool rfl (fun hc => ?_) (fun hc => ?_)) | fail)
        all_goals rw [hca]
        all_goals refine ⟨(a - 1, _, _), ?_, ?_, (Ent.mk goSub goTk)⟩
        all_goals first
          | (refine ⟨by simp only; omega, ⟨g, hg, fun x hx => ?_⟩, hsame (by rw [e3, ← e2]; rfl)⟩
             by_cases hxa : x = a
             · subst hxa; rw [if_pos (by simp only; omega), e3, b2]; rfl
             · exact hnx x hx hxa)
          | (simp only; omega)
  · -- the pass is over
    have hall : ∀ x, x ≤ most → g x = rch (canK l k) v (j + 1) x := fun x hx => by
      rw [hgv x hx]
      by_cases h : a < x
      · rw [if_pos h]
      · rw [if_neg h, rch_succ, decide_eq_false (by omega), Bool.false_and, Bool.or_false]
    cases ch
    · have hsm : ∀ x, x ≤ most → rch (canK l k) v (j + 1) x = rch (canK l k) v j x := fun x hx => by
        by_cases h : a < x
        · exact hfix rfl x hx h
        · rw [rch_succ, decide_eq_false (by omega), Bool.false_and, Bool.or_false]
      repeat' (first | refine goH ?_ | refine goV ?_ | refine goB (fun b => ?_) | refine goC (fun ad cap => ?_) | refine goG ?_ | (refine Ops.k_guard ?_; first | (refine Ops.guard_dec rfl rfl (fun hc => ?_) (fun hc => ?_) <;> try (exfalso; omega)) | refine Ops.guard_split rfl rfl (fun hc => ?_) (fun hc => ?_)) | refine goI ?_ | (refine Cw.k_cond ?_; first | (refine Cw.cond_dec rfl (fun hc => ?_) (fun hc => ?_) <;> try (exfalso; omega)) | refine Cw.cond_bool rfl (fun hc => ?_) (fun hc => ?_)) | fail)
      refine ⟨(k + 1, _), ?_, ?_, (Ent.mk goSub goTk)⟩
      · refine ⟨by simp only; omega, g, hg, fun x hx => ?_⟩
        simp only
        rw [hall x hx, hnext, hsm x hx]
        have := rch_fix hsm (c - j) x hx
        rw [show j + (c - j) = c by omega] at this
        exact this.symm
      · simp only; omega
    · repeat' (first | refine goH ?_ | refine goV ?_ | refine goB (fun b => ?_) | refine goC (fun ad cap => ?_) | refine goG ?_ | (refine Ops.k_guard ?_; first | (refine Ops.guard_dec rfl rfl (fun hc => ?_) (fun hc => ?_) <;> try (exfalso; omega)) | refine Ops.guard_split rfl rfl (fun hc => ?_) (fun hc => ?_)) | refine goI ?_ | (refine Cw.k_cond ?_; first | (refine Cw.cond_dec rfl (fun hc => ?_) (fun hc => ?_) <;> try (exfalso; omega)) | refine Cw.cond_bool rfl (fun hc => ?_) (fun hc => ?_)) | fail)
      refine ⟨(j + 1, _), ?_, ?_, (Ent.mk goSub goTk)⟩
      · exact ⟨by simp only; omega, g, hg, hall⟩
      · simp only; omega
end Lg
end
section
set_option linter.all false
set_option maxRecDepth 100000
set_option maxHeartbeats 8000000
namespace Lg
open Go Go.Proofs

/-! ### coins go into tubes (the program's side) -/
theorem mulBd {a b A B : Int} (ha : 0 ≤ a ∧ a ≤ A) (hb : 0 ≤ b ∧ b ≤ B) : 0 ≤ a * b ∧ a * b ≤ A * B :=
  ⟨Int.mul_nonneg ha.1 hb.1, Int.mul_le_mul ha.2 hb.2 hb.1 (by omega)⟩
/-- a copy of its own -/
theorem clone_tube (rows : List (List Tr)) (hk : ∀ r ∈ rows, r.length = 3) (hl : rows.length ≤ 1000000) : PFnO Try.prog 36 [.sl 3 rows] 3 46 (· = rows) := by
  unfold PFnO
  refine Spec.body Try.func36 rfl rfl (Try.ntmps36) rfl fun w0 own0 M => ?_
  repeat' (first | refine goH ?_ | ((fail_if_success refine Ops.k_b_eql ?_); (fail_if_success refine Ops.k_buildSlice ?_); refine goV ?_) | ((fail_if_success refine Ops.k_b_eql ?_); (fail_if_success refine Ops.k_buildSlice ?_); refine goC (fun ad cap => ?_)) | refine goI ?_ | (refine Cw.k_cond ?_; first | (refine Cw.cond_dec rfl (fun hc => ?_) (fun hc => ?_) <;> try (exfalso; omega)) | refine Cw.cond_bool rfl (fun hc => ?_) (fun hc => ?_)) | fail)
  refine Ops.eql_nilS rfl rfl (fun b hb => ?_)
  cases b
  · repeat' (first | refine goH ?_ | ((fail_if_success refine Ops.k_buildSlice ?_); refine goV ?_) | ((fail_if_success refine Ops.k_buildSlice ?_); refine goC (fun ad cap => ?_)) | refine goI ?_ | (refine Cw.k_cond ?_; first | (refine Cw.cond_dec rfl (fun hc => ?_) (fun hc => ?_) <;> try (exfalso; omega)) | refine Cw.cond_bool rfl (fun hc => ?_) (fun hc => ?_)) | fail)
    refine Ops.buildSlice_own (by exact Parts.nil) rfl rfl rfl (fun ad cap => ?_)
    repeat' (first | refine goH ?_ | refine goV ?_ | refine goC (fun ad cap => ?_) | refine goI ?_ | (refine Cw.k_cond ?_; first | (refine Cw.cond_dec rfl (fun hc => ?_) (fun hc => ?_) <;> try (exfalso; omega)) | refine Cw.cond_bool rfl (fun hc => ?_) (fun hc => ?_)) | fail)
    exact Fin.ret (Ent.take goTk) (Outs.one rfl rfl) ⟨_, _, _, rfl, rfl, rfl⟩
  · have hr := hb rfl
    subst hr
    repeat' (first | refine goH ?_ | refine goV ?_ | refine goC (fun ad cap => ?_) | refine goI ?_ | (refine Cw.k_cond ?_; first | (refine Cw.cond_dec rfl (fun hc => ?_) (fun hc => ?_) <;> try (exfalso; omega)) | refine Cw.cond_bool rfl (fun hc => ?_) (fun hc => ?_)) | fail)
    exact Fin.ret (Ent.trans (Ent.nil 3 46) (Ent.take goTk)) (Outs.one rfl rfl) ⟨none, 0, [], rfl, rfl, rfl⟩

def stl1 (d : Tube) (a : Int) : Tube := { d with cnt := d.cnt + min a (d.most - d.cnt) }
def stlO (d : Tube) (a : Int) : Int := (a - min a (d.most - d.cnt)) * d.val
def stlT (T : List Tube) (A : List Int) : List Tube := T.zipWith stl1 A
def stlR (T : List Tube) (A : List Int) : Int := sumF id (T.zipWith stlO A)
theorem stlT_len (T : List Tube) (A : List Int) (h : A.length = T.length) : (stlT T A).length = T.length := by unfold stlT; rw [List.length_zipWith, h]; omega
theorem stlT_snoc {T : List Tube} {A : List Int} {k : Nat} {d : Tube} {a : Int} (hd : T[k]? = some d) (ha : A[k]? = some a) : stlT (T.take (k + 1)) (A.take (k + 1)) = stlT (T.take k) (A.take k) ++ [stl1 d a] := by
  have h1 := (List.getElem?_eq_some_iff.1 hd).1
  have h2 := (List.getElem?_eq_some_iff.1 ha).1
  unfold stlT
  rw [take_at hd, take_at ha, List.zipWith_append (by rw [List.length_take, List.length_take]; omega)]
  rfl
theorem stlR_snoc {T : List Tube} {A : List Int} {k : Nat} {d : Tube} {a : Int} (hd : T[k]? = some d) (ha : A[k]? = some a) : stlR (T.take (k + 1)) (A.take (k + 1)) = stlR (T.take k) (A.take k) + stlO d a := by
  have h1 := (List.getElem?_eq_some_iff.1 hd).1
  have h2 := (List.getElem?_eq_some_iff.1 ha).1
  unfold stlR
  rw [take_at hd, take_at ha, List.zipWith_append (by rw [List.length_take, List.length_take]; omega), sumF_app]
  simp [sumF]
/-- the first k tubes have their coins -/
def stlW (T : List Tube) (A : List Int) (k : Nat) : List Tube := stlT (T.take k) (A.take k) ++ T.drop k
theorem stlW_zero (T : List Tube) (A : List Int) : stlW T A 0 = T := by unfold stlW stlT; simp
theorem stlW_end (T : List Tube) (A : List Int) (h : A.length = T.length) : stlW T A T.length = stlT T A := by unfold stlW; rw [List.take_length, List.drop_length, List.append_nil, ← h, List.take_length]
theorem stlW_at {T : List Tube} {A : List Int} {k : Nat} {d : Tube} {a : Int} (hd : T[k]? = some d) (ha : A[k]? = some a) : (stlW T A k)[k]? = some d ∧ (stlW T A k).set k (stl1 d a) = stlW T A (k + 1) := by
  have h1 := (List.getElem?_eq_some_iff.1 hd).1
  have h2 := (List.getElem?_eq_some_iff.1 ha).1
  have hl : (stlT (T.take k) (A.take k)).length = k := by rw [stlT_len _ _ (by rw [List.length_take, List.length_take]; omega), List.length_take]; omega
  unfold stlW
  rw [stlT_snoc hd ha, drop_at hd]
  constructor
  · rw [List.getElem?_append_right (by omega), hl, Nat.sub_self]
    rfl
  · rw [List.set_append_right _ _ (by omega), hl, Nat.sub_self, List.append_assoc]
    rfl
theorem stlW_len {T : List Tube} {A : List Int} {k : Nat} (h : A.length = T.length) (hk : k ≤ T.length) : (stlW T A k).length = T.length := by
  unfold stlW
  rw [List.length_append, stlT_len _ _ (by rw [List.length_take, List.length_take]; omega), List.length_take, List.length_drop]
  omega
attribute [local irreducible] intRows
theorem settled_fn (T : List Tube) (A : List Int) (hl : T.length ≤ 10) (hA : A.length = T.length) (hT : ∀ d ∈ T, 1 ≤ d.val ∧ d.val ≤ 10000 ∧ 0 ≤ d.cnt ∧ d.cnt ≤ d.most ∧ d.most ≤ 1000) (hAb : ∀ a ∈ A, 0 ≤ a ∧ a ≤ 20000) :
    Spec Try.prog 28 [.tubes T, .ints A] [] (fun y cs => ∃ (ad : Option Addr) (cap : Nat), y = .tup [Tr.raw (.slice ad T.length cap), .int (stlR T A)] ∧ cs = [Chunk.own ad cap 3 46 ((stlT T A).map Tube.row)]) := by
  have kCl := clone_tube (T.map Tube.row) (by intro r hr; obtain ⟨d, _, rfl⟩ := List.mem_map.1 hr; rfl) (by rw [List.length_map]; omega)
  have hTr : (T.map Tube.row).length = T.length := List.length_map _
  refine Spec.body Try.func28 rfl rfl (Try.ntmps28) rfl fun w0 own0 M => ?_
  repeat' (first | refine goH ?_ | refine goV ?_ | refine goI ?_ | (refine Cw.k_cond ?_; first | (refine Cw.cond_dec rfl (fun hc => ?_) (fun hc => ?_) <;> try (exfalso; omega)) | refine Cw.cond_bool rfl (fun hc => ?_) (fun hc => ?_)) | (refine Ops.k_calla ?_; first | (refine Ops.k_callf 36 ?_; (refine Ops.callO kCl (Evs.cons rfl Evs.nil) rfl ?_; rintro ad cap rows rfl))) | refine goR ?_ | refine goP ?_ | apply PSeq.cons | apply PSeq.yes rfl rfl rfl | exact goW | fail)
  rw [hTr]
  refine Cw.loopI [(1, _), (6, _), (13, _)] _ (fun q e cc => ∃ (k : Nat) (s : Int) (W : List Tube), q = T.length - k ∧ (k ≤ T.length ∧ W = stlW T A k ∧ s = stlR (T.take k) (A.take k) ∧ 0 ≤ s ∧ s ≤ 200000000 * (k : Int)) ∧ e = [(7, .int s), (14, .int k)] ∧ cc = [Chunk.own ad cap 3 46 (W.map Tube.row)])
    ⟨_, _, _, (Ent.mkP goSub goPm), 0, 0, T, rfl, ⟨by omega, (stlW_zero T A).symm, rfl, by omega, by omega⟩, rfl, rfl⟩ ?_
  rintro _ _ _ ⟨k, s, W, rfl, ⟨hk, hW, hs, hs1, hs2⟩, rfl, rfl⟩
  have hWl : W.length = T.length := by rw [hW]; exact stlW_len hA hk
  have hWr : (W.map Tube.row).length = T.length := by rw [List.length_map, hWl]
  by_cases hkl : k < T.length
  · obtain ⟨d, hd⟩ := at_lt hkl
    obtain ⟨a, ha⟩ := at_lt (l := A) (k := k) (by omega)
    obtain ⟨hw1, hw2⟩ := stlW_at hd ha
    rw [← hW] at hw1 hw2
    have hTd := hT d (List.mem_of_getElem? hd)
    have hAa := hAb a (List.mem_of_getElem? ha)
    have hrow : (W.map Tube.row)[((k : Nat) : Int).toNat]? = some [.int d.val, .int d.cnt, .int d.most] := by rw [Int.toNat_natCast]; exact rows_at hw1
    have hrowA : (intRows A)[((k : Nat) : Int).toNat]? = some [.int a] := by rw [Int.toNat_natCast]; exact intRows_at ha
    have hAl : (intRows A).length = T.length := by rw [intRows_len, hA]
    have hsn := stlR_snoc hd ha
    rw [← hs] at hsn
    unfold stlO at hsn
    have hset : (W.map Tube.row).set k [.int d.val, .int (d.cnt + min a (d.most - d.cnt)), .int d.most] = (stlW T A (k + 1)).map Tube.row := by rw [← hw2, List.map_set]; rfl
    have hrow2 : ((stlW T A (k + 1)).map Tube.row)[((k : Nat) : Int).toNat]? = some [.int d.val, .int (d.cnt + min a (d.most - d.cnt)), .int d.most] := by
      rw [Int.toNat_natCast, ← hset, List.getElem?_set_self (by rw [hWr]; exact hkl)]
    have hmn : 0 ≤ min a (d.most - d.cnt) ∧ min a (d.most - d.cnt) ≤ a ∧ d.cnt + min a (d.most - d.cnt) ≤ d.most := by omega
    have hpr := mulBd (a := a - min a (d.most - d.cnt)) (b := d.val) (A := 20000) (B := 10000) (by omega) (by omega)
    have hW2l : ((stlW T A (k + 1)).map Tube.row).length = T.length := by rw [List.length_map]; exact stlW_len hA (by omega)
    have e1 : (W.map Tube.row).set ((k : Nat) : Int).toNat ([Tr.int d.val, Tr.int d.cnt, Tr.int d.most].set (0 + 1) (Tr.int (d.cnt + min a (d.most - d.cnt)))) = (stlW T A (k + 1)).map Tube.row := by rw [Int.toNat_natCast]; exact hset
    clear hT hAb hw1 hw2 hd ha hW hs hset
    repeat' (first | refine goH ?_ | (refine Ops.k_store ?_; first | (refine Ops.store_own1 rfl rfl goPk (by first | rfl | assumption | (simp [*]; done)) (by decide) ?_; rw [e1])) | refine goV ?_ | refine goI ?_ | (refine Cw.k_cond ?_; first | (refine Cw.cond_dec rfl (fun hc => ?_) (fun hc => ?_) <;> try (exfalso; omega)) | refine Cw.cond_bool rfl (fun hc => ?_) (fun hc => ?_)) | refine goR ?_ | refine goP ?_ | apply PSeq.cons | apply PSeq.yes rfl rfl rfl | exact goW | fail)
    have hsn2 : stlR (T.take (k + 1)) (A.take (k + 1)) = s + (a - min a (d.most - d.cnt)) * d.val := hsn
    clear hsn hrow hrow2 hrowA e1
    generalize (a - min a (d.most - d.cnt)) * d.val = pr at *
    exact ⟨_, _, _, (Ent.mk goSub goTk), ⟨k + 1, _, _, rfl, ⟨by omega, rfl, hsn2.symm, by omega, by omega⟩, rfl, rfl⟩, by omega⟩
  · have hke : k = T.length := by omega
    subst hke
    rw [stlW_end T A hA] at hW
    rw [List.take_length, ← hA, List.take_length] at hs
    subst hW
    rw [← hs]
    repeat' (first | refine goH ?_ | refine goV ?_ | refine goI ?_ | (refine Cw.k_cond ?_; first | (refine Cw.cond_dec rfl (fun hc => ?_) (fun hc => ?_) <;> try (exfalso; omega)) | refine Cw.cond_bool rfl (fun hc => ?_) (fun hc => ?_)) | refine goR ?_ | refine goP ?_ | apply PSeq.cons | apply PSeq.yes rfl rfl rfl | exact goW | fail)
    exact Fin.ret (Ent.take (Take.cons goPk Take.nil)) (Outs.two rfl rfl rfl) ⟨_, _, rfl, rfl⟩
end Lg
end
