/- A part of the proof of a law of this seat: it adds no condition. By an AI agent. -/
import Derived.Test.YthgcdnfhfejijaaGreatDoorDy3
section
set_option linter.all false
set_option maxRecDepth 100000
set_option maxHeartbeats 8000000
namespace Lg
open Go Go.Proofs

/-! ### what was counted otherwise -/
abbrev bdA (x : Int) : Bool := outB x 0 1000000000
def agE (c : Int) (o : List Int) (w : Int) : Int := if (o.length : Int) ≠ c then 3 else if o.any bdA = true ∨ bdA w = true then 1 else 0
def apK (w : Int) (own o : List Int) : Nat → List (Int × Int × Int)
 |0 => []
 |k + 1 => apK w own o k ++ (if w < max (ix o k - ix own k) (ix own k - ix o k) then [((k : Int), ix own k, ix o k)] else [])
abbrev prA (p : Int × Int × Int) : List Tr := [.int p.1, .int p.2.1, .int p.2.2]
theorem apK_len (w : Int) (own o : List Int) : ∀ k, (apK w own o k).length ≤ k
 |0 => by simp [apK]
 |k + 1 => by
  have := apK_len w own o k
  unfold apK
  rw [List.length_append]
  split <;> simp <;> omega
theorem agC_fn (x : Int) : PFn Tryz.prog 31 [.int x] (· = .bool (bdA x)) := by
 refine PFn.mk (Spec.body Tryz.func31 rfl rfl (Tryz.ntmps31) rfl fun w0 own0 M => ?_)
 repeat' (first | refine goH ?_ | refine goV ?_ | refine goI ?_ | (refine Cw.k_cond ?_; first | (refine Cw.cond_dec rfl ?_ ?_ <;> intro hc <;> try omega) | refine Cw.cond_bool rfl ?_ ?_ <;> intro hc) | (refine Ops.k_calla ?_; first | (refine Ops.k_callf 32 ?_; refine Ops.callV (out_fn _ _ _) (Evs.cons rfl (Evs.cons rfl (Evs.cons rfl Evs.nil))) rfl ?_)) | fail)
 exact Fin.ret (Ent.take goTk) (Outs.one rfl rfl) ⟨rfl, rfl⟩
theorem agreeD_fn {c t f : Int} (L : List Rdg) (own : List Int) (kS : PFn Tryz.prog 14 [.mtr c t f, .sl 2 (L.map Rdg.row)] (· = .tup [.ints own, .int 0])) (hol : (own.length : Int) = c) (hob : ∀ x ∈ own, 0 ≤ x ∧ x ≤ 1000000000) (o : List Int) (ho : o.length ≤ 1000) (w : Int) (hg : agE c o w = 0) :
  PFn Tryz.prog 15 [.mtr c t f, .sl 2 (L.map Rdg.row), .ints o, .int w] (· = .tup [.sl 3 ((apK w own o o.length).map prA), .int 0]) := by
 have hO := intRows_len o
 have hW := intRows_len own
 unfold agE at hg
 have h1 : (o.length : Int) = c := by
  by_cases h : (o.length : Int) = c
  ·exact h
  ·rw [if_pos h] at hg; cases hg
 rw [if_neg (fun h => h h1)] at hg
 have h2 : ¬ (o.any bdA = true ∨ bdA w = true) := fun h => by rw [if_pos h] at hg; cases hg
 have h3 : o.any bdA = false := by cases h : o.any bdA; rfl; exact absurd (.inl h) h2
 have h4 : bdA w = false := by cases h : bdA w; rfl; exact absurd (.inr h) h2
 have hxb : ∀ x ∈ o, 0 ≤ x ∧ x ≤ 1000000000 := fun x hx => by
  have := List.any_eq_false.1 h3 x hx
  simp [bdA, outB] at this
  omega
 have k3 : Spec Tryz.prog 30 [.ints o, Tr.raw (.func (.func 31) #[] #[])] [] (fun x cs => x = .bool (o.any bdA) ∧ cs = []) := containsFunc_int (p := bdA) (caps := []) (cin := []) (l := o) (by omega) (fun x _ => (agC_fn x).lend)
 have k4 := out_fn w 0 1000000000
 rw [h3] at k3
 rw [show outB w 0 1000000000 = false from h4] at k4
 clear hg h2 h3 h4
 refine PFn.mk (Spec.body Tryz.func15 rfl rfl (Tryz.ntmps15) rfl fun w0 own0 M => ?_)
 repeat' (first | refine goH ?_ | refine goV ?_ | refine goB (fun b => ?_) | refine goC (fun ad cap => ?_) | refine goG ?_ | (refine Ops.k_guard ?_; first | (refine Ops.guard_dec rfl rfl ?_ ?_ <;> intro hc <;> try omega) | refine Ops.guard_split rfl rfl ?_ ?_ <;> intro hc) | refine goI ?_ | (refine Cw.k_cond ?_; first | (refine Cw.cond_dec rfl ?_ ?_ <;> intro hc <;> try omega) | refine Cw.cond_bool rfl ?_ ?_ <;> intro hc) | (refine Ops.k_calla ?_; first | refine Ops.callV kS (Evs.cons rfl (Evs.cons rfl Evs.nil)) rfl ?_ | (refine Ops.k_callf 30 ?_; refine Ops.callS k3 (Evs.cons rfl (Evs.cons rfl Evs.nil)) (List.Perm.refl _) rfl ?_) | (refine Ops.k_callf 32 ?_; refine Ops.callV k4 (Evs.cons rfl (Evs.cons rfl (Evs.cons rfl Evs.nil))) rfl ?_)) | (apply OpW.k_call; first | exact OpW.callV kS (Evs.cons rfl (Evs.cons rfl Evs.nil)) | (apply OpW.k_callf 30; exact OpW.callS k3 (Evs.cons rfl (Evs.cons rfl Evs.nil)) (List.Perm.refl _)) | (apply OpW.k_callf 32; exact OpW.callV k4 (Evs.cons rfl (Evs.cons rfl (Evs.cons rfl Evs.nil))))) | refine goR ?_ | refine goP ?_ | apply PSeq.cons | apply PSeq.yes rfl rfl rfl | exact goW | fail)
 refine Cw.loopI [(3, _), (10, _), (35, _), (36, _)] _ (fun q e cc => ∃ (k : Nat) (ad : Option Addr) (cap n : Nat) (rows : List (List Tr)), q = o.length - k ∧ (k ≤ o.length ∧ rows = (apK w own o k).map prA ∧ n = rows.length) ∧ e = [(12, Tr.raw (.slice ad n cap)), (37, .int k)] ∧ cc = [Chunk.own ad cap 3 96 rows])
  ⟨_, _, _, Ent.trans (Ent.nil 3 96) (Ent.mkP goSub goPm), 0, none, 0, 0, [], rfl, ⟨by omega, rfl, rfl⟩, rfl, rfl⟩ ?_
 rintro _ _ _ ⟨k, ad, cap, n, rows, rfl, ⟨hk, hrows, hn⟩, rfl, rfl⟩
 by_cases hkl : k < o.length
 ·have r1 : (intRows o)[k]? = some [Tr.int (ix o k)] := ixR hkl
  have r2 : (intRows own)[((k : Nat) : Int).toNat]? = some [Tr.int (ix own k)] := by rw [Int.toNat_natCast]; exact ixR (by omega)
  have b1 := hxb _ (List.mem_of_getElem? (ix_lt hkl))
  have b2 := hob _ (List.mem_of_getElem? (ix_lt (L := own) (i := k) (by omega)))
  have hrn : rows.length ≤ 1000 := by have := apK_len w own o k; rw [hrows, List.length_map]; omega
  have hst : apK w own o (k + 1) = apK w own o k ++ (if w < max (ix o k - ix own k) (ix own k - ix o k) then [((k : Int), ix own k, ix o k)] else []) := rfl
  by_cases hc : w < max (ix o k - ix own k) (ix own k - ix o k)
  ·rw [if_pos hc] at hst
   have hr2 : rows ++ [[Tr.int (k : Int), Tr.int (ix own k), Tr.int (ix o k)]] = (apK w own o (k + 1)).map prA := by rw [hst, List.map_append, hrows]; rfl
   generalize ix o k = x at *
   generalize ix own k = y at *
   clear hst hrows
   repeat' (first | refine goH ?_ | refine goV ?_ | refine goB (fun b => ?_) | refine goC (fun ad cap => ?_) | refine goG ?_ | (refine Ops.k_guard ?_; first | (refine Ops.guard_dec rfl rfl ?_ ?_ <;> intro hc <;> try omega) | refine Ops.guard_split rfl rfl ?_ ?_ <;> intro hc) | refine goI ?_ | (refine Cw.k_cond ?_; first | (refine Cw.cond_dec rfl ?_ ?_ <;> intro hc <;> try omega) | refine Cw.cond_bool rfl ?_ ?_ <;> intro hc) | refine goR ?_ | refine goP ?_ | apply PSeq.cons | apply PSeq.yes rfl rfl rfl | exact goW | fail)
   exact ⟨_, _, _, (Ent.mk goSub goTk), ⟨k + 1, _, _, _, _, rfl, ⟨by omega, hr2, rfl⟩, rfl, rfl⟩, by omega⟩
  ·rw [if_neg hc, List.append_nil] at hst
   rw [← hst] at hrows
   generalize ix o k = x at *
   generalize ix own k = y at *
   clear hst
   repeat' (first | refine goH ?_ | refine goV ?_ | refine goB (fun b => ?_) | refine goC (fun ad cap => ?_) | refine goG ?_ | (refine Ops.k_guard ?_; first | (refine Ops.guard_dec rfl rfl ?_ ?_ <;> intro hc <;> try omega) | refine Ops.guard_split rfl rfl ?_ ?_ <;> intro hc) | refine goI ?_ | (refine Cw.k_cond ?_; first | (refine Cw.cond_dec rfl ?_ ?_ <;> intro hc <;> try omega) | refine Cw.cond_bool rfl ?_ ?_ <;> intro hc) | refine goR ?_ | refine goP ?_ | apply PSeq.cons | apply PSeq.yes rfl rfl rfl | exact goW | fail)
   exact ⟨_, _, _, (Ent.mk goSub goTk), ⟨k + 1, _, _, _, _, rfl, ⟨by omega, hrows, hn⟩, rfl, rfl⟩, by omega⟩
 ·rw [show k = o.length by omega] at hrows
  subst hn
  subst hrows
  repeat' (first | refine goH ?_ | refine goV ?_ | refine goB (fun b => ?_) | refine goC (fun ad cap => ?_) | refine goG ?_ | (refine Ops.k_guard ?_; first | (refine Ops.guard_dec rfl rfl ?_ ?_ <;> intro hc <;> try omega) | refine Ops.guard_split rfl rfl ?_ ?_ <;> intro hc) | refine goI ?_ | (refine Cw.k_cond ?_; first | (refine Cw.cond_dec rfl ?_ ?_ <;> intro hc <;> try omega) | refine Cw.cond_bool rfl ?_ ?_ <;> intro hc) | refine goR ?_ | refine goP ?_ | apply PSeq.cons | apply PSeq.yes rfl rfl rfl | exact goW | fail)
  refine Fin.ret (Ent.trans (Ent.settle (s := 8) rfl goPk rfl) (Ent.take goTk)) (Outs.many rfl (OutL.cons goOe (OutL.cons goOe OutL.nil)) rfl) ⟨rfl, rfl⟩
end Lg
end
section
set_option linter.all false
set_option maxRecDepth 100000
set_option maxHeartbeats 8000000
namespace Lg
open Go Go.Proofs

/-! ### what counters that are read say of what was sold (plain law) -/
abbrev Nt := Int × Int × Int
def ntR (x : Nt) : Rdg := ⟨x.1, [x.2.1 % 10, x.2.2 % 10]⟩
structure NtS (x y : Nt) : Prop where
 t : x.1 < y.1
 a : x.2.1 ≤ y.2.1 ∧ y.2.1 ≤ x.2.1 + 9
 b : x.2.2 ≤ y.2.2 ∧ y.2.2 ≤ x.2.2 + 9
def NtC : List Nt → Prop
 |x :: y :: l => NtS x y ∧ NtC (y :: l)
 |_ => True
theorem NtC.tail {x : Nt} {l : List Nt} (h : NtC (x :: l)) : NtC l := by
 cases l with
 |nil => trivial
 |cons y l => exact h.2
theorem NtC.snoc : ∀ {l : List Nt} {y : Nt}, NtC l → (∀ x, l.getLast? = some x → NtS x y) → NtC (l ++ [y])
 |[], y, _, _ => trivial
 |[x], y, _, h => ⟨h x rfl, trivial⟩
 |x :: z :: l, y, hc, h => ⟨hc.1, NtC.snoc (l := z :: l) hc.2 (fun w hw => h w (by rw [List.getLast?_cons_cons]; exact hw))⟩
theorem NtC.asc : ∀ {l : List Nt} {x : Nt}, NtC (x :: l) → ∀ y ∈ l, x.1 < y.1
 |[], x, _, y, hy => by cases hy
 |z :: l, x, h, y, hy => by
  rcases List.mem_cons.1 hy with rfl | h1
  ·exact h.1.t
  ·have := h.1.t
   have := NtC.asc h.2 y h1
   omega
theorem NtC.pw : ∀ {l : List Nt}, NtC l → (l.map ntR).Pairwise fun a b => a.t < b.t
 |[], _ => List.Pairwise.nil
 |x :: l, h => by
  rw [List.map_cons, List.pairwise_cons]
  refine ⟨fun b hb => ?_, h.tail.pw⟩
  obtain ⟨y, hy, rfl⟩ := List.mem_map.1 hb
  exact h.asc y hy
theorem firstE_allT {e : Nat → Int} : ∀ (n k : Nat), (∀ j, k ≤ j → j < k + n → e j = 0) → firstE e k n = 0
 |0, k, _ => rfl
 |n + 1, k, h => by
  rw [firstE, h k (by omega) (by omega), if_neg (by decide)]
  exact firstE_allT n (k + 1) (fun j h1 h2 => h j (by omega) (by omega))
theorem dedA_all : ∀ (l acc : List Rdg), ((acc ++ l).Pairwise fun a b => a.t < b.t) → dedA acc l = some (acc ++ l)
 |[], acc, _ => by rw [dedA, List.append_nil]
 |r :: l, acc, h => by
  have h2 : ((acc ++ [r]) ++ l).Pairwise fun a b => a.t < b.t := by rw [List.append_assoc]; exact h
  have h3 := dedA_all l (acc ++ [r]) h2
  rw [dedA]
  cases hx : acc.getLast? with
  |none => simp only; rw [h3, List.append_assoc]; rfl
  |some x =>
   have hlt := (List.pairwise_append.1 h).2.2 x (List.mem_of_getLast? hx) r (by simp)
   simp only
   rw [if_neg (by omega), h3, List.append_assoc]
   rfl
theorem rdg_uniq {D L : List Rdg} (hp : L.Perm D) (ha : D.Pairwise fun a b => a.t < b.t) : isort rlt L = D := by
 refine sorted_uniq (le := fun a b : Rdg => a.t ≤ b.t) ((isort_perm rlt L).trans hp) ?_ (isort_key_sorted (key := Rdg.t) L) (ha.imp fun h => by omega)
 intro a ha2 b hb h1 h2
 have hn : (D.map Rdg.t).Nodup := by
  unfold List.Nodup
  rw [List.pairwise_map]
  exact ha.imp fun h => by omega
 exact key_inj hn a (by first | exact ha2 | exact (((isort_perm rlt L).trans hp).mem_iff).1 ha2) b (by first | exact hb | exact (((isort_perm rlt L).trans hp).mem_iff).1 hb) (by omega)
theorem nt_sort {N : List Nt} {L : List Rdg} (hp : L.Perm (N.map ntR)) (hc : NtC N) (hl : N.length ≤ 12) (ht : ∀ x ∈ N, 0 ≤ x.1 ∧ x.1 < 5761440) : srtO 2 10 9 L = .tup [.sl 2 ((N.map ntR).map Rdg.row), .int 0] := by
 have hlen : L.length = N.length := by rw [hp.length_eq, List.length_map]
 refine srtO_yes ?_ (by rw [rdg_uniq hp hc.pw]; exact dedA_all _ [] hc.pw)
 unfold rdsE
 rw [if_neg (by decide), if_neg (by omega)]
 refine firstE_allT _ _ fun j h1 h2 => ?_
 unfold rdgAt
 cases hr : L[j]? with
 |none => rfl
 |some r =>
  obtain ⟨x, hx, rfl⟩ := List.mem_map.1 ((hp.mem_iff).1 (List.mem_of_getElem? hr))
  have := ht x hx
  simp only
  unfold rdgE
  rw [if_neg (by decide), if_neg (by show ¬ ¬ (0 ≤ x.1 ∧ x.1 < 5761440); omega), if_neg (by show ¬ ((2 : Int) ≠ 2); omega), if_neg]
  unfold valB ntR
  simp
  omega
theorem nt_step {x y : Nt} (h : NtS x y) (h0 : 0 ≤ x.1) : stpOf 10 9 (ntR x) (ntR y) = ⟨x.1, y.1, false, [y.2.1 - x.2.1, y.2.2 - x.2.2]⟩ := by
 have ht := h.t
 have ha := h.a
 have hb := h.b
 have d1 : difE 10 (x.2.1 % 10) (y.2.1 % 10) = y.2.1 - x.2.1 := by unfold difE; split <;> omega
 have d2 : difE 10 (x.2.2 % 10) (y.2.2 % 10) = y.2.2 - x.2.2 := by unfold difE; split <;> omega
 have hd : difL 10 (ntR x).vs (ntR y).vs = [y.2.1 - x.2.1, y.2.2 - x.2.2] := by
  show [difE 10 (x.2.1 % 10) (y.2.1 % 10), difE 10 (x.2.2 % 10) (y.2.2 % 10)] = _
  rw [d1, d2]
 have hl : limE 10 9 x.1 y.1 = 9 := by unfold limE; omega
 unfold stpOf
 rw [hd, show (ntR x).t = x.1 from rfl, show (ntR y).t = y.1 from rfl, hl, if_neg]
 unfold overB
 simp
 omega
theorem nt_steps : ∀ {N : List Nt} {x : Nt}, NtC (x :: N) → (∀ y ∈ x :: N, 0 ≤ y.1) → ∀ p q : Int, soldF [p, q] (stpsOf 10 9 ((x :: N).map ntR)) = [p + (((x :: N).getLast (by simp)).2.1 - x.2.1), q + (((x :: N).getLast (by simp)).2.2 - x.2.2)]
 |[], x, _, _, p, q => by
  show [p, q] = _
  simp
 |y :: N, x, hc, h0, p, q => by
  rw [List.map_cons, List.map_cons, stpsOf, soldF, nt_step hc.1 (h0 x (by simp)), ← List.map_cons, show addL [p, q] (Stp.s ⟨x.1, y.1, false, [y.2.1 - x.2.1, y.2.2 - x.2.2]⟩) = [p + (y.2.1 - x.2.1), q + (y.2.2 - x.2.2)] from rfl, nt_steps hc.2 (fun z hz => h0 z (List.mem_cons_of_mem _ hz))]
  rw [List.getLast_cons (List.cons_ne_nil y N)]
  congr 1
  ·omega
  ·congr 1; omega
theorem nt_sold {N : List Nt} {x : Nt} (hc : NtC (x :: N)) (h0 : ∀ y ∈ x :: N, 0 ≤ y.1) (ha : x.2.1 = 0) (hb : x.2.2 = 0) : soldL 2 10 9 ((x :: N).map ntR) = [((x :: N).getLast (by simp)).2.1, ((x :: N).getLast (by simp)).2.2] := by
 unfold soldL
 have := nt_steps hc h0 0 0
 rw [show List.replicate (2 : Int).toNat (0 : Int) = [0, 0] from rfl, this, ha, hb]
 simp
theorem apK_same (o : List Int) : ∀ k, apK 0 o o k = []
 |0 => rfl
 |k + 1 => by rw [apK, apK_same o k, if_neg (by omega)]; rfl
/-! ### shares add up to the total -/
theorem sumL_add {out : List Int} {i : Int} (h : 0 ≤ i ∧ i < out.length) : sumL (addOne out i) = sumL out + 1 := by
 obtain ⟨k, rfl⟩ := Int.eq_ofNat_of_zero_le h.1
 have hk : k < out.length := by omega
 obtain ⟨v, hv⟩ := at_lt hk
 unfold addOne
 rw [Int.toNat_natCast, List.getD_eq_getElem?_getD, hv]
 simp only [Option.getD_some]
 have e1 : out = out.take k ++ v :: out.drop (k + 1) := by rw [← drop_at hv, List.take_append_drop]
 have e2 : out.set k (v + 1) = out.take k ++ (v + 1) :: out.drop (k + 1) := by
  have hl : (out.take k).length = k := by rw [List.length_take]; omega
  conv => lhs; rw [e1]
  rw [List.set_append_right _ _ (by omega), hl, Nat.sub_self, List.set_cons_zero]
 rw [e2]
 conv => rhs; rw [e1]
 rw [sumL_app, sumL_app, sumL_cons, sumL_cons]
 omega
theorem sumL_shF : ∀ (l out : List Int), (∀ i ∈ l, 0 ≤ i ∧ i < out.length) → sumL (shF out l) = sumL out + l.length
 |[], out, _ => by rw [shF]; simp
 |i :: l, out, h => by
  have hl : (addOne out i).length = out.length := by unfold addOne; rw [List.length_set]
  rw [shF, sumL_shF l _ (fun j hj => by rw [hl]; exact h j (by simp [hj])), sumL_add (h i (by simp)), List.length_cons]
  omega
theorem shG_sum {t : Int} {ws : List Int} (hs : 1 ≤ sumL ws) (hn : 1 ≤ ws.length) : sumL (shG t ws) = t := by
 have h1 := sh_left (t := t) hs hn
 have h2 := shOrdN_ok t (sumL ws) ws
 have hb : (shBase t (sumL ws) ws).length = ws.length := by unfold shBase; rw [List.length_map]
 have hl : ((shOrdN t (sumL ws) ws).take (shLeft t (sumL ws) ws).toNat).length = (shLeft t (sumL ws) ws).toNat := by rw [List.length_take, h2.len]; omega
 unfold shG
 rw [sumL_shF _ _ (fun i hi => by rw [hb]; exact h2.mem i (List.mem_of_mem_take hi)), hl]
 unfold shLeft at h1 ⊢
 omega
/-! ### days add up -/
def sumP (m : PI) : Int := sumL (m.map Prod.snd)
theorem sumP_cons (q : Int × Int) (m : PI) : sumP (q :: m) = q.2 + sumP m := rfl
theorem sumP_add (a v : Int) : ∀ m : PI, sumP (mUp a (mI a m + v) m) = sumP m + v := by
 have h : ∀ (m : PI) (u : Int), sumP (mUp a u m) = sumP m - mI a m + u := by
  intro m
  induction m with
  |nil => intro u; rw [mUp, mI, sumP_cons]; show u + 0 = 0 - 0 + u; omega
  |cons q m ih =>
   intro u
   rw [mUp, mI]
   by_cases e : a = q.1
   ·rw [if_pos e, if_pos e, sumP_cons, sumP_cons]; show u + _ = _; omega
   ·rw [if_neg e, if_neg e, sumP_cons, sumP_cons, ih u]; omega
 intro m
 rw [h m]
 omega
theorem sumP_dyF (f : Int) : ∀ (l : List Int) (i : Nat) (m : PI), sumP (dyF f i l m) = sumP m + sumL l
 |[], i, m => by rw [dyF, sumL_nil]; omega
 |n :: l, i, m => by
  rw [dyF, sumP_dyF f l, sumL_cons]
  unfold mAdd
  rw [sumP_add]
  omega
theorem sumP_dyL : ∀ {N : List Nt} {x : Nt}, NtC (x :: N) → (∀ y ∈ x :: N, 0 ≤ y.1) → ∀ m : PI, sumP (dyL 0 (stpsOf 10 9 ((x :: N).map ntR)) m) = sumP m + (((x :: N).getLast (by simp)).2.1 - x.2.1)
 |[], x, _, _, m => by
  show sumP m = _
  simp
 |y :: N, x, hc, h0, m => by
  rw [List.map_cons, List.map_cons, stpsOf, dyL, nt_step hc.1 (h0 x (by simp)), ← List.map_cons, sumP_dyL hc.2 (fun z hz => h0 z (List.mem_cons_of_mem _ hz))]
  unfold dyS
  have hab : 0 ≤ x.1 ∧ x.1 ≤ y.1 := ⟨h0 x (by simp), by have := hc.1.t; omega⟩
  have hsum := mins_sum x.1 y.1 hab
  have hlen := minsK_len x.1 y.1 (nDays x.1 y.1)
  have hnd := nDays_eq hab
  have ht := hc.1.t
  rw [sumP_dyF, shG_sum (by show 1 ≤ sumL (mins x.1 y.1); omega) (by show 1 ≤ (minsK x.1 y.1 (nDays x.1 y.1)).length; omega), List.getLast_cons (List.cons_ne_nil y N)]
  show sumP m + (y.2.1 - x.2.1) + _ = _
  omega
theorem mUp_nn {a v : Int} (hv : 0 ≤ v) {m : PI} (h : ∀ q ∈ m, 0 ≤ q.2) : ∀ q ∈ mUp a v m, 0 ≤ q.2 := mAll_up (p := fun q => 0 ≤ q.2) hv h
theorem dyF_nn (f : Int) : ∀ (l : List Int) (i : Nat) (m : PI), (∀ x ∈ l, 0 ≤ x) → (∀ q ∈ m, 0 ≤ q.2) → ∀ q ∈ dyF f i l m, 0 ≤ q.2
 |[], i, m, _, h => by rw [dyF]; exact h
 |n :: l, i, m, hl, h => by
  rw [dyF]
  refine dyF_nn f l _ _ (fun x hx => hl x (by simp [hx])) ?_
  unfold mAdd
  have := hl n (by simp)
  have h3 := mI_all (a := f + i) (p := fun v => 0 ≤ v) (by omega) h
  exact mUp_nn (by omega) h
theorem dyL_nn {c t f : Int} {cc : Nat} : ∀ (S : List Stp), (∀ s ∈ S, StD s cc) → ∀ m : PI, (∀ q ∈ m, 0 ≤ q.2) → ∀ q ∈ dyL 0 S m, 0 ≤ q.2
 |[], _, m, h => by rw [dyL]; exact h
 |s :: S, hS, m, h => by
  rw [dyL]
  refine dyL_nn (c := c) (t := t) (f := f) S (fun s hs => hS s (by simp [hs])) _ ?_
  have hs := hS s (by simp)
  have hab : 0 ≤ s.a ∧ s.a ≤ s.b := ⟨hs.a0, by have := hs.ab; omega⟩
  have hsum := mins_sum s.a s.b hab
  have hnd := nDays_eq hab
  have hlen := minsK_len s.a s.b (nDays s.a s.b)
  have hmb := minsK_bd s.a s.b (nDays s.a s.b) hab
  have h1 := hs.ab
  have h2 := hs.b1
  have h3 := hs.a0
  have hv : 0 ≤ s.s.getD 0 0 ∧ s.s.getD 0 0 ≤ 1000000 := by
   rw [List.getD_eq_getElem?_getD]
   cases hg : s.s[0]? with
   |none => simp
   |some z => exact hs.v z (List.mem_of_getElem? hg)
  unfold dyS
  exact dyF_nn _ _ _ _ (fun x hx => (shG_bd hv hmb (by show 1 ≤ sumL (mins s.a s.b); omega) (by rw [hlen]; omega) x hx).1) h
theorem sumP_filter : ∀ m : PI, (∀ q ∈ m, 0 ≤ q.2) → sumP (m.filter pz) = sumP m
 |[], _ => rfl
 |q :: m, h => by
  have h1 := h q (by simp)
  have h2 := sumP_filter m (fun p hp => h p (by simp [hp]))
  rw [List.filter_cons]
  by_cases e : 0 < q.2
  ·rw [if_pos (by unfold pz; simpa using e), sumP_cons, sumP_cons, h2]
  ·rw [if_neg (by unfold pz; simpa using e), sumP_cons, h2]; omega
theorem sumL_perm {a b : List Int} (h : a.Perm b) : sumL a = sumL b := by
 induction h with
 |nil => rfl
 |cons x _ ih => rw [sumL_cons, sumL_cons, ih]
 |swap x y l => rw [sumL_cons, sumL_cons, sumL_cons, sumL_cons]; omega
 |trans _ _ h1 h2 => rw [h1, h2]
theorem sumP_dyV {m : PI} (h : ∀ q ∈ m, 0 ≤ q.2) : sumP (dyV m) = sumP m := by
 unfold dyV
 rw [← sumP_filter m h]
 exact sumL_perm ((isort_perm ltP _).map Prod.snd)
end Lg
end
section
set_option linter.all false
set_option maxRecDepth 100000
set_option maxHeartbeats 4000000
namespace Lg
open Go Go.Proofs

structure Tube where
 val : Int
 cnt : Int
 most : Int
def Tube.row (d : Tube) : List Tr := [Tr.int d.val, Tr.int d.cnt, Tr.int d.most]
abbrev Tr.tubes (l : List Tube) : Tr := Tr.sl 3 (l.map Tube.row)

def tubeGo : Option Int → List Tube → Int
 |_, [] => 0
 |prev, d :: l => if d.val < 1 ∨ 10000 < d.val then 1 else if prev.any (fun p => decide (d.val ≤ p)) = true then 7 else if d.most < 0 ∨ 1000 < d.most ∨ d.cnt < 0 ∨ d.most < d.cnt then 1 else tubeGo (some d.val) l
def tubesErr (l : List Tube) : Int := if 10 < l.length then 2 else tubeGo none l
def prevVal (l : List Tube) (k : Nat) : Option Int := if k = 0 then none else (l[k - 1]?).map (·.val)

structure TbOk (l : List Tube) : Prop where
 len : l.length ≤ 10
 val : ∀ d ∈ l, 1 ≤ d.val ∧ d.val ≤ 10000
 cnt : ∀ d ∈ l, 0 ≤ d.cnt ∧ d.cnt ≤ d.most ∧ d.most ≤ 1000

theorem tubeGo_right : ∀ {l : List Tube} {prev : Option Int}, tubeGo prev l = 0 → ∀ d ∈ l, (1 ≤ d.val ∧ d.val ≤ 10000) ∧ (0 ≤ d.cnt ∧ d.cnt ≤ d.most ∧ d.most ≤ 1000)
 |[], _, _, d, hd => by simp at hd
 |x :: l, prev, h, d, hd => by
  unfold tubeGo at h
  split at h
  ·omega
  split at h
  ·omega
  split at h
  ·omega
  rename_i h1 h2 h3
  rcases List.mem_cons.1 hd with rfl | hd
  ·omega
  ·exact tubeGo_right h d hd
theorem tubesErr_ok {l : List Tube} (h : tubesErr l = 0) : TbOk l := by
 unfold tubesErr at h
 split at h
 ·omega
 rename_i h1
 exact ⟨by omega, fun d hd => (tubeGo_right h d hd).1, fun d hd => (tubeGo_right h d hd).2⟩

theorem checkTubes_fn (l : List Tube) : PFn Tryz.prog 46 [.tubes l] (· = .int (tubesErr l)) := by
 refine PFn.mk (Spec.body Tryz.func46 rfl rfl (Tryz.ntmps46) rfl fun w0 own0 M => ?_)
 have hL : (l.map Tube.row).length = l.length := List.length_map _
 repeat' (first | refine goH ?_ | refine goV ?_ | refine goB (fun b => ?_) | refine goG ?_ | (refine Ops.k_guard ?_; first | (refine Ops.guard_dec rfl rfl ?_ ?_ <;> intro hc <;> try omega) | refine Ops.guard_split rfl rfl ?_ ?_ <;> intro hc) | refine goI ?_ | (refine Cw.k_cond ?_; first | (refine Cw.cond_dec rfl ?_ ?_ <;> intro hc <;> try omega) | refine Cw.cond_bool rfl ?_ ?_ <;> intro hc) | refine goR ?_ | refine goP ?_ | apply PSeq.cons | apply PSeq.yes rfl rfl rfl | exact goW | fail)
 ·exact Fin.ret Ent.refl (Outs.one rfl rfl) ⟨rfl, by unfold tubesErr; rw [if_pos (by omega)]⟩
 have h4 : ¬ 10 < l.length := by omega
 refine Cw.loop (ι := Nat) (fun k => k ≤ l.length ∧ tubesErr l = tubeGo (prevVal l k) (l.drop k)) (fun k => [(0, .tubes l), (8, .tubes l), (9, .int (l.map Tube.row).length), (10, .int k)]) (fun _ => []) (fun k => l.length - k) ⟨0, ⟨by omega, by unfold tubesErr; rw [if_neg h4]; simp [prevVal]⟩, (Ent.mk goSub goTk)⟩ ?_
 rintro k ⟨hk, hfin⟩
 by_cases hkl : k < l.length
 ·obtain ⟨d, hd⟩ := at_lt hkl
  have hrow : (l.map Tube.row)[k]? = some [Tr.int d.val, Tr.int d.cnt, Tr.int d.most] := rows_at hd
  have hnext : prevVal l (k + 1) = some d.val := by simp [prevVal, hd]
  rw [drop_at hd] at hfin
  unfold tubeGo at hfin
  have o1 := out_fn d.val 1 10000
  have o2 := out_fn d.most 0 1000
  have o3 := out_fn d.cnt 0 d.most
  by_cases hk0 : k = 0
  ·subst hk0
   simp only [prevVal, if_true, Option.any_none, Bool.false_eq_true, if_false] at hfin
   repeat' (first | refine goH ?_ | refine goV ?_ | refine goB (fun b => ?_) | refine goG ?_ | (refine Ops.k_guard ?_; first | (refine Ops.guard_dec rfl rfl ?_ ?_ <;> intro hc <;> try omega) | refine Ops.guard_split rfl rfl ?_ ?_ <;> intro hc) | refine goI ?_ | (refine Cw.k_cond ?_; first | (refine Cw.cond_dec rfl ?_ ?_ <;> intro hc <;> try omega) | refine Cw.cond_bool rfl ?_ ?_ <;> intro hc) | (refine Ops.k_calla ?_; first | (refine Ops.k_callf 32 ?_; refine Ops.callV o1 (Evs.cons rfl (Evs.cons rfl (Evs.cons rfl Evs.nil))) rfl ?_) | (refine Ops.k_callf 32 ?_; refine Ops.callV o2 (Evs.cons rfl (Evs.cons rfl (Evs.cons rfl Evs.nil))) rfl ?_) | (refine Ops.k_callf 32 ?_; refine Ops.callV o3 (Evs.cons rfl (Evs.cons rfl (Evs.cons rfl Evs.nil))) rfl ?_)) | (apply OpW.k_call; first | (apply OpW.k_callf 32; exact OpW.callV o1 (Evs.cons rfl (Evs.cons rfl (Evs.cons rfl Evs.nil)))) | (apply OpW.k_callf 32; exact OpW.callV o2 (Evs.cons rfl (Evs.cons rfl (Evs.cons rfl Evs.nil)))) | (apply OpW.k_callf 32; exact OpW.callV o3 (Evs.cons rfl (Evs.cons rfl (Evs.cons rfl Evs.nil))))) | refine goR ?_ | refine goP ?_ | apply PSeq.cons | apply PSeq.yes rfl rfl rfl | exact goW | fail)
   all_goals (try simp only [outB_eq, outB_f, Bool.not_eq_true] at *)
   all_goals first
    |(refine Fin.ret (Ent.take goTk) (Outs.one rfl rfl) ⟨rfl, congrArg Tr.int ?_⟩; rw [hfin]; (repeat' split) <;> first | rfl | omega)
    |(refine ⟨1, ⟨by omega, ?_⟩, by omega, (Ent.mk goSub goTk)⟩; rw [hnext]; rw [hfin]; (repeat' split) <;> first | rfl | omega)
  ·obtain ⟨d', hd'⟩ := at_lt (l := l) (k := k - 1) (by omega)
   have hrow' : (l.map Tube.row)[((k : Int) - 1).toNat]? = some [Tr.int d'.val, Tr.int d'.cnt, Tr.int d'.most] := by rw [show ((k : Int) - 1).toNat = k - 1 by omega]; exact rows_at hd'
   simp only [prevVal, hk0, if_false, hd', Option.map_some, Option.any_some, decide_eq_true_eq] at hfin
   repeat' (first | refine goH ?_ | refine goV ?_ | refine goB (fun b => ?_) | refine goG ?_ | (refine Ops.k_guard ?_; first | (refine Ops.guard_dec rfl rfl ?_ ?_ <;> intro hc <;> try omega) | refine Ops.guard_split rfl rfl ?_ ?_ <;> intro hc) | refine goI ?_ | (refine Cw.k_cond ?_; first | (refine Cw.cond_dec rfl ?_ ?_ <;> intro hc <;> try omega) | refine Cw.cond_bool rfl ?_ ?_ <;> intro hc) | (refine Ops.k_calla ?_; first | (refine Ops.k_callf 32 ?_; refine Ops.callV o1 (Evs.cons rfl (Evs.cons rfl (Evs.cons rfl Evs.nil))) rfl ?_) | (refine Ops.k_callf 32 ?_; refine Ops.callV o2 (Evs.cons rfl (Evs.cons rfl (Evs.cons rfl Evs.nil))) rfl ?_) | (refine Ops.k_callf 32 ?_; refine Ops.callV o3 (Evs.cons rfl (Evs.cons rfl (Evs.cons rfl Evs.nil))) rfl ?_)) | (apply OpW.k_call; first | (apply OpW.k_callf 32; exact OpW.callV o1 (Evs.cons rfl (Evs.cons rfl (Evs.cons rfl Evs.nil)))) | (apply OpW.k_callf 32; exact OpW.callV o2 (Evs.cons rfl (Evs.cons rfl (Evs.cons rfl Evs.nil)))) | (apply OpW.k_callf 32; exact OpW.callV o3 (Evs.cons rfl (Evs.cons rfl (Evs.cons rfl Evs.nil))))) | refine goR ?_ | refine goP ?_ | apply PSeq.cons | apply PSeq.yes rfl rfl rfl | exact goW | fail)
   all_goals (try simp only [outB_eq, outB_f, Bool.not_eq_true] at *)
   all_goals first
    |(refine Fin.ret (Ent.take goTk) (Outs.one rfl rfl) ⟨rfl, congrArg Tr.int ?_⟩; rw [hfin]; (repeat' split) <;> first | rfl | omega)
    |(refine ⟨k + 1, ⟨by omega, ?_⟩, by omega, (Ent.mk goSub goTk)⟩; rw [hnext]; rw [hfin]; (repeat' split) <;> first | rfl | omega)
 ·rw [List.drop_eq_nil_of_le (by omega), tubeGo] at hfin
  repeat' (first | refine goH ?_ | refine goV ?_ | refine goB (fun b => ?_) | refine goG ?_ | (refine Ops.k_guard ?_; first | (refine Ops.guard_dec rfl rfl ?_ ?_ <;> intro hc <;> try omega) | refine Ops.guard_split rfl rfl ?_ ?_ <;> intro hc) | refine goI ?_ | (refine Cw.k_cond ?_; first | (refine Cw.cond_dec rfl ?_ ?_ <;> intro hc <;> try omega) | refine Cw.cond_bool rfl ?_ ?_ <;> intro hc) | refine goR ?_ | refine goP ?_ | apply PSeq.cons | apply PSeq.yes rfl rfl rfl | exact goW | fail)
  refine Fin.ret (Ent.take goTk) (Outs.one rfl rfl) ⟨rfl, congrArg Tr.int ?_⟩
  rw [hfin]
end Lg
end
