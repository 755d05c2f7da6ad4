/- A part of the proof of a law of this seat: it adds no condition. By an AI agent. -/
import Derived.Test.YtcojnmobcfpeeaaDoorVm1
section
set_option linter.all false
set_option maxRecDepth 100000
set_option maxHeartbeats 4000000
namespace Lg
open Go Go.Proofs

def nev : Int := 1073741824
def gl (g : Nat → Int) (n : Nat) : List Int := (List.range n).map g
@[simp] theorem gl_len (g : Nat → Int) (n : Nat) : (gl g n).length = n := by simp [gl]
theorem gl_get {g : Nat → Int} {n j : Nat} (h : j < n) : (gl g n)[j]? = some (g j) := by
 unfold gl
 rw [List.getElem?_map, List.getElem?_range h]
 rfl
theorem glR_get {g : Nat → Int} {n j : Nat} (h : j < n) : (intRows (gl g n))[j]? = some [Tr.int (g j)] := intRows_at (gl_get h)
@[simp] theorem glR_len (g : Nat → Int) (n : Nat) : (intRows (gl g n)).length = n := by rw [intRows_len, gl_len]
theorem glR_set {g : Nat → Int} {n j : Nat} {x : Int} : (intRows (gl g n)).set j [Tr.int x] = intRows (gl (fun i => if i = j then x else g i) n) := by
 apply List.ext_getElem?
 intro i
 by_cases hi : i < n
 ·rw [glR_get hi, List.getElem?_set]
  by_cases e : j = i
  ·subst e; simp [hi]
  ·rw [if_neg e, glR_get hi, if_neg (fun h => e h.symm)]
 ·rw [List.getElem?_eq_none (by simp; omega), List.getElem?_eq_none (by simp; omega)]
theorem glR_rep (n : Nat) : List.replicate n [Tr.int 0] = intRows (gl (fun _ => 0) n) := by
 apply List.ext_getElem?
 intro i
 by_cases hi : i < n
 ·rw [glR_get hi, List.getElem?_replicate, if_pos hi]
 ·rw [List.getElem?_eq_none (by simp; omega), List.getElem?_eq_none (by simp; omega)]
theorem glR_rep' (n : Nat) : List.replicate n (List.map Tr.raw [Value.int IntKind.i64 0]) = intRows (gl (fun _ => 0) n) := glR_rep n
theorem gl_ext {f g : Nat → Int} {n : Nat} (h : ∀ j, j < n → f j = g j) : gl f n = gl g n := by
 unfold gl
 exact List.map_congr_left fun j hj => h j (by simpa using hj)

def qrows (q : List (Nat × Int)) : List (List Tr) := q.map fun e => [Tr.int (e.1 : Int), Tr.int e.2]
@[simp] theorem qrows_len (q : List (Nat × Int)) : (qrows q).length = q.length := by simp [qrows]
theorem qrows_app (q p : List (Nat × Int)) : qrows (q ++ p) = qrows q ++ qrows p := by simp [qrows]

theorem further_fn (f : Nat → Int) (N v c : Nat) (mo : Int) (hv : 1 ≤ v ∧ v ≤ 10000) (hc : c ≤ 1000) (hN : N ≤ 20001) (hb : ∀ a, 0 ≤ f a ∧ f a ≤ 1073741824) :
  PFn Tryd.prog 76 [.ints (gl f N), .agg [Tr.int (v : Int), Tr.int (c : Int), Tr.int mo]] (· = .ints (gl (fur nev f v c) N)) := by
 refine PFn.mk (Spec.body Tryd.func76 rfl rfl (Tryd.ntmps76) rfl fun w0 own0 M => ?_)
 have hL := glR_len f N
 repeat' (first | refine goH ?_ | refine goV ?_ | refine goB (fun b => ?_) | refine goC (fun ad cap => ?_) | refine goD (fun ad o cap => ?_) | refine goG ?_ | (refine Ops.k_guard ?_; first | (refine Ops.guard_dec rfl rfl ?_ ?_ <;> intro hc <;> try omega) | refine Ops.guard_split rfl rfl ?_ ?_ <;> intro hc) | refine goI ?_ | (refine Cw.k_cond ?_; first | (refine Cw.cond_dec rfl ?_ ?_ <;> intro hc <;> try omega) | refine Cw.cond_bool rfl ?_ ?_ <;> intro hc) | refine goR ?_ | refine goP ?_ | apply PSeq.cons | apply PSeq.yes rfl rfl rfl | exact goW | fail)

 rw [show ((intRows (gl f N)).length : Int).toNat = N by omega, glR_rep']
 refine Cw.loop (ι := Nat × List (List Tr)) (fun s => s.1 ≤ v ∧ ∃ g, s.2 = intRows (gl g N) ∧ ∀ a, a < N → a % v < s.1 → g a = fur nev f v c a)
  (fun s => [(0, .ints (gl f N)), (3, .ptr b), (5, Tr.raw (.slice ad N cap)), (6, .int s.1)])
  (fun s => [Chunk.own ad cap 1 3 s.2, Chunk.box b 65 [Tr.int (v : Int), Tr.int (c : Int), Tr.int mo]]) (fun s => v - s.1) ⟨(0, _), ⟨by omega, _, rfl, fun a _ h => absurd h (by omega)⟩, (Ent.mk goSub goTk)⟩ ?_
 rintro ⟨r, rows⟩ ⟨hr, g, hg, hdone⟩
 simp only at hr hg hdone ⊢
 by_cases hrv : ¬ (r < v ∧ r < N)

 ·repeat' (first | refine goH ?_ | refine goV ?_ | refine goB (fun b => ?_) | refine goC (fun ad cap => ?_) | refine goD (fun ad o cap => ?_) | refine goG ?_ | (refine Ops.k_guard ?_; first | (refine Ops.guard_dec rfl rfl ?_ ?_ <;> intro hc <;> try omega) | refine Ops.guard_split rfl rfl ?_ ?_ <;> intro hc) | refine goI ?_ | (refine Cw.k_cond ?_; first | (refine Cw.cond_dec rfl ?_ ?_ <;> intro hc <;> try omega) | refine Cw.cond_bool rfl ?_ ?_ <;> intro hc) | refine goR ?_ | refine goP ?_ | apply PSeq.cons | apply PSeq.yes rfl rfl rfl | exact goW | fail)
  all_goals (have hrl : rows.length = N := by rw [hg]; simp)
  all_goals (refine Fin.ret (Ent.trans (Ent.settle (s := 4) rfl goPk (by omega)) (Ent.take goTk)) (Outs.one rfl rfl) ⟨rfl, congrArg (Tr.sl 1) ?_⟩)
  all_goals (rw [hg]; refine congrArg intRows (gl_ext fun j hj => hdone j hj ?_))
  ·have := Nat.mod_le j v; omega
  ·have := Nat.mod_lt j (show v > 0 by omega); omega
 have hrv' : r < v ∧ r < N := by omega
 repeat' (first | refine goH ?_ | refine goV ?_ | refine goB (fun b => ?_) | refine goC (fun ad cap => ?_) | refine goD (fun ad o cap => ?_) | refine goG ?_ | (refine Ops.k_guard ?_; first | (refine Ops.guard_dec rfl rfl ?_ ?_ <;> intro hc <;> try omega) | refine Ops.guard_split rfl rfl ?_ ?_ <;> intro hc) | refine goI ?_ | (refine Cw.k_cond ?_; first | (refine Cw.cond_dec rfl ?_ ?_ <;> intro hc <;> try omega) | refine Cw.cond_bool rfl ?_ ?_ <;> intro hc) | refine goR ?_ | refine goP ?_ | apply PSeq.cons | apply PSeq.yes rfl rfl rfl | exact goW | fail)
 refine Cw.loop (ι := Nat × Nat × (Option Addr × Nat × Nat) × (List (Nat × Int) × (Nat → Int)) × List (List Tr) × List (List Tr))
  (fun s => FV nev f N v c r s.1 s.2.1 s.2.2.2.1.1 s.2.2.2.1.2 ∧ s.2.2.2.2.1 = qrows s.2.2.2.1.1 ∧ s.2.2.2.2.2 = intRows (gl s.2.2.2.1.2 N))
  (fun s => [(0, .ints (gl f N)), (3, .ptr b), (5, Tr.raw (.slice ad N cap)), (6, .int r), (7, .qsl s.2.2.1.1 s.2.2.1.2.1 2 s.2.2.2.2.1.length s.2.2.1.2.2), (8, .int s.1), (9, .int s.2.1)])
  (fun s => [Chunk.que s.2.2.1.1 s.2.2.1.2.1 s.2.2.1.2.2 2 121 s.2.2.2.2.1, Chunk.own ad cap 1 3 s.2.2.2.2.2, Chunk.box b 65 [Tr.int (v : Int), Tr.int (c : Int), Tr.int mo]]) (fun s => N - s.2.1)
  ⟨(0, r, (none, 0, 0), ([], g), [], rows), ⟨FV.start hrv'.2 hrv'.1 hdone, rfl, hg⟩, Ent.trans (Ent.nilq 2 121 (s := 7) rfl) (Ent.mk goSub goTk)⟩ ?_
 rintro ⟨m, A, ⟨qa, qo, qc⟩, ⟨q, g2⟩, qr, rows2⟩ ⟨hF, hqr, hg2⟩
 simp only at hF hqr hg2 ⊢
 by_cases hA : ¬ A < N
 ·repeat' (first | refine goH ?_ | refine goV ?_ | refine goB (fun b => ?_) | refine goC (fun ad cap => ?_) | refine goD (fun ad o cap => ?_) | refine goG ?_ | (refine Ops.k_guard ?_; first | (refine Ops.guard_dec rfl rfl ?_ ?_ <;> intro hc <;> try omega) | refine Ops.guard_split rfl rfl ?_ ?_ <;> intro hc) | refine goI ?_ | (refine Cw.k_cond ?_; first | (refine Cw.cond_dec rfl ?_ ?_ <;> intro hc <;> try omega) | refine Cw.cond_bool rfl ?_ ?_ <;> intro hc) | refine goR ?_ | refine goP ?_ | apply PSeq.cons | apply PSeq.yes rfl rfl rfl | exact goW | fail)
  refine ⟨(r + 1, _), ⟨by omega, g2, hg2, fun a ha h => hF.fin a ha ?_⟩, by simp only; omega, (Ent.mk goSub goTk)⟩
  simp only at h
  omega
 replace hA : A < N := by omega
 have hlim := hF.lim
 have hpos := hF.pos
 have hmN : m ≤ A := by rw [hpos]; have := Nat.le_mul_of_pos_right m (show 0 < v by omega); omega
 have hfA : (intRows (gl f N))[((A : Nat) : Int).toNat]? = some [Tr.int (f A)] := glR_get hA
 have hfb := hb A
 repeat' (first | refine goH ?_ | refine goV ?_ | refine goB (fun b => ?_) | refine goC (fun ad cap => ?_) | refine goD (fun ad o cap => ?_) | refine goG ?_ | (refine Ops.k_guard ?_; first | (refine Ops.guard_dec rfl rfl ?_ ?_ <;> intro hc <;> try omega) | refine Ops.guard_split rfl rfl ?_ ?_ <;> intro hc) | refine goI ?_ | (refine Cw.k_cond ?_; first | (refine Cw.cond_dec rfl ?_ ?_ <;> intro hc <;> try omega) | refine Cw.cond_bool rfl ?_ ?_ <;> intro hc) | refine goR ?_ | refine goP ?_ | apply PSeq.cons | apply PSeq.yes rfl rfl rfl | exact goW | fail)
 obtain ⟨x, hx⟩ : ∃ x, x = f A - m := ⟨_, rfl⟩
 have hFm : f (r + m * v) - m = x := by rw [← hpos, hx]
 rw [← hx]
 refine Cw.loop (ι := List (Nat × Int) × List (List Tr)) (fun s => s.2 = qrows s.1 ∧ QOk (fun j => f (r + j * v) - j) (m - 1 - c) m s.1 ∧ QMeets (fun j => f (r + j * v) - j) (m - 1 - c) m s.1 x)
  (fun s => [(0, .ints (gl f N)), (3, .ptr b), (5, Tr.raw (.slice ad N cap)), (6, .int r), (7, .qsl qa qo 2 s.2.length qc), (8, .int m), (9, .int A), (10, .int x)])
  (fun s => [Chunk.que qa qo qc 2 121 s.2, Chunk.own ad cap 1 3 rows2, Chunk.box b 65 [Tr.int (v : Int), Tr.int (c : Int), Tr.int mo]]) (fun s => s.1.length)
  ⟨(q, qr), ⟨hqr, hF.ok, fun j h1 h2 => .inl (hF.meets j h1 h2)⟩, (Ent.mk goSub goTk)⟩ ?_
 clear hqr hfA
 rintro ⟨q2, qr2⟩ ⟨hqr, hok2, hm2⟩
 simp only at hqr hok2 hm2 ⊢
 subst hqr
 have hql := qrows_len q2
 have hqlen := hok2.len (by omega)
 by_cases hpop : ∃ q3 e, q2 = q3 ++ [e] ∧ x ≤ e.2
 ·obtain ⟨q3, e, rfl, he⟩ := hpop
  have hql2 : (qrows (q3 ++ [e])).length = q3.length + 1 := by simp
  have hql5 : (q3 ++ [e]).length = q3.length + 1 := by simp
  have hrow : (qrows (q3 ++ [e]))[(((qrows (q3 ++ [e])).length : Int) - 1).toNat]? = some [Tr.int (e.1 : Int), Tr.int e.2] := by
   rw [hql2, show (((q3.length + 1 : Nat) : Int) - 1).toNat = q3.length by omega, qrows_app, List.getElem?_append_right (by simp)]
   simp [qrows]
  have htake : (qrows (q3 ++ [e])).take (((qrows (q3 ++ [e])).length : Int) - 1).toNat = qrows q3 := by
   rw [hql2, show (((q3.length + 1 : Nat) : Int) - 1).toNat = q3.length by omega, qrows_app, List.take_left' (by simp)]
  repeat' (first | refine goH ?_ | refine goV ?_ | refine goB (fun b => ?_) | refine goC (fun ad cap => ?_) | refine goD (fun ad o cap => ?_) | refine goG ?_ | (refine Ops.k_guard ?_; first | (refine Ops.guard_dec rfl rfl ?_ ?_ <;> intro hc <;> try omega) | refine Ops.guard_split rfl rfl ?_ ?_ <;> intro hc) | refine goI ?_ | (refine Cw.k_cond ?_; first | (refine Cw.cond_dec rfl ?_ ?_ <;> intro hc <;> try omega) | refine Cw.cond_bool rfl ?_ ?_ <;> intro hc) | refine goR ?_ | refine goP ?_ | apply PSeq.cons | apply PSeq.yes rfl rfl rfl | exact goW | fail)
  exact ⟨(q3, _), ⟨htake, hok2.pop, hm2.pop he⟩, by simp, (Ent.mk goSub goTk)⟩
 have hlast : ∀ e, q2.getLast? = some e → e.2 < f (r + m * v) - m := by
  intro e he
  rw [hFm]
  rcases (show e.2 < x ∨ x ≤ e.2 by omega) with h | h
  ·exact h
  ·obtain ⟨q3, rfl⟩ := List.getLast?_eq_some_iff.1 he
   exact absurd ⟨q3, e, rfl, h⟩ hpop
 have hok4 := hok2.push (at' := m) hlast (by omega)
 rw [← hFm] at hm2
 have hm4 := hm2.push'
 rw [hFm] at hok4 hm4
 have hq4 : qrows q2 ++ [[Tr.int (m : Int), Tr.int x]] = qrows (q2 ++ [(m, x)]) := by rw [qrows_app]; rfl
 have hql4 : (qrows q2 ++ [[Tr.int (m : Int), Tr.int x]]).length = q2.length + 1 := by simp
 obtain ⟨e0, q1, he0⟩ : ∃ e0 q1, q2 ++ [(m, x)] = e0 :: q1 := by
  cases q2 with
  |nil => exact ⟨_, _, rfl⟩
  |cons a l => exact ⟨_, _, rfl⟩
 rw [he0] at hok4 hm4 hq4
 have hrow0 : (qrows q2 ++ [[Tr.int (m : Int), Tr.int x]])[(0 : Int).toNat]? = some [Tr.int (e0.1 : Int), Tr.int e0.2] := by rw [hq4]; rfl
 have hrowA : rows2[((A : Nat) : Int).toNat]? = some [Tr.int (g2 A)] := by rw [hg2]; exact glR_get hA
 have hrl2 : rows2.length = N := by rw [hg2]; simp
 have hb0 : -20001 ≤ e0.2 ∧ e0.2 ≤ 1073741824 ∧ e0.1 ≤ m := by
  obtain ⟨h1, h2, h3⟩ := hok4.num e0 (by simp)
  have := hb (r + e0.1 * v)
  omega
 have hset : ∀ y : Int, rows2.set A [Tr.int y] = intRows (gl (fun i => if i = A then y else g2 i) N) := fun y => by rw [hg2, glR_set]
 rcases List.eq_nil_or_concat q2 with hq | ⟨q3, e, hq⟩
 ·subst hq
  have hql6 : (qrows []).length = 0 := rfl
  simp only [List.nil_append, List.cons.injEq] at he0
  obtain ⟨rfl, rfl⟩ := he0
  have hs : ¬ ((m : Int) < m - c) := by omega
  repeat' (first | refine goH ?_ | refine goV ?_ | refine goB (fun b => ?_) | refine goC (fun ad cap => ?_) | refine goD (fun ad o cap => ?_) | refine goG ?_ | (refine Ops.k_guard ?_; first | (refine Ops.guard_dec rfl rfl ?_ ?_ <;> intro hc <;> try omega) | refine Ops.guard_split rfl rfl ?_ ?_ <;> intro hc) | refine goI ?_ | (refine Cw.k_cond ?_; first | (refine Cw.cond_dec rfl ?_ ?_ <;> intro hc <;> try omega) | refine Cw.cond_bool rfl ?_ ?_ <;> intro hc) | refine goR ?_ | refine goP ?_ | apply PSeq.cons | apply PSeq.yes rfl rfl rfl | exact goW | fail)
  refine ⟨(m + 1, A + v, (_, _, _), ([(m, x)], fun i => if i = A then min (x + m) nev else g2 i), _, _), ?_, ?_, (Ent.mk goSub goTk)⟩
  ·exact ⟨hF.next hrv'.1 hA (hok4.stay (by simp only; omega)) (fun j h1 h2 => hm4 j (by omega) h2), hq4, hset _⟩
  ·simp only; omega
 ·rw [List.concat_eq_append] at hq
  have hrow : (qrows q2)[(((qrows q2).length : Int) - 1).toNat]? = some [Tr.int (e.1 : Int), Tr.int e.2] := by
   rw [hql, hq, show (((q3 ++ [e]).length : Int) - 1).toNat = q3.length by simp, qrows_app, List.getElem?_append_right (by simp)]
   simp [qrows]
  have hql3 : q2.length = q3.length + 1 := by rw [hq]; simp
  have hlt : e.2 < x := by have := hlast e (by rw [hq]; simp); omega
  by_cases hs : (e0.1 : Int) < m - c
  ·obtain ⟨e1, q5, rfl⟩ : ∃ e1 q5, q1 = e1 :: q5 := by
    cases q1 with
    |nil =>
     have := congrArg List.length he0
     rw [List.length_append] at this
     simp only [List.length_cons, List.length_nil] at this
     omega
    |cons e1 q5 => exact ⟨_, _, rfl⟩
   have hrow1 : ((qrows q2 ++ [[Tr.int (m : Int), Tr.int x]]).drop ((1 : Int).toNat))[(0 : Int).toNat]? = some [Tr.int (e1.1 : Int), Tr.int e1.2] := by rw [hq4]; rfl
   have hb1 : -20001 ≤ e1.2 ∧ e1.2 ≤ 1073741824 ∧ e1.1 ≤ m := by
    obtain ⟨h1, h2, h3⟩ := hok4.num e1 (by simp)
    have := hb (r + e1.1 * v)
    omega
   repeat' (first | refine goH ?_ | refine goV ?_ | refine goB (fun b => ?_) | refine goC (fun ad cap => ?_) | refine goD (fun ad o cap => ?_) | refine goG ?_ | (refine Ops.k_guard ?_; first | (refine Ops.guard_dec rfl rfl ?_ ?_ <;> intro hc <;> try omega) | refine Ops.guard_split rfl rfl ?_ ?_ <;> intro hc) | refine goI ?_ | (refine Cw.k_cond ?_; first | (refine Cw.cond_dec rfl ?_ ?_ <;> intro hc <;> try omega) | refine Cw.cond_bool rfl ?_ ?_ <;> intro hc) | refine goR ?_ | refine goP ?_ | apply PSeq.cons | apply PSeq.yes rfl rfl rfl | exact goW | fail)
   refine ⟨(m + 1, A + v, (_, _, _), (e1 :: q5, fun i => if i = A then min (e1.2 + m) nev else g2 i), _, _), ?_, ?_, (Ent.mk goSub goTk)⟩
   ·refine ⟨hF.next hrv'.1 hA (hok4.shift (by omega) (by omega)) (fun j h1 h2 => ?_), ?_, hset _⟩
    ·obtain ⟨d, hd, h3, h4⟩ := hm4 j (by omega) h2
     rcases List.mem_cons.1 hd with rfl | hd
     ·omega
     ·exact ⟨d, hd, h3, h4⟩
    ·exact congrArg (List.drop 1) hq4
   ·simp only; omega
  ·repeat' (first | refine goH ?_ | refine goV ?_ | refine goB (fun b => ?_) | refine goC (fun ad cap => ?_) | refine goD (fun ad o cap => ?_) | refine goG ?_ | (refine Ops.k_guard ?_; first | (refine Ops.guard_dec rfl rfl ?_ ?_ <;> intro hc <;> try omega) | refine Ops.guard_split rfl rfl ?_ ?_ <;> intro hc) | refine goI ?_ | (refine Cw.k_cond ?_; first | (refine Cw.cond_dec rfl ?_ ?_ <;> intro hc <;> try omega) | refine Cw.cond_bool rfl ?_ ?_ <;> intro hc) | refine goR ?_ | refine goP ?_ | apply PSeq.cons | apply PSeq.yes rfl rfl rfl | exact goW | fail)
   refine ⟨(m + 1, A + v, (_, _, _), (e0 :: q1, fun i => if i = A then min (e0.2 + m) nev else g2 i), _, _), ?_, ?_, (Ent.mk goSub goTk)⟩
   ·exact ⟨hF.next hrv'.1 hA (hok4.stay (by omega)) (fun j h1 h2 => hm4 j (by omega) h2), hq4, hset _⟩
   ·simp only; omega
end Lg
end
section
set_option linter.all false
set_option maxRecDepth 100000
set_option maxHeartbeats 4000000
namespace Lg
open Go Go.Proofs

def vc (l : List Tube) : List (Nat × Nat) := l.map fun d => (d.val.toNat, d.cnt.toNat)
@[simp] theorem vc_len (l : List Tube) : (vc l).length = l.length := by simp [vc]
/-- the row of the table behind k tubes -/
def payK (N : Int) (l : List Tube) (k : Nat) : Nat → Int := pay N (zeroPay N) ((vc l).take k)
def tabRows (N : Int) (l : List Tube) (n k : Nat) : List (List Tr) := (List.range (k + 1)).map fun j => [Tr.ints (gl (payK N l j) n)]
@[simp] theorem tabRows_len (N : Int) (l : List Tube) (n k : Nat) : (tabRows N l n k).length = k + 1 := by simp [tabRows]
theorem tabRows_next (N : Int) (l : List Tube) (n k : Nat) : tabRows N l n (k + 1) = tabRows N l n k ++ [[Tr.ints (gl (payK N l (k + 1)) n)]] := by
 unfold tabRows
 rw [List.range_succ, List.map_append]
 rfl
theorem tabRows_get {N : Int} {l : List Tube} {n k j : Nat} (h : j ≤ k) : (tabRows N l n k)[j]? = some [Tr.ints (gl (payK N l j) n)] := by
 unfold tabRows
 rw [List.getElem?_map, List.getElem?_range (by omega)]
 rfl
theorem payK_next {N : Int} {l : List Tube} {k : Nat} {d : Tube} (h : l[k]? = some d) : payK N l (k + 1) = fur N (payK N l k) d.val.toNat d.cnt.toNat := by
 unfold payK
 have : (vc l)[k]? = some (d.val.toNat, d.cnt.toNat) := by unfold vc; rw [List.getElem?_map, h]; rfl
 rw [take_at this, pay_app]
theorem zeroPay_bd (a : Nat) : 0 ≤ zeroPay nev a ∧ zeroPay nev a ≤ nev := by unfold zeroPay nev; split <;> omega
theorem payK_bd (l : List Tube) (k a : Nat) : 0 ≤ payK nev l k a ∧ payK nev l k a ≤ 1073741824 :=
 ⟨pay_nn nev (by unfold nev; omega) _ _ (fun a => (zeroPay_bd a).1) a, pay_le nev _ _ (fun a => (zeroPay_bd a).2) a⟩

theorem payments_fn (l : List Tube) (ho : TbOk l) (most : Nat) (hm : most ≤ 20000) : PFn Tryd.prog 72 [.tubes l, .int most] (· = .sl 1 (tabRows nev l (most + 1) l.length)) := by
 refine PFn.mk (Spec.body Tryd.func72 rfl rfl (Tryd.ntmps72) rfl fun w0 own0 M => ?_)
 have hL : (l.map Tube.row).length = l.length := List.length_map _
 have hlen := ho.len
 repeat' (first | refine goH ?_ | refine goV ?_ | refine goB (fun b => ?_) | refine goC (fun ad cap => ?_) | refine goG ?_ | (refine Ops.k_guard ?_; first | (refine Ops.guard_dec rfl rfl ?_ ?_ <;> intro hc <;> try omega) | refine Ops.guard_split rfl rfl ?_ ?_ <;> intro hc) | refine goI ?_ | (refine Cw.k_cond ?_; first | (refine Cw.cond_dec rfl ?_ ?_ <;> intro hc <;> try omega) | refine Cw.cond_bool rfl ?_ ?_ <;> intro hc) | refine goR ?_ | refine goP ?_ | apply PSeq.cons | apply PSeq.yes rfl rfl rfl | exact goW | fail)
 rw [show ((most : Int) + 1).toNat = most + 1 by omega, glR_rep']
 refine Cw.loop (ι := Nat × List (List Tr)) (fun s => 1 ≤ s.1 ∧ s.1 ≤ most + 1 ∧ ∃ g, s.2 = intRows (gl g (most + 1)) ∧ ∀ a, a < s.1 → g a = zeroPay nev a)
  (fun s => [(0, .tubes l), (1, .int most), (5, Tr.raw (.slice ad (most + 1) cap)), (6, .int s.1)])
  (fun s => [Chunk.own ad cap 1 3 s.2]) (fun s => most + 1 - s.1) ⟨(1, intRows (gl (fun _ => 0) (most + 1))), ⟨by simp only; omega, by simp only; omega, (fun _ => 0), rfl, fun a h => by simp only at h; have : a = 0 := (by omega); subst this; rfl⟩, (Ent.mk goSub goTk)⟩ ?_
 rintro ⟨k, rows⟩ ⟨hk0, hk, g, hg, hdone⟩
 simp only at hk0 hk hg hdone ⊢
 have hrl : rows.length = most + 1 := by rw [hg]; simp
 by_cases hkl : k ≤ most
 ·have hrow : rows[((k : Nat) : Int).toNat]? = some [Tr.int (g k)] := by rw [hg]; exact glR_get (by omega)
  repeat' (first | refine goH ?_ | refine goV ?_ | refine goB (fun b => ?_) | refine goC (fun ad cap => ?_) | refine goG ?_ | (refine Ops.k_guard ?_; first | (refine Ops.guard_dec rfl rfl ?_ ?_ <;> intro hc <;> try omega) | refine Ops.guard_split rfl rfl ?_ ?_ <;> intro hc) | refine goI ?_ | (refine Cw.k_cond ?_; first | (refine Cw.cond_dec rfl ?_ ?_ <;> intro hc <;> try omega) | refine Cw.cond_bool rfl ?_ ?_ <;> intro hc) | refine goR ?_ | refine goP ?_ | apply PSeq.cons | apply PSeq.yes rfl rfl rfl | exact goW | fail)
  refine ⟨(k + 1, _), ?_, ?_, (Ent.mk goSub goTk)⟩
  ·refine ⟨by simp only; omega, by simp only; omega, (fun i => if i = k then nev else g i), ?_, ?_⟩
   ·simp only
    rw [hg]
    exact glR_set
   ·intro a ha
    simp only at ha ⊢
    by_cases e : a = k
    ·subst e
     rw [if_pos rfl]
     unfold zeroPay
     rw [if_neg (by omega)]
    ·rw [if_neg e]
     exact hdone a (by omega)
  ·simp only; omega
 have h0 : rows = intRows (gl (payK nev l 0) (most + 1)) := by
  rw [hg]
  refine congrArg intRows (gl_ext fun j hj => ?_)
  rw [hdone j (by omega)]
  rfl
 repeat' (first | refine goH ?_ | ((fail_if_success refine Ops.k_buildSlice ?_); refine goV ?_) | ((fail_if_success refine Ops.k_buildSlice ?_); refine goB (fun b => ?_)) | ((fail_if_success refine Ops.k_buildSlice ?_); refine goC (fun ad cap => ?_)) | refine goG ?_ | (refine Ops.k_guard ?_; first | (refine Ops.guard_dec rfl rfl ?_ ?_ <;> intro hc <;> try omega) | refine Ops.guard_split rfl rfl ?_ ?_ <;> intro hc) | refine goI ?_ | (refine Cw.k_cond ?_; first | (refine Cw.cond_dec rfl ?_ ?_ <;> intro hc <;> try omega) | refine Cw.cond_bool rfl ?_ ?_ <;> intro hc) | refine goR ?_ | refine goP ?_ | apply PSeq.cons | apply PSeq.yes rfl rfl rfl | exact goW | fail)
 refine Ops.ent (Ent.settle (s := 21) rfl goPk (by omega)) ?_
 rw [h0]
 refine Ops.buildSlice_own (by exact Parts.cons rfl rfl rfl (by exact Parts.nil)) rfl rfl rfl (fun ad cap => ?_)
 repeat' (first | refine goH ?_ | refine goV ?_ | refine goB (fun b => ?_) | refine goC (fun ad cap => ?_) | refine goG ?_ | (refine Ops.k_guard ?_; first | (refine Ops.guard_dec rfl rfl ?_ ?_ <;> intro hc <;> try omega) | refine Ops.guard_split rfl rfl ?_ ?_ <;> intro hc) | refine goI ?_ | (refine Cw.k_cond ?_; first | (refine Cw.cond_dec rfl ?_ ?_ <;> intro hc <;> try omega) | refine Cw.cond_bool rfl ?_ ?_ <;> intro hc) | refine goR ?_ | refine goP ?_ | apply PSeq.cons | apply PSeq.yes rfl rfl rfl | exact goW | fail)
 refine Cw.loop (ι := Nat × Option Addr × Nat × List (List Tr)) (fun s => s.1 ≤ l.length ∧ s.2.2.2 = tabRows nev l (most + 1) s.1)
  (fun s => [(23, .tubes l), (24, .int (l.map Tube.row).length), (25, .int s.1), (7, Tr.raw (.slice s.2.1 s.2.2.2.length s.2.2.1))])
  (fun s => [Chunk.own s.2.1 s.2.2.1 1 22 s.2.2.2]) (fun s => l.length - s.1) ⟨(0, _, _, _), ⟨by simp only; omega, ?_⟩, (Ent.mk goSub goTk)⟩ ?_
 ·rfl
 clear hk0 hk hg hdone hrl hkl h0
 rintro ⟨k, ad, cap, rows⟩ ⟨hk, hrows⟩
 simp only at hk hrows ⊢
 have hrl : rows.length = k + 1 := by rw [hrows]; simp
 by_cases hkl : k < l.length
 ·obtain ⟨d, hd⟩ := at_lt hkl
  have hv := ho.val d (List.mem_of_getElem? hd)
  have hc := ho.cnt d (List.mem_of_getElem? hd)
  have hrow : (l.map Tube.row)[k]? = some [Tr.int d.val, Tr.int d.cnt, Tr.int d.most] := rows_at hd
  have hlast : rows[((rows.length : Int) - 1).toNat]? = some [Tr.ints (gl (payK nev l k) (most + 1))] := by
   rw [hrl, show (((k + 1 : Nat) : Int) - 1).toNat = k by omega, hrows]
   exact tabRows_get (Nat.le_refl _)
  have hfur := further_fn (payK nev l k) (most + 1) d.val.toNat d.cnt.toNat d.most (by omega) (by omega) (by omega) (payK_bd l k)
  rw [← payK_next hd, show ((d.val.toNat : Nat) : Int) = d.val by omega, show ((d.cnt.toNat : Nat) : Int) = d.cnt by omega] at hfur
  repeat' (first | refine goH ?_ | refine goV ?_ | refine goB (fun b => ?_) | refine goC (fun ad cap => ?_) | refine goG ?_ | (refine Ops.k_guard ?_; first | (refine Ops.guard_dec rfl rfl ?_ ?_ <;> intro hc <;> try omega) | refine Ops.guard_split rfl rfl ?_ ?_ <;> intro hc) | refine goI ?_ | (refine Cw.k_cond ?_; first | (refine Cw.cond_dec rfl ?_ ?_ <;> intro hc <;> try omega) | refine Cw.cond_bool rfl ?_ ?_ <;> intro hc) | (refine Ops.k_calla ?_; first | (refine Ops.k_callf 76 ?_; refine Ops.callV hfur (Evs.cons rfl (Evs.cons rfl Evs.nil)) rfl ?_)) | (apply OpW.k_call; first | (apply OpW.k_callf 76; exact OpW.callV hfur (Evs.cons rfl (Evs.cons rfl Evs.nil)))) | refine goR ?_ | refine goP ?_ | apply PSeq.cons | apply PSeq.yes rfl rfl rfl | exact goW | fail)
  refine ⟨(k + 1, _, _, _), ?_, ?_, (Ent.mk goSub goTk)⟩
  ·refine ⟨by simp only; omega, ?_⟩
   simp only
   rw [tabRows_next, ← hrows]
   all_goals rfl
  ·simp only; omega
 ·have : k = l.length := by omega
  subst this
  repeat' (first | refine goH ?_ | refine goV ?_ | refine goB (fun b => ?_) | refine goC (fun ad cap => ?_) | refine goG ?_ | (refine Ops.k_guard ?_; first | (refine Ops.guard_dec rfl rfl ?_ ?_ <;> intro hc <;> try omega) | refine Ops.guard_split rfl rfl ?_ ?_ <;> intro hc) | refine goI ?_ | (refine Cw.k_cond ?_; first | (refine Cw.cond_dec rfl ?_ ?_ <;> intro hc <;> try omega) | refine Cw.cond_bool rfl ?_ ?_ <;> intro hc) | refine goR ?_ | refine goP ?_ | apply PSeq.cons | apply PSeq.yes rfl rfl rfl | exact goW | fail)
  refine Fin.ret (Ent.trans (Ent.settle (s := 4) rfl goPk rfl) (Ent.take goTk)) (Outs.one rfl rfl) ⟨rfl, ?_⟩
  rw [hrows]
end Lg
end
section
set_option linter.all false
set_option maxRecDepth 100000
set_option maxHeartbeats 1000000
namespace Lg
open Go Go.Proofs

/-! ### amounts that can be paid -/
theorem payK_small {l : List Tube} (ho : TbOk l) {k : Nat} (hk : k ≤ l.length) (a : Nat) : payK nev l k a = nev ∨ payK nev l k a ≤ 10000 := by
 have hl : ((vc l).take k).length = k := by simp; omega
 have hlen := ho.len
 have := pay_rel (N := nev) (M := nev) (l := (vc l).take k) (B := 0) (b := zeroPay nev) (d := zeroPay nev) (fun t ht => by
  obtain ⟨d, hd, rfl⟩ := List.mem_map.1 (List.mem_of_mem_take ht)
  have := ho.cnt d hd
  simp only
  omega) zeroPay_rel (Int.le_refl _) (by rw [hl]; unfold nev; omega) (by rw [hl]; unfold nev; omega) a
 have h2 := (payK_bd l k a).2
 unfold PRel at this
 rw [hl] at this
 unfold payK at h2 ⊢
 unfold nev at *
 omega
/-! ### the windows of amounts -/
structure Win where
 fr : Int
 to : Int
def Win.row (x : Win) : List Tr := [Tr.int x.fr, Tr.int x.to]

/-- rows of bools -/
def gb (g : Nat → Bool) (n : Nat) : List (List Tr) := (List.range n).map fun j => [Tr.bool (g j)]
@[simp] theorem gb_len (g : Nat → Bool) (n : Nat) : (gb g n).length = n := by simp [gb]
end Lg
end
