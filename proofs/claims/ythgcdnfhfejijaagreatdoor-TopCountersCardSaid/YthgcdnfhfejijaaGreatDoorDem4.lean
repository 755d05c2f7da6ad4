/- A part of the proof of a law of this seat: it adds no condition. By an AI agent. -/
import Derived.Test.YthgcdnfhfejijaaGreatDoorFrac
section
set_option linter.all false
set_option maxRecDepth 100000
set_option maxHeartbeats 2000000
namespace Lg
open Go Go.Proofs

structure Sales where
 day : Int
 sold : Int
 out : Bool
def Sales.row (d : Sales) : List Tr := [Tr.int d.day, Tr.int d.sold, Tr.bool d.out]
abbrev Tr.sales (l : List Sales) : Tr := Tr.sl 3 (l.map Sales.row)

def daysGo : Option Int → List Sales → Int
 |_, [] => 0
 |prev, d :: l => if d.day < 0 ∨ 4000 < d.day then 1 else if prev.any (fun p => decide (d.day ≤ p)) = true then 7 else if d.sold < 0 ∨ 1000 < d.sold then 1 else daysGo (some d.day) l
def daysFault (l : List Sales) : Int := if 400 < l.length then 2 else daysGo none l
def prevAt (l : List Sales) (k : Nat) : Option Int := if k = 0 then none else (l[k - 1]?).map (·.day)

structure Right (l : List Sales) : Prop where
 len : l.length ≤ 400
 day : ∀ d ∈ l, 0 ≤ d.day ∧ d.day ≤ 4000
 sold : ∀ d ∈ l, 0 ≤ d.sold ∧ d.sold ≤ 1000

theorem daysGo_right : ∀ {l : List Sales} {prev : Option Int}, daysGo prev l = 0 → ∀ d ∈ l, (0 ≤ d.day ∧ d.day ≤ 4000) ∧ (0 ≤ d.sold ∧ d.sold ≤ 1000)
 |[], _, _, d, hd => by simp at hd
 |x :: l, prev, h, d, hd => by
  unfold daysGo at h
  split at h
  ·omega
  split at h
  ·omega
  split at h
  ·omega
  rename_i h1 h2 h3
  rcases List.mem_cons.1 hd with rfl | hd
  ·omega
  ·exact daysGo_right h d hd
theorem daysFault_right {l : List Sales} (h : daysFault l = 0) : Right l := by
 unfold daysFault at h
 split at h
 ·omega
 rename_i h1
 exact ⟨by omega, fun d hd => (daysGo_right h d hd).1, fun d hd => (daysGo_right h d hd).2⟩

theorem day_t (n : Int) (h : 0 ≤ n ∧ n ≤ 4000) : PFn Tryz.prog 102 [.int n] (· = .bool true) := by
 have := day_fn n
 rwa [show dayB n = true by unfold dayB outB; rw [decide_eq_false (by omega)]; rfl] at this
theorem day_f (n : Int) (h : n < 0 ∨ 4000 < n) : PFn Tryz.prog 102 [.int n] (· = .bool false) := by
 have := day_fn n
 rwa [show dayB n = false by unfold dayB outB; rw [decide_eq_true (by omega)]; rfl] at this

theorem checkDays_fn (l : List Sales) : PFn Tryz.prog 65 [.sales l] (· = .int (daysFault l)) := by
 refine PFn.mk (Spec.body Tryz.func65 rfl rfl (Tryz.ntmps65) rfl fun w0 own0 M => ?_)
 have hL : (l.map Sales.row).length = l.length := List.length_map _
 repeat' (first | refine goH ?_ | refine goV ?_ | refine goB (fun b => ?_) | refine goG ?_ | (refine Ops.k_guard ?_; first | (refine Ops.guard_dec rfl rfl ?_ ?_ <;> intro hc <;> try omega) | refine Ops.guard_split rfl rfl ?_ ?_ <;> intro hc) | refine goI ?_ | (refine Cw.k_cond ?_; first | (refine Cw.cond_dec rfl ?_ ?_ <;> intro hc <;> try omega) | refine Cw.cond_bool rfl ?_ ?_ <;> intro hc) | refine goR ?_ | refine goP ?_ | apply PSeq.cons | apply PSeq.yes rfl rfl rfl | exact goW | fail)
 ·exact Fin.ret Ent.refl (Outs.one rfl rfl) ⟨rfl, by unfold daysFault; rw [if_pos (by omega)]⟩
 have h4 : ¬ 400 < l.length := by omega
 refine Cw.loop (ι := Nat) (fun k => k ≤ l.length ∧ daysFault l = daysGo (prevAt l k) (l.drop k)) (fun k => [(0, .sales l), (8, .sales l), (9, .int (l.map Sales.row).length), (10, .int k)]) (fun _ => []) (fun k => l.length - k) ⟨0, ⟨by omega, by unfold daysFault; rw [if_neg h4]; simp [prevAt]⟩, (Ent.mk goSub goTk)⟩ ?_
 rintro k ⟨hk, hfin⟩
 by_cases hkl : k < l.length
 ·obtain ⟨d, hd⟩ := at_lt hkl
  have hrow : (l.map Sales.row)[k]? = some [Tr.int d.day, Tr.int d.sold, Tr.bool d.out] := rows_at hd
  have hnext : prevAt l (k + 1) = some d.day := by simp [prevAt, hd]
  rw [drop_at hd] at hfin
  unfold daysGo at hfin
  by_cases h1 : d.day < 0 ∨ 4000 < d.day
  ·rw [if_pos h1] at hfin
   repeat' (first | refine goH ?_ | refine goV ?_ | refine goB (fun b => ?_) | refine goG ?_ | (refine Ops.k_guard ?_; first | (refine Ops.guard_dec rfl rfl ?_ ?_ <;> intro hc <;> try omega) | refine Ops.guard_split rfl rfl ?_ ?_ <;> intro hc) | refine goI ?_ | (refine Cw.k_cond ?_; first | (refine Cw.cond_dec rfl ?_ ?_ <;> intro hc <;> try omega) | refine Cw.cond_bool rfl ?_ ?_ <;> intro hc) | (refine Ops.k_calla ?_; first | (refine Ops.k_callf 102 ?_; refine Ops.callV (day_f _ (by omega)) (Evs.cons rfl Evs.nil) rfl ?_)) | (apply OpW.k_call; first | (apply OpW.k_callf 102; exact OpW.callV (day_f _ (by omega)) (Evs.cons rfl Evs.nil))) | refine goR ?_ | refine goP ?_ | apply PSeq.cons | apply PSeq.yes rfl rfl rfl | exact goW | fail)
   refine Fin.ret (Ent.take goTk) (Outs.one rfl rfl) ⟨rfl, congrArg Tr.int ?_⟩
   rw [hfin]
  rw [if_neg h1] at hfin
  by_cases hk0 : k = 0
  ·subst hk0
   simp only [prevAt, if_true, Option.any_none, Bool.false_eq_true, if_false] at hfin
   by_cases h3 : d.sold < 0 ∨ 1000 < d.sold
   ·rw [if_pos h3] at hfin
    repeat' (first | refine goH ?_ | refine goV ?_ | refine goB (fun b => ?_) | refine goG ?_ | (refine Ops.k_guard ?_; first | (refine Ops.guard_dec rfl rfl ?_ ?_ <;> intro hc <;> try omega) | refine Ops.guard_split rfl rfl ?_ ?_ <;> intro hc) | refine goI ?_ | (refine Cw.k_cond ?_; first | (refine Cw.cond_dec rfl ?_ ?_ <;> intro hc <;> try omega) | refine Cw.cond_bool rfl ?_ ?_ <;> intro hc) | (refine Ops.k_calla ?_; first | (refine Ops.k_callf 102 ?_; refine Ops.callV (day_t _ (by omega)) (Evs.cons rfl Evs.nil) rfl ?_) | (refine Ops.k_callf 32 ?_; refine Ops.callV (out_t _ _ _ (by omega)) (Evs.cons rfl (Evs.cons rfl (Evs.cons rfl Evs.nil))) rfl ?_)) | (apply OpW.k_call; first | (apply OpW.k_callf 102; exact OpW.callV (day_t _ (by omega)) (Evs.cons rfl Evs.nil)) | (apply OpW.k_callf 32; exact OpW.callV (out_t _ _ _ (by omega)) (Evs.cons rfl (Evs.cons rfl (Evs.cons rfl Evs.nil))))) | refine goR ?_ | refine goP ?_ | apply PSeq.cons | apply PSeq.yes rfl rfl rfl | exact goW | fail)
    refine Fin.ret (Ent.take goTk) (Outs.one rfl rfl) ⟨rfl, congrArg Tr.int ?_⟩
    rw [hfin]
   ·rw [if_neg h3] at hfin
    repeat' (first | refine goH ?_ | refine goV ?_ | refine goB (fun b => ?_) | refine goG ?_ | (refine Ops.k_guard ?_; first | (refine Ops.guard_dec rfl rfl ?_ ?_ <;> intro hc <;> try omega) | refine Ops.guard_split rfl rfl ?_ ?_ <;> intro hc) | refine goI ?_ | (refine Cw.k_cond ?_; first | (refine Cw.cond_dec rfl ?_ ?_ <;> intro hc <;> try omega) | refine Cw.cond_bool rfl ?_ ?_ <;> intro hc) | (refine Ops.k_calla ?_; first | (refine Ops.k_callf 102 ?_; refine Ops.callV (day_t _ (by omega)) (Evs.cons rfl Evs.nil) rfl ?_) | (refine Ops.k_callf 32 ?_; refine Ops.callV (out_f _ _ _ (by omega)) (Evs.cons rfl (Evs.cons rfl (Evs.cons rfl Evs.nil))) rfl ?_)) | (apply OpW.k_call; first | (apply OpW.k_callf 102; exact OpW.callV (day_t _ (by omega)) (Evs.cons rfl Evs.nil)) | (apply OpW.k_callf 32; exact OpW.callV (out_f _ _ _ (by omega)) (Evs.cons rfl (Evs.cons rfl (Evs.cons rfl Evs.nil))))) | refine goR ?_ | refine goP ?_ | apply PSeq.cons | apply PSeq.yes rfl rfl rfl | exact goW | fail)
    refine ⟨1, ⟨by omega, ?_⟩, by omega, (Ent.mk goSub goTk)⟩
    rw [hnext, hfin]
  ·obtain ⟨d', hd'⟩ := at_lt (l := l) (k := k - 1) (by omega)
   have hrow' : (l.map Sales.row)[((k : Int) - 1).toNat]? = some [Tr.int d'.day, Tr.int d'.sold, Tr.bool d'.out] := by rw [show ((k : Int) - 1).toNat = k - 1 by omega]; exact rows_at hd'
   simp only [prevAt, hk0, if_false, hd', Option.map_some, Option.any_some, decide_eq_true_eq] at hfin
   by_cases h2 : d.day ≤ d'.day
   ·rw [if_pos h2] at hfin
    repeat' (first | refine goH ?_ | refine goV ?_ | refine goB (fun b => ?_) | refine goG ?_ | (refine Ops.k_guard ?_; first | (refine Ops.guard_dec rfl rfl ?_ ?_ <;> intro hc <;> try omega) | refine Ops.guard_split rfl rfl ?_ ?_ <;> intro hc) | refine goI ?_ | (refine Cw.k_cond ?_; first | (refine Cw.cond_dec rfl ?_ ?_ <;> intro hc <;> try omega) | refine Cw.cond_bool rfl ?_ ?_ <;> intro hc) | (refine Ops.k_calla ?_; first | (refine Ops.k_callf 102 ?_; refine Ops.callV (day_t _ (by omega)) (Evs.cons rfl Evs.nil) rfl ?_)) | (apply OpW.k_call; first | (apply OpW.k_callf 102; exact OpW.callV (day_t _ (by omega)) (Evs.cons rfl Evs.nil))) | refine goR ?_ | refine goP ?_ | apply PSeq.cons | apply PSeq.yes rfl rfl rfl | exact goW | fail)
    refine Fin.ret (Ent.take goTk) (Outs.one rfl rfl) ⟨rfl, congrArg Tr.int ?_⟩
    rw [hfin]
   rw [if_neg h2] at hfin
   by_cases h3 : d.sold < 0 ∨ 1000 < d.sold
   ·rw [if_pos h3] at hfin
    repeat' (first | refine goH ?_ | refine goV ?_ | refine goB (fun b => ?_) | refine goG ?_ | (refine Ops.k_guard ?_; first | (refine Ops.guard_dec rfl rfl ?_ ?_ <;> intro hc <;> try omega) | refine Ops.guard_split rfl rfl ?_ ?_ <;> intro hc) | refine goI ?_ | (refine Cw.k_cond ?_; first | (refine Cw.cond_dec rfl ?_ ?_ <;> intro hc <;> try omega) | refine Cw.cond_bool rfl ?_ ?_ <;> intro hc) | (refine Ops.k_calla ?_; first | (refine Ops.k_callf 102 ?_; refine Ops.callV (day_t _ (by omega)) (Evs.cons rfl Evs.nil) rfl ?_) | (refine Ops.k_callf 32 ?_; refine Ops.callV (out_t _ _ _ (by omega)) (Evs.cons rfl (Evs.cons rfl (Evs.cons rfl Evs.nil))) rfl ?_)) | (apply OpW.k_call; first | (apply OpW.k_callf 102; exact OpW.callV (day_t _ (by omega)) (Evs.cons rfl Evs.nil)) | (apply OpW.k_callf 32; exact OpW.callV (out_t _ _ _ (by omega)) (Evs.cons rfl (Evs.cons rfl (Evs.cons rfl Evs.nil))))) | refine goR ?_ | refine goP ?_ | apply PSeq.cons | apply PSeq.yes rfl rfl rfl | exact goW | fail)
    refine Fin.ret (Ent.take goTk) (Outs.one rfl rfl) ⟨rfl, congrArg Tr.int ?_⟩
    rw [hfin]
   ·rw [if_neg h3] at hfin
    repeat' (first | refine goH ?_ | refine goV ?_ | refine goB (fun b => ?_) | refine goG ?_ | (refine Ops.k_guard ?_; first | (refine Ops.guard_dec rfl rfl ?_ ?_ <;> intro hc <;> try omega) | refine Ops.guard_split rfl rfl ?_ ?_ <;> intro hc) | refine goI ?_ | (refine Cw.k_cond ?_; first | (refine Cw.cond_dec rfl ?_ ?_ <;> intro hc <;> try omega) | refine Cw.cond_bool rfl ?_ ?_ <;> intro hc) | (refine Ops.k_calla ?_; first | (refine Ops.k_callf 102 ?_; refine Ops.callV (day_t _ (by omega)) (Evs.cons rfl Evs.nil) rfl ?_) | (refine Ops.k_callf 32 ?_; refine Ops.callV (out_f _ _ _ (by omega)) (Evs.cons rfl (Evs.cons rfl (Evs.cons rfl Evs.nil))) rfl ?_)) | (apply OpW.k_call; first | (apply OpW.k_callf 102; exact OpW.callV (day_t _ (by omega)) (Evs.cons rfl Evs.nil)) | (apply OpW.k_callf 32; exact OpW.callV (out_f _ _ _ (by omega)) (Evs.cons rfl (Evs.cons rfl (Evs.cons rfl Evs.nil))))) | refine goR ?_ | refine goP ?_ | apply PSeq.cons | apply PSeq.yes rfl rfl rfl | exact goW | fail)
    refine ⟨k + 1, ⟨by omega, ?_⟩, by omega, (Ent.mk goSub goTk)⟩
    rw [hnext, hfin]
 ·rw [List.drop_eq_nil_of_le (by omega), daysGo] at hfin
  repeat' (first | refine goH ?_ | refine goV ?_ | refine goB (fun b => ?_) | refine goG ?_ | (refine Ops.k_guard ?_; first | (refine Ops.guard_dec rfl rfl ?_ ?_ <;> intro hc <;> try omega) | refine Ops.guard_split rfl rfl ?_ ?_ <;> intro hc) | refine goI ?_ | (refine Cw.k_cond ?_; first | (refine Cw.cond_dec rfl ?_ ?_ <;> intro hc <;> try omega) | refine Cw.cond_bool rfl ?_ ?_ <;> intro hc) | refine goR ?_ | refine goP ?_ | apply PSeq.cons | apply PSeq.yes rfl rfl rfl | exact goW | fail)
  refine Fin.ret (Ent.take goTk) (Outs.one rfl rfl) ⟨rfl, congrArg Tr.int ?_⟩
  rw [hfin]
end Lg
end
section
set_option linter.all false
set_option maxRecDepth 100000
set_option maxHeartbeats 2000000
namespace Lg
open Go Go.Proofs

def soldP (p : Sales → Bool) : List Sales → Int
 |[] => 0
 |d :: l => (if (!d.out && p d) = true then d.sold else 0) + soldP p l
def cntP (p : Sales → Bool) : List Sales → Int
 |[] => 0
 |d :: l => (if (!d.out && p d) = true then 1 else 0) + cntP p l
theorem soldP_cons (p : Sales → Bool) (d : Sales) (l : List Sales) : soldP p (d :: l) = (if (!d.out && p d) = true then d.sold else 0) + soldP p l := rfl
theorem cntP_cons (p : Sales → Bool) (d : Sales) (l : List Sales) : cntP p (d :: l) = (if (!d.out && p d) = true then 1 else 0) + cntP p l := rfl
theorem soldP_bd (p : Sales → Bool) : ∀ {l : List Sales}, (∀ d ∈ l, 0 ≤ d.sold ∧ d.sold ≤ 1000) → 0 ≤ soldP p l ∧ soldP p l ≤ 1000 * cntP p l ∧ 0 ≤ cntP p l ∧ cntP p l ≤ l.length
 |[], _ => by simp [soldP, cntP]
 |d :: l, h => by
  have := soldP_bd p (l := l) (fun x hx => h x (List.mem_cons_of_mem _ hx))
  have hd := h d (by simp)
  unfold soldP cntP
  rw [List.length_cons]
  split <;> omega
theorem sum_spec {l : List Sales} {p : Sales → Bool} {g : Nat} {caps : List Value} {cin : List Chunk} (hr : Right l)
  (hs : ∀ x, x ∈ l → Spec Tryz.prog g ([Tr.agg x.row] ++ caps.map Tr.raw) cin (fun r cs => r = Tr.bool (p x) ∧ cs = cin)) :
  Spec Tryz.prog 66 [.sales l, Tr.raw (.func (.func g) #[] caps.toArray)] cin (fun r cs => r = .tup [.int (soldP p l), .int (cntP p l)] ∧ cs = cin) := by
 refine Spec.body Tryz.func66 rfl rfl (Tryz.ntmps66) rfl fun w0 own0 M => ?_
 have hL : (l.map Sales.row).length = l.length := List.length_map _
 have h400 := hr.len
 repeat' (first | refine goH ?_ | refine goV ?_ | refine goB (fun b => ?_) | refine goG ?_ | (refine Ops.k_guard ?_; first | (refine Ops.guard_dec rfl rfl ?_ ?_ <;> intro hc <;> try omega) | refine Ops.guard_split rfl rfl ?_ ?_ <;> intro hc) | refine goI ?_ | (refine Cw.k_cond ?_; first | (refine Cw.cond_dec rfl ?_ ?_ <;> intro hc <;> try omega) | refine Cw.cond_bool rfl ?_ ?_ <;> intro hc) | fail)
 refine Cw.loop (ι := Nat × Int × Int) (fun s => s.1 ≤ l.length ∧ s.2.1 + soldP p (l.drop s.1) = soldP p l ∧ s.2.2 + cntP p (l.drop s.1) = cntP p l ∧ 0 ≤ s.2.1 ∧ s.2.1 ≤ 1000 * s.1 ∧ 0 ≤ s.2.2 ∧ s.2.2 ≤ s.1)
  (fun s => [(1, Tr.raw (.func (.func g) #[] caps.toArray)), (8, .sales l), (9, .int (l.map Sales.row).length), (4, .int s.2.1), (5, .int s.2.2), (10, .int s.1)]) (fun _ => cin) (fun s => l.length - s.1) ⟨(0, 0, 0), by simp, Ent.sub goSub⟩ ?_
 rintro ⟨k, S, C⟩ ⟨hk, h1, h2, h3, h4, h5, h6⟩
 simp only at hk h1 h2 h3 h4 h5 h6 ⊢
 by_cases hkl : k < l.length
 ·obtain ⟨d, hd⟩ := at_lt hkl
  have hsd := hr.sold d (List.mem_of_getElem? hd)
  have hsp := hs d (List.mem_of_getElem? hd)
  have hrow : (l.map Sales.row)[k]? = some [Tr.int d.day, Tr.int d.sold, Tr.bool d.out] := rows_at hd
  rw [drop_at hd] at h1 h2
  rw [soldP_cons] at h1
  rw [cntP_cons] at h2
  obtain ⟨dd, ds, dout⟩ := d
  simp only at hrow hsd h1 h2
  cases dout
  ·cases hp : p ⟨dd, ds, false⟩
   ·rw [hp] at hsp
    simp only [hp, Bool.not_false, Bool.and_false, Bool.false_eq_true, if_false] at h1 h2
    repeat' (first | refine goH ?_ | refine goV ?_ | refine goB (fun b => ?_) | refine goG ?_ | (refine Ops.k_guard ?_; first | (refine Ops.guard_dec rfl rfl ?_ ?_ <;> intro hc <;> try omega) | refine Ops.guard_split rfl rfl ?_ ?_ <;> intro hc) | refine goI ?_ | (refine Cw.k_cond ?_; first | (refine Cw.cond_dec rfl ?_ ?_ <;> intro hc <;> try omega) | refine Cw.cond_bool rfl ?_ ?_ <;> intro hc) | (refine Ops.k_calla ?_; first | refine Ops.callS_fn rfl hsp (Evs.cons rfl Evs.nil) (List.perm_append_singleton _ _).symm rfl ?_) | fail)
    exact ⟨(k + 1, S, C), ⟨by omega, by simp only; omega, by simp only; omega, by simp only; omega, by simp only; omega, by simp only; omega, by simp only; omega⟩, by simp only; omega, Ent.trans Ent.drop (Ent.sub goSub)⟩
   ·rw [hp] at hsp
    simp only [hp, Bool.not_false, Bool.and_true, Bool.true_and, if_true] at h1 h2
    repeat' (first | refine goH ?_ | refine goV ?_ | refine goB (fun b => ?_) | refine goG ?_ | (refine Ops.k_guard ?_; first | (refine Ops.guard_dec rfl rfl ?_ ?_ <;> intro hc <;> try omega) | refine Ops.guard_split rfl rfl ?_ ?_ <;> intro hc) | refine goI ?_ | (refine Cw.k_cond ?_; first | (refine Cw.cond_dec rfl ?_ ?_ <;> intro hc <;> try omega) | refine Cw.cond_bool rfl ?_ ?_ <;> intro hc) | (refine Ops.k_calla ?_; first | refine Ops.callS_fn rfl hsp (Evs.cons rfl Evs.nil) (List.perm_append_singleton _ _).symm rfl ?_) | fail)
    exact ⟨(k + 1, S + ds, C + 1), ⟨by omega, by simp only; omega, by simp only; omega, by simp only; omega, by simp only; omega, by simp only; omega, by simp only; omega⟩, by simp only; omega, Ent.trans Ent.drop (Ent.sub goSub)⟩
  ·simp only [Bool.not_true, Bool.false_and, Bool.false_eq_true, if_false] at h1 h2
   repeat' (first | refine goH ?_ | refine goV ?_ | refine goB (fun b => ?_) | refine goG ?_ | (refine Ops.k_guard ?_; first | (refine Ops.guard_dec rfl rfl ?_ ?_ <;> intro hc <;> try omega) | refine Ops.guard_split rfl rfl ?_ ?_ <;> intro hc) | refine goI ?_ | (refine Cw.k_cond ?_; first | (refine Cw.cond_dec rfl ?_ ?_ <;> intro hc <;> try omega) | refine Cw.cond_bool rfl ?_ ?_ <;> intro hc) | fail)
   exact ⟨(k + 1, S, C), ⟨by omega, by simp only; omega, by simp only; omega, by simp only; omega, by simp only; omega, by simp only; omega, by simp only; omega⟩, by simp only; omega, Ent.trans Ent.drop (Ent.sub goSub)⟩
 ·rw [List.drop_eq_nil_of_le (by omega)] at h1 h2
  simp only [soldP, cntP, Int.add_zero] at h1 h2
  repeat' (first | refine goH ?_ | refine goV ?_ | refine goB (fun b => ?_) | refine goG ?_ | (refine Ops.k_guard ?_; first | (refine Ops.guard_dec rfl rfl ?_ ?_ <;> intro hc <;> try omega) | refine Ops.guard_split rfl rfl ?_ ?_ <;> intro hc) | refine goI ?_ | (refine Cw.k_cond ?_; first | (refine Cw.cond_dec rfl ?_ ?_ <;> intro hc <;> try omega) | refine Cw.cond_bool rfl ?_ ?_ <;> intro hc) | fail)
  exact Fin.ret Ent.refl (Outs.two rfl rfl rfl) ⟨by rw [h1, h2], rfl⟩

end Lg
end
section
set_option linter.all false
set_option maxRecDepth 100000
set_option maxHeartbeats 2000000
namespace Lg
open Go Go.Proofs

theorem tup_fi {f : Frac} {e : Int} {p : Frac × Int} (h : (f, e) = p) : Tr.tup [.agg f.row, .int e] = Tr.tup [.agg p.1.row, .int p.2] := by
 subst h
 rfl

theorem every_fn (d : Sales) : PFn Tryz.prog 67 [.agg d.row] (· = .bool true) := by
 refine PFn.mk (Spec.body Tryz.func67 rfl rfl (Tryz.ntmps67) rfl fun w0 own0 M => ?_)
 repeat' (first | refine goH ?_ | refine goV ?_ | refine goB (fun b => ?_) | refine goI ?_ | (refine Cw.k_cond ?_; first | (refine Cw.cond_dec rfl ?_ ?_ <;> intro hc <;> try omega) | refine Cw.cond_bool rfl ?_ ?_ <;> intro hc) | fail)
 all_goals exact Fin.ret (Ent.take goTk) (Outs.one rfl rfl) ⟨rfl, rfl⟩
abbrev yes : Sales → Bool := fun _ => true
theorem sumAll {l : List Sales} (hr : Right l) : Spec Tryz.prog 66 [.sales l, Tr.raw (.func (.func 67) #[] #[])] [] (fun r cs => r = .tup [.int (soldP yes l), .int (cntP yes l)] ∧ cs = []) := sum_spec (p := yes) (g := 67) (caps := []) (cin := []) hr (fun x _ => (every_fn x).lend)
def rate1 (l : List Sales) : Frac × Int := if daysFault l ≠ 0 then (⟨0, 0⟩, daysFault l) else if cntP yes l = 0 then (⟨0, 0⟩, 8) else (frac (soldP yes l) (cntP yes l), 0)
theorem rate_fn (l : List Sales) : PFn Tryz.prog 39 [.sales l] (· = .tup [.agg (rate1 l).1.row, .int (rate1 l).2]) := by
 refine PFn.mk (Spec.body Tryz.func39 rfl rfl (Tryz.ntmps39) rfl fun w0 own0 M => ?_)
 by_cases h0 : daysFault l = 0
 ·have hr := daysFault_right h0
  have hs := sumAll hr
  have hbd := soldP_bd yes hr.sold
  have h400 := hr.len
  by_cases hc : cntP yes l = 0
  ·repeat' (first | refine goH ?_ | refine goV ?_ | refine goB (fun b => ?_) | refine goI ?_ | (refine Cw.k_cond ?_; first | (refine Cw.cond_dec rfl ?_ ?_ <;> intro hc <;> try omega) | refine Cw.cond_bool rfl ?_ ?_ <;> intro hc) | (refine Ops.k_calla ?_; first | (refine Ops.k_callf 65 ?_; refine Ops.callV (checkDays_fn l) (Evs.cons rfl Evs.nil) rfl ?_) | (refine Ops.k_callf 66 ?_; refine Ops.callS hs (Evs.cons rfl (Evs.cons rfl Evs.nil)) (List.Perm.refl _) rfl ?_)) | fail)
   refine Fin.ret (Ent.trans (Ent.setbox (s := 2) rfl goPk) (Ent.take goTk)) (Outs.many rfl (OutL.cons (OutE.agg inferInstance rfl rfl) (OutL.cons (OutE.tmp rfl) OutL.nil)) rfl) ⟨rfl, tup_fi (f := ⟨0, 0⟩) ?_⟩
   unfold rate1
   rw [if_neg (by omega), if_pos hc]
  ·repeat' (first | refine goH ?_ | refine goV ?_ | refine goB (fun b => ?_) | refine goI ?_ | (refine Cw.k_cond ?_; first | (refine Cw.cond_dec rfl ?_ ?_ <;> intro hc <;> try omega) | refine Cw.cond_bool rfl ?_ ?_ <;> intro hc) | (refine Ops.k_calla ?_; first | (refine Ops.k_callf 65 ?_; refine Ops.callV (checkDays_fn l) (Evs.cons rfl Evs.nil) rfl ?_) | (refine Ops.k_callf 66 ?_; refine Ops.callS hs (Evs.cons rfl (Evs.cons rfl Evs.nil)) (List.Perm.refl _) rfl ?_) | (refine Ops.k_callf 68 ?_; refine Ops.callV (fraction_fn _ _ (by omega) (by omega)) (Evs.cons rfl (Evs.cons rfl Evs.nil)) rfl ?_)) | fail)
   refine Fin.ret (Ent.trans (Ent.setbox (s := 2) rfl goPk) (Ent.take goTk)) (Outs.many rfl (OutL.cons (OutE.agg inferInstance rfl rfl) (OutL.cons (OutE.tmp rfl) OutL.nil)) rfl) ⟨rfl, tup_fi (f := frac (soldP yes l) (cntP yes l)) ?_⟩
   unfold rate1
   rw [if_neg (by omega), if_neg hc]
 ·repeat' (first | refine goH ?_ | refine goV ?_ | refine goB (fun b => ?_) | refine goI ?_ | (refine Cw.k_cond ?_; first | (refine Cw.cond_dec rfl ?_ ?_ <;> intro hc <;> try omega) | refine Cw.cond_bool rfl ?_ ?_ <;> intro hc) | (refine Ops.k_calla ?_; first | (refine Ops.k_callf 65 ?_; refine Ops.callV (checkDays_fn l) (Evs.cons rfl Evs.nil) rfl ?_)) | fail)
  refine Fin.ret (Ent.trans (Ent.setbox (s := 2) rfl goPk) (Ent.take goTk)) (Outs.many rfl (OutL.cons (OutE.agg inferInstance rfl rfl) (OutL.cons (OutE.tmp rfl) OutL.nil)) rfl) ⟨rfl, tup_fi (f := ⟨0, 0⟩) ?_⟩
  unfold rate1
  rw [if_pos (by omega)]

end Lg
end
