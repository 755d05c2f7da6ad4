/- A part of the proof of a law of this seat: it adds no condition. By an AI agent. -/
import Derived.Test.YtjlffnflcdjkfaaDoorSGen
import Derived.Test.YtjlffnflcdjkfaaDoorSortI
import Derived.Test.YtjlffnflcdjkfaaDoorSite4
set_option linter.all false
set_option maxRecDepth 100000
set_option maxHeartbeats 4000000
namespace Lg
open Go Go.Proofs

theorem due1_fn (ls : List Int) (bx E : Nat) (a b : Int) (hl : ls.length ≤ 1000) (ha : 0 ≤ a ∧ a < ls.length) (hb : 0 ≤ b ∧ b < ls.length) :
    Spec Tryd.prog 59 [.int a, .int b, .ptr bx] [Chunk.box bx E [.ints ls]] (fun r cs => r = Tr.int (cmpI (ls.getD a.toNat 0) (ls.getD b.toNat 0)) ∧ cs = [Chunk.box bx E [.ints ls]]) := by
  refine Spec.body Tryd.func59 rfl rfl (Tryd.ntmps59) rfl fun w0 own0 M => ?_
  have hL := intRows_len ls
  obtain ⟨x, hx⟩ : ∃ x, ls[a.toNat]? = some x := at_lt (by omega)
  obtain ⟨y, hy⟩ : ∃ y, ls[b.toNat]? = some y := at_lt (by omega)
  have hrx := intRows_at hx
  have hry := intRows_at hy
  have hc := compare_fn x y
  have e1 : ls.getD a.toNat 0 = x := by rw [List.getD_eq_getElem?_getD, hx]; rfl
  have e2 : ls.getD b.toNat 0 = y := by rw [List.getD_eq_getElem?_getD, hy]; rfl
  rw [e1, e2]
  generalize cmpI x y = r at *
  repeat' (first | refine goH ?_ | refine goV ?_ | refine goI ?_ | (refine Cw.k_cond ?_; first | (refine Cw.cond_dec rfl (fun hc => ?_) (fun hc => ?_) <;> try (exfalso; omega)) | refine Cw.cond_bool rfl (fun hc => ?_) (fun hc => ?_)) | (refine Ops.k_calla ?_; first | (refine Ops.k_callf 60 ?_; refine Ops.callV hc (Evs.cons rfl (Evs.cons rfl Evs.nil)) rfl ?_)) | (apply OpW.k_call; first | (apply OpW.k_callf 60; exact OpW.callV hc (Evs.cons rfl (Evs.cons rfl Evs.nil)))) | refine goR ?_ | refine goP ?_ | apply PSeq.cons | apply PSeq.yes rfl rfl rfl | exact goW | fail)
  exact Fin.ret Ent.refl (Outs.one rfl rfl) ⟨rfl, rfl⟩

def dueE (l : List Site) (days : Int) : Int := if sitesE l ≠ 0 then sitesE l else if dayB days then 0 else 1
theorem due_fn (l : List Site) (hl : SBd l) (hs : l.length < 20) (days : Int) : PFn Tryd.prog 21 [.sites l, .int days] (· = .tup [.strs (if dueE l days ≠ 0 then [] else (ordD l days).map (nameS l)), .int (dueE l days)]) := by
  have k1 := left_fn l hl
  have k2 := day_fn days
  have hL : (l.map Site.row).length = l.length := List.length_map _
  refine PFn.mk (Spec.body Tryd.func21 rfl rfl (Tryd.ntmps21) rfl fun w0 own0 M => ?_)
  by_cases h1 : sitesE l ≠ 0
  · rw [show dueE l days = sitesE l by unfold dueE; rw [if_pos h1], if_pos h1]
    rw [if_pos h1] at k1
    generalize sitesE l = se at *
    repeat' (first | refine goH ?_ | refine goV ?_ | refine goB (fun b => ?_) | refine goC (fun ad cap => ?_) | refine goI ?_ | (refine Cw.k_cond ?_; first | (refine Cw.cond_dec rfl (fun hc => ?_) (fun hc => ?_) <;> try (exfalso; omega)) | refine Cw.cond_bool rfl (fun hc => ?_) (fun hc => ?_)) | (refine Ops.k_calla ?_; first | (refine Ops.k_callf 20 ?_; refine Ops.callV k1 (Evs.cons rfl Evs.nil) rfl ?_)) | fail)
    refine Fin.ret (Ent.trans (Ent.nilsl 1 (s := 4) rfl) (Ent.take (by repeat' (first | exact Take.nil | refine Take.cons (by first | exact pick0 | exact pickS pick0 | exact pickS (pickS pick0) | exact pickS (pickS (pickS pick0)) | exact pickS (pickS (pickS (pickS pick0)))) ?_)))) (Outs.many rfl (OutL.cons (by first | exact OutE.tmp rfl | exact OutE.agg inferInstance rfl rfl | exact OutE.one inferInstance rfl) (OutL.cons (by first | exact OutE.tmp rfl | exact OutE.agg inferInstance rfl rfl | exact OutE.one inferInstance rfl) OutL.nil)) rfl) ⟨rfl, rfl⟩
  have h0 : sitesE l = 0 := by omega
  rw [if_neg h1, h0] at k1
  rw [show dueE l days = if dayB days then 0 else 1 by unfold dueE; rw [if_neg h1]]
  cases hd : dayB days
  · rw [hd] at k2
    repeat' (first | refine goH ?_ | refine goV ?_ | refine goB (fun b => ?_) | refine goC (fun ad cap => ?_) | refine goI ?_ | (refine Cw.k_cond ?_; first | (refine Cw.cond_dec rfl (fun hc => ?_) (fun hc => ?_) <;> try (exfalso; omega)) | refine Cw.cond_bool rfl (fun hc => ?_) (fun hc => ?_)) | (refine Ops.k_calla ?_; first | (refine Ops.k_callf 20 ?_; refine Ops.callV k1 (Evs.cons rfl Evs.nil) rfl ?_) | (refine Ops.k_callf 57 ?_; refine Ops.callV k2 (Evs.cons rfl Evs.nil) rfl ?_)) | fail)
    refine Fin.ret (Ent.trans (Ent.nilsl 1 (s := 4) rfl) (Ent.take (by repeat' (first | exact Take.nil | refine Take.cons (by first | exact pick0 | exact pickS pick0 | exact pickS (pickS pick0) | exact pickS (pickS (pickS pick0)) | exact pickS (pickS (pickS (pickS pick0)))) ?_)))) (Outs.many rfl (OutL.cons (by first | exact OutE.tmp rfl | exact OutE.agg inferInstance rfl rfl | exact OutE.one inferInstance rfl) (OutL.cons (by first | exact OutE.tmp rfl | exact OutE.agg inferInstance rfl rfl | exact OutE.one inferInstance rfl) OutL.nil)) rfl) ⟨rfl, rfl⟩
  rw [hd] at k2
  have hLs : (intRows (l.map leftI)).length = l.length := by rw [intRows_len, List.length_map]
  repeat' (first | refine goH ?_ | refine goV ?_ | refine goB (fun b => ?_) | refine goC (fun ad cap => ?_) | refine goI ?_ | (refine Cw.k_cond ?_; first | (refine Cw.cond_dec rfl (fun hc => ?_) (fun hc => ?_) <;> try (exfalso; omega)) | refine Cw.cond_bool rfl (fun hc => ?_) (fun hc => ?_)) | (refine Ops.k_calla ?_; first | (refine Ops.k_callf 20 ?_; refine Ops.callV k1 (Evs.cons rfl Evs.nil) rfl ?_) | (refine Ops.k_callf 57 ?_; refine Ops.callV k2 (Evs.cons rfl Evs.nil) rfl ?_)) | fail)
  rename Nat => b6
  refine Cw.loopI [(0, _), (1, _), (6, _), (25, _), (26, _)] _ (fun q e cc => ∃ (k : Nat) (ad : Option Addr) (cap : Nat) (rows : List (List Tr)), q = l.length - k ∧ (k ≤ l.length ∧ rows = intRows (dueN l days k) ∧ rows.length ≤ k) ∧ e = [(8, Tr.raw (.slice ad rows.length cap)), (27, .int k)] ∧ cc = [Chunk.own ad cap 1 3 rows])
    ⟨_, _, _, Ent.trans (Ent.nil 1 3) (Ent.mkP (by repeat' (first | exact Sub.nil | refine Sub.cons rfl ?_)) (by repeat' (first | exact List.Perm.refl _ | refine Perm.cons' (by first | exact pick0 | exact pickS pick0 | exact pickS (pickS pick0) | exact pickS (pickS (pickS pick0)) | exact pickS (pickS (pickS (pickS pick0)))) ?_))), 0, none, 0, [], rfl, ⟨by omega, rfl, by simp⟩, rfl, rfl⟩ ?_
  rintro _ _ _ ⟨k, ad, cap, rows, rfl, ⟨hk, hrows, hrl⟩, rfl, rfl⟩
  by_cases hkl : k < l.length
  · obtain ⟨x, hx⟩ := at_lt hkl
    have hrow : (intRows (l.map leftI))[((k : Nat) : Int).toNat]? = some [.int (leftI x)] := intRows_at (by rw [Int.toNat_natCast, List.getElem?_map, hx]; rfl)
    have hst := dueN_succ l days k
    rw [leftA_at hx] at hst
    by_cases hc : leftI x ≤ days
    · rw [if_pos hc] at hst
      have key : rows ++ [[Tr.int k]] = intRows (dueN l days (k + 1)) := by rw [hst, hrows, intRows_app]; rfl
      repeat' (first | refine goH ?_ | refine goV ?_ | refine goB (fun b => ?_) | refine goC (fun ad cap => ?_) | refine goI ?_ | (refine Cw.k_cond ?_; first | (refine Cw.cond_dec rfl (fun hc => ?_) (fun hc => ?_) <;> try (exfalso; omega)) | refine Cw.cond_bool rfl (fun hc => ?_) (fun hc => ?_)) | fail)
      exact ⟨_, _, _, (Ent.mk (by repeat' (first | exact Sub.nil | refine Sub.cons rfl ?_)) (by repeat' (first | exact Take.nil | refine Take.cons (by first | exact pick0 | exact pickS pick0 | exact pickS (pickS pick0) | exact pickS (pickS (pickS pick0)) | exact pickS (pickS (pickS (pickS pick0)))) ?_))), ⟨k + 1, _, _, _, rfl, ⟨by omega, key, by simp only [List.length_append, List.length_cons, List.length_nil]; omega⟩, rfl, rfl⟩, by omega⟩
    · rw [if_neg hc] at hst
      repeat' (first | refine goH ?_ | refine goV ?_ | refine goB (fun b => ?_) | refine goC (fun ad cap => ?_) | refine goI ?_ | (refine Cw.k_cond ?_; first | (refine Cw.cond_dec rfl (fun hc => ?_) (fun hc => ?_) <;> try (exfalso; omega)) | refine Cw.cond_bool rfl (fun hc => ?_) (fun hc => ?_)) | fail)
      exact ⟨_, _, _, (Ent.mk (by repeat' (first | exact Sub.nil | refine Sub.cons rfl ?_)) (by repeat' (first | exact Take.nil | refine Take.cons (by first | exact pick0 | exact pickS pick0 | exact pickS (pickS pick0) | exact pickS (pickS (pickS pick0)) | exact pickS (pickS (pickS (pickS pick0)))) ?_))), ⟨k + 1, _, _, _, rfl, ⟨by omega, by rw [hst]; exact hrows, by omega⟩, rfl, rfl⟩, by omega⟩
  have hkk : k = l.length := by omega
  subst hkk
  have hin : ∀ c, c ∈ dueN l days l.length → 0 ≤ c ∧ c < (l.map leftI).length := by
    intro c hc
    obtain ⟨i, rfl, h2, _⟩ := dueN_mem.1 hc
    rw [List.length_map]
    omega
  have hdl := dueN_len l days l.length
  have hsort := sortStable_int (n := (dueN l days l.length).length) (xs := dueN l days l.length) (ad := ad) (cap := cap) (g := 59) (caps := [.pointer (some ⟨b6, 0, none⟩)]) (cin := [Chunk.box b6 22 [.ints (l.map leftI)]])
    (lt := fun a b => decide (keyD l a < keyD l b)) (cf := fun a b => cmpI (keyD l a) (keyD l b)) (fun a b => by rw [Bool.eq_iff_iff, decide_eq_true_iff, decide_eq_true_iff]; exact (cmpI_lt _ _).symm) (by omega) rfl
    (fun a b ha hb => due1_fn (l.map leftI) b6 _ a b (by rw [List.length_map]; omega) (hin a ha) (hin b hb))
  rw [show isort (fun a b => decide (keyD l a < keyD l b)) (dueN l days l.length) = ordD l days from rfl] at hsort
  have hol : (ordD l days).length = (dueN l days l.length).length := isort_len _ _
  have hom : ∀ c, c ∈ ordD l days → 0 ≤ c ∧ c < (l.map leftI).length := fun c hc => hin c ((isort_perm _ _).mem_iff.1 hc)
  have hrn : rows.length = (dueN l days l.length).length := by rw [hrows, intRows_len]
  generalize hN : (dueN l days l.length).length = N at *
  clear hin
  rw [hrn]
  subst hrows
  repeat' (first | refine goH ?_ | refine goV ?_ | refine goB (fun b => ?_) | refine goC (fun ad cap => ?_) | refine goI ?_ | (refine Cw.k_cond ?_; first | (refine Cw.cond_dec rfl (fun hc => ?_) (fun hc => ?_) <;> try (exfalso; omega)) | refine Cw.cond_bool rfl (fun hc => ?_) (fun hc => ?_)) | (refine Ops.k_calla ?_; first | (refine Ops.k_callf 58 ?_; (refine Ops.call hsort (Evs.cons rfl (Evs.cons rfl Evs.nil)) (by repeat' (first | exact List.Perm.refl _ | refine Perm.cons' (by first | exact pick0 | exact pickS pick0 | exact pickS (pickS pick0) | exact pickS (pickS (pickS pick0)) | exact pickS (pickS (pickS (pickS pick0)))) ?_)) rfl ?_; rintro r cs' ⟨rfl, rfl⟩))) | fail)
  have hoi : (intRows (ordD l days)).length = N := by rw [intRows_len, hol]
  refine Cw.loopI [(0, _), (43, _), (44, _)] _ (fun q e cc => ∃ (k : Nat) (ad3 : Option Addr) (cap3 : Nat) (rows : List (List Tr)), q = N - k ∧ (k ≤ N ∧ rows = strRows (((ordD l days).take k).map (nameS l)) ∧ rows.length = k) ∧ e = [(11, Tr.raw (.slice ad3 rows.length cap3)), (45, .int k)] ∧ cc = [Chunk.own ad3 cap3 1 9 rows, Chunk.own ad cap 1 3 (intRows (ordD l days))])
    ⟨_, _, _, Ent.trans (Ent.nil 1 9) (Ent.mkP (by repeat' (first | exact Sub.nil | refine Sub.cons rfl ?_)) (by repeat' (first | exact List.Perm.refl _ | refine Perm.cons' (by first | exact pick0 | exact pickS pick0 | exact pickS (pickS pick0) | exact pickS (pickS (pickS pick0)) | exact pickS (pickS (pickS (pickS pick0)))) ?_))), 0, none, 0, [], rfl, ⟨by omega, rfl, by simp⟩, rfl, rfl⟩ ?_
  rintro _ _ _ ⟨k, ad3, cap3, rows, rfl, ⟨hk, hrows, hrl⟩, rfl, rfl⟩
  by_cases hkl : k < N
  · obtain ⟨i, hi⟩ : ∃ i, (ordD l days)[k]? = some i := at_lt (by omega)
    have him := hom i (List.mem_of_getElem? hi)
    rw [List.length_map] at him
    obtain ⟨x, hx⟩ : ∃ x, l[i.toNat]? = some x := at_lt (by omega)
    have hrowi : (intRows (ordD l days))[((k : Nat) : Int).toNat]? = some [Tr.int i] := intRows_at hi
    have hrowx : (l.map Site.row)[i.toNat]? = some [.str x.key, .ints x.have_, .ints x.rate] := rows_at hx
    have key : rows ++ [[Tr.str x.key]] = strRows (((ordD l days).take (k + 1)).map (nameS l)) := by rw [take_at hi, List.map_append, strRows_app, ← hrows]; simp [nameS, hx, strRows]
    clear hsort hom
    repeat' (first | refine goH ?_ | refine goV ?_ | refine goB (fun b => ?_) | refine goC (fun ad cap => ?_) | refine goI ?_ | (refine Cw.k_cond ?_; first | (refine Cw.cond_dec rfl (fun hc => ?_) (fun hc => ?_) <;> try (exfalso; omega)) | refine Cw.cond_bool rfl (fun hc => ?_) (fun hc => ?_)) | fail)
    exact ⟨_, _, _, (Ent.mk (by repeat' (first | exact Sub.nil | refine Sub.cons rfl ?_)) (by repeat' (first | exact Take.nil | refine Take.cons (by first | exact pick0 | exact pickS pick0 | exact pickS (pickS pick0) | exact pickS (pickS (pickS pick0)) | exact pickS (pickS (pickS (pickS pick0)))) ?_))), ⟨k + 1, _, _, _, rfl, ⟨by omega, key, by simp only [List.length_append, List.length_cons, List.length_nil]; omega⟩, rfl, rfl⟩, by omega⟩
  · rw [List.take_of_length_le (by omega)] at hrows
    subst hrows
    repeat' (first | refine goH ?_ | refine goV ?_ | refine goB (fun b => ?_) | refine goC (fun ad cap => ?_) | refine goI ?_ | (refine Cw.k_cond ?_; first | (refine Cw.cond_dec rfl (fun hc => ?_) (fun hc => ?_) <;> try (exfalso; omega)) | refine Cw.cond_bool rfl (fun hc => ?_) (fun hc => ?_)) | fail)
    refine Fin.ret (Ent.trans (Ent.settle (s := 4) rfl (by first | exact pick0 | exact pickS pick0 | exact pickS (pickS pick0) | exact pickS (pickS (pickS pick0)) | exact pickS (pickS (pickS (pickS pick0)))) rfl) (Ent.take (by repeat' (first | exact Take.nil | refine Take.cons (by first | exact pick0 | exact pickS pick0 | exact pickS (pickS pick0) | exact pickS (pickS (pickS pick0)) | exact pickS (pickS (pickS (pickS pick0)))) ?_)))) (Outs.many rfl (OutL.cons (by first | exact OutE.tmp rfl | exact OutE.agg inferInstance rfl rfl | exact OutE.one inferInstance rfl) (OutL.cons (by first | exact OutE.tmp rfl | exact OutE.agg inferInstance rfl rfl | exact OutE.one inferInstance rfl) OutL.nil)) rfl) ⟨rfl, rfl⟩

def dayS (l : List Site) (d : Int) (k : Nat) : List ByteArray := (dayN l d k).map (nameS l)
theorem dayS_succ {l : List Site} {d : Int} {k : Nat} {x : Site} (hx : l[k]? = some x) : dayS l d (k + 1) = if leftI x = d then dayS l d k ++ [x.key] else dayS l d k := by
  unfold dayS
  rw [dayN_succ, leftA_at hx]
  split
  · rw [List.map_append]; simp [nameS, hx]
  · rfl
theorem dueOf_fn (l : List Site) (h0 : sitesE l = 0) (hs : l.length < 20) (days : Nat) (hd : days ≤ 4000) : PFn Tryd.prog 24 [.sites l, .int days] (· = .strs ((ordD l days).map (nameS l))) := by
  have k1 := leftOf_fn l h0
  rw [ordD_ref h0]
  have hL : (l.map Site.row).length = l.length := List.length_map _
  have hLs : (intRows (l.map leftI)).length = l.length := by rw [intRows_len, List.length_map]
  refine PFn.mk (Spec.body Tryd.func24 rfl rfl (Tryd.ntmps24) rfl fun w0 own0 M => ?_)
  repeat' (first | refine goH ?_ | refine goV ?_ | refine goB (fun b => ?_) | refine goC (fun ad cap => ?_) | refine goI ?_ | (refine Cw.k_cond ?_; first | (refine Cw.cond_dec rfl (fun hc => ?_) (fun hc => ?_) <;> try (exfalso; omega)) | refine Cw.cond_bool rfl (fun hc => ?_) (fun hc => ?_)) | (refine Ops.k_calla ?_; first | (refine Ops.k_callf 22 ?_; refine Ops.callV k1 (Evs.cons rfl Evs.nil) rfl ?_)) | fail)
  refine Cw.loopI [(0, _), (1, _), (6, _)] _ (fun q e cc => ∃ (d : Nat) (ad : Option Addr) (cap : Nat) (rows : List (List Tr)), q = days + 1 - d ∧ (d ≤ days + 1 ∧ rows = strRows ((refD l d).map (nameS l)) ∧ rows.length ≤ 20 * d) ∧ e = [(5, Tr.raw (.slice ad rows.length cap)), (7, .int d)] ∧ cc = [Chunk.own ad cap 1 9 rows])
    ⟨_, _, _, Ent.trans (Ent.nil 1 9) (Ent.mkP (by repeat' (first | exact Sub.nil | refine Sub.cons rfl ?_)) (by repeat' (first | exact List.Perm.refl _ | refine Perm.cons' (by first | exact pick0 | exact pickS pick0 | exact pickS (pickS pick0) | exact pickS (pickS (pickS pick0)) | exact pickS (pickS (pickS (pickS pick0)))) ?_))), 0, none, 0, [], rfl, ⟨by omega, rfl, by simp⟩, rfl, rfl⟩ ?_
  rintro _ _ _ ⟨d, ad, cap, rows, rfl, ⟨hdk, hrows, hrl⟩, rfl, rfl⟩
  by_cases hdl : d ≤ days
  · repeat' (first | refine goH ?_ | refine goV ?_ | refine goB (fun b => ?_) | refine goC (fun ad cap => ?_) | refine goI ?_ | (refine Cw.k_cond ?_; first | (refine Cw.cond_dec rfl (fun hc => ?_) (fun hc => ?_) <;> try (exfalso; omega)) | refine Cw.cond_bool rfl (fun hc => ?_) (fun hc => ?_)) | fail)
    refine Cw.loopI [(0, _), (1, _), (6, _), (7, _), (17, _), (18, _)] _ (fun q e cc => ∃ (k : Nat) (ad : Option Addr) (cap : Nat) (rows2 : List (List Tr)), q = l.length - k ∧ (k ≤ l.length ∧ rows2 = rows ++ strRows (dayS l d k) ∧ rows2.length ≤ 20 * d + k) ∧ e = [(5, Tr.raw (.slice ad rows2.length cap)), (19, .int k)] ∧ cc = [Chunk.own ad cap 1 9 rows2])
      ⟨_, _, _, (Ent.mkP (by repeat' (first | exact Sub.nil | refine Sub.cons rfl ?_)) (by repeat' (first | exact List.Perm.refl _ | refine Perm.cons' (by first | exact pick0 | exact pickS pick0 | exact pickS (pickS pick0) | exact pickS (pickS (pickS pick0)) | exact pickS (pickS (pickS (pickS pick0)))) ?_))), 0, ad, cap, rows, rfl, ⟨by omega, by simp [dayS, dayN, strRows], by omega⟩, rfl, rfl⟩ ?_
    clear ad cap
    rintro _ _ _ ⟨k, ad, cap, rows2, rfl, ⟨hk, hrows2, hrl2⟩, rfl, rfl⟩
    by_cases hkl : k < l.length
    · obtain ⟨x, hx⟩ := at_lt hkl
      have hrow : (intRows (l.map leftI))[((k : Nat) : Int).toNat]? = some [.int (leftI x)] := intRows_at (by rw [Int.toNat_natCast, List.getElem?_map, hx]; rfl)
      have hrowx : (l.map Site.row)[((k : Nat) : Int).toNat]? = some [.str x.key, .ints x.have_, .ints x.rate] := rows_at hx
      have hst := dayS_succ (d := (d : Int)) hx
      by_cases hc : leftI x = d
      · rw [if_pos hc] at hst
        have key : rows2 ++ [[Tr.str x.key]] = rows ++ strRows (dayS l d (k + 1)) := by rw [hst, hrows2, strRows_app, List.append_assoc]; rfl
        clear hrows hrows2
        repeat' (first | refine goH ?_ | refine goV ?_ | refine goB (fun b => ?_) | refine goC (fun ad cap => ?_) | refine goI ?_ | (refine Cw.k_cond ?_; first | (refine Cw.cond_dec rfl (fun hc => ?_) (fun hc => ?_) <;> try (exfalso; omega)) | refine Cw.cond_bool rfl (fun hc => ?_) (fun hc => ?_)) | fail)
        exact ⟨_, _, _, (Ent.mk (by repeat' (first | exact Sub.nil | refine Sub.cons rfl ?_)) (by repeat' (first | exact Take.nil | refine Take.cons (by first | exact pick0 | exact pickS pick0 | exact pickS (pickS pick0) | exact pickS (pickS (pickS pick0)) | exact pickS (pickS (pickS (pickS pick0)))) ?_))), ⟨k + 1, _, _, _, rfl, ⟨by omega, key, by simp only [List.length_append, List.length_cons, List.length_nil]; omega⟩, rfl, rfl⟩, by omega⟩
      · rw [if_neg hc] at hst
        have key : rows2 = rows ++ strRows (dayS l d (k + 1)) := by rw [hst, hrows2]
        clear hrows hrows2
        repeat' (first | refine goH ?_ | refine goV ?_ | refine goB (fun b => ?_) | refine goC (fun ad cap => ?_) | refine goI ?_ | (refine Cw.k_cond ?_; first | (refine Cw.cond_dec rfl (fun hc => ?_) (fun hc => ?_) <;> try (exfalso; omega)) | refine Cw.cond_bool rfl (fun hc => ?_) (fun hc => ?_)) | fail)
        exact ⟨_, _, _, (Ent.mk (by repeat' (first | exact Sub.nil | refine Sub.cons rfl ?_)) (by repeat' (first | exact Take.nil | refine Take.cons (by first | exact pick0 | exact pickS pick0 | exact pickS (pickS pick0) | exact pickS (pickS (pickS pick0)) | exact pickS (pickS (pickS (pickS pick0)))) ?_))), ⟨k + 1, _, _, _, rfl, ⟨by omega, key, by omega⟩, rfl, rfl⟩, by omega⟩
    · have hkk : k = l.length := by omega
      subst hkk
      have key : rows2 = strRows ((refD l (d + 1)).map (nameS l)) := by rw [hrows2, hrows, refD_succ, List.map_append, strRows_app]; rfl
      clear hrows hrows2
      repeat' (first | refine goH ?_ | refine goV ?_ | refine goB (fun b => ?_) | refine goC (fun ad cap => ?_) | refine goI ?_ | (refine Cw.k_cond ?_; first | (refine Cw.cond_dec rfl (fun hc => ?_) (fun hc => ?_) <;> try (exfalso; omega)) | refine Cw.cond_bool rfl (fun hc => ?_) (fun hc => ?_)) | fail)
      exact ⟨_, _, _, (Ent.mk (by repeat' (first | exact Sub.nil | refine Sub.cons rfl ?_)) (by repeat' (first | exact Take.nil | refine Take.cons (by first | exact pick0 | exact pickS pick0 | exact pickS (pickS pick0) | exact pickS (pickS (pickS pick0)) | exact pickS (pickS (pickS (pickS pick0)))) ?_))), ⟨d + 1, _, _, _, rfl, ⟨by omega, key, by omega⟩, rfl, rfl⟩, by omega⟩
  · have hdd : d = days + 1 := by omega
    subst hdd
    subst hrows
    repeat' (first | refine goH ?_ | refine goV ?_ | refine goB (fun b => ?_) | refine goC (fun ad cap => ?_) | refine goI ?_ | (refine Cw.k_cond ?_; first | (refine Cw.cond_dec rfl (fun hc => ?_) (fun hc => ?_) <;> try (exfalso; omega)) | refine Cw.cond_bool rfl (fun hc => ?_) (fun hc => ?_)) | fail)
    refine Fin.ret (Ent.trans (Ent.settle (s := 4) rfl (by first | exact pick0 | exact pickS pick0 | exact pickS (pickS pick0) | exact pickS (pickS (pickS pick0)) | exact pickS (pickS (pickS (pickS pick0)))) rfl) (Ent.take (by repeat' (first | exact Take.nil | refine Take.cons (by first | exact pick0 | exact pickS pick0 | exact pickS (pickS pick0) | exact pickS (pickS (pickS pick0)) | exact pickS (pickS (pickS (pickS pick0)))) ?_)))) (Outs.sole rfl (by first | exact OutE.tmp rfl | exact OutE.agg inferInstance rfl rfl | exact OutE.one inferInstance rfl)) ⟨rfl, rfl⟩
end Lg
