/- A part of the proof of a law of this seat: it adds no condition. By an AI agent. -/
import Derived.Test.YtckmbloodnndeaaGreatDoorLgBld
import Derived.Test.YtckmbloodnndeaaGreatDoorRt6
import Derived.Test.YtckmbloodnndeaaGreatDoorSite2
section
set_option linter.all false
set_option maxRecDepth 100000
set_option maxHeartbeats 4000000
namespace Lg
open Go Go.Proofs

theorem due1_fn (ls : List Int) (bx E : Nat) (a b : Int) (hl : ls.length ≤ 1000) (ha : 0 ≤ a ∧ a < ls.length) (hb : 0 ≤ b ∧ b < ls.length) :
    Spec Tryz.prog 36 [.int a, .int b, .ptr bx] [Chunk.box bx E [.ints ls]] (fun r cs => r = Tr.int (cmpI (ls.getD a.toNat 0) (ls.getD b.toNat 0)) ∧ cs = [Chunk.box bx E [.ints ls]]) := by
  refine Spec.body Tryz.func36 rfl rfl (Tryz.ntmps36) rfl fun w0 own0 M => ?_
  have hL := intRows_len ls
  obtain ⟨x, hx⟩ : ∃ x, ls[a.toNat]? = some x := at_lt (by omega)
  obtain ⟨y, hy⟩ : ∃ y, ls[b.toNat]? = some y := at_lt (by omega)
  have hrx := intRows_at hx
  have hry := intRows_at hy
  have hc := compare_fn x y
  have e1 : ls.getD a.toNat 0 = x := by rw [List.getD_eq_getElem?_getD, hx]; rfl
  have e2 : ls.getD b.toNat 0 = y := by rw [List.getD_eq_getElem?_getD, hy]; rfl
  rw [e1, e2]
  generalize cmpI x y = r at *
  repeat' (first | refine goH ?_ | refine goV ?_ | refine goI ?_ | (refine Cw.k_cond ?_; first | (refine Cw.cond_dec rfl (fun hc => ?_) (fun hc => ?_) <;> try (exfalso; omega)) | refine Cw.cond_bool rfl (fun hc => ?_) (fun hc => ?_)) | (refine Ops.k_calla ?_; first | (refine Ops.k_callf 37 ?_; refine Ops.callV hc (Evs.cons rfl (Evs.cons rfl Evs.nil)) rfl ?_)) | (apply OpW.k_call; first | (apply OpW.k_callf 37; exact OpW.callV hc (Evs.cons rfl (Evs.cons rfl Evs.nil)))) | refine goR ?_ | refine goP ?_ | apply PSeq.cons | apply PSeq.yes rfl rfl rfl | exact goW | fail)
  exact Fin.ret Ent.refl (Outs.one rfl rfl) ⟨rfl, rfl⟩

def dueE (l : List Site) (days : Int) : Int := if sitesE l ≠ 0 then sitesE l else if dayB days then 0 else 1
theorem due_fn (l : List Site) (hl : SBd l) (hs : l.length < 20) (days : Int) : PFn Tryz.prog 7 [.sites l, .int days] (· = .tup [.strs (if dueE l days ≠ 0 then [] else (ordD l days).map (nameS l)), .int (dueE l days)]) := by
  have k1 := left_fn l hl
  have k2 := day_fn days
  have hL : (l.map Site.row).length = l.length := List.length_map _
  refine PFn.mk (Spec.body Tryz.func7 rfl rfl (Tryz.ntmps7) rfl fun w0 own0 M => ?_)
  by_cases h1 : sitesE l ≠ 0
  · rw [show dueE l days = sitesE l by unfold dueE; rw [if_pos h1], if_pos h1]
    rw [if_pos h1] at k1
    generalize sitesE l = se at *
    repeat' (first | refine goH ?_ | refine goV ?_ | refine goB (fun b => ?_) | refine goC (fun ad cap => ?_) | refine goI ?_ | (refine Cw.k_cond ?_; first | (refine Cw.cond_dec rfl (fun hc => ?_) (fun hc => ?_) <;> try (exfalso; omega)) | refine Cw.cond_bool rfl (fun hc => ?_) (fun hc => ?_)) | (refine Ops.k_calla ?_; first | (refine Ops.k_callf 9 ?_; refine Ops.callV k1 (Evs.cons rfl Evs.nil) rfl ?_)) | fail)
    refine Fin.ret (Ent.trans (Ent.nilsl 1 (s := 4) rfl) (Ent.take goTk)) (Outs.many rfl (OutL.cons goOe (OutL.cons goOe OutL.nil)) rfl) ⟨rfl, rfl⟩
  have h0 : sitesE l = 0 := by omega
  rw [if_neg h1, h0] at k1
  rw [show dueE l days = if dayB days then 0 else 1 by unfold dueE; rw [if_neg h1]]
  cases hd : dayB days
  · rw [hd] at k2
    repeat' (first | refine goH ?_ | refine goV ?_ | refine goB (fun b => ?_) | refine goC (fun ad cap => ?_) | refine goI ?_ | (refine Cw.k_cond ?_; first | (refine Cw.cond_dec rfl (fun hc => ?_) (fun hc => ?_) <;> try (exfalso; omega)) | refine Cw.cond_bool rfl (fun hc => ?_) (fun hc => ?_)) | (refine Ops.k_calla ?_; first | (refine Ops.k_callf 9 ?_; refine Ops.callV k1 (Evs.cons rfl Evs.nil) rfl ?_) | (refine Ops.k_callf 34 ?_; refine Ops.callV k2 (Evs.cons rfl Evs.nil) rfl ?_)) | fail)
    refine Fin.ret (Ent.trans (Ent.nilsl 1 (s := 4) rfl) (Ent.take goTk)) (Outs.many rfl (OutL.cons goOe (OutL.cons goOe OutL.nil)) rfl) ⟨rfl, rfl⟩
  rw [hd] at k2
  have hLs : (intRows (l.map leftI)).length = l.length := by rw [intRows_len, List.length_map]
  repeat' (first | refine goH ?_ | refine goV ?_ | refine goB (fun b => ?_) | refine goC (fun ad cap => ?_) | refine goI ?_ | (refine Cw.k_cond ?_; first | (refine Cw.cond_dec rfl (fun hc => ?_) (fun hc => ?_) <;> try (exfalso; omega)) | refine Cw.cond_bool rfl (fun hc => ?_) (fun hc => ?_)) | (refine Ops.k_calla ?_; first | (refine Ops.k_callf 9 ?_; refine Ops.callV k1 (Evs.cons rfl Evs.nil) rfl ?_) | (refine Ops.k_callf 34 ?_; refine Ops.callV k2 (Evs.cons rfl Evs.nil) rfl ?_)) | fail)
  rename Nat => b6
  refine Cw.loopI [(0, _), (1, _), (6, _), (25, _), (26, _)] _ (fun q e cc => ∃ (k : Nat) (ad : Option Addr) (cap : Nat) (rows : List (List Tr)), q = l.length - k ∧ (k ≤ l.length ∧ rows = intRows (dueN l days k) ∧ rows.length ≤ k) ∧ e = [(8, Tr.raw (.slice ad rows.length cap)), (27, .int k)] ∧ cc = [Chunk.own ad cap 1 3 rows])
    ⟨_, _, _, Ent.trans (Ent.nil 1 3) (Ent.mkP goSub goPm), 0, none, 0, [], rfl, ⟨by omega, rfl, by simp⟩, rfl, rfl⟩ ?_
  rintro _ _ _ ⟨k, ad, cap, rows, rfl, ⟨hk, hrows, hrl⟩, rfl, rfl⟩
  by_cases hkl : k < l.length
  · obtain ⟨x, hx⟩ := at_lt hkl
    have hrow : (intRows (l.map leftI))[((k : Nat) : Int).toNat]? = some [.int (leftI x)] := intRows_at (by rw [Int.toNat_natCast, List.getElem?_map, hx]; rfl)
    have hst := dueN_succ l days k
    rw [leftA_at hx] at hst
    by_cases hc : leftI x ≤ days
    · rw [if_pos hc] at hst
      have key : rows ++ [[Tr.int k]] = intRows (dueN l days (k + 1)) := by rw [hst, hrows, intRows_app]; rfl
      repeat' (first | refine goH ?_ | refine goV ?_ | refine goB (fun b => ?_) | refine goC (fun ad cap => ?_) | refine goI ?_ | (refine Cw.k_cond ?_; first | (refine Cw.cond_dec rfl (fun hc => ?_) (fun hc => ?_) <;> try (exfalso; omega)) | refine Cw.cond_bool rfl (fun hc => ?_) (fun hc => ?_)) | fail)
      exact ⟨_, _, _, (Ent.mk goSub goTk), ⟨k + 1, _, _, _, rfl, ⟨by omega, key, by simp only [List.length_append, List.length_cons, List.length_nil]; omega⟩, rfl, rfl⟩, by omega⟩
    · rw [if_neg hc] at hst
      repeat' (first | refine goH ?_ | refine goV ?_ | refine goB (fun b => ?_) | refine goC (fun ad cap => ?_) | refine goI ?_ | (refine Cw.k_cond ?_; first | (refine Cw.cond_dec rfl (fun hc => ?_) (fun hc => ?_) <;> try (exfalso; omega)) | refine Cw.cond_bool rfl (fun hc => ?_) (fun hc => ?_)) | fail)
      exact ⟨_, _, _, (Ent.mk goSub goTk), ⟨k + 1, _, _, _, rfl, ⟨by omega, by rw [hst]; exact hrows, by omega⟩, rfl, rfl⟩, by omega⟩
  have hkk : k = l.length := by omega
  subst hkk
  have hin : ∀ c, c ∈ dueN l days l.length → 0 ≤ c ∧ c < (l.map leftI).length := by
    intro c hc
    obtain ⟨i, rfl, h2, _⟩ := dueN_mem.1 hc
    rw [List.length_map]
    omega
  have hdl := dueN_len l days l.length
  have hsort := sortStable_int (n := (dueN l days l.length).length) (xs := dueN l days l.length) (ad := ad) (cap := cap) (g := 36) (caps := [.pointer (some ⟨b6, 0, none⟩)]) (cin := [Chunk.box b6 22 [.ints (l.map leftI)]])
    (lt := fun a b => decide (keyD l a < keyD l b)) (cf := fun a b => cmpI (keyD l a) (keyD l b)) (fun a b => by rw [Bool.eq_iff_iff, decide_eq_true_iff, decide_eq_true_iff]; exact (cmpI_lt _ _).symm) (by omega) rfl
    (fun a b ha hb => due1_fn (l.map leftI) b6 _ a b (by rw [List.length_map]; omega) (hin a ha) (hin b hb))
  rw [show isort (fun a b => decide (keyD l a < keyD l b)) (dueN l days l.length) = ordD l days from rfl] at hsort
  have hol : (ordD l days).length = (dueN l days l.length).length := isort_len _ _
  have hom : ∀ c, c ∈ ordD l days → 0 ≤ c ∧ c < (l.map leftI).length := fun c hc => hin c ((isort_perm _ _).mem_iff.1 hc)
  have hrn : rows.length = (dueN l days l.length).length := by rw [hrows, intRows_len]
  generalize hN : (dueN l days l.length).length = N at *
  clear hin
  rw [hrn]
  subst hrows
  repeat' (first | refine goH ?_ | refine goV ?_ | refine goB (fun b => ?_) | refine goC (fun ad cap => ?_) | refine goI ?_ | (refine Cw.k_cond ?_; first | (refine Cw.cond_dec rfl (fun hc => ?_) (fun hc => ?_) <;> try (exfalso; omega)) | refine Cw.cond_bool rfl (fun hc => ?_) (fun hc => ?_)) | (refine Ops.k_calla ?_; first | (refine Ops.k_callf 35 ?_; (refine Ops.call hsort (Evs.cons rfl (Evs.cons rfl Evs.nil)) goPm rfl ?_; rintro r cs' ⟨rfl, rfl⟩))) | fail)
  have hoi : (intRows (ordD l days)).length = N := by rw [intRows_len, hol]
  refine Cw.loopI [(0, _), (43, _), (44, _)] _ (fun q e cc => ∃ (k : Nat) (ad3 : Option Addr) (cap3 : Nat) (rows : List (List Tr)), q = N - k ∧ (k ≤ N ∧ rows = strRows (((ordD l days).take k).map (nameS l)) ∧ rows.length = k) ∧ e = [(11, Tr.raw (.slice ad3 rows.length cap3)), (45, .int k)] ∧ cc = [Chunk.own ad3 cap3 1 9 rows, Chunk.own ad cap 1 3 (intRows (ordD l days))])
    ⟨_, _, _, Ent.trans (Ent.nil 1 9) (Ent.mkP goSub goPm), 0, none, 0, [], rfl, ⟨by omega, rfl, by simp⟩, rfl, rfl⟩ ?_
  rintro _ _ _ ⟨k, ad3, cap3, rows, rfl, ⟨hk, hrows, hrl⟩, rfl, rfl⟩
  by_cases hkl : k < N
  · obtain ⟨i, hi⟩ : ∃ i, (ordD l days)[k]? = some i := at_lt (by omega)
    have him := hom i (List.mem_of_getElem? hi)
    rw [List.length_map] at him
    obtain ⟨x, hx⟩ : ∃ x, l[i.toNat]? = some x := at_lt (by omega)
    have hrowi : (intRows (ordD l days))[((k : Nat) : Int).toNat]? = some [Tr.int i] := intRows_at hi
    have hrowx : (l.map Site.row)[i.toNat]? = some [.str x.key, .ints x.have_, .ints x.rate] := rows_at hx
    have key : rows ++ [[Tr.str x.key]] = strRows (((ordD l days).take (k + 1)).map (nameS l)) := by rw [take_at hi, List.map_append, strRows_app, ← hrows]; simp [nameS, hx, strRows]
    clear hsort hom
    repeat' (first | refine goH ?_ | refine goV ?_ | refine goB (fun b => ?_) | refine goC (fun ad cap => ?_) | refine goI ?_ | (refine Cw.k_cond ?_; first | (refine Cw.cond_dec rfl (fun hc => ?_) (fun hc => ?_) <;> try (exfalso; omega)) | refine Cw.cond_bool rfl (fun hc => ?_) (fun hc => ?_)) | fail)
    exact ⟨_, _, _, (Ent.mk goSub goTk), ⟨k + 1, _, _, _, rfl, ⟨by omega, key, by simp only [List.length_append, List.length_cons, List.length_nil]; omega⟩, rfl, rfl⟩, by omega⟩
  · rw [List.take_of_length_le (by omega)] at hrows
    subst hrows
    repeat' (first | refine goH ?_ | refine goV ?_ | refine goB (fun b => ?_) | refine goC (fun ad cap => ?_) | refine goI ?_ | (refine Cw.k_cond ?_; first | (refine Cw.cond_dec rfl (fun hc => ?_) (fun hc => ?_) <;> try (exfalso; omega)) | refine Cw.cond_bool rfl (fun hc => ?_) (fun hc => ?_)) | fail)
    refine Fin.ret (Ent.trans (Ent.settle (s := 4) rfl goPk rfl) (Ent.take goTk)) (Outs.many rfl (OutL.cons goOe (OutL.cons goOe OutL.nil)) rfl) ⟨rfl, rfl⟩

end Lg
end
section
set_option linter.all false
set_option maxRecDepth 100000
set_option maxHeartbeats 8000000
namespace Lg
open Go Go.Proofs

/-! ### the sites that are due, and the stops made of them -/
theorem site_key {l : List Site} (h : sitesE l = 0) {k : Nat} {x : Site} (hx : l[k]? = some x) : isKey x.key = true ∧ prevB (fun x y => strLe x.key y.key) l k x = false := by
  unfold sitesE at h
  split at h
  · omega
  have hk := (List.getElem?_eq_some_iff.1 hx).1
  have h2 := firstE_zero h k (Nat.zero_le _) (by omega)
  unfold siteE at h2
  rw [hx] at h2
  simp only at h2
  by_cases h3 : isKey x.key = false
  · rw [if_pos h3] at h2; omega
  rw [if_neg h3] at h2
  by_cases h4 : prevB (fun x y => strLe x.key y.key) l k x = true
  · rw [if_pos h4] at h2; omega
  exact ⟨by simpa using h3, by simpa using h4⟩
theorem site_lt {l : List Site} (h : sitesE l = 0) : ∀ (d i : Nat) (x y : Site), l[i]? = some x → l[i + 1 + d]? = some y → strLt x.key y.key = true
  | 0, i, x, y, hx, hy => by
    have h1 := (site_key h hy).2
    unfold prevB at h1
    rw [show i + 1 + 0 = i + 1 from rfl] at h1
    simp only [hx] at h1
    unfold strLe at h1
    rw [Bool.or_eq_false_iff] at h1
    cases h2 : strLt x.key y.key
    · have := strLt_tri h2 h1.1
      simp [this] at h1
    · rfl
  | d + 1, i, x, y, hx, hy => by
    have hlt := (List.getElem?_eq_some_iff.1 hy).1
    obtain ⟨z, hz⟩ := at_lt (l := l) (k := i + 1 + d) (by omega)
    exact strLt_trans (site_lt h d i x z hx hz) (site_lt h 0 (i + 1 + d) z y hz hy)
theorem site_ne {l : List Site} (h : sitesE l = 0) {i j : Nat} {x y : Site} (hx : l[i]? = some x) (hy : l[j]? = some y) (hij : i ≠ j) : ¬ x.key = y.key := by
  intro e
  rcases Nat.lt_or_gt_of_ne hij with c | c
  · have := site_lt h (j - i - 1) i x y hx (by rw [show i + 1 + (j - i - 1) = j by omega]; exact hy)
    rw [e, strLt_irrefl] at this
    cases this
  · have := site_lt h (i - j - 1) j y x hy (by rw [show j + 1 + (i - j - 1) = i by omega]; exact hx)
    rw [e, strLt_irrefl] at this
    cases this
theorem idxFrom_at {α : Type} {p : α → Bool} : ∀ (l : List α) (i : Nat) (k : Int) (x : α), l[i]? = some x → p x = true → (∀ j y, j < i → l[j]? = some y → p y = false) → idxFrom p l k = k + i
  | [], i, k, x, h, _, _ => by simp at h
  | z :: l, 0, k, x, h, hp, _ => by
    simp at h
    subst h
    rw [idxFrom, if_pos hp]
    simp
  | z :: l, i + 1, k, x, h, hp, hn => by
    rw [idxFrom, if_neg (by rw [hn 0 z (by omega) rfl]; simp), idxFrom_at l i (k + 1) x (by simpa using h) hp (fun j y hj hy => hn (j + 1) y (by omega) (by simpa using hy))]
    omega
theorem site_find {l : List Site} (h : sitesE l = 0) {i : Nat} {x : Site} (hx : l[i]? = some x) : idxFrom (fun s : Site => decide (s.key = x.key)) l 0 = i := by
  rw [idxFrom_at l i 0 x hx (by simp) (fun j y hj hy => by simpa using site_ne h hy hx (by omega))]
  omega
theorem ordD_mem {l : List Site} {days i : Int} (h : i ∈ ordD l days) : 0 ≤ i ∧ i.toNat < l.length := by
  unfold ordD at h
  rw [(isort_perm _ _).mem_iff] at h
  unfold dueN at h
  obtain ⟨k, hk, rfl⟩ := List.mem_map.1 h
  have := List.mem_range.1 (List.mem_filter.1 hk).1
  exact ⟨Int.natCast_nonneg _, by simpa using this⟩
theorem ordD_len {l : List Site} {days : Int} : (ordD l days).length ≤ l.length := by
  unfold ordD
  rw [isort_len]
  unfold dueN
  rw [List.length_map]
  exact Nat.le_trans (List.length_filter_le _ _) (by rw [List.length_range]; omega)
theorem ordD_nodup {l : List Site} {days : Int} : (ordD l days).Nodup := by
  unfold ordD
  rw [(isort_perm _ _).nodup_iff]
  unfold dueN
  rw [List.Nodup, List.pairwise_map]
  exact ((List.nodup_range (n := l.length)).filter _).imp fun {a b} h e => h (Int.ofNat.inj e)
theorem ordD_sorted {l : List Site} {days : Int} {j : Nat} {a b : Int} (ha : (ordD l days)[j]? = some a) (hb : (ordD l days)[j + 1]? = some b) : leftA l a.toNat ≤ leftA l b.toNat := by
  have h := isort_key_sorted (keyD l) (dueN l days l.length)
  obtain ⟨h1, rfl⟩ := List.getElem?_eq_some_iff.1 ha
  obtain ⟨h2, rfl⟩ := List.getElem?_eq_some_iff.1 hb
  exact List.pairwise_iff_getElem.1 h j (j + 1) h1 h2 (by omega)
/-- the stop of the j-th site that is due -/
def stopOk (l : List Site) (O : List Int) (j : Nat) (s : Stop) : Prop := (∃ i, O[j]? = some i ∧ s.key = nameS l i) ∧ s.x = 5 * (j : Int) ∧ -5 ≤ s.y ∧ s.y ≤ 5 ∧ s.f = 0 ∧ s.t = 1440 ∧ s.n = 5
def stopsOk (l : List Site) (O : List Int) (S : List Stop) : Prop := ∀ j s, S[j]? = some s → stopOk l O j s
theorem stopsOk_snoc {l : List Site} {O : List Int} {S : List Stop} {s : Stop} (h : stopsOk l O S) (hs : stopOk l O S.length s) : stopsOk l O (S ++ [s]) := by
  intro j t ht
  by_cases hj : j < S.length
  · rw [List.getElem?_append_left hj] at ht
    exact h j t ht
  · rw [List.getElem?_append_right (by omega)] at ht
    have hlt := (List.getElem?_eq_some_iff.1 ht).1
    have hj0 : j = S.length := by simp at hlt; omega
    subst hj0
    simp at ht
    subst ht
    exact hs
theorem stopsE_ok {l : List Site} {O : List Int} {S : List Stop} (h0 : sitesE l = 0) (hO : ∀ i ∈ O, 0 ≤ i ∧ i.toNat < l.length) (hn : O.Nodup) (hS : stopsOk l O S) (hl : S.length ≤ 5) : stopsE S = 0 := by
  unfold stopsE
  rw [if_neg (by omega)]
  refine firstE_drop fun k _ hk => ?_
  obtain ⟨s, hs⟩ := at_lt (l := S) (k := k) (by omega)
  obtain ⟨⟨i, hi, hki⟩, h1, h2, h3, h4, h5, h6⟩ := hS k s hs
  obtain ⟨i1, i2⟩ := hO i (List.mem_of_getElem? hi)
  obtain ⟨x, hx⟩ := at_lt i2
  have hnx : nameS l i = x.key := by unfold nameS; rw [hx]
  unfold stopE
  rw [hs]
  simp only
  rw [if_neg (by rw [hki, hnx, (site_key h0 hx).1]; simp), if_neg, if_neg]
  · have hsp : spotB s.spot = true := spotB_iff.2 (by show -10000 ≤ s.x ∧ s.x ≤ 10000 ∧ -10000 ≤ s.y ∧ s.y ≤ 10000; omega)
    unfold stopB
    rw [hsp, Bool.true_and]
    simp
    omega
  · intro hc
    obtain ⟨t, ht, hq⟩ := List.any_eq_true.1 hc
    obtain ⟨j, hj⟩ := List.getElem?_of_mem ht
    have hjk : j < k := by
      have := (List.getElem?_eq_some_iff.1 hj).1
      rw [List.length_take] at this
      omega
    rw [List.getElem?_take_of_lt hjk] at hj
    obtain ⟨⟨i', hi', hki'⟩, _⟩ := hS j t hj
    obtain ⟨j1, j2⟩ := hO i' (List.mem_of_getElem? hi')
    obtain ⟨y, hy⟩ := at_lt j2
    have hny : nameS l i' = y.key := by unfold nameS; rw [hy]
    unfold keyQ at hq
    have hq : t.key = s.key := by simpa using hq
    rw [hki, hki', hnx, hny] at hq
    have hne : i'.toNat ≠ i.toNat := by
      intro e
      have e2 : i' = i := by omega
      subst e2
      obtain ⟨q1, q2⟩ := List.getElem?_eq_some_iff.1 hi
      obtain ⟨q3, q4⟩ := List.getElem?_eq_some_iff.1 hi'
      have := (List.nodup_iff_pairwise_ne.1 hn)
      have := List.pairwise_iff_getElem.1 this j k q3 q1 hjk
      exact this (q4.trans q2.symm)
    exact site_ne h0 hy hx hne hq
theorem stops_easy {l : List Site} {O : List Int} {S : List Stop} (hS : stopsOk l O S) (hl : S.length ≤ 5) : ∀ s ∈ S, easyS s := by
  intro s hs
  obtain ⟨j, hj⟩ := List.getElem?_of_mem hs
  have hlt := (List.getElem?_eq_some_iff.1 hj).1
  obtain ⟨_, h1, h2, h3, h4, h5, h6⟩ := hS j s hj
  exact ⟨h4, h5, h6, by omega, by omega, h2, h3⟩
/-- what Best, Nearest and Drive answer -/
theorem tours_ok {S : List Stop} (h0 : stopsE S = 0) (he : ∀ s ∈ S, easyS s) (hl : S.length ≤ 5) :
    ∃ (B N bs : List Int) (n e w q : Int), tripE ⟨0, 0⟩ S 0 = 0 ∧ bestE S ⟨0, 0⟩ 0 = .tup [.ints B, .int n, .int 0] ∧ nrR S (S.length + 1) [] ⟨0, 0⟩ 0 = N ∧ drvA ⟨0, 0⟩ S 0 N = .tup [.tour bs e w q, .int 0] ∧ B.length = S.length ∧ N.length = S.length ∧ n ≤ w := by
  obtain ⟨a, now, w, q1, q2, q3, q4, q5, q6⟩ := best_near he (h := ⟨0, 0⟩) ⟨by decide, by decide, by decide, by decide⟩ (by omega)
  have ht : tripE ⟨0, 0⟩ S 0 = 0 := by
    unfold tripE
    rw [if_neg (by omega), if_pos ⟨by decide, by omega, by omega⟩]
  have hd := drvP_drv (l := S) (h := ⟨0, 0⟩) (nrR S (S.length + 1) [] ⟨0, 0⟩ 0) ⟨0, 0⟩ 0 [] 0 0
  rw [q1] at hd
  obtain ⟨bs2, qq, hd⟩ := hd
  refine ⟨(bestS S ⟨0, 0⟩ 0).1, _, bs2, (bestS S ⟨0, 0⟩ 0).2, now + farI a ⟨0, 0⟩, w + farI a ⟨0, 0⟩, qq, ht, ?_, rfl, ?_, q4, q3, q6⟩
  · unfold bestE
    rw [if_neg (by omega), if_neg (by omega)]
  · unfold drvA
    rw [if_neg (by omega)]
    unfold drvU
    rw [if_neg (by omega), hd]
    rfl
theorem histGo_lenQ : ∀ {l : List Sales} {h : List Int}, (∀ d ∈ l, 0 ≤ d.sold ∧ d.sold ≤ 1000) → h.length ≤ 1001 → (histGo h l).length ≤ 1001
  | [], h, _, hh => hh
  | d :: l, h, hs, hh => by
    rw [histGo_cons]
    refine histGo_lenQ (fun x hx => hs x (by simp [hx])) ?_
    split
    · exact hh
    · have := hs d (by simp)
      rw [bump_len]
      omega
/-- the profits -/
theorem profits_ok {h : List Int} (h0 : histErr h = 0) (hs : sumI h ≤ 13) :
    ∃ (g : Int) (p : Frac), order1 h 12 80 30 = (g, 0) ∧ prof1 h g 80 30 = (p, 0) ∧ (-1000000 ≤ p.num ∧ p.num ≤ 1000000 ∧ 1 ≤ p.den ∧ p.den ≤ 13) ∧ ∀ v : Int, 0 ≤ v ∧ v ≤ 12 → ∃ q : Frac, prof1 h v 80 30 = (q, 0) ∧ q.num * p.den ≤ p.num * q.den ∧ (-1000000 ≤ q.num ∧ q.num ≤ 1000000 ∧ 1 ≤ q.den ∧ q.den ≤ 13) := by
  have ho := histErr_ok h0
  have hb := bestUp_bd h 80 30 12
  have hm : ∀ z : Int, 0 ≤ z ∧ z ≤ 12 → moneyErr z 80 30 = 0 := fun z hz => by
    unfold moneyErr
    rw [if_neg (by omega)]
  have hg : ∀ z : Int, 0 ≤ z ∧ z ≤ 12 → -100000 ≤ gainH h z 80 30 ∧ gainH h z 80 30 ≤ 100000 := fun z hz => by
    have b3 := soldFrom_bd (load := z) (by omega) (l := h) (i := 0) (by omega) ho.all
    have b2 := prod_bd (a := z) (b := sumI h) (A := 12) (B := 13) hz.1 (by have := ho.pos; omega) hz.2 hs
    unfold gainH soldH
    omega
  refine ⟨bestUp h 80 30 12, profR h (bestUp h 80 30 12) 80 30, ?_, ?_, ?_, fun v hv => ⟨profR h v 80 30, ?_, ?_, ?_⟩⟩
  · unfold order1
    rw [if_neg (by omega), if_neg (by rw [hm 12 (by omega)]; omega)]
    rfl
  · unfold prof1
    rw [if_neg (by omega), if_neg (by rw [hm _ (by omega)]; omega)]
  · obtain ⟨g, _, _, _, g4⟩ := frac_partsQ (gainH h (bestUp h 80 30 12) 80 30) (sumI h) ho.pos
    have := frac_num_bd (A := 100000) ho.pos (hg (bestUp h 80 30 12) (by omega))
    unfold profR
    omega
  · unfold prof1
    rw [if_neg (by omega), if_neg (by rw [hm _ (by omega)]; omega)]
  · unfold profR
    refine frac_cross ho.pos ?_
    have := bestUp_top h 80 30 12 v.toNat (by omega)
    rw [Int.toNat_of_nonneg hv.1] at this
    exact this
  · obtain ⟨g, _, _, _, g4⟩ := frac_partsQ (gainH h v 80 30) (sumI h) ho.pos
    have := frac_num_bd (A := 100000) ho.pos (hg v (by omega))
    unfold profR
    omega
theorem mul_small {a b : Int} (ha : -1000000 ≤ a ∧ a ≤ 1000000) (hb : 1 ≤ b ∧ b ≤ 13) : -13000000 ≤ a * b ∧ a * b ≤ 13000000 := by
  have h := abs_mul (x := b) (c := a) (B := 1000000) (by omega) ha.1 ha.2
  rw [Int.mul_comm b a] at h
  omega
end Lg
end
section
set_option linter.all false
set_option maxRecDepth 100000
set_option maxHeartbeats 4000000
namespace Lg
open Go Go.Proofs

/-! ### strings.Builder -/
abbrev bldB (b : Nat) (p ad : Option Addr) (cap : Nat) (t : ByteArray) : Chunk := Chunk.box b 132 [.raw (.pointer p), .raw (.slice ad t.size cap)]
abbrev bldO (ad : Option Addr) (cap : Nat) (t : ByteArray) : Chunk := Chunk.own ad cap 1 5 (bytR t)
structure BldI (b : Nat) (p ad : Option Addr) (cap : Nat) (t : ByteArray) : Prop where
  p : p = none ∨ p = some ⟨b, 0, none⟩
  n : ad ≠ none → t.size ≠ 0
theorem BldI.new (b : Nat) : BldI b none none 0 ⟨#[]⟩ := ⟨.inl rfl, fun h => absurd rfl h⟩
theorem str_emptyB (s : ByteArray) : s.size = 0 ↔ s = ⟨#[]⟩ := by
  constructor
  · intro h
    apply ByteArray.ext
    apply Array.eq_empty_of_size_eq_zero
    simpa using h
  · rintro rfl; rfl
theorem noEscape_ext (v : Value) (w : World) : (callFunc 138 #[v]).run Tryz.prog w = .ok (.value v) w := rfl
theorem builder_info : ∃ j, Tryz.prog.info? 132 = some j ∧ j.size ≠ 0 := ⟨_, rfl, by decide⟩
theorem builder_info2 : ∃ j, Tryz.prog.info? 132 = some j := ⟨_, rfl⟩
theorem copyCheck_fn {b : Nat} {p ad : Option Addr} {cap : Nat} {t : ByteArray} (h : BldI b p ad cap t) : Spec Tryz.prog 100 [.ptr b] [bldB b p ad cap t] (fun r cs => r = .tup [] ∧ cs = [bldB b (some ⟨b, 0, none⟩) ad cap t]) := by
  obtain ⟨hp, _⟩ := h
  refine Spec.body Tryz.func100 rfl rfl (Tryz.ntmps100) rfl fun w0 own0 M => ?_
  rcases hp with rfl | rfl
  · repeat' (first | refine goH ?_ | (refine Ops.k_b_eql ?_; first | (refine Ops.val' rfl (OpV.eql_pn (b := true) rfl rfl builder_info rfl rfl) ?_)) | (refine Ops.k_convert ?_; first | (first | refine Ops.val' rfl (OpV.toUns (E := 132) rfl rfl builder_info rfl goPk (by simp)) ?_ | refine Ops.val' rfl (OpV.frUns (E := 132) (n := 2) rfl rfl builder_info2 rfl goPk (by decide +kernel) rfl) ?_)) | (refine Ops.k_b_neq ?_; first | (refine Ops.val' rfl (OpV.neq_pp rfl builder_info rfl rfl) ?_)) | refine goV ?_ | refine goI ?_ | (refine Cw.k_cond ?_; first | (refine Cw.cond_dec rfl (fun hc => ?_) (fun hc => ?_) <;> try (exfalso; omega)) | refine Cw.cond_bool rfl (fun hc => ?_) (fun hc => ?_)) | (refine Ops.ext1 (noEscape_ext _) rfl rfl ?_) | fail)
    all_goals exact Fin.norm (Ent.take goTk) (Outs.zero rfl) ⟨rfl, rfl⟩
  · repeat' (first | refine goH ?_ | (refine Ops.k_b_eql ?_; first | (refine Ops.val' rfl (OpV.eql_pn (b := false) rfl rfl builder_info rfl rfl) ?_)) | (refine Ops.k_b_neq ?_; first | (refine Ops.val' rfl (OpV.neq_pp rfl builder_info rfl rfl) ?_)) | refine goV ?_ | refine goI ?_ | (refine Cw.k_cond ?_; first | (refine Cw.cond_dec rfl (fun hc => ?_) (fun hc => ?_) <;> try (exfalso; omega)) | refine Cw.cond_bool rfl (fun hc => ?_) (fun hc => ?_)) | fail)
    all_goals exact Fin.norm (Ent.take goTk) (Outs.zero rfl) ⟨rfl, rfl⟩
theorem writeString_fn {b : Nat} {p ad : Option Addr} {cap : Nat} {t : ByteArray} (h : BldI b p ad cap t) (s : ByteArray) (hs : t.size + s.size ≤ 1000000000) : Spec Tryz.prog 74 [.ptr b, .str s] [bldB b p ad cap t, bldO ad cap t] (fun r cs => ∃ p2 ad2 cap2, BldI b p2 ad2 cap2 (t ++ s) ∧ r = .tup [.int s.size, .raw .nilIface] ∧ cs = [bldB b p2 ad2 cap2 (t ++ s), bldO ad2 cap2 (t ++ s)]) := by
  have k := copyCheck_fn h
  obtain ⟨_, hn⟩ := h
  have hsz : (t ++ s).size = t.size + s.size := ByteArray.size_append
  refine Spec.body Tryz.func74 rfl rfl (Tryz.ntmps74) rfl fun w0 own0 M => ?_
  by_cases had : ad = none
  · subst had
    refine Cw.own_none goPk ?_
    intro hr hc0
    have ht : t.size = 0 := by rw [← bytR_len, hr]; rfl
    clear hr
    repeat' (first | refine goH ?_ | refine goV ?_ | refine goC (fun ad cap => ?_) | refine goI ?_ | (refine Cw.k_cond ?_; first | (refine Cw.cond_dec rfl (fun hc => ?_) (fun hc => ?_) <;> try (exfalso; omega)) | refine Cw.cond_bool rfl (fun hc => ?_) (fun hc => ?_)) | (refine Ops.append_str (E := 5) rfl rfl rfl rfl goPk rfl (by omega) rfl ?_; intro ad2 cap2 hnil) | (refine Ops.k_calla ?_; first | (refine Ops.k_callf 100 ?_; (refine Ops.call k (Evs.cons rfl Evs.nil) goPm rfl ?_; rintro r cs' ⟨rfl, rfl⟩))) | fail)
    refine Fin.ret (Ent.take goTk) (Outs.two rfl rfl rfl) ⟨_, ad2, cap2, ⟨.inr rfl, fun h => ?_⟩, rfl, rfl⟩
    have := hnil rfl
    by_cases h0 : t.size + s.size = 0
    · exact absurd (this h0).1 h
    · omega
  · have := hn had
    repeat' (first | refine goH ?_ | refine goV ?_ | refine goC (fun ad cap => ?_) | refine goI ?_ | (refine Cw.k_cond ?_; first | (refine Cw.cond_dec rfl (fun hc => ?_) (fun hc => ?_) <;> try (exfalso; omega)) | refine Cw.cond_bool rfl (fun hc => ?_) (fun hc => ?_)) | (refine Ops.append_str (E := 5) rfl rfl rfl rfl goPk rfl (by omega) rfl ?_; intro ad2 cap2 hnil) | (refine Ops.k_calla ?_; first | (refine Ops.k_callf 100 ?_; (refine Ops.call k (Evs.cons rfl Evs.nil) goPm rfl ?_; rintro r cs' ⟨rfl, rfl⟩))) | fail)
    exact Fin.ret (Ent.take goTk) (Outs.two rfl rfl rfl) ⟨_, ad2, cap2, ⟨.inr rfl, fun h => by omega⟩, rfl, rfl⟩
theorem string_fn {b : Nat} {p ad : Option Addr} {cap : Nat} {t : ByteArray} (h : BldI b p ad cap t) (ht : t.size ≤ 1000000000) : Spec Tryz.prog 75 [.ptr b] [bldB b p ad cap t, bldO ad cap t] (fun r cs => r = .str t ∧ cs = []) := by
  obtain ⟨_, hn⟩ := h
  refine Spec.body Tryz.func75 rfl rfl (Tryz.ntmps75) rfl fun w0 own0 M => ?_
  by_cases had : ad = none
  · subst had
    refine Cw.own_none goPk ?_
    intro hr hc0
    have ht : t = ⟨#[]⟩ := (str_emptyB t).1 (by rw [← bytR_len, hr]; rfl)
    subst ht
    repeat' (first | refine goH ?_ | refine goV ?_ | refine goI ?_ | (refine Cw.k_cond ?_; first | (refine Cw.cond_dec rfl (fun hc => ?_) (fun hc => ?_) <;> try (exfalso; omega)) | refine Cw.cond_bool rfl (fun hc => ?_) (fun hc => ?_)) | fail)
    refine Cw.region_seqM 10 rfl (by decide +kernel) rfl ?_
    repeat' (first | refine goH ?_ | refine goV ?_ | refine goI ?_ | (refine Cw.k_cond ?_; first | (refine Cw.cond_dec rfl (fun hc => ?_) (fun hc => ?_) <;> try (exfalso; omega)) | refine Cw.cond_bool rfl (fun hc => ?_) (fun hc => ?_)) | exact OpV.w (OpV.sdata_none rfl) | (refine Ops.ustr_none rfl rfl rfl ?_) | refine goR ?_ | refine goP ?_ | apply PSeq.cons | apply PSeq.yes rfl rfl rfl | exact goW | fail)
    exact Fin.ret (Ent.take goTk) (Outs.one rfl rfl) ⟨rfl, rfl⟩
  · have h0 := hn had
    refine Cw.own_form goPk (by rw [bytR_len]; omega) ?_
    rintro g rfl h1 h2
    rw [bytR_len] at h1
    repeat' (first | refine goH ?_ | refine goV ?_ | refine goI ?_ | (refine Cw.k_cond ?_; first | (refine Cw.cond_dec rfl (fun hc => ?_) (fun hc => ?_) <;> try (exfalso; omega)) | refine Cw.cond_bool rfl (fun hc => ?_) (fun hc => ?_)) | fail)
    refine Cw.region_seqM 10 rfl (by decide +kernel) rfl ?_
    repeat' (first | refine goH ?_ | refine goV ?_ | refine goI ?_ | (refine Cw.k_cond ?_; first | (refine Cw.cond_dec rfl (fun hc => ?_) (fun hc => ?_) <;> try (exfalso; omega)) | refine Cw.cond_bool rfl (fun hc => ?_) (fun hc => ?_)) | exact OpV.w (OpV.sdata_some rfl (by omega)) | (refine Ops.ustr (s := t) rfl rfl rfl rfl rfl h0 goPk rfl ?_) | refine goR ?_ | refine goP ?_ | apply PSeq.cons | apply PSeq.yes rfl rfl rfl | exact goW | fail)
    exact Fin.ret (Ent.take goTk) (Outs.one rfl rfl) ⟨rfl, rfl⟩
end Lg
end
