/- A part of the proof of a law of this seat: it adds no condition. By an AI agent. -/
import Derived.Test.YtfgcjpkkbhnkgaaGreatDoorTm2
import Derived.Test.YtfgcjpkkbhnkgaaGreatDoorLaw
section
set_option linter.all false
set_option maxRecDepth 100000
set_option maxHeartbeats 8000000
namespace Lg
open Go Go.Proofs

/-! ### the law TopMarkets: what the calls answer -/
theorem key_eq : ∀ k, keyM k = keyW k
 |0 => rfl
 |1 => rfl
 |_ + 2 => rfl
def w0T : Wal := w3 (fun _ => 0) (fun _ => 0)
def kW (i : Nat) (u : Int) : Wal := w3 (fun j => if j = i then 500 else 0) (fun j => if j = i then u else 0)
theorem kW_ok {i : Nat} {u : Int} (hu : 0 ≤ u ∧ u ≤ 500) : W3 (fun j => if j = i then 500 else 0) (fun j => if j = i then u else 0) := ⟨fun j _ => by show 0 ≤ (if j = i then u else 0) ∧ (if j = i then u else 0) ≤ (if j = i then (500 : Int) else 0) ∧ (if j = i then (500 : Int) else 0) ≤ 1000; split <;> omega⟩
theorem w0_ok : W3 (fun _ => 0) (fun _ => 0) := ⟨fun _ _ => by omega⟩
theorem kW_seen (U : Nat → Int) (i : Nat) : kW i (U i) = w3 (seenC fun j => decide (j = i)) (seenU (fun j => decide (j = i)) U) := w3_ext
 (fun j _ => by
  unfold seenC
  show (if j = i then (500 : Int) else 0) = if decide (j = i) = true then 500 else 0
  by_cases h : j = i
  ·rw [decide_eq_true h, if_pos h, if_pos rfl]
  ·rw [decide_eq_false h, if_neg h, if_neg (show ¬ (false = true) by decide)])
 (fun j _ => by
  unfold seenU
  show (if j = i then U i else 0) = if decide (j = i) = true then U j else 0
  by_cases h : j = i
  ·rw [decide_eq_true h, if_pos h, if_pos rfl, h]
  ·rw [decide_eq_false h, if_neg h, if_neg (show ¬ (false = true) by decide)])
theorem W3.bd {c u : Nat → Int} (h : W3 c u) : WBd (w3 c u) := (wok_E (walE3 h)).bd
theorem emptyT_fn : PFn Tryz.prog 4 [.sl 1 [[.str ⟨#[97]⟩], [.str ⟨#[98]⟩], [.str ⟨#[99]⟩]]] (· = .tup [.wal w0T, .int 0]) := by
 have h := emptyD_fn abcT (by decide)
 rw [sitE3] at h
 exact h
theorem creditT_fn (i : Nat) (hi : i < 3) : PFn Tryz.prog 5 [.wal w0T, .str (keyW i), .int 500] (· = .tup [.wal (kW i 0), .int 0]) := by
 have h := credit_ok w0T (walE3 w0_ok) (keyW i) 500
 obtain ⟨h1, h2⟩ := gv3 i hi
 unfold w0T at h ⊢
 rw [h1, h2] at h
 have e : kW i 0 = w3 (fun j => if j = i then 500 else 0) (fun _ => 0) := w3_ext (fun _ _ => rfl) (fun j _ => by show (if j = i then (0 : Int) else 0) = 0; split <;> rfl)
 rw [e]
 exact h
theorem spendT_fn (i : Nat) (hi : i < 3) {u p : Int} (hu : 0 ≤ u ∧ u ≤ 500) (hp : 1 ≤ p ∧ p ≤ 1000) : PFn Tryz.prog 9 [.wal (kW i u), .str (keyW i), .int p] (· = if 500 - u < p then .tup [.wal wNil, .int 16] else .tup [.wal (kW i (u + p)), .int 0]) := by
 have h := spend_ok (kW i u) (walE3 (kW_ok hu)) (keyW i) p
 obtain ⟨h1, h2⟩ := sp3 (kW_ok (i := i) hu) i hi hp
 unfold kW at h ⊢
 rw [h1, h2] at h
 simp only [if_pos] at h
 by_cases hc : 500 - u < p
 ·rw [if_pos hc] at h ⊢
  exact h
 ·rw [if_neg hc] at h ⊢
  have e : w3 (fun j => if j = i then 500 else 0) (fun j => if j = i then u + p else if j = i then u else 0) = w3 (fun j => if j = i then 500 else 0) (fun j => if j = i then u + p else 0) := w3_ext (fun _ _ => rfl) (fun j _ => by show (if j = i then u + p else if j = i then u else 0) = if j = i then u + p else 0; split <;> rfl)
  rw [e] at h
  exact h
theorem priceT_fn {n : Int} (hn : 1 ≤ n ∧ n ≤ 3) : ∃ ks : List ByteArray, PFn Tryz.prog 8 [.wrs wrsT, .dls dlsT, .nms [⟨⟨#[98, 97, 114]⟩, n⟩]] (· = .tup [.int (prT n), .strs ks, .int 0]) := by
 have h := price_fn wrsT dlsT [⟨⟨#[98, 97, 114]⟩, n⟩] dealT (bskT hn)
 rw [prcT hn] at h
 exact ⟨_, h⟩
theorem mergeT_fn (f : Nat → Bool) {U : Nat → Int} (hU : ∀ j, 0 ≤ U j ∧ U j ≤ 500) (k : Nat) : PFn Tryz.prog 11 [.wal (w3 (seenC f) (seenU f U)), .wal (kW k (U k))] (· = .tup [.wal (w3 (seenC fun j => decide (j = k) || f j) (seenU (fun j => decide (j = k) || f j) U)), .int 0]) := by
 rw [kW_seen U k]
 have h := merge_fn (w3 (seenC f) (seenU f U)) (w3 (seenC fun j => decide (j = k)) (seenU (fun j => decide (j = k)) U)) (seen_ok f hU).bd (seen_ok _ hU).bd
 obtain ⟨h1, h2⟩ := seen_mrg f hU k
 rw [h1, h2] at h
 exact h
def seenN (f : Nat → Bool) (N : Nat → List Int) (j : Nat) : List Int := if f j = true then N j else []
theorem togetherT_fn (f : Nat → Bool) {N : Nat → List Int} (hN : ∀ k, nvM (N k)) (k : Nat) (hk : k < 3) : PFn Tryz.prog 12 [.mvs (shS (seenN f N)), .mvs (blkM (keyM k) 0 (N k))] (· = .tup [.mvs (shS (seenN (fun j => decide (j = k) || f j) N)), .int 0]) := by
 have hF : ∀ j, seenN f N j = [] ∨ seenN f N j = N j := fun j => by unfold seenN; split; exact .inr rfl; exact .inl rfl
 have hFv : ∀ j, nvM (seenN f N j) := fun j => by
  rcases hF j with h | h
  ·rw [h]; exact ⟨by simp, fun x hx => by cases hx⟩
  ·rw [h]; exact hN j
 have h := together_fn (shS (seenN f N)) (blkM (keyM k) 0 (N k)) (by have := shS_len _ hFv; have := (hN k).1; rw [blkM_len]; omega) (shS_no hFv) (blkM_no (hN k))
 rw [tog_step hN hF hk] at h
 have e : (fun j => if j = k then N k else seenN f N j) = seenN (fun j => decide (j = k) || f j) N := by
  funext j
  unfold seenN
  by_cases hj : j = k
  ·subst hj; simp
  ·simp [hj]
 rw [e] at h
 exact h
theorem balanceT_fn {U : Nat → Int} (hU : ∀ j, 0 ≤ U j ∧ U j ≤ 500) {f : Nat → Bool} (hf : ∀ j, j < 3 → f j = true) : PFn Tryz.prog 13 [.wal (w3 (seenC f) (seenU f U))] (· = .tup [.int (1500 - (U 0 + U 1 + U 2)), .int 0]) := by
 have h := balance_ok (w3 (seenC f) (seenU f U)) (walE3 (seen_ok f hU))
 rw [bal3] at h
 have e : (seenC f 0 - seenU f U 0) + (seenC f 1 - seenU f U 1) + (seenC f 2 - seenU f U 2) = 1500 - (U 0 + U 1 + U 2) := by
  unfold seenC seenU
  rw [hf 0 (by omega), hf 1 (by omega), hf 2 (by omega)]
  simp only [if_true]
  omega
 rw [e] at h
 exact h
theorem theftsT_fn {N : Nat → List Int} (hN : ∀ k, nvM (N k)) {f : Nat → Bool} (hf : ∀ j, j < 3 → f j = true) {v : Int} (hv : 0 ≤ v ∧ v ≤ 1000000) (hs : totM (N 0) + totM (N 1) + totM (N 2) = v) : PFn Tryz.prog 14 [.mvs (shS (seenN f N)), .nms [⟨kBar, v⟩]] (· = .tup [.nms [], .int 0]) := by
 have e : ∀ j, j < 3 → seenN f N j = N j := fun j hj => by unfold seenN; rw [hf j hj]; rfl
 have hFv : ∀ j, nvM (seenN f N j) := fun j => by
  unfold seenN
  cases f j
  ·exact ⟨by simp, fun x hx => by simp at hx⟩
  ·simpa using hN j
 have h := thefts_fn (shS (seenN f N)) (by have := shS_len _ hFv; omega) (shS_no hFv) [⟨kBar, v⟩] (by simp)
 rw [shS_E hFv, cnt_ok hv, thefts_none (F := seenN f N) (by rw [e 0 (by omega), e 1 (by omega), e 2 (by omega)]; exact hs)] at h
 exact h
end Lg
end
section
set_option linter.all false
set_option maxRecDepth 100000
set_option maxHeartbeats 8000000
namespace Lg
open Go Go.Proofs

/-! ### the law TopMarkets -/
theorem sumN_congr {f g : Nat → Int} : ∀ k, (∀ j, j < k → f j = g j) → sumN f k = sumN g k
 |0, _ => rfl
 |k + 1, h => by rw [sumN, sumN, sumN_congr k fun j hj => h j (by omega), h k (by omega)]
structure TmI (i : Nat) (U : Nat → Int) (N : Nat → List Int) (L : List Wal) (Q : List (List Mv)) (sp so : Int) : Prop where
 fi : i ≤ 3
 fu : ∀ k, 0 ≤ U k ∧ U k ≤ 500
 fn : ∀ k, nvM (N k)
 ft : ∀ k, 8 ≤ totM (N k) ∧ totM (N k) ≤ 20
 fl : ∀ k, k < i → L[k]? = some (kW k (U k))
 fll : L.length = i
 fq : ∀ k, k < i → Q[k]? = some (blkM (keyM k) 0 (N k))
 fql : Q.length = i
 fsp : sp = sumN U i
 fso : so = sumN (fun k => 20 - totM (N k)) i
theorem TmI.start : TmI 0 (fun _ => 0) (fun _ => [20]) [] [] 0 0 where
 fi := by omega
 fu := fun _ => by omega
 fn := fun _ => ⟨by simp, fun x hx => by rw [List.mem_singleton.1 hx]; omega⟩
 ft := fun _ => by show 8 ≤ (20 : Int) + 0 ∧ (20 : Int) + 0 ≤ 20; omega
 fl := fun _ h => by omega
 fll := rfl
 fq := fun _ h => by omega
 fql := rfl
 fsp := rfl
 fso := rfl
theorem TmI.next {i : Nat} {U : Nat → Int} {N : Nat → List Int} {L : List Wal} {Q : List (List Mv)} {sp so u : Int} {ns : List Int} (h : TmI i U N L Q sp so) (hi : i < 3) (hu : 0 ≤ u ∧ u ≤ 500) (hn : nvM ns) (ht : 8 ≤ totM ns ∧ totM ns ≤ 20) :
  TmI (i + 1) (fun k => if k = i then u else U k) (fun k => if k = i then ns else N k) (L ++ [kW i u]) (Q ++ [blkM (keyM i) 0 ns]) (sp + u) (so + (20 - totM ns)) where
 fi := by omega
 fu := fun k => by show 0 ≤ (if k = i then u else U k) ∧ (if k = i then u else U k) ≤ 500; split; exact hu; exact h.fu k
 fn := fun k => by show nvM (if k = i then ns else N k); split; exact hn; exact h.fn k
 ft := fun k => by show 8 ≤ totM (if k = i then ns else N k) ∧ totM (if k = i then ns else N k) ≤ 20; split; exact ht; exact h.ft k
 fl := fun k hk => by
  show (L ++ [kW i u])[k]? = some (kW k (if k = i then u else U k))
  by_cases e : k = i
  ·subst e
   rw [if_pos rfl, List.getElem?_append_right (by rw [h.fll]; omega), h.fll, Nat.sub_self]
   rfl
  ·rw [if_neg e, List.getElem?_append_left (by rw [h.fll]; omega)]
   exact h.fl k (by omega)
 fll := by rw [List.length_append, h.fll]; rfl
 fq := fun k hk => by
  show (Q ++ [blkM (keyM i) 0 ns])[k]? = some (blkM (keyM k) 0 (if k = i then ns else N k))
  by_cases e : k = i
  ·subst e
   rw [if_pos rfl, List.getElem?_append_right (by rw [h.fql]; omega), h.fql, Nat.sub_self]
   rfl
  ·rw [if_neg e, List.getElem?_append_left (by rw [h.fql]; omega)]
   exact h.fq k (by omega)
 fql := by rw [List.length_append, h.fql]; rfl
 fsp := by
  rw [sumN, h.fsp, sumN_congr i fun j hj => if_neg (by omega), if_pos rfl]
 fso := by
  rw [sumN, h.fso]
  have : sumN (fun k => 20 - totM (if k = i then ns else N k)) i = sumN (fun k => 20 - totM (N k)) i := sumN_congr i fun j hj => by rw [if_neg (by omega)]
  rw [this, if_pos rfl]
abbrev rowsM3 : List (List Tr) := [[Tr.raw (Value.string ⟨#[97]⟩)], [Tr.raw (Value.string ⟨#[98]⟩)], [Tr.raw (Value.string ⟨#[99]⟩)]]
theorem rowsM3_at {i : Nat} (h : i < 3) : rowsM3[i]? = some [Tr.str (keyW i)] := by
 rcases (show i = 0 ∨ i = 1 ∨ i = 2 by omega) with rfl | rfl | rfl <;> rfl
def walR (w : Wal) : List Tr := [.strs w.sites, .sl 1 (intsR w.rights), .ints w.used]
theorem topMarkets_law (xs : List Int) : Spec Tryz.prog 3 [Tr.ints xs] [] (fun r _ => r = Tr.bool true) := by
 refine Spec.body Tryz.func3 rfl rfl (Tryz.ntmps3) rfl fun w0 own0 M => ?_
 have kR := ready_fn
 have kE := emptyT_fn
 repeat' (first | refine goH ?_ | refine goV ?_ | refine goB (fun b => ?_) | refine goC (fun ad cap => ?_) | refine goG ?_ | (refine Ops.k_guard ?_; first | (refine Ops.guard_dec rfl rfl ?_ ?_ <;> intro hc <;> try omega) | refine Ops.guard_split rfl rfl ?_ ?_ <;> intro hc) | refine goI ?_ | (refine Cw.k_cond ?_; first | (refine Cw.cond_dec rfl ?_ ?_ <;> intro hc <;> try omega) | refine Cw.cond_bool rfl ?_ ?_ <;> intro hc) | refine Ops.shut0 (ty := 25) rfl ?_ | (refine Ops.k_calla ?_; first | (refine Ops.k_callf 4 ?_; refine Ops.callV kE (Evs.cons rfl Evs.nil) rfl ?_)) | (apply OpW.k_call; first | (apply OpW.k_callf 4; exact OpW.callV kE (Evs.cons rfl Evs.nil))) | refine goR ?_ | refine goP ?_ | apply PSeq.cons | apply PSeq.yes rfl rfl rfl | exact goW | fail)
 rename_i bs
 obtain ⟨b5, rfl⟩ : ∃ b5, b5 = b := ⟨_, rfl⟩
 clear kE
 obtain ⟨T3, hT3⟩ : ∃ T3 : List (List Tr), T3 = rowsM3 := ⟨_, rfl⟩
 have hT3l : T3.length = 3 := by rw [hT3]; rfl
 have hT3r : ∀ i, i < 3 → T3[i]? = some [Tr.str (keyW i)] := fun i hi => by rw [hT3]; exact rowsM3_at hi
 unfold rowsM3 at hT3
 rw [← hT3]
 clear hT3
 refine Cw.loopI [(3, _), (5, _), (7, _), (8, _), (53, _), (54, _)] _ (fun qq e cc => ∃ (i : Nat) (U : Nat → Int) (N : Nat → List Int) (L : List Wal) (Q : List (List Mv)) (sp so : Int) (ad1 ad2 : Option Addr) (cap1 cap2 c : Nat) (R1 R2 : List (List Tr)), qq = 3 - i ∧ (TmI i U N L Q sp so ∧ (0 ≤ sp ∧ sp ≤ 500 * i) ∧ (0 ≤ so ∧ so ≤ 12 * i) ∧ (R1 = L.map walR ∧ R1.length = i) ∧ (R2 = Q.map (fun q => [Tr.mvs q]) ∧ R2.length = i) ∧ c ≤ 100 * i) ∧ e = [(9, Tr.raw (.slice ad1 i cap1)), (10, Tr.raw (.slice ad2 i cap2)), (11, .int sp), (12, .int so), (55, .int i)] ∧ cc = [Chunk.own ad1 cap1 3 29 R1, Chunk.own ad2 cap2 1 44 R2, Chunk.strm 25 bs (intRows xs) c])
  ⟨_, _, _, Ent.trans (Ent.nil 3 29) (Ent.trans (Ent.nil 1 44) (Ent.mkP goSub goPm)), 0, _, _, [], [], 0, 0, none, none, 0, 0, 0, [], [], rfl, ⟨TmI.start, by omega, by omega, ⟨rfl, rfl⟩, ⟨rfl, rfl⟩, by omega⟩, rfl, rfl⟩ ?_
 rintro _ _ _ ⟨i, U, N, L, Q, sp, so, ad1, ad2, cap1, cap2, c, R1, R2, rfl, ⟨hT, hsp, hso, ⟨hR1, hR1l⟩, ⟨hR2, hR2l⟩, hc⟩, rfl, rfl⟩
 by_cases hi : i < 3
 ·have r1 := hT3r i hi
  have kC := creditT_fn i hi
  have hR1' : Unit → R1 = L.map walR := fun _ => hR1
  have hR2' : Unit → R2 = Q.map (fun q => [Tr.mvs q]) := fun _ => hR2
  clear hR1 hR2
  repeat' (first | refine goH ?_ | ((fail_if_success refine Ops.k_buildSlice ?_); refine goV ?_) | ((fail_if_success refine Ops.k_buildSlice ?_); refine goB (fun b => ?_)) | ((fail_if_success refine Ops.k_buildSlice ?_); refine goC (fun ad cap => ?_)) | refine goG ?_ | (refine Ops.k_guard ?_; first | (refine Ops.guard_dec rfl rfl ?_ ?_ <;> intro hc <;> try omega) | refine Ops.guard_split rfl rfl ?_ ?_ <;> intro hc) | refine goI ?_ | (refine Cw.k_cond ?_; first | (refine Cw.cond_dec rfl ?_ ?_ <;> intro hc <;> try omega) | refine Cw.cond_bool rfl ?_ ?_ <;> intro hc) | (refine Ops.k_calla ?_; first | (refine Ops.k_callf 5 ?_; refine Ops.callV kC (Evs.cons rfl (Evs.cons rfl (Evs.cons rfl Evs.nil))) rfl ?_)) | (apply OpW.k_call; first | (apply OpW.k_callf 5; exact OpW.callV kC (Evs.cons rfl (Evs.cons rfl (Evs.cons rfl Evs.nil))))) | refine goR ?_ | refine goP ?_ | apply PSeq.cons | apply PSeq.yes rfl rfl rfl | exact goW | fail)
  refine Ops.buildSlice_own (by exact Parts.cons rfl rfl rfl (by exact Parts.nil)) goNt rfl rfl (fun ad cap => ?_)
  repeat' (first | refine goH ?_ | refine goV ?_ | refine goB (fun b => ?_) | refine goC (fun ad cap => ?_) | refine goG ?_ | (refine Ops.k_guard ?_; first | (refine Ops.guard_dec rfl rfl ?_ ?_ <;> intro hc <;> try omega) | refine Ops.guard_split rfl rfl ?_ ?_ <;> intro hc) | refine goI ?_ | (refine Cw.k_cond ?_; first | (refine Cw.cond_dec rfl ?_ ?_ <;> intro hc <;> try omega) | refine Cw.cond_bool rfl ?_ ?_ <;> intro hc) | (refine Ops.k_calla ?_; first | (refine Ops.k_callf 6 ?_; (refine Ops.callG (next_gen 5 (by omega)) (Evs.cons rfl (Evs.cons rfl Evs.nil)) goPk (by omega) rfl ?_; rintro r ⟨v, rfl, hv⟩; unfold InRange at hv))) | refine goR ?_ | refine goP ?_ | apply PSeq.cons | apply PSeq.yes rfl rfl rfl | exact goW | fail)
  obtain ⟨b15, rfl⟩ : ∃ b15, b15 = b := ⟨_, rfl⟩
  refine Cw.loopI [(3, _), (5, _), (7, _), (8, _), (9, _), (10, _), (14, _), (15, _), (53, _), (54, _), (55, _), (71, _)] _ (fun qq e cc => ∃ (j : Nat) (u spx sox : Int) (ns : List Int) (ad : Option Addr) (cap c' : Nat) (rows : List (List Tr)), qq = 4 - j ∧ ((spx = sp + u ∧ sox = so + (20 - totM ns)) ∧ ((j : Int) ≤ v ∧ j ≤ 4) ∧ (0 ≤ u ∧ u ≤ 500) ∧ nvM ns ∧ ns.length = j + 1 ∧ (20 - 3 * j ≤ totM ns ∧ totM ns ≤ 20) ∧ rows = (blkM (keyM i) 0 ns).map Mv.row ∧ rows.length = j + 1 ∧ c' ≤ c + 1 + 10 * j) ∧ e = [(11, .int spx), (12, .int sox), (17, Tr.raw (.slice ad (j + 1) cap)), (72, .int j)] ∧ cc = [Chunk.own ad cap 5 43 rows, Chunk.box b15 29 [.strs (kW i u).sites, .sl 1 (intsR (kW i u).rights), .ints (kW i u).used], Chunk.strm 25 bs (intRows xs) c'])
   ⟨_, _, _, (Ent.mkP goSub goPm), 0, 0, sp, so, [20], _, _, _, _, rfl, ⟨⟨by omega, by rw [show totM [20] = 20 from rfl]; omega⟩, ⟨by omega, by omega⟩, by omega, ⟨by simp, fun x hx => by rw [List.mem_singleton.1 hx]; omega⟩, rfl, ⟨by decide, by decide⟩, rfl, rfl, by omega⟩, rfl, rfl⟩ ?_
  clear hc kC
  rintro _ _ _ ⟨j, u, spx, sox, ns, ad, cap, c', rows, rfl, ⟨⟨hspx, hsox⟩, ⟨hj, hj4⟩, hu, hns, hnl, htot, hrs, hrl, hc'⟩, rfl, rfl⟩
  subst hspx hsox
  have h1 : R1 ++ [[.strs (kW i u).sites, .sl 1 (intsR (kW i u).rights), .ints (kW i u).used]] = (L ++ [kW i u]).map walR := by rw [List.map_append, ← hR1' ()]; rfl
  have h1l : (R1 ++ [[Tr.strs (kW i u).sites, Tr.sl 1 (intsR (kW i u).rights), Tr.ints (kW i u).used]]).length = i + 1 := by rw [List.length_append, hR1l]; rfl
  have h2 : R2 ++ [[Tr.sl 5 rows]] = (Q ++ [blkM (keyM i) 0 ns]).map (fun q => [Tr.mvs q]) := by rw [List.map_append, ← hR2' (), hrs]; rfl
  have h2l : (R2 ++ [[Tr.sl 5 rows]]).length = i + 1 := by rw [List.length_append, hR2l]; rfl
  have hTn := hT.next hi hu hns ⟨by omega, by omega⟩
  by_cases hjv : (j : Int) < v
  rotate_left
  ·repeat' (first | refine goH ?_ | ((fail_if_success refine Ops.k_buildSlice ?_); refine goV ?_) | ((fail_if_success refine Ops.k_buildSlice ?_); refine goB (fun b => ?_)) | ((fail_if_success refine Ops.k_buildSlice ?_); refine goC (fun ad cap => ?_)) | refine goG ?_ | (refine Ops.k_guard ?_; first | (refine Ops.guard_dec rfl rfl ?_ ?_ <;> intro hc <;> try omega) | refine Ops.guard_split rfl rfl ?_ ?_ <;> intro hc) | refine goI ?_ | (refine Cw.k_cond ?_; first | (refine Cw.cond_dec rfl ?_ ?_ <;> intro hc <;> try omega) | refine Cw.cond_bool rfl ?_ ?_ <;> intro hc) | refine goR ?_ | refine goP ?_ | apply PSeq.cons | apply PSeq.yes rfl rfl rfl | exact goW | fail)
   refine Ops.ent (Ent.settle (s := 17) rfl goPk (by omega)) ?_
   repeat' (first | refine goH ?_ | refine goV ?_ | refine goB (fun b => ?_) | refine goC (fun ad cap => ?_) | refine goG ?_ | (refine Ops.k_guard ?_; first | (refine Ops.guard_dec rfl rfl ?_ ?_ <;> intro hc <;> try omega) | refine Ops.guard_split rfl rfl ?_ ?_ <;> intro hc) | refine goI ?_ | (refine Cw.k_cond ?_; first | (refine Cw.cond_dec rfl ?_ ?_ <;> intro hc <;> try omega) | refine Cw.cond_bool rfl ?_ ?_ <;> intro hc) | refine goR ?_ | refine goP ?_ | apply PSeq.cons | apply PSeq.yes rfl rfl rfl | exact goW | fail)
   erw [h1l, h2l]
   exact ⟨_, _, _, (Ent.mk goSub goTk), ⟨i + 1, _, _, _, _, _, _, _, _, _, _, _, _, _, rfl, ⟨hT.next hi hu hns ⟨by omega, by omega⟩, by omega, by omega, ⟨h1, h1l⟩, ⟨h2, h2l⟩, by omega⟩, rfl, rfl⟩, by omega⟩
  repeat' (first | refine goH ?_ | ((fail_if_success refine Ops.k_c_call ?_); refine goV ?_) | ((fail_if_success refine Ops.k_c_call ?_); refine goB (fun b => ?_)) | ((fail_if_success refine Ops.k_c_call ?_); refine goC (fun ad cap => ?_)) | refine goG ?_ | (refine Ops.k_guard ?_; first | (refine Ops.guard_dec rfl rfl ?_ ?_ <;> intro hc <;> try omega) | refine Ops.guard_split rfl rfl ?_ ?_ <;> intro hc) | refine goI ?_ | (refine Cw.k_cond ?_; first | (refine Cw.cond_dec rfl ?_ ?_ <;> intro hc <;> try omega) | refine Cw.cond_bool rfl ?_ ?_ <;> intro hc) | (refine Ops.k_calla ?_; first | (refine Ops.k_callf 7 ?_; (refine Ops.callG (range_gen 1 3 (by omega)) (Evs.cons rfl (Evs.cons rfl (Evs.cons rfl Evs.nil))) goPk (by omega) rfl ?_; rintro r ⟨n, rfl, hn⟩))) | refine goR ?_ | refine goP ?_ | apply PSeq.cons | apply PSeq.yes rfl rfl rfl | exact goW | fail)
  obtain ⟨ks, kP⟩ := priceT_fn (n := n) (by omega)
  have hpb := prT_bd n
  have kS := spendT_fn i hi hu hpb
  generalize prT n = pr at *
  repeat' (first | refine goH ?_ | ((fail_if_success refine Ops.k_c_call ?_); refine goV ?_) | ((fail_if_success refine Ops.k_c_call ?_); refine goB (fun b => ?_)) | ((fail_if_success refine Ops.k_c_call ?_); refine goC (fun ad cap => ?_)) | refine goG ?_ | (refine Ops.k_guard ?_; first | (refine Ops.guard_dec rfl rfl ?_ ?_ <;> intro hc <;> try omega) | refine Ops.guard_split rfl rfl ?_ ?_ <;> intro hc) | refine goI ?_ | (refine Cw.k_cond ?_; first | (refine Cw.cond_dec rfl ?_ ?_ <;> intro hc <;> try omega) | refine Cw.cond_bool rfl ?_ ?_ <;> intro hc) | (refine Ops.k_calla ?_; first | refine Ops.callV kP (Evs.cons rfl (Evs.cons rfl (Evs.cons rfl Evs.nil))) rfl ?_) | (apply OpW.k_call; first | exact OpW.callV kP (Evs.cons rfl (Evs.cons rfl (Evs.cons rfl Evs.nil)))) | refine goR ?_ | refine goP ?_ | apply PSeq.cons | apply PSeq.yes rfl rfl rfl | exact goW | fail)
  by_cases hlow : 500 - u < pr
  ·rw [if_pos hlow] at kS
   repeat' (first | refine goH ?_ | ((fail_if_success refine Ops.k_buildSlice ?_); refine goV ?_) | ((fail_if_success refine Ops.k_buildSlice ?_); refine goB (fun b => ?_)) | ((fail_if_success refine Ops.k_buildSlice ?_); refine goC (fun ad cap => ?_)) | refine goG ?_ | (refine Ops.k_guard ?_; first | (refine Ops.guard_dec rfl rfl ?_ ?_ <;> intro hc <;> try omega) | refine Ops.guard_split rfl rfl ?_ ?_ <;> intro hc) | refine goI ?_ | (refine Cw.k_cond ?_; first | (refine Cw.cond_dec rfl ?_ ?_ <;> intro hc <;> try omega) | refine Cw.cond_bool rfl ?_ ?_ <;> intro hc) | (refine Ops.k_calla ?_; first | (refine Ops.k_callf 9 ?_; refine Ops.callV kS (Evs.cons rfl (Evs.cons rfl (Evs.cons rfl Evs.nil))) rfl ?_)) | (apply OpW.k_call; first | (apply OpW.k_callf 9; exact OpW.callV kS (Evs.cons rfl (Evs.cons rfl (Evs.cons rfl Evs.nil))))) | refine goR ?_ | refine goP ?_ | apply PSeq.cons | apply PSeq.yes rfl rfl rfl | exact goW | fail)
   refine Ops.ent (Ent.settle (s := 17) rfl goPk (by omega)) ?_
   repeat' (first | refine goH ?_ | refine goV ?_ | refine goB (fun b => ?_) | refine goC (fun ad cap => ?_) | refine goG ?_ | (refine Ops.k_guard ?_; first | (refine Ops.guard_dec rfl rfl ?_ ?_ <;> intro hc <;> try omega) | refine Ops.guard_split rfl rfl ?_ ?_ <;> intro hc) | refine goI ?_ | (refine Cw.k_cond ?_; first | (refine Cw.cond_dec rfl ?_ ?_ <;> intro hc <;> try omega) | refine Cw.cond_bool rfl ?_ ?_ <;> intro hc) | refine goR ?_ | refine goP ?_ | apply PSeq.cons | apply PSeq.yes rfl rfl rfl | exact goW | fail)
   erw [h1l, h2l]
   exact ⟨_, _, _, (Ent.mk goSub goTk), ⟨i + 1, _, _, _, _, _, _, _, _, _, _, _, _, _, rfl, ⟨hT.next hi hu hns ⟨by omega, by omega⟩, by omega, by omega, ⟨h1, h1l⟩, ⟨h2, h2l⟩, by omega⟩, rfl, rfl⟩, by omega⟩
  rw [if_neg hlow] at kS
  clear h1 h1l h2 h2l hTn
  have h3 : rows ++ [[.str (keyW i), .int ((j : Int) + 2), .raw (.int .i64 0), .str kBar, .int (-n)]] = (blkM (keyM i) 0 (ns ++ [-n])).map Mv.row := by
   rw [blkM_snoc, List.map_append, ← hrs, hnl, show ((0 + (j + 1) : Nat) : Int) + 1 = (j : Int) + 2 by omega, key_eq]
   rfl
  have h3l : (rows ++ [[Tr.str (keyW i), Tr.int ((j : Int) + 2), Tr.raw (.int .i64 0), Tr.str kBar, Tr.int (-n)]]).length = j + 1 + 1 := by rw [List.length_append, hrl]; rfl
  have hns2 : nvM (ns ++ [-n]) := ⟨by rw [List.length_append, hnl]; simp; omega, fun x hx => by
   rcases List.mem_append.1 hx with h | h
   ·exact hns.2 x h
   ·rw [List.mem_singleton.1 h]; omega⟩
  have htot2 := totM_snoc ns (-n)
  repeat' (first | refine goH ?_ | refine goV ?_ | refine goB (fun b => ?_) | refine goC (fun ad cap => ?_) | refine goG ?_ | (refine Ops.k_guard ?_; first | (refine Ops.guard_dec rfl rfl ?_ ?_ <;> intro hc <;> try omega) | refine Ops.guard_split rfl rfl ?_ ?_ <;> intro hc) | refine goI ?_ | (refine Cw.k_cond ?_; first | (refine Cw.cond_dec rfl ?_ ?_ <;> intro hc <;> try omega) | refine Cw.cond_bool rfl ?_ ?_ <;> intro hc) | (refine Ops.k_calla ?_; first | (refine Ops.k_callf 9 ?_; refine Ops.callV kS (Evs.cons rfl (Evs.cons rfl (Evs.cons rfl Evs.nil))) rfl ?_)) | (apply OpW.k_call; first | (apply OpW.k_callf 9; exact OpW.callV kS (Evs.cons rfl (Evs.cons rfl (Evs.cons rfl Evs.nil))))) | refine goR ?_ | refine goP ?_ | apply PSeq.cons | apply PSeq.yes rfl rfl rfl | exact goW | fail)
  erw [h3l]
  exact ⟨_, _, _, (Ent.mk goSub goTk), ⟨j + 1, u + pr, _, _, ns ++ [-n], _, _, _, _, rfl, ⟨⟨by omega, by omega⟩, ⟨by omega, by omega⟩, by omega, hns2, by rw [List.length_append, hnl]; rfl, ⟨by omega, by omega⟩, h3, h3l, by omega⟩, rfl, rfl⟩, by omega⟩
 have hi3 : i = 3 := by have := hT.fi; omega
 subst hi3
 have hU := hT.fu
 have hNv := hT.fn
 have hsp3 : sp = U 0 + U 1 + U 2 := by rw [hT.fsp, sumN, sumN, sumN, sumN]; omega
 have hso3 : so = 60 - (totM (N 0) + totM (N 1) + totM (N 2)) := by rw [hT.fso, sumN, sumN, sumN, sumN]; omega
 have hr1 : ∀ k, k < 3 → R1[k]? = some [.strs (kW k (U k)).sites, .sl 1 (intsR (kW k (U k)).rights), .ints (kW k (U k)).used] := fun k hk => by rw [hR1, List.getElem?_map, hT.fl k hk]; rfl
 have hr2 : ∀ k, k < 3 → R2[k]? = some [.mvs (blkM (keyM k) 0 (N k))] := fun k hk => by rw [hR2, List.getElem?_map, hT.fq k hk]; rfl
 clear hR1 hR2 hT hT3r hi
 repeat' (first | refine goH ?_ | ((fail_if_success refine Ops.k_c_call ?_); refine goV ?_) | ((fail_if_success refine Ops.k_c_call ?_); refine goB (fun b => ?_)) | ((fail_if_success refine Ops.k_c_call ?_); refine goC (fun ad cap => ?_)) | refine goG ?_ | (refine Ops.k_guard ?_; first | (refine Ops.guard_dec rfl rfl ?_ ?_ <;> intro hc <;> try omega) | refine Ops.guard_split rfl rfl ?_ ?_ <;> intro hc) | refine goI ?_ | (refine Cw.k_cond ?_; first | (refine Cw.cond_dec rfl ?_ ?_ <;> intro hc <;> try omega) | refine Cw.cond_bool rfl ?_ ?_ <;> intro hc) | (refine Ops.k_calla ?_; first | (refine Ops.k_callf 10 ?_; (refine Ops.callGO (orderO_gen 3 (by omega)) (Evs.cons rfl (Evs.cons rfl Evs.nil)) goPk (by omega) rfl (fun ad cap rows hr => ?_); obtain ⟨o, rfl, ho⟩ := hr; have hol : (intRows o).length = 3 := (by rw [intRows_len, ho.length_eq, idL_len]))) | (refine Ops.k_callf 6 ?_; (refine Ops.callG (next_gen 3 (by omega)) (Evs.cons rfl (Evs.cons rfl Evs.nil)) goPk (by omega) rfl ?_; rintro r ⟨x, rfl, hx⟩; unfold InRange at hx))) | refine goR ?_ | refine goP ?_ | apply PSeq.cons | apply PSeq.yes rfl rfl rfl | exact goW | fail)
 obtain ⟨b25, rfl⟩ : ∃ b25, b25 = b := ⟨_, rfl⟩
 have hoL : o.length = 3 := by rw [ho.length_eq, idL_len]
 obtain ⟨l4, hl4⟩ : ∃ l4, l4 = o ++ [x] := ⟨_, rfl⟩
 have e4 : intRows o ++ [[Tr.int x]] = intRows l4 := by rw [hl4, intRows_app]; rfl
 have hl4l : l4.length = 4 := by rw [hl4, List.length_append, hoL]; rfl
 have hl4m : ∀ y ∈ l4, 0 ≤ y ∧ y < 3 := fun y hy => by
  rw [hl4] at hy
  rcases List.mem_append.1 hy with h | h
  ·have := idL_mem ((ho.mem_iff).1 h); omega
  ·rw [List.mem_singleton.1 h]; omega
 have hl4c : ∀ j : Nat, j < 3 → ∃ k, k < 4 ∧ l4[k]? = some (j : Int) := fun j hj => by
  have hm : (j : Int) ∈ o := (ho.mem_iff).2 (List.mem_map.2 ⟨j, List.mem_range.2 hj, rfl⟩)
  obtain ⟨k, hk⟩ := List.getElem?_of_mem hm
  have hlt := (List.getElem?_eq_some_iff.1 hk).1
  exact ⟨k, by omega, by rw [hl4, List.getElem?_append_left hlt]; exact hk⟩
 have hl4r : (intRows l4).length = 4 := by rw [intRows_len, hl4l]
 rw [e4]
 clear e4 hl4 ho hol hoL hx
 refine Cw.loopI [(9, _), (10, _), (11, _), (12, _), (25, _), (132, _), (133, _)] _ (fun qq e cc => ∃ (k : Nat) (f : Nat → Bool) (W : Wal) (S : List Mv), qq = 4 - k ∧ (k ≤ 4 ∧ W = w3 (seenC f) (seenU f U) ∧ S = shS (seenN f N) ∧ (∀ k' y, k' < k → l4[k']? = some y → f y.toNat = true)) ∧ e = [(26, .mvs S), (134, .int k)] ∧ cc = [Chunk.box b25 29 [.strs W.sites, .sl 1 (intsR W.rights), .ints W.used]])
  ⟨_, _, _, Ent.trans (Ent.imp (s := 26) rfl Imp.nil) (Ent.mkP goSub goPm), 0, fun _ => false, w0T, [], rfl, ⟨by omega, w3_ext (fun _ _ => rfl) (fun _ _ => rfl), rfl, fun _ _ h => by omega⟩, rfl, rfl⟩ ?_
 rintro _ _ _ ⟨k, f, W, S, rfl, ⟨hk, hW, hS, hf⟩, rfl, rfl⟩
 by_cases hk4 : k < 4
 ·obtain ⟨y, hy⟩ := at_lt (l := l4) (k := k) (by omega)
  have hyb := hl4m y (List.mem_of_getElem? hy)
  have r0 : (intRows l4)[k]? = some [.int y] := intRows_at hy
  have r1 := hr1 y.toNat (by omega)
  have r2 := hr2 y.toNat (by omega)
  have kM := mergeT_fn f hU y.toNat
  have kT := togetherT_fn f hNv y.toNat (by omega)
  rw [← hW] at kM
  rw [← hS] at kT
  have hf2 : ∀ k' z, k' < k + 1 → l4[k']? = some z → (decide (z.toNat = y.toNat) || f z.toNat) = true := fun k' z hk' hz => by
   by_cases e : k' = k
   ·subst e
    rw [hy] at hz
    rw [← Option.some.inj hz]
    simp
   ·rw [hf k' z (by omega) hz, Bool.or_true]
  clear hr1 hr2 hl4c hf hl4m hsp3 hso3 hW hS
  generalize kW y.toNat (U y.toNat) = Wk at *
  generalize blkM (keyM y.toNat) 0 (N y.toNat) = Bk at *
  obtain ⟨W2, hW2⟩ : ∃ W2, W2 = w3 (seenC fun j => decide (j = y.toNat) || f j) (seenU (fun j => decide (j = y.toNat) || f j) U) := ⟨_, rfl⟩
  obtain ⟨S2, hS2⟩ : ∃ S2, S2 = shS (seenN (fun j => decide (j = y.toNat) || f j) N) := ⟨_, rfl⟩
  rw [← hW2] at kM
  rw [← hS2] at kT
  repeat' (first | refine goH ?_ | refine goV ?_ | refine goB (fun b => ?_) | refine goC (fun ad cap => ?_) | refine goG ?_ | (refine Ops.k_guard ?_; first | (refine Ops.guard_dec rfl rfl ?_ ?_ <;> intro hc <;> try omega) | refine Ops.guard_split rfl rfl ?_ ?_ <;> intro hc) | refine goI ?_ | (refine Cw.k_cond ?_; first | (refine Cw.cond_dec rfl ?_ ?_ <;> intro hc <;> try omega) | refine Cw.cond_bool rfl ?_ ?_ <;> intro hc) | fail)
  first | refine Cw.region_YP (fun ξ S => Chunk.box b25 29 [.strs W.sites, .sl 1 (intsR W.rights), .ints W.used] :: Chunk.own ad1 cap1 3 29 R1 :: Chunk.own ad cap 1 3 (intRows l4) :: Chunk.strm 25 bs (intRows xs) (c + 14 + 1) :: Chunk.own ad2 cap2 1 44 R2 :: Chunk.box b5 29 [.strs w0T.sites, .sl 1 (intsR w0T.rights), .ints w0T.used] :: (stg (S 9) [] [Chunk.box (blk (ξ 9)) 29 (stg (S 10) (List.map Tr.raw [.slice none 0 0, .slice none 0 0, .slice none 0 0]) [.strs W2.sites, .sl 1 (intsR W2.rights), .ints W2.used])] ++ [])) rfl (by decide +kernel) rfl ((fun (ξ : Nat → Value) (S : Nat → Bool) => Chunk.box b25 29 [.strs W.sites, .sl 1 (intsR W.rights), .ints W.used] :: Chunk.own ad1 cap1 3 29 R1 :: Chunk.own ad cap 1 3 (intRows l4) :: Chunk.strm 25 bs (intRows xs) (c + 14 + 1) :: Chunk.own ad2 cap2 1 44 R2 :: Chunk.box b5 29 [.strs w0T.sites, .sl 1 (intsR w0T.rights), .ints w0T.used] :: (stg (S 9) [] [Chunk.box (blk (ξ 9)) 29 (stg (S 10) (List.map Tr.raw [.slice none 0 0, .slice none 0 0, .slice none 0 0]) [.strs W2.sites, .sl 1 (intsR W2.rights), .ints W2.used])] ++ [])) (fun _ => undef) (fun _ => false)) (by simp only [upd_same, updD_same, upd_ne, updD_ne, ne_eq, Nat.reduceEqDiff, not_false_eq_true, stg_t, stg_f, vAd_s, vCap_s, blk_p, List.cons_append, List.nil_append, b2n_t, b2n_f]; exact goXm) (fun _ => rfl) ?_ | fail
  apply YSeq.w (by intro _ _ _; rfl)
  ·intro ξ S h1 h2 h3 h4
   have hN0_10 := closed_false h1 h3 (k := 10) rfl (by decide)
   try simp only [upd_same, updD_same, upd_ne, updD_ne, ne_eq, Nat.reduceEqDiff, not_false_eq_true, stg_t, stg_f, vAd_s, vCap_s, blk_p, List.cons_append, List.nil_append, b2n_t, b2n_f, hN0_10]
   exact goW
  ·intro ξ v; rfl
  ·intro ξ k v S h3 hn hk
   first
   |rfl
  apply YSeq.w (by intro _ _ _; rfl)
  ·intro ξ S h1 h2 h3 h4
   have hN1_10 := closed_false h1 h3 (k := 10) rfl (by decide)
   try simp only [upd_same, updD_same, upd_ne, updD_ne, ne_eq, Nat.reduceEqDiff, not_false_eq_true, stg_t, stg_f, vAd_s, vCap_s, blk_p, List.cons_append, List.nil_append, b2n_t, b2n_f, hN1_10]
   exact goW
  ·intro ξ v; rfl
  ·intro ξ k v S h3 hn hk
   first
   |rfl
  apply YSeq.w (by intro _ _ _; rfl)
  ·intro ξ S h1 h2 h3 h4
   have hN2_10 := closed_false h1 h3 (k := 10) rfl (by decide)
   try simp only [upd_same, updD_same, upd_ne, updD_ne, ne_eq, Nat.reduceEqDiff, not_false_eq_true, stg_t, stg_f, vAd_s, vCap_s, blk_p, List.cons_append, List.nil_append, b2n_t, b2n_f, hN2_10]
   exact goW
  ·intro ξ v; rfl
  ·intro ξ k v S h3 hn hk
   first
   |rfl
  apply YSeq.w (by intro _ _ _; rfl)
  ·intro ξ S h1 h2 h3 h4
   have hN3_10 := closed_false h1 h3 (k := 10) rfl (by decide)
   try simp only [upd_same, updD_same, upd_ne, updD_ne, ne_eq, Nat.reduceEqDiff, not_false_eq_true, stg_t, stg_f, vAd_s, vCap_s, blk_p, List.cons_append, List.nil_append, b2n_t, b2n_f, hN3_10]
   exact goW
  ·intro ξ v; rfl
  ·intro ξ k v S h3 hn hk
   first
   |rfl
  apply YSeq.w (by intro _ _ _; rfl)
  ·intro ξ S h1 h2 h3 h4
   have hN4_10 := closed_false h1 h3 (k := 10) rfl (by decide)
   try simp only [upd_same, updD_same, upd_ne, updD_ne, ne_eq, Nat.reduceEqDiff, not_false_eq_true, stg_t, stg_f, vAd_s, vCap_s, blk_p, List.cons_append, List.nil_append, b2n_t, b2n_f, hN4_10]
   exact goW
  ·intro ξ v; rfl
  ·intro ξ k v S h3 hn hk
   first
   |rfl
  apply YSeq.callV (by intro _ _ _; rfl)
  ·intro ξ S h1 h2 h3 h4
   have hN5_10 := closed_false h1 h3 (k := 10) rfl (by decide)
   try simp only [upd_same, updD_same, upd_ne, updD_ne, ne_eq, Nat.reduceEqDiff, not_false_eq_true, stg_t, stg_f, vAd_s, vCap_s, blk_p, List.cons_append, List.nil_append, b2n_t, b2n_f, hN5_10]
   exact ⟨_, (Evs.cons rfl (Evs.cons rfl Evs.nil)), kM⟩
  ·intro ξ v; rfl
  ·intro ξ k v S h3 hn hk
   first
   |rfl
  apply YSeq.w (by intro _ _ _; rfl)
  ·intro ξ S h1 h2 h3 h4
   have hN6_10 := closed_false h1 h3 (k := 10) rfl (by decide)
   try simp only [upd_same, updD_same, upd_ne, updD_ne, ne_eq, Nat.reduceEqDiff, not_false_eq_true, stg_t, stg_f, vAd_s, vCap_s, blk_p, List.cons_append, List.nil_append, b2n_t, b2n_f, hN6_10]
   exact goW
  ·intro ξ v; rfl
  ·intro ξ k v S h3 hn hk
   first
   |rfl
  apply YSeq.w (by intro _ _ _; rfl)
  ·intro ξ S h1 h2 h3 h4
   have hN7_10 := closed_false h1 h3 (k := 10) rfl (by decide)
   try simp only [upd_same, updD_same, upd_ne, updD_ne, ne_eq, Nat.reduceEqDiff, not_false_eq_true, stg_t, stg_f, vAd_s, vCap_s, blk_p, List.cons_append, List.nil_append, b2n_t, b2n_f, hN7_10]
   exact goW
  ·intro ξ v; rfl
  ·intro ξ k v S h3 hn hk
   first
   |rfl
  apply YSeq.w (by intro _ _ _; rfl)
  ·intro ξ S h1 h2 h3 h4
   try simp only [upd_same, updD_same, upd_ne, updD_ne, ne_eq, Nat.reduceEqDiff, not_false_eq_true, stg_t, stg_f, vAd_s, vCap_s, blk_p, List.cons_append, List.nil_append, b2n_t, b2n_f]
   exact goW
  ·intro ξ v; rfl
  ·intro ξ k v S h3 hn hk
   first
   |rfl
  apply YSeq.alloc
  ·intro ξ S b h1 h3
   have hN9_10 := closed_false h1 h3 (k := 10) rfl (by decide)
   simp only [upd_same, updD_same, upd_ne, updD_ne, ne_eq, Nat.reduceEqDiff, not_false_eq_true, stg_t, stg_f, vAd_s, vCap_s, blk_p, List.cons_append, List.nil_append, b2n_t, b2n_f, h1, hN9_10]
   exact goXm
  apply YSeq.store
  ·intro ξ S h1 h2 h3 h4
   have hY10_9 : S 9 = true := h2 9 (by decide)
   simp only [upd_same, updD_same, upd_ne, updD_ne, ne_eq, Nat.reduceEqDiff, not_false_eq_true, stg_t, stg_f, vAd_s, vCap_s, blk_p, List.cons_append, List.nil_append, b2n_t, b2n_f, hY10_9, h1]
   refine ⟨_, _, _, _, _, _, _, rfl, rfl, inferInstance, goXp, rfl, Nat.le_of_ble_eq_true rfl, ?_⟩
   exact goXm
  apply YSeq.w (by intro _ _ _; rfl)
  ·intro ξ S h1 h2 h3 h4
   have hY11_9 : S 9 = true := h2 9 (by decide)
   have hY11_10 : S 10 = true := h2 10 (by decide)
   try simp only [upd_same, updD_same, upd_ne, updD_ne, ne_eq, Nat.reduceEqDiff, not_false_eq_true, stg_t, stg_f, vAd_s, vCap_s, blk_p, List.cons_append, List.nil_append, b2n_t, b2n_f, hY11_9, hY11_10]
   exact goW
  ·intro ξ v; rfl
  ·intro ξ k v S h3 hn hk
   first
   |rfl
   |skip
    have hY11_9 : S 9 = true := h3 11 _ rfl hn 9 (by decide)
    simp only [upd_S hY11_9 hk]
  refine YSeq.nil fun ξ hf => ?_
  refine ⟨[(9, _), (10, _), (11, _), (12, _), (25, _), (132, _), (133, _), (26, _), (134, _), (28, _), (29, _), (30, _)], _, Ent.trans (Ent.eqc rfl (by first | (simp only [upd_same, updD_same, upd_ne, updD_ne, ne_eq, Nat.reduceEqDiff, not_false_eq_true, stg_t, stg_f, vAd_s, vCap_s, blk_p, List.cons_append, List.nil_append, b2n_t, b2n_f, ownV, slV, ptV] <;> rfl) | rfl)) (Ent.sub goSub), ?_⟩
  clear hf
  generalize blk (ξ 9) = b29
  repeat (first | refine InB.norm ?_ | refine Then.norm ?_)
  repeat' (first | refine goH ?_ | refine goV ?_ | refine goB (fun b => ?_) | refine goC (fun ad cap => ?_) | refine goG ?_ | (refine Ops.k_guard ?_; first | (refine Ops.guard_dec rfl rfl ?_ ?_ <;> intro hc <;> try omega) | refine Ops.guard_split rfl rfl ?_ ?_ <;> intro hc) | refine goI ?_ | (refine Cw.k_cond ?_; first | (refine Cw.cond_dec rfl ?_ ?_ <;> intro hc <;> try omega) | refine Cw.cond_bool rfl ?_ ?_ <;> intro hc) | (refine Ops.k_calla ?_; first | (refine Ops.k_callf 12 ?_; refine Ops.callV kT (Evs.cons rfl (Evs.cons rfl Evs.nil)) rfl ?_)) | (apply OpW.k_call; first | (apply OpW.k_callf 12; exact OpW.callV kT (Evs.cons rfl (Evs.cons rfl Evs.nil)))) | refine goR ?_ | refine goP ?_ | apply PSeq.cons | apply PSeq.yes rfl rfl rfl | exact goW | fail)
  exact ⟨_, _, _, (Ent.mk goSub goTk), ⟨k + 1, fun j => decide (j = y.toNat) || f j, W2, S2, rfl, ⟨by omega, hW2, hS2, hf2⟩, rfl, rfl⟩, by omega⟩
 have hk5 : k = 4 := by omega
 subst hk5
 have hfa : ∀ j, j < 3 → f j = true := fun j hj => by
  obtain ⟨k, h1, h2⟩ := hl4c j hj
  have := hf k _ h1 h2
  rwa [Int.toNat_natCast] at this
 have kB := balanceT_fn hU hfa
 have kH := theftsT_fn hNv hfa (v := 60 - so) (by omega) (by omega)
 rw [← hW, ← hsp3] at kB
 rw [← hS] at kH
 clear hr1 hr2 hl4c hf hl4m hW hS hfa hU hNv
 repeat' (first | refine goH ?_ | refine goV ?_ | refine goB (fun b => ?_) | refine goC (fun ad cap => ?_) | refine goG ?_ | (refine Ops.k_guard ?_; first | (refine Ops.guard_dec rfl rfl ?_ ?_ <;> intro hc <;> try omega) | refine Ops.guard_split rfl rfl ?_ ?_ <;> intro hc) | refine goI ?_ | (refine Cw.k_cond ?_; first | (refine Cw.cond_dec rfl ?_ ?_ <;> intro hc <;> try omega) | refine Cw.cond_bool rfl ?_ ?_ <;> intro hc) | (refine Ops.k_calla ?_; first | (refine Ops.k_callf 13 ?_; refine Ops.callV kB (Evs.cons rfl Evs.nil) rfl ?_) | (refine Ops.k_callf 14 ?_; refine Ops.callV kH (Evs.cons rfl (Evs.cons rfl Evs.nil)) rfl ?_) | (refine Ops.k_callf 15 ?_; refine Ops.callV kR Evs.nil rfl ?_)) | (apply OpW.k_call; first | (apply OpW.k_callf 13; exact OpW.callV kB (Evs.cons rfl Evs.nil)) | (apply OpW.k_callf 14; exact OpW.callV kH (Evs.cons rfl (Evs.cons rfl Evs.nil))) | (apply OpW.k_callf 15; exact OpW.callV kR Evs.nil)) | refine goR ?_ | refine goP ?_ | apply PSeq.cons | apply PSeq.yes rfl rfl rfl | exact goW | fail)
 refine Fin.ret Ent.refl (Outs.one rfl rfl) ?_
 exact congrArg Tr.bool (decide_eq_true rfl)
end Lg
end
