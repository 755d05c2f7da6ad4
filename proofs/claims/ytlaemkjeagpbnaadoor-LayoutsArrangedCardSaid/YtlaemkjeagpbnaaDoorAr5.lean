/- A part of the proof of a law of this seat: it adds no condition. By an AI agent. -/
import Derived.Test.YtlaemkjeagpbnaaDoorAr4
section
set_option linter.all false
set_option maxRecDepth 100000
set_option maxHeartbeats 4000000
namespace Lg
open Go Go.Proofs

def listE (l : List Offer) (xs : List ByteArray) : Int := if xs.length > 60 then 2 else if xs.any (oddB l) then 8 else 0
theorem listFault_fn (l : List Offer) (hl : l.length ≤ 1000000) (xs : List ByteArray) (hx : xs.length ≤ 1000000) : PFn Tryd.prog 55 [.offers l, .strs xs] (· = .int (listE l xs)) := by
  have k := strange_fn l hl xs hx
  have hL := strRows_len xs
  refine PFn.mk (Spec.body Tryd.func55 rfl rfl (Tryd.ntmps55) rfl fun w0 own0 M => ?_)
  unfold listE
  by_cases h1 : xs.length > 60
  · rw [if_pos h1]
    repeat' (first | refine goH ?_ | refine goV ?_ | refine goI ?_ | (refine Cw.k_cond ?_; first | (refine Cw.cond_dec rfl (fun hc => ?_) (fun hc => ?_) <;> try (exfalso; omega)) | refine Cw.cond_bool rfl (fun hc => ?_) (fun hc => ?_)) | fail)
    exact Fin.ret Ent.refl (Outs.one rfl rfl) ⟨rfl, rfl⟩
  rw [if_neg h1]
  cases h2 : xs.any (oddB l)
  · rw [h2] at k
    repeat' (first | refine goH ?_ | refine goV ?_ | refine goI ?_ | (refine Cw.k_cond ?_; first | (refine Cw.cond_dec rfl (fun hc => ?_) (fun hc => ?_) <;> try (exfalso; omega)) | refine Cw.cond_bool rfl (fun hc => ?_) (fun hc => ?_)) | (refine Ops.k_calla ?_; first | (refine Ops.k_callf 60 ?_; refine Ops.callV k (Evs.cons rfl (Evs.cons rfl Evs.nil)) rfl ?_)) | fail)
    exact Fin.ret Ent.refl (Outs.one rfl rfl) ⟨rfl, rfl⟩
  · rw [h2] at k
    repeat' (first | refine goH ?_ | refine goV ?_ | refine goI ?_ | (refine Cw.k_cond ?_; first | (refine Cw.cond_dec rfl (fun hc => ?_) (fun hc => ?_) <;> try (exfalso; omega)) | refine Cw.cond_bool rfl (fun hc => ?_) (fun hc => ?_)) | (refine Ops.k_calla ?_; first | (refine Ops.k_callf 60 ?_; refine Ops.callV k (Evs.cons rfl (Evs.cons rfl Evs.nil)) rfl ?_)) | fail)
    exact Fin.ret Ent.refl (Outs.one rfl rfl) ⟨rfl, rfl⟩

def cntS (l : List Offer) (g : List Int) (x : ByteArray) : List Int := if x = ⟨#[]⟩ then g else g.set (offIx l x).toNat (g.getD (offIx l x).toNat 0 + 1)
def cntF (l : List Offer) (xs : List ByteArray) : List Int := xs.foldl (cntS l) (List.replicate l.length 0)
theorem cntS_len (l : List Offer) (g : List Int) (x : ByteArray) : (cntS l g x).length = g.length := by
  unfold cntS
  split <;> simp
theorem cntF_snoc (l : List Offer) (xs : List ByteArray) (x : ByteArray) : cntF l (xs ++ [x]) = cntS l (cntF l xs) x := by simp [cntF, List.foldl_append]
theorem foldl_cnt_len (l : List Offer) : ∀ (xs : List ByteArray) (g : List Int), (xs.foldl (cntS l) g).length = g.length
  | [], g => rfl
  | x :: xs, g => by rw [List.foldl_cons, foldl_cnt_len l xs, cntS_len]
theorem cntF_len (l : List Offer) (xs : List ByteArray) : (cntF l xs).length = l.length := by unfold cntF; rw [foldl_cnt_len, List.length_replicate]
theorem cntS_bd {l : List Offer} {g : List Int} {x : ByteArray} {k : Int} (h : ∀ v ∈ g, 0 ≤ v ∧ v ≤ k) (hk : 0 ≤ k) : ∀ v ∈ cntS l g x, 0 ≤ v ∧ v ≤ k + 1 := by
  intro v hv
  unfold cntS at hv
  split at hv
  · have := h v hv; omega
  · rcases List.mem_or_eq_of_mem_set hv with h1 | rfl
    · have := h v h1; omega
    · have : 0 ≤ g.getD (offIx l x).toNat 0 ∧ g.getD (offIx l x).toNat 0 ≤ k := by
        rw [List.getD_eq_getElem?_getD]
        cases hg : g[(offIx l x).toNat]? with
        | none => exact ⟨Int.le_refl _, hk⟩
        | some y => exact h y (List.mem_of_getElem? hg)
      omega
theorem oddB_ok {l : List Offer} {x : ByteArray} (h : oddB l x = false) (hx : ¬ x = ⟨#[]⟩) : ∃ (j : Nat) (o : Offer), offIx l x = j ∧ l[j]? = some o ∧ j < l.length := by
  unfold oddB at h
  rw [if_neg hx] at h
  cases f : findO l x with
  | none => rw [f] at h; cases h
  | some o =>
    obtain ⟨j, h1, h2⟩ := offIx_some f
    exact ⟨j, o, h1, h2, (List.getElem?_eq_some_iff.1 h2).1⟩
theorem any_odd {l : List Offer} {xs : List ByteArray} (h : xs.any (oddB l) = false) : ∀ x ∈ xs, oddB l x = false := by
  intro x hx
  cases h2 : oddB l x
  · rfl
  · rw [List.any_eq_true.2 ⟨x, hx, h2⟩] at h; cases h
theorem zeroRows (n : Nat) : List.replicate n [Tr.raw (.int .i64 0)] = intRows (List.replicate n 0) := by unfold intRows; rw [List.map_replicate]
theorem intRows_set (l : List Int) (i : Nat) (v : Int) : (intRows l).set i [Tr.int v] = intRows (l.set i v) := by
  unfold intRows
  rw [List.map_set]

def cnt1E (l : List Offer) (xs : List ByteArray) : Int := if offersE l ≠ 0 then offersE l else listE l xs

theorem counts_fn (l : List Offer) (hl : OBd l) (xs : List ByteArray) (hx : xs.length ≤ 1000) : PFn Tryd.prog 45 [.offers l, .strs xs] (· = .tup [.ints (if cnt1E l xs ≠ 0 then [] else cntF l xs), .int (cnt1E l xs)]) := by
  have k1 := checkOffers_fn l hl
  have hll := hl.1
  have k2 := unknown_fn l (by omega) xs (by omega)
  have hL := strRows_len xs
  have hL2 : (l.map Offer.row).length = l.length := List.length_map _
  refine PFn.mk (Spec.body Tryd.func45 rfl rfl (Tryd.ntmps45) rfl fun w0 own0 M => ?_)
  by_cases h1 : offersE l ≠ 0
  · have e : cnt1E l xs = offersE l := by unfold cnt1E; rw [if_pos h1]
    rw [e, if_pos h1]
    generalize offersE l = oe at *
    repeat' (first | refine goH ?_ | refine goV ?_ | refine goC (fun ad cap => ?_) | refine goI ?_ | (refine Cw.k_cond ?_; first | (refine Cw.cond_dec rfl (fun hc => ?_) (fun hc => ?_) <;> try (exfalso; omega)) | refine Cw.cond_bool rfl (fun hc => ?_) (fun hc => ?_)) | (refine Ops.k_calla ?_; first | (refine Ops.k_callf 69 ?_; refine Ops.callV k1 (Evs.cons rfl Evs.nil) rfl ?_)) | fail)
    refine Fin.ret (Ent.trans (Ent.nilsl 1 (s := 4) rfl) (Ent.take goTk)) (Outs.many rfl (OutL.cons goOe (OutL.cons goOe OutL.nil)) rfl) ⟨rfl, rfl⟩
  have e : cnt1E l xs = listE l xs := by unfold cnt1E; rw [if_neg h1]
  rw [show offersE l = 0 by omega] at k1
  rw [e]
  unfold listE
  by_cases h2 : xs.length > 60
  · rw [if_pos h2]
    repeat' (first | refine goH ?_ | refine goV ?_ | refine goC (fun ad cap => ?_) | refine goI ?_ | (refine Cw.k_cond ?_; first | (refine Cw.cond_dec rfl (fun hc => ?_) (fun hc => ?_) <;> try (exfalso; omega)) | refine Cw.cond_bool rfl (fun hc => ?_) (fun hc => ?_)) | (refine Ops.k_calla ?_; first | (refine Ops.k_callf 69 ?_; refine Ops.callV k1 (Evs.cons rfl Evs.nil) rfl ?_) | (refine Ops.k_callf 73 ?_; refine Ops.callV k2 (Evs.cons rfl (Evs.cons rfl Evs.nil)) rfl ?_)) | fail)
    refine Fin.ret (Ent.trans (Ent.nilsl 1 (s := 4) rfl) (Ent.take goTk)) (Outs.many rfl (OutL.cons goOe (OutL.cons goOe OutL.nil)) rfl) ⟨rfl, rfl⟩
  rw [if_neg h2]
  cases hodd : xs.any (oddB l)
  rotate_left
  · rw [hodd] at k2
    repeat' (first | refine goH ?_ | refine goV ?_ | refine goC (fun ad cap => ?_) | refine goI ?_ | (refine Cw.k_cond ?_; first | (refine Cw.cond_dec rfl (fun hc => ?_) (fun hc => ?_) <;> try (exfalso; omega)) | refine Cw.cond_bool rfl (fun hc => ?_) (fun hc => ?_)) | (refine Ops.k_calla ?_; first | (refine Ops.k_callf 69 ?_; refine Ops.callV k1 (Evs.cons rfl Evs.nil) rfl ?_) | (refine Ops.k_callf 73 ?_; refine Ops.callV k2 (Evs.cons rfl (Evs.cons rfl Evs.nil)) rfl ?_)) | fail)
    refine Fin.ret (Ent.trans (Ent.nilsl 1 (s := 4) rfl) (Ent.take goTk)) (Outs.many rfl (OutL.cons goOe (OutL.cons goOe OutL.nil)) rfl) ⟨rfl, rfl⟩
  rw [hodd] at k2
  repeat' (first | refine goH ?_ | refine goV ?_ | refine goC (fun ad cap => ?_) | refine goI ?_ | (refine Cw.k_cond ?_; first | (refine Cw.cond_dec rfl (fun hc => ?_) (fun hc => ?_) <;> try (exfalso; omega)) | refine Cw.cond_bool rfl (fun hc => ?_) (fun hc => ?_)) | (refine Ops.k_calla ?_; first | (refine Ops.k_callf 69 ?_; refine Ops.callV k1 (Evs.cons rfl Evs.nil) rfl ?_) | (refine Ops.k_callf 73 ?_; refine Ops.callV k2 (Evs.cons rfl (Evs.cons rfl Evs.nil)) rfl ?_)) | fail)
  rw [hL2, Int.toNat_natCast, show ([Value.int .i64 0].map Tr.raw) = [Tr.raw (.int .i64 0)] from rfl, zeroRows]
  refine Cw.loopI [(0, _), (26, _), (27, _)] _ (fun n e cc => ∃ (k : Nat) (ad : Option Addr) (cap : Nat) (gs : List Int), n = xs.length - k ∧ (k ≤ xs.length ∧ gs = cntF l (xs.take k) ∧ gs.length = l.length ∧ ∀ v ∈ gs, 0 ≤ v ∧ v ≤ (k : Int)) ∧ e = [(7, Tr.raw (.slice ad l.length cap)), (28, .int k)] ∧ cc = [Chunk.own ad cap 1 3 (intRows gs)])
    ⟨_, _, _, (Ent.mkP goSub goPm), 0, ad, cap, _, rfl, ⟨by omega, rfl, by rw [cntF_len], by intro v hv; simp [cntF] at hv; omega⟩, rfl, rfl⟩ ?_
  clear ad cap
  rintro _ _ _ ⟨k, ad, cap, gs, rfl, ⟨hk, hgs, hgl, hgb⟩, rfl, rfl⟩
  have hil := intRows_len gs
  by_cases hkl : k < xs.length
  · obtain ⟨x, hx1⟩ := at_lt hkl
    have hrow : (strRows xs)[((k : Nat) : Int).toNat]? = some [.str x] := strRows_at hx1
    have hox := any_odd hodd x (List.mem_of_getElem? hx1)
    have hst : cntF l (xs.take (k + 1)) = cntS l gs x := by rw [take_at hx1, cntF_snoc, ← hgs]
    by_cases he : x = ⟨#[]⟩
    · have e2 : cntS l gs x = gs := by unfold cntS; rw [if_pos he]
      repeat' (first | refine goH ?_ | (refine Ops.k_b_neq ?_; first | (refine Ops.val' rfl (OpV.neqS_f rfl rfl (by assumption)) ?_)) | refine goV ?_ | refine goC (fun ad cap => ?_) | refine goI ?_ | (refine Cw.k_cond ?_; first | (refine Cw.cond_dec rfl (fun hc => ?_) (fun hc => ?_) <;> try (exfalso; omega)) | refine Cw.cond_bool rfl (fun hc => ?_) (fun hc => ?_)) | fail)
      exact ⟨_, _, _, (Ent.mk goSub goTk), ⟨k + 1, _, _, gs, rfl, ⟨by omega, by rw [hst, e2], hgl, fun v hv => by have := hgb v hv; omega⟩, rfl, rfl⟩, by omega⟩
    · obtain ⟨j, o, hj, hoj, hjl⟩ := oddB_ok hox he
      have k3 := offer_fn l (by omega) x
      rw [hj] at k3
      obtain ⟨v, hv⟩ := at_lt (l := gs) (k := j) (by omega)
      have hvb := hgb v (List.mem_of_getElem? hv)
      have hrv : (intRows gs)[((j : Nat) : Int).toNat]? = some [.int v] := intRows_at hv
      have e2 : cntS l gs x = gs.set j (v + 1) := by unfold cntS; rw [if_neg he, hj, Int.toNat_natCast, List.getD_eq_getElem?_getD, hv]; rfl
      have key : (intRows gs).set ((j : Nat) : Int).toNat [Tr.int (v + 1)] = intRows (cntS l gs x) := by rw [e2, Int.toNat_natCast, intRows_set]
      repeat' (first | refine goH ?_ | (refine Ops.k_b_neq ?_; first | (refine Ops.val' rfl (OpV.neqS_t rfl rfl (by assumption)) ?_)) | refine goV ?_ | refine goC (fun ad cap => ?_) | refine goI ?_ | (refine Cw.k_cond ?_; first | (refine Cw.cond_dec rfl (fun hc => ?_) (fun hc => ?_) <;> try (exfalso; omega)) | refine Cw.cond_bool rfl (fun hc => ?_) (fun hc => ?_)) | (refine Ops.k_calla ?_; first | (refine Ops.k_callf 49 ?_; refine Ops.callV k3 (Evs.cons rfl (Evs.cons rfl Evs.nil)) rfl ?_)) | fail)
      rw [show ([Tr.int v].set 0 (Tr.int (v + 1))) = [Tr.int (v + 1)] from rfl, key]
      exact ⟨_, _, _, (Ent.mk goSub goTk), ⟨k + 1, _, _, _, rfl, ⟨by omega, hst.symm, by rw [cntS_len]; exact hgl, fun v hv => by have := cntS_bd hgb (by omega) v hv; omega⟩, rfl, rfl⟩, by omega⟩
  · rw [List.take_of_length_le (by omega)] at hgs
    subst hgs
    repeat' (first | refine goH ?_ | refine goV ?_ | refine goC (fun ad cap => ?_) | refine goI ?_ | (refine Cw.k_cond ?_; first | (refine Cw.cond_dec rfl (fun hc => ?_) (fun hc => ?_) <;> try (exfalso; omega)) | refine Cw.cond_bool rfl (fun hc => ?_) (fun hc => ?_)) | fail)
    refine Fin.ret (Ent.trans (Ent.settle (s := 4) rfl goPk (by omega)) (Ent.take goTk)) (Outs.many rfl (OutL.cons (by exact OutE.tmp rfl) (OutL.cons (by exact OutE.tmp rfl) OutL.nil)) rfl) ⟨rfl, rfl⟩
end Lg
end
section
set_option linter.all false
set_option maxRecDepth 100000
set_option maxHeartbeats 8000000
namespace Lg
open Go Go.Proofs

theorem int_setR (L : List Int) (k : Nat) (v : Int) : (intRows L).set k [Tr.int v] = intRows (L.set k v) := intRows_set L k v
attribute [local irreducible] intRows strRows filP hatedB badC
theorem put_fn (bp : Nat) (R C : Nat) (hC : 1 ≤ C ∧ C ≤ 10) (l : List Offer) (hl : OBd l) (old : List ByteArray) (ho : old.length ≤ 100) (ad2 : Option Addr) (cap2 : Nat) (n : Nat) (ih : FillS bp R C l old ad2 cap2 n)
    (pre : List ByteArray) (key : ByteArray) (L : List Int) (e d : Int) (B : List ByteArray) (m : Int) (ad : Option Addr) (cap : Nat) (hn : pre.length + (n + 1) = old.length) (hL : L.length = l.length) (hLb : ∀ v ∈ L, 0 ≤ v ∧ v ≤ 1000) (he : 0 ≤ e ∧ e ≤ 1000) (hd : 0 ≤ d ∧ d ≤ pre.length) :
    Spec Tryd.prog 77 [Tr.raw (.pointer (some ⟨bp, 0, none⟩)), .str key, .int d] (plC bp R C l old ad cap ad2 cap2 pre L e B m)
      (fun r cs => r = .tup [] ∧ ∃ ad' cap', cs = plC bp R C l old ad' cap' ad2 cap2 pre L e (putR l old C n pre key (e :: L) d (B, m)).1 (putR l old C n pre key (e :: L) d (B, m)).2) := by
  unfold putR
  by_cases hc : 0 ≤ m ∧ m ≤ d + dif1 old pre.length key
  · rw [if_pos (.inl hc)]
    exact put_bad bp R C hC l hl old ho ad2 cap2 n pre key L e d B m ad cap hn hL hLb he hd (.inl hc)
  cases hb : badC l C pre key with
  | true =>
    rw [if_pos (.inr rfl)]
    exact put_bad bp R C hC l hl old ho ad2 cap2 n pre key L e d B m ad cap hn hL hLb he hd (.inr hb)
  | false =>
    rw [if_neg (fun h => h.elim hc (fun h => nomatch h))]
    by_cases hA : C ≤ pre.length
    · exact put_goodA bp R C hC l hl old ho ad2 cap2 n ih pre key L e d B m ad cap hn hL hLb he hd hc hb hA
    · exact put_goodB bp R C hC l hl old ho ad2 cap2 n ih pre key L e d B m ad cap hn hL hLb he hd hc hb hA
attribute [local irreducible] putR
theorem fill_fn (bp : Nat) (R C : Nat) (hC : 1 ≤ C ∧ C ≤ 10) (l : List Offer) (hl : OBd l) (old : List ByteArray) (ho : old.length ≤ 100) (ad2 : Option Addr) (cap2 : Nat) : ∀ n, FillS bp R C l old ad2 cap2 n := by
  have hoR := strRows_len old
  have hlR : (l.map Offer.row).length = l.length := List.length_map _
  have hl1 := hl.1
  intro n
  induction n with
  | zero =>
    intro pre L e d B m ad cap hn hL hLb he hd
    have hpl := strRows_len pre
    have kC := cloneS_str (ad := ad) (cap := cap) (n := pre.length) (strRows pre) hpl.symm (by omega)
    have hs : filP (keysL l) old (badC l C) 0 pre (e :: L) d (B, m) = (pre, d) := by rw [filP]
    rw [hs]
    refine Spec.body Tryd.func51 rfl rfl (Tryd.ntmps51) rfl fun w0 own0 M => ?_
    repeat' (first | refine goH ?_ | refine goV ?_ | refine goB (fun b => ?_) | refine goI ?_ | (refine Cw.k_cond ?_; first | (refine Cw.cond_dec rfl (fun hc => ?_) (fun hc => ?_) <;> try (exfalso; omega)) | refine Cw.cond_bool rfl (fun hc => ?_) (fun hc => ?_)) | (refine Ops.k_calla ?_; first | (refine Ops.k_callf 32 ?_; refine Ops.callS kC (Evs.cons rfl Evs.nil) goPm rfl ?_)) | (apply OpW.k_call; first | (apply OpW.k_callf 32; exact OpW.callS kC (Evs.cons rfl Evs.nil) goPm)) | refine goR ?_ | refine goP ?_ | apply PSeq.cons | apply PSeq.yes rfl rfl rfl | exact goW | fail)
    exact Fin.ret (Ent.take goTk) (Outs.zero rfl) ⟨rfl, ad, cap, rfl⟩
  | succ n ih =>
    intro pre L e d B m ad cap hn hL hLb he hd
    have hpl := strRows_len pre
    have hLR := (intRows_len L).trans hL
    have kP := fun (key : ByteArray) (L : List Int) (e : Int) (B : List ByteArray) (m : Int) (ad : Option Addr) (cap : Nat) hL hLb he => put_fn bp R C hC l hl old ho ad2 cap2 n ih pre key L e d B m ad cap hn hL hLb he hd
    obtain ⟨F, hF⟩ : ∃ F : Nat → PS → PS, F = fun k st => match (e :: L)[k]?, (keysL l)[k]? with
      | some v, some key => if v = 0 then st else if (0 ≤ st.2 ∧ st.2 ≤ d + dif1 old pre.length key) ∨ badC l C pre key = true then st else filP (keysL l) old (badC l C) n (pre ++ [key]) ((e :: L).set k (v - 1)) (d + dif1 old pre.length key) st
      | _, _ => st := ⟨_, rfl⟩
    have hs : filP (keysL l) old (badC l C) (n + 1) pre (e :: L) d (B, m) = itF F 1 (L.length - 0) (F 0 (B, m)) := by
      rw [filP, List.length_cons, itF, Nat.sub_zero, hF]
      all_goals with_unfolding_all rfl
    rw [hs]
    clear hs
    have hF0 : ∀ st, F 0 st = if e = 0 then st else putR l old C n pre eS ((e - 1) :: L) d st := by
      intro st
      rw [hF]
      all_goals with_unfolding_all rfl
    have hFk : ∀ (k : Nat) (v : Int) (o : Offer) (st : PS), L[k]? = some v → l[k]? = some o → F (k + 1) st = if v = 0 then st else putR l old C n pre o.key (e :: L.set k (v - 1)) d st := by
      intro k v o st h1 h2
      have h3 : (keysL l)[k + 1]? = some o.key := by
        show (l.map Offer.key)[k]? = _
        rw [List.getElem?_map, h2]
        rfl
      rw [hF]
      simp only [List.getElem?_cons_succ, h1, h3]
      all_goals with_unfolding_all rfl
    clear hF
    obtain ⟨B1, m1, hB1⟩ : ∃ B1 m1, F 0 (B, m) = (B1, m1) := ⟨_, _, rfl⟩
    rw [hB1]
    have hF0 := (hF0 (B, m)).symm.trans hB1
    obtain ⟨S, hS⟩ : ∃ S, S = itF F 1 (L.length - 0) (B1, m1) := ⟨_, rfl⟩
    rw [← hS]
    have hpo : pre.length < (strRows old).length := by omega
    refine Spec.body Tryd.func51 rfl rfl (Tryd.ntmps51) rfl fun w0 own0 M => ?_
    by_cases he0 : e = 0
    · rw [if_pos he0] at hF0
      obtain ⟨rfl, rfl⟩ : B = B1 ∧ m = m1 := by cases hF0; exact ⟨rfl, rfl⟩
      clear ih hF0 hB1
      repeat' (first | refine goH ?_ | refine goV ?_ | refine goB (fun b => ?_) | refine goI ?_ | (refine Cw.k_cond ?_; first | (refine Cw.cond_dec rfl (fun hc => ?_) (fun hc => ?_) <;> try (exfalso; omega)) | refine Cw.cond_bool rfl (fun hc => ?_) (fun hc => ?_)) | refine goR ?_ | refine goP ?_ | apply PSeq.cons | apply PSeq.yes rfl rfl rfl | exact goW | fail)
      refine Cw.loopI [(0, _), (1, _), (54, _), (55, _)] _ (fun z ee cc => ∃ (k : Nat) (B2 : List ByteArray) (m2 : Int) (ad3 : Option Addr) (cap3 : Nat), z = l.length - k ∧ (k ≤ l.length ∧ S = itF F (k + 1) (L.length - k) (B2, m2)) ∧ ee = [(56, .int k)] ∧ cc = plC bp R C l old ad3 cap3 ad2 cap2 pre L e B2 m2)
        ⟨_, _, _, (Ent.mkP goSub goPm), 0, B, m, ad, cap, rfl, ⟨by omega, hS⟩, rfl, rfl⟩ ?_
      clear hS
      rintro _ _ _ ⟨k, B2, m2, ad3, cap3, rfl, ⟨hk, hV⟩, rfl, rfl⟩
      by_cases hkl : k < l.length
      rotate_left
      · rw [show L.length - k = 0 by omega, itF] at hV
        subst hV
        clear kP hFk
        repeat' (first | refine goH ?_ | refine goV ?_ | refine goB (fun b => ?_) | refine goI ?_ | (refine Cw.k_cond ?_; first | (refine Cw.cond_dec rfl (fun hc => ?_) (fun hc => ?_) <;> try (exfalso; omega)) | refine Cw.cond_bool rfl (fun hc => ?_) (fun hc => ?_)) | refine goR ?_ | refine goP ?_ | apply PSeq.cons | apply PSeq.yes rfl rfl rfl | exact goW | fail)
        exact Fin.norm (Ent.take goTk) (Outs.zero rfl) ⟨rfl, ad3, cap3, rfl⟩
      obtain ⟨v, hv⟩ := at_lt (l := L) (k := k) (by omega)
      obtain ⟨o, hoo⟩ := at_lt (l := l) (k := k) hkl
      rw [show L.length - k = (L.length - (k + 1)) + 1 by omega, itF, hFk k v o _ hv hoo] at hV
      have hvb := hLb v (List.mem_of_getElem? hv)
      have r1 := intRows_at hv
      have r2 : (l.map Offer.row)[k]? = some [.str o.key, .str o.group, .ints o.pr, .strs o.has, .strs o.hates] := rows_at hoo
      by_cases hv0 : v = 0
      · rw [if_pos hv0] at hV
        clear kP hFk hv hoo
        repeat' (first | refine goH ?_ | refine goV ?_ | refine goB (fun b => ?_) | refine goI ?_ | (refine Cw.k_cond ?_; first | (refine Cw.cond_dec rfl (fun hc => ?_) (fun hc => ?_) <;> try (exfalso; omega)) | refine Cw.cond_bool rfl (fun hc => ?_) (fun hc => ?_)) | refine goR ?_ | refine goP ?_ | apply PSeq.cons | apply PSeq.yes rfl rfl rfl | exact goW | fail)
        exact ⟨_, _, _, (Ent.mk goSub goTk), ⟨k + 1, B2, m2, ad3, cap3, rfl, ⟨by omega, hV⟩, rfl, rfl⟩, by omega⟩
      rw [if_neg hv0] at hV
      have hLs : (L.set k (v - 1)).length = l.length := by rw [List.length_set]; exact hL
      have kP1 := kP o.key (L.set k (v - 1)) e B2 m2 ad3 cap3 hLs (fun y hy => by
        rcases List.mem_or_eq_of_mem_set hy with h | h
        · exact hLb y h
        · omega) he
      obtain ⟨B4, m4, hst4⟩ : ∃ B4 m4, putR l old C n pre o.key (e :: L.set k (v - 1)) d (B2, m2) = (B4, m4) := ⟨_, _, rfl⟩
      rw [hst4] at hV
      simp only [hst4] at kP1
      have hset := int_setR L k (v - 1)
      have hback : (intRows (L.set k (v - 1))).set k [Tr.int (v - 1 + 1)] = intRows L := by
        rw [int_setR, List.set_set, show v - 1 + 1 = v by omega]
        congr 1
        apply List.ext_getElem?
        intro j
        rw [List.getElem?_set]
        split
        · rename_i h
          subst h
          rw [if_pos (by omega), hv]
        · rfl
      have r3 : (intRows (L.set k (v - 1)))[k]? = some [Tr.int (v - 1)] := intRows_at (by rw [List.getElem?_set, if_pos rfl, if_pos (by omega)])
      have hLR2 := (intRows_len (L.set k (v - 1))).trans hLs
      clear kP hFk hv hoo hst4
      repeat' (first | refine goH ?_ | ((fail_if_success refine Ops.k_c_call ?_); refine goV ?_) | ((fail_if_success refine Ops.k_c_call ?_); refine goB (fun b => ?_)) | refine goI ?_ | (refine Cw.k_cond ?_; first | (refine Cw.cond_dec rfl (fun hc => ?_) (fun hc => ?_) <;> try (exfalso; omega)) | refine Cw.cond_bool rfl (fun hc => ?_) (fun hc => ?_)) | refine goR ?_ | refine goP ?_ | apply PSeq.cons | apply PSeq.yes rfl rfl rfl | exact goW | fail)
      erw [hset]
      refine Ops.call kP1 (Evs.cons rfl (Evs.cons rfl (Evs.cons rfl Evs.nil))) goPm rfl ?_
      rintro r cs' ⟨rfl, ad4, cap4, rfl⟩
      clear kP1 hset
      repeat' (first | refine goH ?_ | refine goV ?_ | refine goB (fun b => ?_) | refine goI ?_ | (refine Cw.k_cond ?_; first | (refine Cw.cond_dec rfl (fun hc => ?_) (fun hc => ?_) <;> try (exfalso; omega)) | refine Cw.cond_bool rfl (fun hc => ?_) (fun hc => ?_)) | refine goR ?_ | refine goP ?_ | apply PSeq.cons | apply PSeq.yes rfl rfl rfl | exact goW | fail)
      erw [hback]
      exact ⟨_, _, _, (Ent.mk goSub goTk), ⟨k + 1, B4, m4, ad4, cap4, rfl, ⟨by omega, hV⟩, rfl, rfl⟩, by omega⟩
    · rw [if_neg he0] at hF0
      have kP0 := kP eS L (e - 1) B m ad cap hL hLb (by omega)
      simp only [hF0] at kP0
      clear ih hF0 hB1
      repeat' (first | refine goH ?_ | refine goV ?_ | refine goB (fun b => ?_) | refine goI ?_ | (refine Cw.k_cond ?_; first | (refine Cw.cond_dec rfl (fun hc => ?_) (fun hc => ?_) <;> try (exfalso; omega)) | refine Cw.cond_bool rfl (fun hc => ?_) (fun hc => ?_)) | (refine Ops.k_calla ?_; first | (refine Ops.k_callf 77 ?_; (refine Ops.call kP0 (Evs.cons rfl (Evs.cons rfl (Evs.cons rfl Evs.nil))) goPm rfl ?_; rintro r cs' ⟨rfl, ad1, cap1, rfl⟩))) | refine goR ?_ | refine goP ?_ | apply PSeq.cons | apply PSeq.yes rfl rfl rfl | exact goW | fail)
      rw [show e - 1 + 1 = e by omega]
      refine Cw.loopI [(0, _), (1, _), (54, _), (55, _)] _ (fun z ee cc => ∃ (k : Nat) (B2 : List ByteArray) (m2 : Int) (ad3 : Option Addr) (cap3 : Nat), z = l.length - k ∧ (k ≤ l.length ∧ S = itF F (k + 1) (L.length - k) (B2, m2)) ∧ ee = [(56, .int k)] ∧ cc = plC bp R C l old ad3 cap3 ad2 cap2 pre L e B2 m2)
        ⟨_, _, _, (Ent.mkP goSub goPm), 0, B1, m1, ad1, cap1, rfl, ⟨by omega, hS⟩, rfl, rfl⟩ ?_
      clear hS
      rintro _ _ _ ⟨k, B2, m2, ad3, cap3, rfl, ⟨hk, hV⟩, rfl, rfl⟩
      by_cases hkl : k < l.length
      rotate_left
      · rw [show L.length - k = 0 by omega, itF] at hV
        subst hV
        clear kP hFk
        repeat' (first | refine goH ?_ | refine goV ?_ | refine goB (fun b => ?_) | refine goI ?_ | (refine Cw.k_cond ?_; first | (refine Cw.cond_dec rfl (fun hc => ?_) (fun hc => ?_) <;> try (exfalso; omega)) | refine Cw.cond_bool rfl (fun hc => ?_) (fun hc => ?_)) | refine goR ?_ | refine goP ?_ | apply PSeq.cons | apply PSeq.yes rfl rfl rfl | exact goW | fail)
        exact Fin.norm (Ent.take goTk) (Outs.zero rfl) ⟨rfl, ad3, cap3, rfl⟩
      obtain ⟨v, hv⟩ := at_lt (l := L) (k := k) (by omega)
      obtain ⟨o, hoo⟩ := at_lt (l := l) (k := k) hkl
      rw [show L.length - k = (L.length - (k + 1)) + 1 by omega, itF, hFk k v o _ hv hoo] at hV
      have hvb := hLb v (List.mem_of_getElem? hv)
      have r1 := intRows_at hv
      have r2 : (l.map Offer.row)[k]? = some [.str o.key, .str o.group, .ints o.pr, .strs o.has, .strs o.hates] := rows_at hoo
      by_cases hv0 : v = 0
      · rw [if_pos hv0] at hV
        clear kP hFk hv hoo
        repeat' (first | refine goH ?_ | refine goV ?_ | refine goB (fun b => ?_) | refine goI ?_ | (refine Cw.k_cond ?_; first | (refine Cw.cond_dec rfl (fun hc => ?_) (fun hc => ?_) <;> try (exfalso; omega)) | refine Cw.cond_bool rfl (fun hc => ?_) (fun hc => ?_)) | refine goR ?_ | refine goP ?_ | apply PSeq.cons | apply PSeq.yes rfl rfl rfl | exact goW | fail)
        exact ⟨_, _, _, (Ent.mk goSub goTk), ⟨k + 1, B2, m2, ad3, cap3, rfl, ⟨by omega, hV⟩, rfl, rfl⟩, by omega⟩
      rw [if_neg hv0] at hV
      have hLs : (L.set k (v - 1)).length = l.length := by rw [List.length_set]; exact hL
      have kP1 := kP o.key (L.set k (v - 1)) e B2 m2 ad3 cap3 hLs (fun y hy => by
        rcases List.mem_or_eq_of_mem_set hy with h | h
        · exact hLb y h
        · omega) he
      obtain ⟨B4, m4, hst4⟩ : ∃ B4 m4, putR l old C n pre o.key (e :: L.set k (v - 1)) d (B2, m2) = (B4, m4) := ⟨_, _, rfl⟩
      rw [hst4] at hV
      simp only [hst4] at kP1
      have hset := int_setR L k (v - 1)
      have hback : (intRows (L.set k (v - 1))).set k [Tr.int (v - 1 + 1)] = intRows L := by
        rw [int_setR, List.set_set, show v - 1 + 1 = v by omega]
        congr 1
        apply List.ext_getElem?
        intro j
        rw [List.getElem?_set]
        split
        · rename_i h
          subst h
          rw [if_pos (by omega), hv]
        · rfl
      have r3 : (intRows (L.set k (v - 1)))[k]? = some [Tr.int (v - 1)] := intRows_at (by rw [List.getElem?_set, if_pos rfl, if_pos (by omega)])
      have hLR2 := (intRows_len (L.set k (v - 1))).trans hLs
      clear kP hFk hv hoo hst4
      repeat' (first | refine goH ?_ | ((fail_if_success refine Ops.k_c_call ?_); refine goV ?_) | ((fail_if_success refine Ops.k_c_call ?_); refine goB (fun b => ?_)) | refine goI ?_ | (refine Cw.k_cond ?_; first | (refine Cw.cond_dec rfl (fun hc => ?_) (fun hc => ?_) <;> try (exfalso; omega)) | refine Cw.cond_bool rfl (fun hc => ?_) (fun hc => ?_)) | refine goR ?_ | refine goP ?_ | apply PSeq.cons | apply PSeq.yes rfl rfl rfl | exact goW | fail)
      erw [hset]
      refine Ops.call kP1 (Evs.cons rfl (Evs.cons rfl (Evs.cons rfl Evs.nil))) goPm rfl ?_
      rintro r cs' ⟨rfl, ad4, cap4, rfl⟩
      clear kP1 hset
      repeat' (first | refine goH ?_ | refine goV ?_ | refine goB (fun b => ?_) | refine goI ?_ | (refine Cw.k_cond ?_; first | (refine Cw.cond_dec rfl (fun hc => ?_) (fun hc => ?_) <;> try (exfalso; omega)) | refine Cw.cond_bool rfl (fun hc => ?_) (fun hc => ?_)) | refine goR ?_ | refine goP ?_ | apply PSeq.cons | apply PSeq.yes rfl rfl rfl | exact goW | fail)
      erw [hback]
      exact ⟨_, _, _, (Ent.mk goSub goTk), ⟨k + 1, B4, m4, ad4, cap4, rfl, ⟨by omega, hV⟩, rfl, rfl⟩, by omega⟩
end Lg
end
