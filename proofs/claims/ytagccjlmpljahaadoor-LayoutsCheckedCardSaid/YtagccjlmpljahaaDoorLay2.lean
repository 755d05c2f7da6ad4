/- A part of the proof of a law of this seat: it adds no condition. By an AI agent. -/
import Derived.Test.YtagccjlmpljahaaDoorLay1
import Derived.Test.YtagccjlmpljahaaDoorShP
set_option linter.all false
set_option maxRecDepth 100000
set_option maxHeartbeats 4000000
namespace Lg
open Go Go.Proofs

def hasS (xs : List ByteArray) (v : ByteArray) : Bool := xs.any fun y => decide (v = y)
theorem indexS_fn (xs : List ByteArray) (hx : xs.length ≤ 1000000) (v : ByteArray) : PFn Tryd.prog 120 [.strs xs, .str v] (· = .int (idxFrom (fun y => decide (v = y)) xs 0)) := by
  refine PFn.mk (Spec.body Tryd.func120 rfl rfl (Tryd.ntmps120) rfl fun w0 own0 M => ?_)
  have hL := strRows_len xs
  repeat' (first | refine goH ?_ | refine goV ?_ | refine goI ?_ | (refine Cw.k_cond ?_; first | (refine Cw.cond_dec rfl (fun hc => ?_) (fun hc => ?_) <;> try (exfalso; omega)) | refine Cw.cond_bool rfl (fun hc => ?_) (fun hc => ?_)) | fail)
  refine Cw.loopI [(0, _), (1, _), (7, _)] _ (fun n e c => ∃ k : Nat, n = xs.length - k ∧ (k ≤ xs.length ∧ idxFrom (fun y => decide (v = y)) xs 0 = idxFrom (fun y => decide (v = y)) (xs.drop k) k) ∧ e = [(8, .int k)] ∧ c = []) ⟨_, _, _, (Ent.mkP (by repeat' (first | exact Sub.nil | refine Sub.cons rfl ?_)) (by repeat' (first | exact List.Perm.refl _ | refine Perm.cons' (by first | exact pick0 | exact pickS pick0 | exact pickS (pickS pick0) | exact pickS (pickS (pickS pick0)) | exact pickS (pickS (pickS (pickS pick0)))) ?_))), 0, rfl, ⟨by omega, rfl⟩, rfl, rfl⟩ ?_
  rintro _ _ _ ⟨k, rfl, ⟨hk, hV⟩, rfl, rfl⟩
  by_cases hkl : k < xs.length
  · obtain ⟨x, hx⟩ := at_lt hkl
    have hrow := strRows_at hx
    rw [idxFrom_drop _ hx] at hV
    by_cases hp : v = x
    · rw [if_pos (by simp [hp])] at hV
      repeat' (first | refine goH ?_ | refine goV ?_ | refine goI ?_ | (refine Cw.k_cond ?_; first | (refine Cw.cond_dec rfl (fun hc => ?_) (fun hc => ?_) <;> try (exfalso; omega)) | refine Cw.cond_bool rfl (fun hc => ?_) (fun hc => ?_)) | fail)
      exact Fin.ret Ent.refl (Outs.one rfl rfl) ⟨rfl, by rw [hV]⟩
    · rw [if_neg (by simp [hp])] at hV
      repeat' (first | refine goH ?_ | refine goV ?_ | refine goI ?_ | (refine Cw.k_cond ?_; first | (refine Cw.cond_dec rfl (fun hc => ?_) (fun hc => ?_) <;> try (exfalso; omega)) | refine Cw.cond_bool rfl (fun hc => ?_) (fun hc => ?_)) | fail)
      exact ⟨_, _, _, (Ent.mk (by repeat' (first | exact Sub.nil | refine Sub.cons rfl ?_)) (by repeat' (first | exact Take.nil | refine Take.cons (by first | exact pick0 | exact pickS pick0 | exact pickS (pickS pick0) | exact pickS (pickS (pickS pick0)) | exact pickS (pickS (pickS (pickS pick0)))) ?_))), ⟨k + 1, rfl, ⟨by omega, hV⟩, rfl, rfl⟩, by omega⟩
  · rw [List.drop_eq_nil_of_le (by omega), idxFrom] at hV
    repeat' (first | refine goH ?_ | refine goV ?_ | refine goI ?_ | (refine Cw.k_cond ?_; first | (refine Cw.cond_dec rfl (fun hc => ?_) (fun hc => ?_) <;> try (exfalso; omega)) | refine Cw.cond_bool rfl (fun hc => ?_) (fun hc => ?_)) | fail)
    exact Fin.ret Ent.refl (Outs.one rfl rfl) ⟨rfl, by rw [hV]⟩
theorem containsS_fn (xs : List ByteArray) (hx : xs.length ≤ 1000000) (v : ByteArray) : PFn Tryd.prog 82 [.strs xs, .str v] (· = .bool (hasS xs v)) := by
  have k := indexS_fn xs hx v
  refine PFn.mk (Spec.body Tryd.func82 rfl rfl (Tryd.ntmps82) rfl fun w0 own0 M => ?_)
  repeat' (first | refine goH ?_ | refine goV ?_ | refine goI ?_ | (refine Cw.k_cond ?_; first | (refine Cw.cond_dec rfl (fun hc => ?_) (fun hc => ?_) <;> try (exfalso; omega)) | refine Cw.cond_bool rfl (fun hc => ?_) (fun hc => ?_)) | (refine Ops.k_calla ?_; first | (refine Ops.k_callf 120 ?_; refine Ops.callV k (Evs.cons rfl (Evs.cons rfl Evs.nil)) rfl ?_)) | fail)
  refine Fin.ret Ent.refl (Outs.one rfl rfl) ⟨rfl, congrArg Tr.bool ?_⟩
  have := idxFrom_ge (fun y => decide (v = y)) xs 0 (Int.le_refl _)
  unfold hasS
  by_cases h : 0 ≤ idxFrom (fun y => decide (v = y)) xs 0
  · rw [this.1 h]; simp [h]
  · have h2 : xs.any (fun y => decide (v = y)) = false := by rw [← Bool.not_eq_true]; exact fun e => h (this.2 e)
    rw [h2]; simp [h]

def hateO (a b : Offer) : Bool := a.hates.any fun k => hasS b.has k
def hatesB (l : List Offer) (a b : ByteArray) : Bool := match findO l a, findO l b with
  | some o, some p => hateO o p
  | _, _ => false
def hatedB (l : List Offer) (a b : ByteArray) : Bool := hatesB l a b || hatesB l b a

theorem hate2_fn (o : Offer) (ho : o.has.length ≤ 1000) (k : ByteArray) (b E : Nat) : Spec Tryd.prog 117 [.str k, .ptr b] [Chunk.box b E o.row] (fun r cs => r = .bool (hasS o.has k) ∧ cs = [Chunk.box b E o.row]) := by
  have h := containsS_fn o.has (by omega) k
  refine Spec.body Tryd.func117 rfl rfl (Tryd.ntmps117) rfl fun w0 own0 M => ?_
  unfold Offer.row
  repeat' (first | refine goH ?_ | refine goV ?_ | refine goI ?_ | (refine Cw.k_cond ?_; first | (refine Cw.cond_dec rfl (fun hc => ?_) (fun hc => ?_) <;> try (exfalso; omega)) | refine Cw.cond_bool rfl (fun hc => ?_) (fun hc => ?_)) | (refine Ops.k_calla ?_; first | (refine Ops.k_callf 82 ?_; refine Ops.callV h (Evs.cons rfl (Evs.cons rfl Evs.nil)) rfl ?_)) | fail)
  exact Fin.ret (Ent.take (by repeat' (first | exact Take.nil | refine Take.cons (by first | exact pick0 | exact pickS pick0 | exact pickS (pickS pick0) | exact pickS (pickS (pickS pick0)) | exact pickS (pickS (pickS (pickS pick0)))) ?_))) (Outs.one rfl rfl) ⟨rfl, rfl⟩
theorem clash2_fn (o : Offer) (ho : o.has.length ≤ 1000) (k : ByteArray) (b E : Nat) : Spec Tryd.prog 81 [.str k, .ptr b] [Chunk.box b E o.row] (fun r cs => r = .bool (hasS o.has k) ∧ cs = [Chunk.box b E o.row]) := by
  have h := containsS_fn o.has (by omega) k
  refine Spec.body Tryd.func81 rfl rfl (Tryd.ntmps81) rfl fun w0 own0 M => ?_
  unfold Offer.row
  repeat' (first | refine goH ?_ | refine goV ?_ | refine goI ?_ | (refine Cw.k_cond ?_; first | (refine Cw.cond_dec rfl (fun hc => ?_) (fun hc => ?_) <;> try (exfalso; omega)) | refine Cw.cond_bool rfl (fun hc => ?_) (fun hc => ?_)) | (refine Ops.k_calla ?_; first | (refine Ops.k_callf 82 ?_; refine Ops.callV h (Evs.cons rfl (Evs.cons rfl Evs.nil)) rfl ?_)) | fail)
  exact Fin.ret (Ent.take (by repeat' (first | exact Take.nil | refine Take.cons (by first | exact pick0 | exact pickS pick0 | exact pickS (pickS pick0) | exact pickS (pickS (pickS pick0)) | exact pickS (pickS (pickS (pickS pick0)))) ?_))) (Outs.one rfl rfl) ⟨rfl, rfl⟩
theorem hate1_fn (o p : Offer) (ho : o.hates.length ≤ 1000) (hp : p.has.length ≤ 1000) : PFn Tryd.prog 116 [.agg o.row, .agg p.row] (· = .bool (hateO o p)) := by
  have k := fun b E => containsFunc_str (cin := [Chunk.box b E p.row]) (caps := [.pointer (some ⟨b, 0, none⟩)]) (g := 117) (p := fun k => hasS p.has k) (l := o.hates) (by omega) (fun x _ => hate2_fn p hp x b E)
  refine PFn.mk (Spec.body Tryd.func116 rfl rfl (Tryd.ntmps116) rfl fun w0 own0 M => ?_)
  unfold Offer.row at *
  repeat' (first | refine goH ?_ | refine goV ?_ | refine goB (fun b => ?_) | refine goI ?_ | (refine Cw.k_cond ?_; first | (refine Cw.cond_dec rfl (fun hc => ?_) (fun hc => ?_) <;> try (exfalso; omega)) | refine Cw.cond_bool rfl (fun hc => ?_) (fun hc => ?_)) | (refine Ops.k_calla ?_; first | (refine Ops.k_callf 64 ?_; refine Ops.callS (k _ _) (Evs.cons rfl (Evs.cons rfl Evs.nil)) (by first | exact pick0 | exact pickS pick0 | exact pickS (pickS pick0) | exact pickS (pickS (pickS pick0)) | exact pickS (pickS (pickS (pickS pick0)))) rfl ?_)) | fail)
  exact Fin.ret (Ent.take (by repeat' (first | exact Take.nil | refine Take.cons (by first | exact pick0 | exact pickS pick0 | exact pickS (pickS pick0) | exact pickS (pickS (pickS pick0)) | exact pickS (pickS (pickS (pickS pick0)))) ?_))) (Outs.one rfl rfl) ⟨rfl, rfl⟩
theorem hated_fn (l : List Offer) (hl : OBd l) (a b : ByteArray) : PFn Tryd.prog 78 [.offers l, .str a, .str b] (· = .bool (hatedB l a b)) := by
  have k1 := offer_fn l (by have := hl.1; omega) a
  have k2 := offer_fn l (by have := hl.1; omega) b
  have hL : (l.map Offer.row).length = l.length := List.length_map _
  refine PFn.mk (Spec.body Tryd.func78 rfl rfl (Tryd.ntmps78) rfl fun w0 own0 M => ?_)
  cases f1 : findO l a with
  | none =>
    have e : hatedB l a b = false := by unfold hatedB hatesB; rw [f1]; cases findO l b <;> rfl
    rw [offIx_none f1] at k1
    repeat' (first | refine goH ?_ | refine goV ?_ | refine goG ?_ | (refine Ops.k_guard ?_; first | (refine Ops.guard_dec rfl rfl (fun hc => ?_) (fun hc => ?_) <;> try (exfalso; omega)) | refine Ops.guard_split rfl rfl (fun hc => ?_) (fun hc => ?_)) | refine goI ?_ | (refine Cw.k_cond ?_; first | (refine Cw.cond_dec rfl (fun hc => ?_) (fun hc => ?_) <;> try (exfalso; omega)) | refine Cw.cond_bool rfl (fun hc => ?_) (fun hc => ?_)) | (refine Ops.k_calla ?_; first | (refine Ops.k_callf 83 ?_; refine Ops.callV k1 (Evs.cons rfl (Evs.cons rfl Evs.nil)) rfl ?_) | (refine Ops.k_callf 83 ?_; refine Ops.callV k2 (Evs.cons rfl (Evs.cons rfl Evs.nil)) rfl ?_)) | (apply OpW.k_call; first | (apply OpW.k_callf 83; exact OpW.callV k1 (Evs.cons rfl (Evs.cons rfl Evs.nil))) | (apply OpW.k_callf 83; exact OpW.callV k2 (Evs.cons rfl (Evs.cons rfl Evs.nil)))) | refine goR ?_ | refine goP ?_ | apply PSeq.cons | apply PSeq.yes rfl rfl rfl | exact goW | fail)
    all_goals exact Fin.ret Ent.refl (Outs.one rfl rfl) ⟨rfl, by rw [e]⟩
  | some o =>
    obtain ⟨i, hi, hoi⟩ := offIx_some f1
    rw [hi] at k1
    have hoi' : (l.map Offer.row)[((i : Nat) : Int).toNat]? = some o.row := rows_at hoi
    obtain ⟨o1, o2, o3⟩ := hl.2 o (List.mem_of_getElem? hoi)
    have hil := (List.getElem?_eq_some_iff.1 hoi).1
    cases f2 : findO l b with
    | none =>
      have e : hatedB l a b = false := by unfold hatedB hatesB; rw [f1, f2]; rfl
      rw [offIx_none f2] at k2
      repeat' (first | refine goH ?_ | refine goV ?_ | refine goG ?_ | (refine Ops.k_guard ?_; first | (refine Ops.guard_dec rfl rfl (fun hc => ?_) (fun hc => ?_) <;> try (exfalso; omega)) | refine Ops.guard_split rfl rfl (fun hc => ?_) (fun hc => ?_)) | refine goI ?_ | (refine Cw.k_cond ?_; first | (refine Cw.cond_dec rfl (fun hc => ?_) (fun hc => ?_) <;> try (exfalso; omega)) | refine Cw.cond_bool rfl (fun hc => ?_) (fun hc => ?_)) | (refine Ops.k_calla ?_; first | (refine Ops.k_callf 83 ?_; refine Ops.callV k1 (Evs.cons rfl (Evs.cons rfl Evs.nil)) rfl ?_) | (refine Ops.k_callf 83 ?_; refine Ops.callV k2 (Evs.cons rfl (Evs.cons rfl Evs.nil)) rfl ?_)) | (apply OpW.k_call; first | (apply OpW.k_callf 83; exact OpW.callV k1 (Evs.cons rfl (Evs.cons rfl Evs.nil))) | (apply OpW.k_callf 83; exact OpW.callV k2 (Evs.cons rfl (Evs.cons rfl Evs.nil)))) | refine goR ?_ | refine goP ?_ | apply PSeq.cons | apply PSeq.yes rfl rfl rfl | exact goW | fail)
      all_goals exact Fin.ret Ent.refl (Outs.one rfl rfl) ⟨rfl, by rw [e]⟩
    | some p =>
      obtain ⟨j, hj, hpj⟩ := offIx_some f2
      rw [hj] at k2
      have hpj' : (l.map Offer.row)[((j : Nat) : Int).toNat]? = some p.row := rows_at hpj
      obtain ⟨p1, p2, p3⟩ := hl.2 p (List.mem_of_getElem? hpj)
      have hjl := (List.getElem?_eq_some_iff.1 hpj).1
      have e : hatedB l a b = (hateO o p || hateO p o) := by unfold hatedB hatesB; rw [f1, f2]
      have c1 := (hate1_fn o p o3 p2).lend
      have c2 := (hate1_fn p o p3 o2).lend
      rw [e]
      generalize hateO o p = v1 at *
      generalize hateO p o = v2 at *
      have c1 : Spec Tryd.prog 116 ([.agg o.row, .agg p.row] ++ ([] : List Value).map Tr.raw) [] (fun r cs => r = .bool v1 ∧ cs = []) := c1
      have c2 : Spec Tryd.prog 116 ([.agg p.row, .agg o.row] ++ ([] : List Value).map Tr.raw) [] (fun r cs => r = .bool v2 ∧ cs = []) := c2
      unfold Offer.row at *
      cases v1
      · repeat' (first | refine goH ?_ | refine goV ?_ | refine goG ?_ | (refine Ops.k_guard ?_; first | (refine Ops.guard_dec rfl rfl (fun hc => ?_) (fun hc => ?_) <;> try (exfalso; omega)) | refine Ops.guard_split rfl rfl (fun hc => ?_) (fun hc => ?_)) | refine goI ?_ | (refine Cw.k_cond ?_; first | (refine Cw.cond_dec rfl (fun hc => ?_) (fun hc => ?_) <;> try (exfalso; omega)) | refine Cw.cond_bool rfl (fun hc => ?_) (fun hc => ?_)) | (apply OpW.k_call; exact OpW.callS_fn rfl c1 (Evs.cons rfl (Evs.cons rfl Evs.nil)) (List.Perm.refl _)) | (apply OpW.k_call; exact OpW.callS_fn rfl c2 (Evs.cons rfl (Evs.cons rfl Evs.nil)) (List.Perm.refl _)) | (refine Ops.k_calla ?_; first | (refine Ops.k_callf 83 ?_; refine Ops.callV k1 (Evs.cons rfl (Evs.cons rfl Evs.nil)) rfl ?_) | (refine Ops.k_callf 83 ?_; refine Ops.callV k2 (Evs.cons rfl (Evs.cons rfl Evs.nil)) rfl ?_)) | (apply OpW.k_call; first | (apply OpW.k_callf 83; exact OpW.callV k1 (Evs.cons rfl (Evs.cons rfl Evs.nil))) | (apply OpW.k_callf 83; exact OpW.callV k2 (Evs.cons rfl (Evs.cons rfl Evs.nil)))) | refine goR ?_ | refine goP ?_ | apply PSeq.cons | apply PSeq.yes rfl rfl rfl | exact goW | fail)
        all_goals exact Fin.ret Ent.refl (Outs.one rfl rfl) ⟨rfl, rfl⟩
      · repeat' (first | refine goH ?_ | refine goV ?_ | refine goG ?_ | (refine Ops.k_guard ?_; first | (refine Ops.guard_dec rfl rfl (fun hc => ?_) (fun hc => ?_) <;> try (exfalso; omega)) | refine Ops.guard_split rfl rfl (fun hc => ?_) (fun hc => ?_)) | refine goI ?_ | (refine Cw.k_cond ?_; first | (refine Cw.cond_dec rfl (fun hc => ?_) (fun hc => ?_) <;> try (exfalso; omega)) | refine Cw.cond_bool rfl (fun hc => ?_) (fun hc => ?_)) | (apply OpW.k_call; exact OpW.callS_fn rfl c1 (Evs.cons rfl (Evs.cons rfl Evs.nil)) (List.Perm.refl _)) | (apply OpW.k_call; exact OpW.callS_fn rfl c2 (Evs.cons rfl (Evs.cons rfl Evs.nil)) (List.Perm.refl _)) | (refine Ops.k_calla ?_; first | (refine Ops.k_callf 83 ?_; refine Ops.callV k1 (Evs.cons rfl (Evs.cons rfl Evs.nil)) rfl ?_) | (refine Ops.k_callf 83 ?_; refine Ops.callV k2 (Evs.cons rfl (Evs.cons rfl Evs.nil)) rfl ?_)) | (apply OpW.k_call; first | (apply OpW.k_callf 83; exact OpW.callV k1 (Evs.cons rfl (Evs.cons rfl Evs.nil))) | (apply OpW.k_callf 83; exact OpW.callV k2 (Evs.cons rfl (Evs.cons rfl Evs.nil)))) | refine goR ?_ | refine goP ?_ | apply PSeq.cons | apply PSeq.yes rfl rfl rfl | exact goW | fail)
        all_goals exact Fin.ret Ent.refl (Outs.one rfl rfl) ⟨rfl, rfl⟩

def natI (l : List Nat) : List Int := l.map Int.ofNat
theorem touching_fn (r c a : Nat) (hr : 1 ≤ r ∧ r ≤ 10) (hc : 1 ≤ c ∧ c ≤ 10) (ha : a ≤ 1000) : PFn Tryd.prog 77 [.agg [.int r, .int c], .int a] (· = .ints (natI (touchN c (r * c) a))) := by
  have hm := rc_bd (r := r) (c := c) (by omega)
  have hlt := Nat.mod_lt a (show 0 < c by omega)
  refine PFn.mk (Spec.body Tryd.func77 rfl rfl (Tryd.ntmps77) rfl fun w0 own0 M => ?_)
  refine Cw.ent (Ent.nil 1 3) ?_
  unfold touchN
  by_cases h1 : a % c + 1 < c
  · rw [if_pos h1]
    by_cases h2 : a + c < r * c
    · rw [if_pos h2]
      repeat' (first | refine goH ?_ | refine goV ?_ | refine goB (fun b => ?_) | refine goC (fun ad cap => ?_) | refine goI ?_ | (refine Cw.k_cond ?_; first | (refine Cw.cond_dec rfl (fun hc => ?_) (fun hc => ?_) <;> try (exfalso; omega)) | refine Cw.cond_bool rfl (fun hc => ?_) (fun hc => ?_)) | refine goR ?_ | refine goP ?_ | apply PSeq.cons | apply PSeq.yes rfl rfl rfl | exact goW | fail)
      refine Fin.ret (Ent.trans (Ent.settle (s := 4) rfl (by first | exact pick0 | exact pickS pick0 | exact pickS (pickS pick0) | exact pickS (pickS (pickS pick0)) | exact pickS (pickS (pickS (pickS pick0)))) rfl) (Ent.take (by repeat' (first | exact Take.nil | refine Take.cons (by first | exact pick0 | exact pickS pick0 | exact pickS (pickS pick0) | exact pickS (pickS (pickS pick0)) | exact pickS (pickS (pickS (pickS pick0)))) ?_)))) (Outs.sole rfl (by first | exact OutE.tmp rfl | exact OutE.agg inferInstance rfl rfl | exact OutE.one inferInstance rfl)) ⟨rfl, rfl⟩
    · rw [if_neg h2]
      repeat' (first | refine goH ?_ | refine goV ?_ | refine goB (fun b => ?_) | refine goC (fun ad cap => ?_) | refine goI ?_ | (refine Cw.k_cond ?_; first | (refine Cw.cond_dec rfl (fun hc => ?_) (fun hc => ?_) <;> try (exfalso; omega)) | refine Cw.cond_bool rfl (fun hc => ?_) (fun hc => ?_)) | refine goR ?_ | refine goP ?_ | apply PSeq.cons | apply PSeq.yes rfl rfl rfl | exact goW | fail)
      refine Fin.ret (Ent.trans (Ent.settle (s := 4) rfl (by first | exact pick0 | exact pickS pick0 | exact pickS (pickS pick0) | exact pickS (pickS (pickS pick0)) | exact pickS (pickS (pickS (pickS pick0)))) rfl) (Ent.take (by repeat' (first | exact Take.nil | refine Take.cons (by first | exact pick0 | exact pickS pick0 | exact pickS (pickS pick0) | exact pickS (pickS (pickS pick0)) | exact pickS (pickS (pickS (pickS pick0)))) ?_)))) (Outs.sole rfl (by first | exact OutE.tmp rfl | exact OutE.agg inferInstance rfl rfl | exact OutE.one inferInstance rfl)) ⟨rfl, rfl⟩
  · rw [if_neg h1]
    by_cases h2 : a + c < r * c
    · rw [if_pos h2]
      repeat' (first | refine goH ?_ | refine goV ?_ | refine goB (fun b => ?_) | refine goC (fun ad cap => ?_) | refine goI ?_ | (refine Cw.k_cond ?_; first | (refine Cw.cond_dec rfl (fun hc => ?_) (fun hc => ?_) <;> try (exfalso; omega)) | refine Cw.cond_bool rfl (fun hc => ?_) (fun hc => ?_)) | refine goR ?_ | refine goP ?_ | apply PSeq.cons | apply PSeq.yes rfl rfl rfl | exact goW | fail)
      refine Fin.ret (Ent.trans (Ent.settle (s := 4) rfl (by first | exact pick0 | exact pickS pick0 | exact pickS (pickS pick0) | exact pickS (pickS (pickS pick0)) | exact pickS (pickS (pickS (pickS pick0)))) rfl) (Ent.take (by repeat' (first | exact Take.nil | refine Take.cons (by first | exact pick0 | exact pickS pick0 | exact pickS (pickS pick0) | exact pickS (pickS (pickS pick0)) | exact pickS (pickS (pickS (pickS pick0)))) ?_)))) (Outs.sole rfl (by first | exact OutE.tmp rfl | exact OutE.agg inferInstance rfl rfl | exact OutE.one inferInstance rfl)) ⟨rfl, rfl⟩
    · rw [if_neg h2]
      repeat' (first | refine goH ?_ | refine goV ?_ | refine goB (fun b => ?_) | refine goC (fun ad cap => ?_) | refine goI ?_ | (refine Cw.k_cond ?_; first | (refine Cw.cond_dec rfl (fun hc => ?_) (fun hc => ?_) <;> try (exfalso; omega)) | refine Cw.cond_bool rfl (fun hc => ?_) (fun hc => ?_)) | refine goR ?_ | refine goP ?_ | apply PSeq.cons | apply PSeq.yes rfl rfl rfl | exact goW | fail)
      refine Fin.ret (Ent.trans (Ent.nilsl 1 (s := 4) rfl) (Ent.take (by repeat' (first | exact Take.nil | refine Take.cons (by first | exact pick0 | exact pickS pick0 | exact pickS (pickS pick0) | exact pickS (pickS (pickS pick0)) | exact pickS (pickS (pickS (pickS pick0)))) ?_)))) (Outs.sole rfl (by first | exact OutE.tmp rfl | exact OutE.agg inferInstance rfl rfl | exact OutE.one inferInstance rfl)) ⟨rfl, rfl⟩
end Lg
