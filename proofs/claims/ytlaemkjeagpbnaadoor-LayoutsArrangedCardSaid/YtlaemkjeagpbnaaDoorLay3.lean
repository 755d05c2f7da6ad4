/- A part of the proof of a law of this seat: it adds no condition. By an AI agent. -/
import Derived.Test.YtlaemkjeagpbnaaDoorShP
section
set_option linter.all false
set_option maxRecDepth 100000
set_option maxHeartbeats 4000000
namespace Lg
open Go Go.Proofs

def hasS (xs : List ByteArray) (v : ByteArray) : Bool := xs.any fun y => decide (v = y)
theorem indexS_fn (xs : List ByteArray) (hx : xs.length ≤ 1000000) (v : ByteArray) : PFn Tryd.prog 89 [.strs xs, .str v] (· = .int (idxFrom (fun y => decide (v = y)) xs 0)) := by
  refine PFn.mk (Spec.body Tryd.func89 rfl rfl (Tryd.ntmps89) rfl fun w0 own0 M => ?_)
  have hL := strRows_len xs
  repeat' (first | refine goH ?_ | refine goV ?_ | refine goI ?_ | (refine Cw.k_cond ?_; first | (refine Cw.cond_dec rfl (fun hc => ?_) (fun hc => ?_) <;> try (exfalso; omega)) | refine Cw.cond_bool rfl (fun hc => ?_) (fun hc => ?_)) | fail)
  refine Cw.loopI [(0, _), (1, _), (7, _)] _ (fun n e c => ∃ k : Nat, n = xs.length - k ∧ (k ≤ xs.length ∧ idxFrom (fun y => decide (v = y)) xs 0 = idxFrom (fun y => decide (v = y)) (xs.drop k) k) ∧ e = [(8, .int k)] ∧ c = []) ⟨_, _, _, (Ent.mkP goSub goPm), 0, rfl, ⟨by omega, rfl⟩, rfl, rfl⟩ ?_
  rintro _ _ _ ⟨k, rfl, ⟨hk, hV⟩, rfl, rfl⟩
  by_cases hkl : k < xs.length
  · obtain ⟨x, hx⟩ := at_lt hkl
    have hrow := strRows_at hx
    rw [idxFrom_drop _ hx] at hV
    by_cases hp : v = x
    · rw [if_pos (by simp [hp])] at hV
      repeat' (first | refine goH ?_ | refine goV ?_ | refine goI ?_ | (refine Cw.k_cond ?_; first | (refine Cw.cond_dec rfl (fun hc => ?_) (fun hc => ?_) <;> try (exfalso; omega)) | refine Cw.cond_bool rfl (fun hc => ?_) (fun hc => ?_)) | fail)
      exact Fin.ret Ent.refl (Outs.one rfl rfl) ⟨rfl, by rw [hV]⟩
    · rw [if_neg (by simp [hp])] at hV
      repeat' (first | refine goH ?_ | refine goV ?_ | refine goI ?_ | (refine Cw.k_cond ?_; first | (refine Cw.cond_dec rfl (fun hc => ?_) (fun hc => ?_) <;> try (exfalso; omega)) | refine Cw.cond_bool rfl (fun hc => ?_) (fun hc => ?_)) | fail)
      exact ⟨_, _, _, (Ent.mk goSub goTk), ⟨k + 1, rfl, ⟨by omega, hV⟩, rfl, rfl⟩, by omega⟩
  · rw [List.drop_eq_nil_of_le (by omega), idxFrom] at hV
    repeat' (first | refine goH ?_ | refine goV ?_ | refine goI ?_ | (refine Cw.k_cond ?_; first | (refine Cw.cond_dec rfl (fun hc => ?_) (fun hc => ?_) <;> try (exfalso; omega)) | refine Cw.cond_bool rfl (fun hc => ?_) (fun hc => ?_)) | fail)
    exact Fin.ret Ent.refl (Outs.one rfl rfl) ⟨rfl, by rw [hV]⟩
theorem containsS_fn (xs : List ByteArray) (hx : xs.length ≤ 1000000) (v : ByteArray) : PFn Tryd.prog 83 [.strs xs, .str v] (· = .bool (hasS xs v)) := by
  have k := indexS_fn xs hx v
  refine PFn.mk (Spec.body Tryd.func83 rfl rfl (Tryd.ntmps83) rfl fun w0 own0 M => ?_)
  repeat' (first | refine goH ?_ | refine goV ?_ | refine goI ?_ | (refine Cw.k_cond ?_; first | (refine Cw.cond_dec rfl (fun hc => ?_) (fun hc => ?_) <;> try (exfalso; omega)) | refine Cw.cond_bool rfl (fun hc => ?_) (fun hc => ?_)) | (refine Ops.k_calla ?_; first | (refine Ops.k_callf 89 ?_; refine Ops.callV k (Evs.cons rfl (Evs.cons rfl Evs.nil)) rfl ?_)) | fail)
  refine Fin.ret Ent.refl (Outs.one rfl rfl) ⟨rfl, congrArg Tr.bool ?_⟩
  have := idxFrom_ge (fun y => decide (v = y)) xs 0 (Int.le_refl _)
  unfold hasS
  by_cases h : 0 ≤ idxFrom (fun y => decide (v = y)) xs 0
  · rw [this.1 h]; simp [h]
  · have h2 : xs.any (fun y => decide (v = y)) = false := by rw [← Bool.not_eq_true]; exact fun e => h (this.2 e)
    rw [h2]; simp [h]

def hateO (a b : Offer) : Bool := a.hates.any fun k => hasS b.has k
def hatesB (l : List Offer) (a b : ByteArray) : Bool := match findO l a, findO l b with
  | some o, some p => hateO o p
  | _, _ => false
def hatedB (l : List Offer) (a b : ByteArray) : Bool := hatesB l a b || hatesB l b a

theorem hate2_fn (o : Offer) (ho : o.has.length ≤ 1000) (k : ByteArray) (b E : Nat) : Spec Tryd.prog 91 [.str k, .ptr b] [Chunk.box b E o.row] (fun r cs => r = .bool (hasS o.has k) ∧ cs = [Chunk.box b E o.row]) := by
  have h := containsS_fn o.has (by omega) k
  refine Spec.body Tryd.func91 rfl rfl (Tryd.ntmps91) rfl fun w0 own0 M => ?_
  unfold Offer.row
  repeat' (first | refine goH ?_ | refine goV ?_ | refine goI ?_ | (refine Cw.k_cond ?_; first | (refine Cw.cond_dec rfl (fun hc => ?_) (fun hc => ?_) <;> try (exfalso; omega)) | refine Cw.cond_bool rfl (fun hc => ?_) (fun hc => ?_)) | (refine Ops.k_calla ?_; first | (refine Ops.k_callf 83 ?_; refine Ops.callV h (Evs.cons rfl (Evs.cons rfl Evs.nil)) rfl ?_)) | fail)
  exact Fin.ret (Ent.take goTk) (Outs.one rfl rfl) ⟨rfl, rfl⟩
theorem clash2_fn (o : Offer) (ho : o.has.length ≤ 1000) (k : ByteArray) (b E : Nat) : Spec Tryd.prog 82 [.str k, .ptr b] [Chunk.box b E o.row] (fun r cs => r = .bool (hasS o.has k) ∧ cs = [Chunk.box b E o.row]) := by
  have h := containsS_fn o.has (by omega) k
  refine Spec.body Tryd.func82 rfl rfl (Tryd.ntmps82) rfl fun w0 own0 M => ?_
  unfold Offer.row
  repeat' (first | refine goH ?_ | refine goV ?_ | refine goI ?_ | (refine Cw.k_cond ?_; first | (refine Cw.cond_dec rfl (fun hc => ?_) (fun hc => ?_) <;> try (exfalso; omega)) | refine Cw.cond_bool rfl (fun hc => ?_) (fun hc => ?_)) | (refine Ops.k_calla ?_; first | (refine Ops.k_callf 83 ?_; refine Ops.callV h (Evs.cons rfl (Evs.cons rfl Evs.nil)) rfl ?_)) | fail)
  exact Fin.ret (Ent.take goTk) (Outs.one rfl rfl) ⟨rfl, rfl⟩
theorem hate1_fn (o p : Offer) (ho : o.hates.length ≤ 1000) (hp : p.has.length ≤ 1000) : PFn Tryd.prog 90 [.agg o.row, .agg p.row] (· = .bool (hateO o p)) := by
  have k := fun b E => containsFunc_str (cin := [Chunk.box b E p.row]) (caps := [.pointer (some ⟨b, 0, none⟩)]) (g := 91) (p := fun k => hasS p.has k) (l := o.hates) (by omega) (fun x _ => hate2_fn p hp x b E)
  refine PFn.mk (Spec.body Tryd.func90 rfl rfl (Tryd.ntmps90) rfl fun w0 own0 M => ?_)
  unfold Offer.row at *
  repeat' (first | refine goH ?_ | refine goV ?_ | refine goB (fun b => ?_) | refine goI ?_ | (refine Cw.k_cond ?_; first | (refine Cw.cond_dec rfl (fun hc => ?_) (fun hc => ?_) <;> try (exfalso; omega)) | refine Cw.cond_bool rfl (fun hc => ?_) (fun hc => ?_)) | (refine Ops.k_calla ?_; first | (refine Ops.k_callf 35 ?_; refine Ops.callS (k _ _) (Evs.cons rfl (Evs.cons rfl Evs.nil)) goPk rfl ?_)) | fail)
  exact Fin.ret (Ent.take goTk) (Outs.one rfl rfl) ⟨rfl, rfl⟩
theorem hated_fn (l : List Offer) (hl : OBd l) (a b : ByteArray) : PFn Tryd.prog 87 [.offers l, .str a, .str b] (· = .bool (hatedB l a b)) := by
  have k1 := offer_fn l (by have := hl.1; omega) a
  have k2 := offer_fn l (by have := hl.1; omega) b
  have hL : (l.map Offer.row).length = l.length := List.length_map _
  refine PFn.mk (Spec.body Tryd.func87 rfl rfl (Tryd.ntmps87) rfl fun w0 own0 M => ?_)
  cases f1 : findO l a with
  | none =>
    have e : hatedB l a b = false := by unfold hatedB hatesB; rw [f1]; cases findO l b <;> rfl
    rw [offIx_none f1] at k1
    repeat' (first | refine goH ?_ | refine goV ?_ | refine goG ?_ | (refine Ops.k_guard ?_; first | (refine Ops.guard_dec rfl rfl (fun hc => ?_) (fun hc => ?_) <;> try (exfalso; omega)) | refine Ops.guard_split rfl rfl (fun hc => ?_) (fun hc => ?_)) | refine goI ?_ | (refine Cw.k_cond ?_; first | (refine Cw.cond_dec rfl (fun hc => ?_) (fun hc => ?_) <;> try (exfalso; omega)) | refine Cw.cond_bool rfl (fun hc => ?_) (fun hc => ?_)) | (refine Ops.k_calla ?_; first | (refine Ops.k_callf 49 ?_; refine Ops.callV k1 (Evs.cons rfl (Evs.cons rfl Evs.nil)) rfl ?_) | (refine Ops.k_callf 49 ?_; refine Ops.callV k2 (Evs.cons rfl (Evs.cons rfl Evs.nil)) rfl ?_)) | (apply OpW.k_call; first | (apply OpW.k_callf 49; exact OpW.callV k1 (Evs.cons rfl (Evs.cons rfl Evs.nil))) | (apply OpW.k_callf 49; exact OpW.callV k2 (Evs.cons rfl (Evs.cons rfl Evs.nil)))) | refine goR ?_ | refine goP ?_ | apply PSeq.cons | apply PSeq.yes rfl rfl rfl | exact goW | fail)
    all_goals exact Fin.ret Ent.refl (Outs.one rfl rfl) ⟨rfl, by rw [e]⟩
  | some o =>
    obtain ⟨i, hi, hoi⟩ := offIx_some f1
    rw [hi] at k1
    have hoi' : (l.map Offer.row)[((i : Nat) : Int).toNat]? = some o.row := rows_at hoi
    obtain ⟨o1, o2, o3⟩ := hl.2 o (List.mem_of_getElem? hoi)
    have hil := (List.getElem?_eq_some_iff.1 hoi).1
    cases f2 : findO l b with
    | none =>
      have e : hatedB l a b = false := by unfold hatedB hatesB; rw [f1, f2]; rfl
      rw [offIx_none f2] at k2
      repeat' (first | refine goH ?_ | refine goV ?_ | refine goG ?_ | (refine Ops.k_guard ?_; first | (refine Ops.guard_dec rfl rfl (fun hc => ?_) (fun hc => ?_) <;> try (exfalso; omega)) | refine Ops.guard_split rfl rfl (fun hc => ?_) (fun hc => ?_)) | refine goI ?_ | (refine Cw.k_cond ?_; first | (refine Cw.cond_dec rfl (fun hc => ?_) (fun hc => ?_) <;> try (exfalso; omega)) | refine Cw.cond_bool rfl (fun hc => ?_) (fun hc => ?_)) | (refine Ops.k_calla ?_; first | (refine Ops.k_callf 49 ?_; refine Ops.callV k1 (Evs.cons rfl (Evs.cons rfl Evs.nil)) rfl ?_) | (refine Ops.k_callf 49 ?_; refine Ops.callV k2 (Evs.cons rfl (Evs.cons rfl Evs.nil)) rfl ?_)) | (apply OpW.k_call; first | (apply OpW.k_callf 49; exact OpW.callV k1 (Evs.cons rfl (Evs.cons rfl Evs.nil))) | (apply OpW.k_callf 49; exact OpW.callV k2 (Evs.cons rfl (Evs.cons rfl Evs.nil)))) | refine goR ?_ | refine goP ?_ | apply PSeq.cons | apply PSeq.yes rfl rfl rfl | exact goW | fail)
      all_goals exact Fin.ret Ent.refl (Outs.one rfl rfl) ⟨rfl, by rw [e]⟩
    | some p =>
      obtain ⟨j, hj, hpj⟩ := offIx_some f2
      rw [hj] at k2
      have hpj' : (l.map Offer.row)[((j : Nat) : Int).toNat]? = some p.row := rows_at hpj
      obtain ⟨p1, p2, p3⟩ := hl.2 p (List.mem_of_getElem? hpj)
      have hjl := (List.getElem?_eq_some_iff.1 hpj).1
      have e : hatedB l a b = (hateO o p || hateO p o) := by unfold hatedB hatesB; rw [f1, f2]
      have c1 := (hate1_fn o p o3 p2).lend
      have c2 := (hate1_fn p o p3 o2).lend
      rw [e]
      generalize hateO o p = v1 at *
      generalize hateO p o = v2 at *
      have c1 : Spec Tryd.prog 90 ([.agg o.row, .agg p.row] ++ ([] : List Value).map Tr.raw) [] (fun r cs => r = .bool v1 ∧ cs = []) := c1
      have c2 : Spec Tryd.prog 90 ([.agg p.row, .agg o.row] ++ ([] : List Value).map Tr.raw) [] (fun r cs => r = .bool v2 ∧ cs = []) := c2
      unfold Offer.row at *
      cases v1
      · repeat' (first | refine goH ?_ | refine goV ?_ | refine goG ?_ | (refine Ops.k_guard ?_; first | (refine Ops.guard_dec rfl rfl (fun hc => ?_) (fun hc => ?_) <;> try (exfalso; omega)) | refine Ops.guard_split rfl rfl (fun hc => ?_) (fun hc => ?_)) | refine goI ?_ | (refine Cw.k_cond ?_; first | (refine Cw.cond_dec rfl (fun hc => ?_) (fun hc => ?_) <;> try (exfalso; omega)) | refine Cw.cond_bool rfl (fun hc => ?_) (fun hc => ?_)) | (apply OpW.k_call; exact OpW.callS_fn rfl c1 (Evs.cons rfl (Evs.cons rfl Evs.nil)) (List.Perm.refl _)) | (apply OpW.k_call; exact OpW.callS_fn rfl c2 (Evs.cons rfl (Evs.cons rfl Evs.nil)) (List.Perm.refl _)) | (refine Ops.k_calla ?_; first | (refine Ops.k_callf 49 ?_; refine Ops.callV k1 (Evs.cons rfl (Evs.cons rfl Evs.nil)) rfl ?_) | (refine Ops.k_callf 49 ?_; refine Ops.callV k2 (Evs.cons rfl (Evs.cons rfl Evs.nil)) rfl ?_)) | (apply OpW.k_call; first | (apply OpW.k_callf 49; exact OpW.callV k1 (Evs.cons rfl (Evs.cons rfl Evs.nil))) | (apply OpW.k_callf 49; exact OpW.callV k2 (Evs.cons rfl (Evs.cons rfl Evs.nil)))) | refine goR ?_ | refine goP ?_ | apply PSeq.cons | apply PSeq.yes rfl rfl rfl | exact goW | fail)
        all_goals exact Fin.ret Ent.refl (Outs.one rfl rfl) ⟨rfl, rfl⟩
      · repeat' (first | refine goH ?_ | refine goV ?_ | refine goG ?_ | (refine Ops.k_guard ?_; first | (refine Ops.guard_dec rfl rfl (fun hc => ?_) (fun hc => ?_) <;> try (exfalso; omega)) | refine Ops.guard_split rfl rfl (fun hc => ?_) (fun hc => ?_)) | refine goI ?_ | (refine Cw.k_cond ?_; first | (refine Cw.cond_dec rfl (fun hc => ?_) (fun hc => ?_) <;> try (exfalso; omega)) | refine Cw.cond_bool rfl (fun hc => ?_) (fun hc => ?_)) | (apply OpW.k_call; exact OpW.callS_fn rfl c1 (Evs.cons rfl (Evs.cons rfl Evs.nil)) (List.Perm.refl _)) | (apply OpW.k_call; exact OpW.callS_fn rfl c2 (Evs.cons rfl (Evs.cons rfl Evs.nil)) (List.Perm.refl _)) | (refine Ops.k_calla ?_; first | (refine Ops.k_callf 49 ?_; refine Ops.callV k1 (Evs.cons rfl (Evs.cons rfl Evs.nil)) rfl ?_) | (refine Ops.k_callf 49 ?_; refine Ops.callV k2 (Evs.cons rfl (Evs.cons rfl Evs.nil)) rfl ?_)) | (apply OpW.k_call; first | (apply OpW.k_callf 49; exact OpW.callV k1 (Evs.cons rfl (Evs.cons rfl Evs.nil))) | (apply OpW.k_callf 49; exact OpW.callV k2 (Evs.cons rfl (Evs.cons rfl Evs.nil)))) | refine goR ?_ | refine goP ?_ | apply PSeq.cons | apply PSeq.yes rfl rfl rfl | exact goW | fail)
        all_goals exact Fin.ret Ent.refl (Outs.one rfl rfl) ⟨rfl, rfl⟩

def natI (l : List Nat) : List Int := l.map Int.ofNat
end Lg
end
section
set_option linter.all false
set_option maxRecDepth 100000
set_option maxHeartbeats 4000000
namespace Lg
open Go Go.Proofs

structure Touch where
  a : Int
  b : Int
def Touch.row (x : Touch) : List Tr := [.int x.a, .int x.b]
abbrev Tr.touches (l : List Touch) : Tr := Tr.sl 2 (l.map Touch.row)
def clA (h : Nat → Nat → Bool) (T : List Nat) (a : Nat) : List Touch := (T.filter (h a)).map fun b : Nat => Touch.mk (a : Int) (b : Int)
def clAll (h : Nat → Nat → Bool) (c n k : Nat) : List Touch := (List.range k).flatMap fun a => clA h (touchN c n a) a
theorem clAll_succ (h : Nat → Nat → Bool) (c n k : Nat) : clAll h c n (k + 1) = clAll h c n k ++ clA h (touchN c n k) k := by
  unfold clAll
  rw [List.range_succ, List.flatMap_append]
  simp
theorem touchN_len (c n a : Nat) : (touchN c n a).length ≤ 2 := by
  unfold touchN
  split <;> split <;> simp
theorem clA_len (h : Nat → Nat → Bool) (T : List Nat) (a : Nat) : (clA h T a).length ≤ T.length := by
  unfold clA
  rw [List.length_map]
  exact List.length_filter_le _ _
theorem clAll_len (h : Nat → Nat → Bool) (c n : Nat) : ∀ k, (clAll h c n k).length ≤ 2 * k
  | 0 => by simp [clAll]
  | k + 1 => by
    have := clAll_len h c n k
    have := touchN_len c n k
    have := clA_len h (touchN c n k) k
    rw [clAll_succ, List.length_append]
    omega
theorem clA_app (h : Nat → Nat → Bool) (a b : List Nat) (k : Nat) : clA h (a ++ b) k = clA h a k ++ clA h b k := by simp [clA]
theorem touchN_lt {c n a b : Nat} (hc : 0 < c) (r : Nat) (hn : n = r * c) (ha : a < n) (h : b ∈ touchN c n a) : b < n := by
  subst hn
  rw [← beside_touch hc ha] at h
  have := (List.mem_filter.1 h).1
  rw [List.mem_range'] at this
  omega
def hX (l : List Offer) (xs : List ByteArray) (a b : Nat) : Bool := hatedB l (xs.getD a ⟨#[]⟩) (xs.getD b ⟨#[]⟩)
def clashX (r c : Int) (l : List Offer) (xs : List ByteArray) : List Touch := clAll (hX l xs) c.toNat xs.length xs.length
theorem natI_at {l : List Nat} {i b : Nat} (h : l[i]? = some b) : (intRows (natI l))[i]? = some [Tr.int (b : Int)] := by
  have : (natI l)[i]? = some (b : Int) := by unfold natI; rw [List.getElem?_map, h]; rfl
  exact intRows_at this
theorem natI_len (l : List Nat) : (natI l).length = l.length := List.length_map _

end Lg
end
