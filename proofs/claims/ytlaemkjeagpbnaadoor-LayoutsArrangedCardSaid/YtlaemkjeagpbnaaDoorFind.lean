/- A part of the proof of a law of this seat: it adds no condition. By an AI agent. -/
import Derived.Test.YtlaemkjeagpbnaaDoorLgFl
import Derived.Test.YtlaemkjeagpbnaaDoorLgMk
import Derived.Test.YtlaemkjeagpbnaaDoorOff
set_option linter.all false
set_option maxRecDepth 100000
set_option maxHeartbeats 4000000
namespace Lg
open Go Go.Proofs

theorem indexFunc_offer {l : List Offer} {p : Offer → Bool} {g : Nat} {caps : List Value} {cin : List Chunk} (hl : l.length ≤ 1000000000)
    (hs : ∀ x, x ∈ l → Spec Tryd.prog g ([Tr.agg x.row] ++ caps.map Tr.raw) cin (fun r cs => r = Tr.bool (p x) ∧ cs = cin)) :
    Spec Tryd.prog 74 [Tr.sl 5 (l.map Offer.row), Tr.raw (.func (.func g) #[] caps.toArray)] cin (fun r cs => r = Tr.int (idxFrom p l 0) ∧ cs = cin) := by
  refine Spec.body Tryd.func74 rfl rfl (Tryd.ntmps74) rfl fun w0 own0 M => ?_
  have hL : (l.map Offer.row).length = l.length := List.length_map _
  repeat' (first | refine goH ?_ | refine goV ?_ | refine goI ?_ | (refine Cw.k_cond ?_; first | (refine Cw.cond_dec rfl (fun hc => ?_) (fun hc => ?_) <;> try (exfalso; omega)) | refine Cw.cond_bool rfl (fun hc => ?_) (fun hc => ?_)) | fail)
  refine Cw.loop (ι := Nat) (fun k => k ≤ l.length ∧ idxFrom p l 0 = idxFrom p (l.drop k) k) (fun k => [(0, Tr.sl 5 (l.map Offer.row)), (1, Tr.raw (.func (.func g) #[] caps.toArray)), (7, .int (l.map Offer.row).length), (8, .int k)]) (fun _ => cin) (fun k => l.length - k) ⟨0, ⟨by omega, rfl⟩, Ent.sub goSub⟩ ?_
  rintro k ⟨hk, hgo⟩
  by_cases hkl : k < l.length
  · obtain ⟨x, hx⟩ : ∃ x, l[k]? = some x := ⟨_, List.getElem?_eq_getElem hkl⟩
    have hrow : (l.map Offer.row)[k]? = some [.str x.key, .str x.group, .ints x.pr, .strs x.has, .strs x.hates] := rows_at hx
    have hdrop := idxFrom_drop p hx
    rw [hdrop] at hgo
    have hsx := hs x (List.mem_of_getElem? hx)
    by_cases hp : p x = true
    · rw [if_pos hp] at hgo
      rw [hp] at hsx
      repeat' (first | refine goH ?_ | refine goV ?_ | refine goI ?_ | (refine Cw.k_cond ?_; first | (refine Cw.cond_dec rfl (fun hc => ?_) (fun hc => ?_) <;> try (exfalso; omega)) | refine Cw.cond_bool rfl (fun hc => ?_) (fun hc => ?_)) | (refine Ops.k_calla ?_; first | (refine Ops.call_fn rfl hsx (Evs.cons rfl Evs.nil) (by rw [List.append_nil]) rfl ?_; rintro r cs' ⟨rfl, hcs⟩; rw [hcs, List.append_nil])) | fail)
      exact Fin.ret Ent.refl (Outs.one rfl rfl) ⟨by rw [hgo], rfl⟩
    · rw [if_neg hp] at hgo
      rw [Bool.not_eq_true] at hp
      rw [hp] at hsx
      repeat' (first | refine goH ?_ | refine goV ?_ | refine goI ?_ | (refine Cw.k_cond ?_; first | (refine Cw.cond_dec rfl (fun hc => ?_) (fun hc => ?_) <;> try (exfalso; omega)) | refine Cw.cond_bool rfl (fun hc => ?_) (fun hc => ?_)) | (refine Ops.k_calla ?_; first | (refine Ops.call_fn rfl hsx (Evs.cons rfl Evs.nil) (by rw [List.append_nil]) rfl ?_; rintro r cs' ⟨rfl, hcs⟩; rw [hcs, List.append_nil])) | fail)
      exact ⟨k + 1, ⟨by omega, hgo⟩, by omega, Ent.sub goSub⟩
  · rw [List.drop_eq_nil_of_le (by omega), idxFrom] at hgo
    repeat' (first | refine goH ?_ | refine goV ?_ | refine goI ?_ | (refine Cw.k_cond ?_; first | (refine Cw.cond_dec rfl (fun hc => ?_) (fun hc => ?_) <;> try (exfalso; omega)) | refine Cw.cond_bool rfl (fun hc => ?_) (fun hc => ?_)) | fail)
    exact Fin.ret Ent.refl (Outs.one rfl rfl) ⟨by rw [hgo], rfl⟩


theorem indexFunc_str {l : List ByteArray} {p : ByteArray → Bool} {g : Nat} {caps : List Value} {cin : List Chunk} (hl : l.length ≤ 1000000000)
    (hs : ∀ x, x ∈ l → Spec Tryd.prog g ([Tr.str x] ++ caps.map Tr.raw) cin (fun r cs => r = Tr.bool (p x) ∧ cs = cin)) :
    Spec Tryd.prog 65 [Tr.sl 1 (l.map (fun x => [Tr.str x])), Tr.raw (.func (.func g) #[] caps.toArray)] cin (fun r cs => r = Tr.int (idxFrom p l 0) ∧ cs = cin) := by
  refine Spec.body Tryd.func65 rfl rfl (Tryd.ntmps65) rfl fun w0 own0 M => ?_
  have hL : (l.map (fun x => [Tr.str x])).length = l.length := List.length_map _
  repeat' (first | refine goH ?_ | refine goV ?_ | refine goI ?_ | (refine Cw.k_cond ?_; first | (refine Cw.cond_dec rfl (fun hc => ?_) (fun hc => ?_) <;> try (exfalso; omega)) | refine Cw.cond_bool rfl (fun hc => ?_) (fun hc => ?_)) | fail)
  refine Cw.loop (ι := Nat) (fun k => k ≤ l.length ∧ idxFrom p l 0 = idxFrom p (l.drop k) k) (fun k => [(0, Tr.sl 1 (l.map (fun x => [Tr.str x]))), (1, Tr.raw (.func (.func g) #[] caps.toArray)), (7, .int (l.map (fun x => [Tr.str x])).length), (8, .int k)]) (fun _ => cin) (fun k => l.length - k) ⟨0, ⟨by omega, rfl⟩, Ent.sub goSub⟩ ?_
  rintro k ⟨hk, hgo⟩
  by_cases hkl : k < l.length
  · obtain ⟨x, hx⟩ : ∃ x, l[k]? = some x := ⟨_, List.getElem?_eq_getElem hkl⟩
    have hrow : (l.map (fun x => [Tr.str x]))[k]? = some [Tr.str x] := rows_at hx
    have hdrop := idxFrom_drop p hx
    rw [hdrop] at hgo
    have hsx := hs x (List.mem_of_getElem? hx)
    by_cases hp : p x = true
    · rw [if_pos hp] at hgo
      rw [hp] at hsx
      repeat' (first | refine goH ?_ | refine goV ?_ | refine goI ?_ | (refine Cw.k_cond ?_; first | (refine Cw.cond_dec rfl (fun hc => ?_) (fun hc => ?_) <;> try (exfalso; omega)) | refine Cw.cond_bool rfl (fun hc => ?_) (fun hc => ?_)) | (refine Ops.k_calla ?_; first | (refine Ops.call_fn rfl hsx (Evs.cons rfl Evs.nil) (by rw [List.append_nil]) rfl ?_; rintro r cs' ⟨rfl, hcs⟩; rw [hcs, List.append_nil])) | fail)
      exact Fin.ret Ent.refl (Outs.one rfl rfl) ⟨by rw [hgo], rfl⟩
    · rw [if_neg hp] at hgo
      rw [Bool.not_eq_true] at hp
      rw [hp] at hsx
      repeat' (first | refine goH ?_ | refine goV ?_ | refine goI ?_ | (refine Cw.k_cond ?_; first | (refine Cw.cond_dec rfl (fun hc => ?_) (fun hc => ?_) <;> try (exfalso; omega)) | refine Cw.cond_bool rfl (fun hc => ?_) (fun hc => ?_)) | (refine Ops.k_calla ?_; first | (refine Ops.call_fn rfl hsx (Evs.cons rfl Evs.nil) (by rw [List.append_nil]) rfl ?_; rintro r cs' ⟨rfl, hcs⟩; rw [hcs, List.append_nil])) | fail)
      exact ⟨k + 1, ⟨by omega, hgo⟩, by omega, Ent.sub goSub⟩
  · rw [List.drop_eq_nil_of_le (by omega), idxFrom] at hgo
    repeat' (first | refine goH ?_ | refine goV ?_ | refine goI ?_ | (refine Cw.k_cond ?_; first | (refine Cw.cond_dec rfl (fun hc => ?_) (fun hc => ?_) <;> try (exfalso; omega)) | refine Cw.cond_bool rfl (fun hc => ?_) (fun hc => ?_)) | fail)
    exact Fin.ret Ent.refl (Outs.one rfl rfl) ⟨by rw [hgo], rfl⟩

theorem containsFunc_str {l : List ByteArray} {p : ByteArray → Bool} {g : Nat} {caps : List Value} {cin : List Chunk} (hl : l.length ≤ 1000000000)
    (hs : ∀ x, x ∈ l → Spec Tryd.prog g ([Tr.str x] ++ caps.map Tr.raw) cin (fun r cs => r = Tr.bool (p x) ∧ cs = cin)) :
    Spec Tryd.prog 35 [Tr.sl 1 (l.map (fun x => [Tr.str x])), Tr.raw (.func (.func g) #[] caps.toArray)] cin (fun r cs => r = Tr.bool (l.any p) ∧ cs = cin) := by
  refine Spec.body Tryd.func35 rfl rfl (Tryd.ntmps35) rfl fun w0 own0 M => ?_
  repeat' (first | refine goH ?_ | refine goV ?_ | refine goI ?_ | (refine Cw.k_cond ?_; first | (refine Cw.cond_dec rfl (fun hc => ?_) (fun hc => ?_) <;> try (exfalso; omega)) | refine Cw.cond_bool rfl (fun hc => ?_) (fun hc => ?_)) | (refine Ops.k_calla ?_; first | (refine Ops.k_callf 65 ?_; (refine Ops.call (indexFunc_str hl hs) (Evs.cons rfl (Evs.cons rfl Evs.nil)) (by rw [List.append_nil]) rfl ?_; rintro r cs' ⟨rfl, hcs⟩; rw [hcs, List.append_nil]))) | fail)
  refine Fin.ret Ent.refl (Outs.one rfl rfl) ⟨congrArg Tr.bool ?_, rfl⟩
  have := idxFrom_ge p l 0 (Int.le_refl _)
  by_cases h : 0 ≤ idxFrom p l 0
  · simp [h, this.1 h]
  · have h2 : l.any p = false := by rw [← Bool.not_eq_true]; exact fun e => h (this.2 e)
    simp [h, h2]


def findO (l : List Offer) (id : ByteArray) : Option Offer := l.find? (fun x => decide (x.key = id))
def offIx (l : List Offer) (id : ByteArray) : Int := idxFrom (fun x : Offer => decide (x.key = id)) l 0
theorem offIx_none {l : List Offer} {id : ByteArray} (h : findO l id = none) : offIx l id = -1 := (idxFrom_find _ l 0).1 h
theorem offIx_some {l : List Offer} {id : ByteArray} {x : Offer} (h : findO l id = some x) : ∃ j : Nat, offIx l id = j ∧ l[j]? = some x := by
  obtain ⟨j, h1, h2⟩ := (idxFrom_find _ l 0).2 x h
  exact ⟨j, by unfold offIx; omega, h2⟩
theorem offIx_neg {l : List Offer} {id : ByteArray} : decide (offIx l id < 0) = (findO l id).isNone := by
  cases h : findO l id with
  | none => rw [offIx_none h]; rfl
  | some x => obtain ⟨j, h1, _⟩ := offIx_some h; rw [h1]; simp

theorem offer1_fn (x : Offer) (b E : Nat) (id : ByteArray) : Spec Tryd.prog 75 [.agg x.row, .ptr b] [Chunk.box b E [.str id]] (fun r cs => r = .bool (decide (x.key = id)) ∧ cs = [Chunk.box b E [.str id]]) := by
  refine Spec.body Tryd.func75 rfl rfl (Tryd.ntmps75) rfl fun w0 own0 M => ?_
  unfold Offer.row
  repeat' (first | refine goH ?_ | refine goV ?_ | refine goB (fun b => ?_) | refine goI ?_ | (refine Cw.k_cond ?_; first | (refine Cw.cond_dec rfl (fun hc => ?_) (fun hc => ?_) <;> try (exfalso; omega)) | refine Cw.cond_bool rfl (fun hc => ?_) (fun hc => ?_)) | fail)
  exact Fin.ret (Ent.take goTk) (Outs.one rfl rfl) ⟨rfl, rfl⟩
theorem offerOf1_fn (x : Offer) (b E : Nat) (id : ByteArray) : Spec Tryd.prog 79 [.agg x.row, .ptr b] [Chunk.box b E [.str id]] (fun r cs => r = .bool (decide (x.key = id)) ∧ cs = [Chunk.box b E [.str id]]) := by
  refine Spec.body Tryd.func79 rfl rfl (Tryd.ntmps79) rfl fun w0 own0 M => ?_
  unfold Offer.row
  repeat' (first | refine goH ?_ | refine goV ?_ | refine goB (fun b => ?_) | refine goI ?_ | (refine Cw.k_cond ?_; first | (refine Cw.cond_dec rfl (fun hc => ?_) (fun hc => ?_) <;> try (exfalso; omega)) | refine Cw.cond_bool rfl (fun hc => ?_) (fun hc => ?_)) | fail)
  exact Fin.ret (Ent.take goTk) (Outs.one rfl rfl) ⟨rfl, rfl⟩
theorem offer_fn (l : List Offer) (hl : l.length ≤ 1000000) (id : ByteArray) : PFn Tryd.prog 49 [.offers l, .str id] (· = .int (offIx l id)) := by
  have k := fun b E => indexFunc_offer (cin := [Chunk.box b E [.str id]]) (caps := [.pointer (some ⟨b, 0, none⟩)]) (g := 75) (p := fun x => decide (x.key = id)) (l := l) (by omega) (fun x _ => offer1_fn x b E id)
  refine PFn.mk (Spec.body Tryd.func49 rfl rfl (Tryd.ntmps49) rfl fun w0 own0 M => ?_)
  repeat' (first | refine goH ?_ | refine goV ?_ | refine goB (fun b => ?_) | refine goI ?_ | (refine Cw.k_cond ?_; first | (refine Cw.cond_dec rfl (fun hc => ?_) (fun hc => ?_) <;> try (exfalso; omega)) | refine Cw.cond_bool rfl (fun hc => ?_) (fun hc => ?_)) | (refine Ops.k_calla ?_; first | (refine Ops.k_callf 74 ?_; refine Ops.callS (k _ _) (Evs.cons rfl (Evs.cons rfl Evs.nil)) goPk rfl ?_)) | fail)
  exact Fin.ret (Ent.take goTk) (Outs.one rfl rfl) ⟨rfl, rfl⟩
theorem offerOf_fn (l : List Offer) (hl : l.length ≤ 1000000) (id : ByteArray) : PFn Tryd.prog 58 [.offers l, .str id] (· = .int (offIx l id)) := by
  have k := fun b E => indexFunc_offer (cin := [Chunk.box b E [.str id]]) (caps := [.pointer (some ⟨b, 0, none⟩)]) (g := 79) (p := fun x => decide (x.key = id)) (l := l) (by omega) (fun x _ => offerOf1_fn x b E id)
  refine PFn.mk (Spec.body Tryd.func58 rfl rfl (Tryd.ntmps58) rfl fun w0 own0 M => ?_)
  repeat' (first | refine goH ?_ | refine goV ?_ | refine goB (fun b => ?_) | refine goI ?_ | (refine Cw.k_cond ?_; first | (refine Cw.cond_dec rfl (fun hc => ?_) (fun hc => ?_) <;> try (exfalso; omega)) | refine Cw.cond_bool rfl (fun hc => ?_) (fun hc => ?_)) | (refine Ops.k_calla ?_; first | (refine Ops.k_callf 74 ?_; refine Ops.callS (k _ _) (Evs.cons rfl (Evs.cons rfl Evs.nil)) goPk rfl ?_)) | fail)
  exact Fin.ret (Ent.take goTk) (Outs.one rfl rfl) ⟨rfl, rfl⟩

/-- neither empty nor an offer's key -/
def oddB (l : List Offer) (k : ByteArray) : Bool := if k = ⟨#[]⟩ then false else (findO l k).isNone
theorem unknown1_fn (l : List Offer) (hl : l.length ≤ 1000000) (k : ByteArray) (b E : Nat) : Spec Tryd.prog 86 [.str k, .ptr b] [Chunk.box b E [.offers l]] (fun r cs => r = .bool (oddB l k) ∧ cs = [Chunk.box b E [.offers l]]) := by
  have h := offer_fn l hl k
  refine Spec.body Tryd.func86 rfl rfl (Tryd.ntmps86) rfl fun w0 own0 M => ?_
  by_cases h0 : k = ⟨#[]⟩
  · repeat' (first | refine goH ?_ | (refine Ops.k_b_neq ?_; first | (refine Ops.val' rfl (OpV.neqS_f rfl rfl (by assumption)) ?_)) | refine goV ?_ | refine goG ?_ | (refine Ops.k_guard ?_; first | (refine Ops.guard_dec rfl rfl (fun hc => ?_) (fun hc => ?_) <;> try (exfalso; omega)) | refine Ops.guard_split rfl rfl (fun hc => ?_) (fun hc => ?_)) | refine goI ?_ | (refine Cw.k_cond ?_; first | (refine Cw.cond_dec rfl (fun hc => ?_) (fun hc => ?_) <;> try (exfalso; omega)) | refine Cw.cond_bool rfl (fun hc => ?_) (fun hc => ?_)) | (refine Ops.k_calla ?_; first | (refine Ops.k_callf 49 ?_; refine Ops.callV h (Evs.cons rfl (Evs.cons rfl Evs.nil)) rfl ?_)) | fail)
    refine Fin.ret (Ent.take goTk) (Outs.one rfl rfl) ⟨congrArg Tr.bool ?_, rfl⟩
    unfold oddB; rw [if_pos h0]
  · repeat' (first | refine goH ?_ | (refine Ops.k_b_neq ?_; first | (refine Ops.val' rfl (OpV.neqS_t rfl rfl (by assumption)) ?_)) | refine goV ?_ | refine goG ?_ | (refine Ops.k_guard ?_; first | (refine Ops.guard_dec rfl rfl (fun hc => ?_) (fun hc => ?_) <;> try (exfalso; omega)) | refine Ops.guard_split rfl rfl (fun hc => ?_) (fun hc => ?_)) | refine goI ?_ | (refine Cw.k_cond ?_; first | (refine Cw.cond_dec rfl (fun hc => ?_) (fun hc => ?_) <;> try (exfalso; omega)) | refine Cw.cond_bool rfl (fun hc => ?_) (fun hc => ?_)) | (refine Ops.k_calla ?_; first | (refine Ops.k_callf 49 ?_; refine Ops.callV h (Evs.cons rfl (Evs.cons rfl Evs.nil)) rfl ?_)) | fail)
    refine Fin.ret (Ent.take goTk) (Outs.one rfl rfl) ⟨congrArg Tr.bool ?_, rfl⟩
    unfold oddB; rw [if_neg h0, ← offIx_neg]
theorem strange1_fn (l : List Offer) (hl : l.length ≤ 1000000) (k : ByteArray) (b E : Nat) : Spec Tryd.prog 80 [.str k, .ptr b] [Chunk.box b E [.offers l]] (fun r cs => r = .bool (oddB l k) ∧ cs = [Chunk.box b E [.offers l]]) := by
  have h := offerOf_fn l hl k
  refine Spec.body Tryd.func80 rfl rfl (Tryd.ntmps80) rfl fun w0 own0 M => ?_
  by_cases h0 : k = ⟨#[]⟩
  · repeat' (first | refine goH ?_ | (refine Ops.k_b_neq ?_; first | (refine Ops.val' rfl (OpV.neqS_f rfl rfl (by assumption)) ?_)) | refine goV ?_ | refine goG ?_ | (refine Ops.k_guard ?_; first | (refine Ops.guard_dec rfl rfl (fun hc => ?_) (fun hc => ?_) <;> try (exfalso; omega)) | refine Ops.guard_split rfl rfl (fun hc => ?_) (fun hc => ?_)) | refine goI ?_ | (refine Cw.k_cond ?_; first | (refine Cw.cond_dec rfl (fun hc => ?_) (fun hc => ?_) <;> try (exfalso; omega)) | refine Cw.cond_bool rfl (fun hc => ?_) (fun hc => ?_)) | (refine Ops.k_calla ?_; first | (refine Ops.k_callf 58 ?_; refine Ops.callV h (Evs.cons rfl (Evs.cons rfl Evs.nil)) rfl ?_)) | fail)
    refine Fin.ret (Ent.take goTk) (Outs.one rfl rfl) ⟨congrArg Tr.bool ?_, rfl⟩
    unfold oddB; rw [if_pos h0]
  · repeat' (first | refine goH ?_ | (refine Ops.k_b_neq ?_; first | (refine Ops.val' rfl (OpV.neqS_t rfl rfl (by assumption)) ?_)) | refine goV ?_ | refine goG ?_ | (refine Ops.k_guard ?_; first | (refine Ops.guard_dec rfl rfl (fun hc => ?_) (fun hc => ?_) <;> try (exfalso; omega)) | refine Ops.guard_split rfl rfl (fun hc => ?_) (fun hc => ?_)) | refine goI ?_ | (refine Cw.k_cond ?_; first | (refine Cw.cond_dec rfl (fun hc => ?_) (fun hc => ?_) <;> try (exfalso; omega)) | refine Cw.cond_bool rfl (fun hc => ?_) (fun hc => ?_)) | (refine Ops.k_calla ?_; first | (refine Ops.k_callf 58 ?_; refine Ops.callV h (Evs.cons rfl (Evs.cons rfl Evs.nil)) rfl ?_)) | fail)
    refine Fin.ret (Ent.take goTk) (Outs.one rfl rfl) ⟨congrArg Tr.bool ?_, rfl⟩
    unfold oddB; rw [if_neg h0, ← offIx_neg]
theorem unknown_fn (l : List Offer) (hl : l.length ≤ 1000000) (xs : List ByteArray) (hx : xs.length ≤ 1000000) : PFn Tryd.prog 73 [.offers l, .strs xs] (· = .bool (xs.any (oddB l))) := by
  have k := fun b E => containsFunc_str (cin := [Chunk.box b E [.offers l]]) (caps := [.pointer (some ⟨b, 0, none⟩)]) (g := 86) (p := oddB l) (l := xs) (by omega) (fun x _ => unknown1_fn l hl x b E)
  refine PFn.mk (Spec.body Tryd.func73 rfl rfl (Tryd.ntmps73) rfl fun w0 own0 M => ?_)
  repeat' (first | refine goH ?_ | refine goV ?_ | refine goB (fun b => ?_) | refine goI ?_ | (refine Cw.k_cond ?_; first | (refine Cw.cond_dec rfl (fun hc => ?_) (fun hc => ?_) <;> try (exfalso; omega)) | refine Cw.cond_bool rfl (fun hc => ?_) (fun hc => ?_)) | (refine Ops.k_calla ?_; first | (refine Ops.k_callf 35 ?_; refine Ops.callS (k _ _) (Evs.cons rfl (Evs.cons rfl Evs.nil)) goPk rfl ?_)) | fail)
  exact Fin.ret (Ent.take goTk) (Outs.one rfl rfl) ⟨rfl, rfl⟩
theorem strange_fn (l : List Offer) (hl : l.length ≤ 1000000) (xs : List ByteArray) (hx : xs.length ≤ 1000000) : PFn Tryd.prog 60 [.offers l, .strs xs] (· = .bool (xs.any (oddB l))) := by
  have k := fun b E => containsFunc_str (cin := [Chunk.box b E [.offers l]]) (caps := [.pointer (some ⟨b, 0, none⟩)]) (g := 80) (p := oddB l) (l := xs) (by omega) (fun x _ => strange1_fn l hl x b E)
  refine PFn.mk (Spec.body Tryd.func60 rfl rfl (Tryd.ntmps60) rfl fun w0 own0 M => ?_)
  repeat' (first | refine goH ?_ | refine goV ?_ | refine goB (fun b => ?_) | refine goI ?_ | (refine Cw.k_cond ?_; first | (refine Cw.cond_dec rfl (fun hc => ?_) (fun hc => ?_) <;> try (exfalso; omega)) | refine Cw.cond_bool rfl (fun hc => ?_) (fun hc => ?_)) | (refine Ops.k_calla ?_; first | (refine Ops.k_callf 35 ?_; refine Ops.callS (k _ _) (Evs.cons rfl (Evs.cons rfl Evs.nil)) goPk rfl ?_)) | fail)
  exact Fin.ret (Ent.take goTk) (Outs.one rfl rfl) ⟨rfl, rfl⟩
end Lg
