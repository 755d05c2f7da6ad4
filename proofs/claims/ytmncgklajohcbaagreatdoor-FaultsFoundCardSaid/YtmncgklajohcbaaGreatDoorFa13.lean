/- A part of the proof of a law of this seat: it adds no condition. By an AI agent. -/
import Derived.Test.YtmncgklajohcbaaGreatDoorFa10
section
set_option linter.all false
set_option maxRecDepth 100000
set_option maxHeartbeats 8000000
namespace Lg
open Go Go.Proofs

/-! ### Down -/
theorem indexFunc_str {l : List ByteArray} {p : ByteArray → Bool} {g : Nat} {caps : List Value} {cin : List Chunk} (hl : l.length ≤ 1000000000)
    (hs : ∀ x, x ∈ l → Spec Tryz.prog g ([Tr.str x] ++ caps.map Tr.raw) cin (fun r cs => r = Tr.bool (p x) ∧ cs = cin)) :
    Spec Tryz.prog 67 [Tr.sl 1 (l.map (fun x => [Tr.str x])), Tr.raw (.func (.func g) #[] caps.toArray)] cin (fun r cs => r = Tr.int (idxFrom p l 0) ∧ cs = cin) := by
  refine Spec.body Tryz.func67 rfl rfl (Tryz.ntmps67) rfl fun w0 own0 M => ?_
  have hL : (l.map (fun x => [Tr.str x])).length = l.length := List.length_map _
  repeat' (first | refine goH ?_ | refine goV ?_ | refine goI ?_ | (refine Cw.k_cond ?_; first | (refine Cw.cond_dec rfl (fun hc => ?_) (fun hc => ?_) <;> try (exfalso; omega)) | refine Cw.cond_bool rfl (fun hc => ?_) (fun hc => ?_)) | fail)
  refine Cw.loop (ι := Nat) (fun k => k ≤ l.length ∧ idxFrom p l 0 = idxFrom p (l.drop k) k) (fun k => [(0, Tr.sl 1 (l.map (fun x => [Tr.str x]))), (1, Tr.raw (.func (.func g) #[] caps.toArray)), (7, .int (l.map (fun x => [Tr.str x])).length), (8, .int k)]) (fun _ => cin) (fun k => l.length - k) ⟨0, ⟨by omega, rfl⟩, Ent.sub goSub⟩ ?_
  rintro k ⟨hk, hgo⟩
  by_cases hkl : k < l.length
  · obtain ⟨x, hx⟩ : ∃ x, l[k]? = some x := ⟨_, List.getElem?_eq_getElem hkl⟩
    have hrow : (l.map (fun x => [Tr.str x]))[k]? = some [Tr.str x] := rows_at hx
    have hdrop := idxFrom_drop p hx
    rw [hdrop] at hgo
    have hsx := hs x (List.mem_of_getElem? hx)
    by_cases hp : p x = true
    · rw [if_pos hp] at hgo
      rw [hp] at hsx
      repeat' (first | refine goH ?_ | refine goV ?_ | refine goI ?_ | (refine Cw.k_cond ?_; first | (refine Cw.cond_dec rfl (fun hc => ?_) (fun hc => ?_) <;> try (exfalso; omega)) | refine Cw.cond_bool rfl (fun hc => ?_) (fun hc => ?_)) | (refine Ops.k_calla ?_; first | (refine Ops.call_fn rfl hsx (Evs.cons rfl Evs.nil) (by rw [List.append_nil]) rfl ?_; rintro r cs' ⟨rfl, hcs⟩; rw [hcs, List.append_nil])) | fail)
      exact Fin.ret Ent.refl (Outs.one rfl rfl) ⟨by rw [hgo], rfl⟩
    · rw [if_neg hp] at hgo
      rw [Bool.not_eq_true] at hp
      rw [hp] at hsx
      repeat' (first | refine goH ?_ | refine goV ?_ | refine goI ?_ | (refine Cw.k_cond ?_; first | (refine Cw.cond_dec rfl (fun hc => ?_) (fun hc => ?_) <;> try (exfalso; omega)) | refine Cw.cond_bool rfl (fun hc => ?_) (fun hc => ?_)) | (refine Ops.k_calla ?_; first | (refine Ops.call_fn rfl hsx (Evs.cons rfl Evs.nil) (by rw [List.append_nil]) rfl ?_; rintro r cs' ⟨rfl, hcs⟩; rw [hcs, List.append_nil])) | fail)
      exact ⟨k + 1, ⟨by omega, hgo⟩, by omega, Ent.sub goSub⟩
  · rw [List.drop_eq_nil_of_le (by omega), idxFrom] at hgo
    repeat' (first | refine goH ?_ | refine goV ?_ | refine goI ?_ | (refine Cw.k_cond ?_; first | (refine Cw.cond_dec rfl (fun hc => ?_) (fun hc => ?_) <;> try (exfalso; omega)) | refine Cw.cond_bool rfl (fun hc => ?_) (fun hc => ?_)) | fail)
    exact Fin.ret Ent.refl (Outs.one rfl rfl) ⟨by rw [hgo], rfl⟩

theorem containsFunc_str {l : List ByteArray} {p : ByteArray → Bool} {g : Nat} {caps : List Value} {cin : List Chunk} (hl : l.length ≤ 1000000000)
    (hs : ∀ x, x ∈ l → Spec Tryz.prog g ([Tr.str x] ++ caps.map Tr.raw) cin (fun r cs => r = Tr.bool (p x) ∧ cs = cin)) :
    Spec Tryz.prog 37 [Tr.sl 1 (l.map (fun x => [Tr.str x])), Tr.raw (.func (.func g) #[] caps.toArray)] cin (fun r cs => r = Tr.bool (l.any p) ∧ cs = cin) := by
  refine Spec.body Tryz.func37 rfl rfl (Tryz.ntmps37) rfl fun w0 own0 M => ?_
  repeat' (first | refine goH ?_ | refine goV ?_ | refine goI ?_ | (refine Cw.k_cond ?_; first | (refine Cw.cond_dec rfl (fun hc => ?_) (fun hc => ?_) <;> try (exfalso; omega)) | refine Cw.cond_bool rfl (fun hc => ?_) (fun hc => ?_)) | (refine Ops.k_calla ?_; first | (refine Ops.k_callf 67 ?_; (refine Ops.call (indexFunc_str hl hs) (Evs.cons rfl (Evs.cons rfl Evs.nil)) (by rw [List.append_nil]) rfl ?_; rintro r cs' ⟨rfl, hcs⟩; rw [hcs, List.append_nil]))) | fail)
  refine Fin.ret Ent.refl (Outs.one rfl rfl) ⟨congrArg Tr.bool ?_, rfl⟩
  have := idxFrom_ge p l 0 (Int.le_refl _)
  by_cases h : 0 ≤ idxFrom p l 0
  · simp [h, this.1 h]
  · have h2 : l.any p = false := by rw [← Bool.not_eq_true]; exact fun e => h (this.2 e)
    simp [h, h2]

def anyOn (l : List Cd) (codes : List ByteArray) (t : Int) : Bool := codes.any fun c => onAt l c t
theorem PFn.sl_eq {P : Program} {f : FuncId} {args : List Tr} {k : Nat} {rows : List (List Tr)} {post : List (List Tr) → Prop} (h : PFn P f args (fun r => ∃ rows, r = Tr.sl k rows ∧ post rows)) (he : ∀ r, post r → r = rows) : PFn P f args (· = .sl k rows) := by
  refine PFn.mk (Spec.mono h.spec ?_)
  rintro r cs ⟨hc, rw2, rfl, hp⟩
  exact ⟨hc, by rw [he rw2 hp]⟩
theorem someOnV_fn (l : List Cd) (hl : l.length ≤ 100) (hok : CdOk l) (codes : List ByteArray) (hc : codes.length ≤ 100) : PFn Tryz.prog 44 [.cds l, .strs codes] (· = .wns (whenW (momL l) (anyOn l codes))) := by
  have h1 : PFnO Tryz.prog 44 [.cds l, .strs codes] 2 32 (· = (whenW (momL l) (anyOn l codes)).map Wn.row) := by
    unfold PFnO
    refine Spec.mono (someOn_fn l hl hok codes hc) ?_
    rintro r cs ⟨W, ad, cap, ⟨h1, h2, h3⟩, rfl, rfl⟩
    obtain ⟨g1, g2, _⟩ := mom_when hok (fun g => codes.any g)
    have e : W = whenW (momL l) (anyOn l codes) := can_uniq h1 g1 fun t => (h2 t).trans (g2 t).symm
    rw [← e]
    exact ⟨ad, cap, W.map Wn.row, by rw [List.length_map], rfl, rfl⟩
  exact PFn.sl_eq h1.settled fun r h => h
theorem bothV_fn (a b : List Wn) (ha : a.length ≤ 100000) (hb : b.length ≤ 100000) : PFn Tryz.prog 43 [.wns a, .wns b] (· = .wns (bothW a b)) := by
  have h1 : PFnO Tryz.prog 43 [.wns a, .wns b] 2 32 (· = (bothW a b).map Wn.row) := by
    unfold PFnO
    refine Spec.mono (both_fn a b ha hb) ?_
    rintro r cs ⟨ad, cap, rfl, rfl⟩
    exact ⟨ad, cap, _, by rw [List.length_map], rfl, rfl⟩
  exact PFn.sl_eq h1.settled fun r h => h
def dnE (codes : List ByteArray) (w : Wn) : Int := if codes.length > 50 then 2 else if codes.any (fun c => !isKey c) = true then 5 else if w.fr < 0 ∨ w.to < w.fr ∨ tEnd < w.to then 1 else 0
theorem oddD_fn (c : ByteArray) : PFn Tryz.prog 42 [.str c] (· = .bool (!isKey c)) := by
  have k1 := key_fn c
  refine PFn.mk (Spec.body Tryz.func42 rfl rfl (Tryz.ntmps42) rfl fun w0 own0 M => ?_)
  repeat' (first | refine goH ?_ | refine goV ?_ | refine goI ?_ | (refine Cw.k_cond ?_; first | (refine Cw.cond_dec rfl (fun hc => ?_) (fun hc => ?_) <;> try (exfalso; omega)) | refine Cw.cond_bool rfl (fun hc => ?_) (fun hc => ?_)) | (refine Ops.k_calla ?_; first | (refine Ops.k_callf 35 ?_; refine Ops.callV k1 (Evs.cons rfl Evs.nil) rfl ?_)) | fail)
  exact Fin.ret (Ent.take goTk) (Outs.one rfl rfl) ⟨rfl, rfl⟩
theorem oddR_fn (c : ByteArray) : PFn Tryz.prog 50 [.str c] (· = .bool (!isKey c)) := by
  have k1 := keyOf_fn c
  refine PFn.mk (Spec.body Tryz.func50 rfl rfl (Tryz.ntmps50) rfl fun w0 own0 M => ?_)
  repeat' (first | refine goH ?_ | refine goV ?_ | refine goI ?_ | (refine Cw.k_cond ?_; first | (refine Cw.cond_dec rfl (fun hc => ?_) (fun hc => ?_) <;> try (exfalso; omega)) | refine Cw.cond_bool rfl (fun hc => ?_) (fun hc => ?_)) | (refine Ops.k_calla ?_; first | (refine Ops.k_callf 30 ?_; refine Ops.callV k1 (Evs.cons rfl Evs.nil) rfl ?_)) | fail)
  exact Fin.ret (Ent.take goTk) (Outs.one rfl rfl) ⟨rfl, rfl⟩
theorem downFault_fn (codes : List ByteArray) (hc : codes.length ≤ 1000000) (w : Wn) : PFn Tryz.prog 17 [.strs codes, .agg w.row] (· = .int (dnE codes w)) := by
  have hCl := strRows_len codes
  have k1 := containsFunc_str (l := codes) (p := fun c => !isKey c) (g := 50) (caps := []) (cin := []) (by omega) (fun y _ => (oddR_fn y).lend)
  rw [show (codes.map fun x => [Tr.str x]) = strRows codes from rfl] at k1
  obtain ⟨wf, wt⟩ := w
  unfold Wn.row dnE
  simp only
  by_cases h1 : codes.length > 50
  · rw [if_pos h1]
    refine PFn.mk (Spec.body Tryz.func17 rfl rfl (Tryz.ntmps17) rfl fun w0 own0 M => ?_)
    repeat' (first | refine goH ?_ | refine goV ?_ | refine goB (fun b => ?_) | refine goG ?_ | (refine Ops.k_guard ?_; first | (refine Ops.guard_dec rfl rfl (fun hc => ?_) (fun hc => ?_) <;> try (exfalso; omega)) | refine Ops.guard_split rfl rfl (fun hc => ?_) (fun hc => ?_)) | refine goI ?_ | (refine Cw.k_cond ?_; first | (refine Cw.cond_dec rfl (fun hc => ?_) (fun hc => ?_) <;> try (exfalso; omega)) | refine Cw.cond_bool rfl (fun hc => ?_) (fun hc => ?_)) | fail)
    exact Fin.ret (Ent.take goTk) (Outs.one rfl rfl) ⟨rfl, rfl⟩
  rw [if_neg h1]
  cases h2 : codes.any fun c => !isKey c with
  | true =>
    rw [if_pos rfl]
    rw [h2] at k1
    refine PFn.mk (Spec.body Tryz.func17 rfl rfl (Tryz.ntmps17) rfl fun w0 own0 M => ?_)
    repeat' (first | refine goH ?_ | refine goV ?_ | refine goB (fun b => ?_) | refine goG ?_ | (refine Ops.k_guard ?_; first | (refine Ops.guard_dec rfl rfl (fun hc => ?_) (fun hc => ?_) <;> try (exfalso; omega)) | refine Ops.guard_split rfl rfl (fun hc => ?_) (fun hc => ?_)) | refine goI ?_ | (refine Cw.k_cond ?_; first | (refine Cw.cond_dec rfl (fun hc => ?_) (fun hc => ?_) <;> try (exfalso; omega)) | refine Cw.cond_bool rfl (fun hc => ?_) (fun hc => ?_)) | (refine Ops.k_calla ?_; first | (refine Ops.k_callf 37 ?_; (refine Ops.call k1 (Evs.cons rfl (Evs.cons rfl Evs.nil)) goPm rfl ?_; rintro r cs' ⟨rfl, rfl⟩))) | fail)
    exact Fin.ret (Ent.take goTk) (Outs.one rfl rfl) ⟨rfl, rfl⟩
  | false =>
    rw [if_neg (by simp)]
    rw [h2] at k1
    have he : tEnd = 5761440 := rfl
    rw [he]
    by_cases h3 : wf < 0 ∨ wt < wf ∨ 5761440 < wt
    · rw [if_pos h3]
      refine PFn.mk (Spec.body Tryz.func17 rfl rfl (Tryz.ntmps17) rfl fun w0 own0 M => ?_)
      repeat' (first | refine goH ?_ | refine goV ?_ | refine goB (fun b => ?_) | refine goG ?_ | (refine Ops.k_guard ?_; first | (refine Ops.guard_dec rfl rfl (fun hc => ?_) (fun hc => ?_) <;> try (exfalso; omega)) | refine Ops.guard_split rfl rfl (fun hc => ?_) (fun hc => ?_)) | refine goI ?_ | (refine Cw.k_cond ?_; first | (refine Cw.cond_dec rfl (fun hc => ?_) (fun hc => ?_) <;> try (exfalso; omega)) | refine Cw.cond_bool rfl (fun hc => ?_) (fun hc => ?_)) | (refine Ops.k_calla ?_; first | (refine Ops.k_callf 37 ?_; (refine Ops.call k1 (Evs.cons rfl (Evs.cons rfl Evs.nil)) goPm rfl ?_; rintro r cs' ⟨rfl, rfl⟩))) | fail)
      all_goals first | (exfalso; omega) | exact Fin.ret (Ent.take goTk) (Outs.one rfl rfl) ⟨rfl, rfl⟩
    · rw [if_neg h3]
      refine PFn.mk (Spec.body Tryz.func17 rfl rfl (Tryz.ntmps17) rfl fun w0 own0 M => ?_)
      repeat' (first | refine goH ?_ | refine goV ?_ | refine goB (fun b => ?_) | refine goG ?_ | (refine Ops.k_guard ?_; first | (refine Ops.guard_dec rfl rfl (fun hc => ?_) (fun hc => ?_) <;> try (exfalso; omega)) | refine Ops.guard_split rfl rfl (fun hc => ?_) (fun hc => ?_)) | refine goI ?_ | (refine Cw.k_cond ?_; first | (refine Cw.cond_dec rfl (fun hc => ?_) (fun hc => ?_) <;> try (exfalso; omega)) | refine Cw.cond_bool rfl (fun hc => ?_) (fun hc => ?_)) | (refine Ops.k_calla ?_; first | (refine Ops.k_callf 37 ?_; (refine Ops.call k1 (Evs.cons rfl (Evs.cons rfl Evs.nil)) goPm rfl ?_; rintro r cs' ⟨rfl, rfl⟩))) | fail)
      all_goals first | (exfalso; omega) | exact Fin.ret (Ent.take goTk) (Outs.one rfl rfl) ⟨rfl, rfl⟩
end Lg
end
section
set_option linter.all false
set_option maxRecDepth 100000
set_option maxHeartbeats 8000000
namespace Lg
open Go Go.Proofs

theorem anyWhen {l : List Cd} (hok : CdOk l) (codes : List ByteArray) : Can (whenW (momL l) (anyOn l codes)) ∧ (∀ x ∈ whenW (momL l) (anyOn l codes), 0 ≤ x.fr ∧ x.fr < x.to ∧ x.to ≤ 5761440) ∧ (whenW (momL l) (anyOn l codes)).length ≤ l.length + 2 := by
  obtain ⟨g1, g2, g3⟩ := mom_when hok (fun g => codes.any g)
  refine ⟨g1, fun x hx => ?_, Nat.le_trans g3 (momL_len l)⟩
  have hne := g1.ne x hx
  have h1 := (g2 x.fr).1 ⟨x, hx, Int.le_refl _, hne⟩
  have h2 := (g2 (x.to - 1)).1 ⟨x, hx, by omega, by omega⟩
  have he : tEnd = 5761440 := rfl
  rw [he] at h2
  omega
theorem ovW_bd {w x : Wn} (h1 : 0 ≤ x.fr) (h2 : x.to ≤ 5761440) : 0 ≤ ovW w x ∧ (0 ≤ w.fr → ovW w x ≤ 5761440) := by unfold ovW; omega
theorem downIs1_fn (l : List Cd) (hl : l.length ≤ 1000000) (c : ByteArray) (bl bt : Nat) (t : Int) : Spec Tryz.prog 58 ([.str c] ++ [Value.pointer (some ⟨bl, 0, none⟩), Value.pointer (some ⟨bt, 0, none⟩)].map Tr.raw) [Chunk.box bl 26 [.cds l], Chunk.box bt 3 [.int t]] (fun r cs => r = Tr.bool (onAt l c t) ∧ cs = [Chunk.box bl 26 [.cds l], Chunk.box bt 3 [.int t]]) := by
  have k1 := onAt_fn l hl c t
  refine Spec.body Tryz.func58 rfl rfl (Tryz.ntmps58) rfl fun w0 own0 M => ?_
  repeat' (first | refine goH ?_ | refine goV ?_ | refine goI ?_ | (refine Cw.k_cond ?_; first | (refine Cw.cond_dec rfl (fun hc => ?_) (fun hc => ?_) <;> try (exfalso; omega)) | refine Cw.cond_bool rfl (fun hc => ?_) (fun hc => ?_)) | (refine Ops.k_calla ?_; first | (refine Ops.k_callf 56 ?_; refine Ops.callV k1 (Evs.cons rfl (Evs.cons rfl (Evs.cons rfl Evs.nil))) rfl ?_)) | fail)
  exact Fin.ret (Ent.take goTk) (Outs.one rfl rfl) ⟨rfl, rfl⟩
theorem downIs_fn (l : List Cd) (hl : l.length ≤ 1000000) (codes : List ByteArray) (hc : codes.length ≤ 1000000) (bc bl : Nat) (t : Int) : Spec Tryz.prog 57 ([.int t] ++ [Value.pointer (some ⟨bc, 0, none⟩), Value.pointer (some ⟨bl, 0, none⟩)].map Tr.raw) [Chunk.box bc 29 [.strs codes], Chunk.box bl 26 [.cds l]] (fun r cs => r = Tr.bool (anyOn l codes t) ∧ cs = [Chunk.box bc 29 [.strs codes], Chunk.box bl 26 [.cds l]]) := by
  have k1 := fun bt => containsFunc_str (l := codes) (p := fun c => onAt l c t) (g := 58) (caps := [.pointer (some ⟨bl, 0, none⟩), .pointer (some ⟨bt, 0, none⟩)]) (cin := [Chunk.box bl 26 [.cds l], Chunk.box bt 3 [.int t]]) (by omega) (fun y _ => downIs1_fn l hl y bl bt t)
  rw [show (codes.map fun x => [Tr.str x]) = strRows codes from rfl] at k1
  rw [show (codes.any fun c => onAt l c t) = anyOn l codes t from rfl] at k1
  generalize anyOn l codes t = v at *
  refine Spec.body Tryz.func57 rfl rfl (Tryz.ntmps57) rfl fun w0 own0 M => ?_
  repeat' (first | refine goH ?_ | refine goV ?_ | refine goB (fun b => ?_) | refine goI ?_ | (refine Cw.k_cond ?_; first | (refine Cw.cond_dec rfl (fun hc => ?_) (fun hc => ?_) <;> try (exfalso; omega)) | refine Cw.cond_bool rfl (fun hc => ?_) (fun hc => ?_)) | (refine Ops.k_calla ?_; first | (refine Ops.k_callf 37 ?_; (refine Ops.call (k1 _) (Evs.cons rfl (Evs.cons rfl Evs.nil)) goPm rfl ?_; rintro r cs' ⟨rfl, rfl⟩))) | fail)
  exact Fin.ret (Ent.take goTk) (Outs.one rfl rfl) ⟨rfl, rfl⟩
theorem sumQ_bdN {L : List Int} {B : Int} (h : ∀ x ∈ L, 0 ≤ x ∧ x ≤ B) (hB : 0 ≤ B) (k : Nat) : 0 ≤ sumQ (L.take k) ∧ sumQ (L.take k) ≤ (L.length : Int) * B := by
  refine ⟨sumQ_nn fun x hx => (h x (List.mem_of_mem_take hx)).1, ?_⟩
  have h1 := (sumQ_abs (l := L.take k) (B := B) fun x hx => by have := h x (List.mem_of_mem_take hx); omega).2
  have h2 : ((L.take k).length : Int) ≤ (L.length : Int) := by rw [List.length_take]; omega
  exact Int.le_trans h1 (Int.mul_le_mul_of_nonneg_right h2 hB)
theorem downOf_fn (l : List Cd) (hl : l.length ≤ 100) (hok : CdOk l) (codes : List ByteArray) (hc : codes.length ≤ 100) (w : Wn) (hw : 0 ≤ w.fr ∧ w.fr ≤ w.to ∧ w.to ≤ 5761440) : PFn Tryz.prog 21 [.cds l, .strs codes, .agg w.row] (· = .int (sumQ ((whenW (momL l) (anyOn l codes)).map (ovW w)))) := by
  have k1 := moments_fn l (by omega)
  have hml := momL_len l
  have k2 := fun bc bl => whenSo_fn (momL l) (momL_inc l) (by omega) (mom_two hok) (anyOn l codes) (g := 57) (caps := [.pointer (some ⟨bc, 0, none⟩), .pointer (some ⟨bl, 0, none⟩)]) (cin := [Chunk.box bc 29 [.strs codes], Chunk.box bl 26 [.cds l]]) (fun t => downIs_fn l (by omega) codes (by omega) bc bl t)
  obtain ⟨_, hA, hAl⟩ := anyWhen hok codes
  generalize whenW (momL l) (anyOn l codes) = A at *
  have hWl : (A.map Wn.row).length = A.length := List.length_map _
  rw [← hWl] at k2
  have hb := fun k => sumQ_bdN (L := A.map (ovW w)) (B := 5761440) (fun x hx => by
    obtain ⟨y, hy, rfl⟩ := List.mem_map.1 hx
    have h1 := hA y hy
    have h2 := ovW_bd (w := w) (x := y) h1.1 (by omega)
    exact ⟨h2.1, h2.2 hw.1⟩) (by omega) k
  have hql : (A.map (ovW w)).length = A.length := List.length_map _
  rw [hql] at hb
  unfold ovW at hb ⊢
  obtain ⟨wf, wt⟩ := w
  unfold Wn.row at *
  rw [show (A.map fun x => [Tr.int x.fr, Tr.int x.to]) = A.map Wn.row from rfl] at *
  simp only at hw hb ⊢
  refine PFn.mk (Spec.body Tryz.func21 rfl rfl (Tryz.ntmps21) rfl fun w0 own0 M => ?_)
  repeat' (first | refine goH ?_ | refine goV ?_ | refine goB (fun b => ?_) | refine goI ?_ | (refine Cw.k_cond ?_; first | (refine Cw.cond_dec rfl (fun hc => ?_) (fun hc => ?_) <;> try (exfalso; omega)) | refine Cw.cond_bool rfl (fun hc => ?_) (fun hc => ?_)) | (refine Ops.k_calla ?_; first | (refine Ops.k_callf 54 ?_; refine Ops.callV k1 (Evs.cons rfl Evs.nil) rfl ?_) | (refine Ops.k_callf 53 ?_; (refine Ops.call (k2 _ _) (Evs.cons rfl (Evs.cons rfl Evs.nil)) goPm rfl ?_; rintro r cs' ⟨ad, cap, rfl, rfl⟩; refine Ops.ent (Ent.settle (s := 13) rfl goPk rfl) ?_))) | fail)
  refine Cw.loopI [(5, _), (13, _), (14, _)] _ (fun q e c => ∃ (k : Nat) (z : Int), q = A.length - k ∧ (k ≤ A.length ∧ z = sumQ ((A.map fun x => max (min x.to wt - max x.fr wf) 0).take k)) ∧ e = [(7, .int z), (15, .int k)] ∧ c = [])
    ⟨_, _, _, (Ent.mkP goSub goPm), 0, 0, rfl, ⟨by omega, rfl⟩, rfl, rfl⟩ ?_
  rintro _ _ _ ⟨k, z, rfl, ⟨hk, hz⟩, rfl, rfl⟩
  by_cases hkl : k < A.length
  · obtain ⟨x, hx⟩ := at_lt hkl
    have hrow : (A.map Wn.row)[k]? = some [.int x.fr, .int x.to] := rows_at hx
    have hxb := hA x (List.mem_of_getElem? hx)
    have hmx : (A.map fun x => max (min x.to wt - max x.fr wf) 0)[k]? = some (max (min x.to wt - max x.fr wf) 0) := by rw [List.getElem?_map, hx]; rfl
    have hn := sumQ_take hmx
    have hbk := hb k
    rw [← hz] at hn hbk
    obtain ⟨xf, xt⟩ := x
    simp only at hrow hxb hn
    clear hx hz hmx
    repeat' (first | refine goH ?_ | refine goV ?_ | refine goB (fun b => ?_) | refine goI ?_ | (refine Cw.k_cond ?_; first | (refine Cw.cond_dec rfl (fun hc => ?_) (fun hc => ?_) <;> try (exfalso; omega)) | refine Cw.cond_bool rfl (fun hc => ?_) (fun hc => ?_)) | fail)
    exact ⟨_, _, _, (Ent.mk goSub goTk), ⟨k + 1, _, rfl, ⟨by omega, hn.symm⟩, rfl, rfl⟩, by omega⟩
  · rw [List.take_of_length_le (by rw [List.length_map]; omega)] at hz
    rw [← hz]
    repeat' (first | refine goH ?_ | refine goV ?_ | refine goB (fun b => ?_) | refine goI ?_ | (refine Cw.k_cond ?_; first | (refine Cw.cond_dec rfl (fun hc => ?_) (fun hc => ?_) <;> try (exfalso; omega)) | refine Cw.cond_bool rfl (fun hc => ?_) (fun hc => ?_)) | fail)
    exact Fin.ret (Ent.take goTk) (Outs.one rfl rfl) ⟨rfl, rfl⟩
def dnT (l : List Cd) (codes : List ByteArray) (w : Wn) : Tr := if codesE l ≠ 0 then .tup [.int 0, .int (codesE l)] else if dnE codes w ≠ 0 then .tup [.int 0, .int (dnE codes w)] else .tup [.int (sumQ ((whenW (momL l) (anyOn l codes)).map (ovW w))), .int 0]
theorem down_bad (l : List Cd) (hl : l.length ≤ 100) (codes : List ByteArray) (hc : codes.length ≤ 100) (w : Wn) (h : codesE l ≠ 0 ∨ dnE codes w ≠ 0) : PFn Tryz.prog 14 [.cds l, .strs codes, .agg w.row] (· = dnT l codes w) := by
  have k1 := checkCodes_fn l (by omega)
  have hCl := strRows_len codes
  unfold dnT
  obtain ⟨wf, wt⟩ := w
  unfold Wn.row
  by_cases hE : codesE l ≠ 0
  · rw [if_pos hE]
    generalize codesE l = E at *
    refine PFn.mk (Spec.body Tryz.func14 rfl rfl (Tryz.ntmps14) rfl fun w0 own0 M => ?_)
    repeat' (first | refine goH ?_ | refine goV ?_ | refine goB (fun b => ?_) | refine goG ?_ | (refine Ops.k_guard ?_; first | (refine Ops.guard_dec rfl rfl (fun hc => ?_) (fun hc => ?_) <;> try (exfalso; omega)) | refine Ops.guard_split rfl rfl (fun hc => ?_) (fun hc => ?_)) | refine goI ?_ | (refine Cw.k_cond ?_; first | (refine Cw.cond_dec rfl (fun hc => ?_) (fun hc => ?_) <;> try (exfalso; omega)) | refine Cw.cond_bool rfl (fun hc => ?_) (fun hc => ?_)) | (refine Ops.k_calla ?_; first | (refine Ops.k_callf 10 ?_; refine Ops.callV k1 (Evs.cons rfl Evs.nil) rfl ?_)) | (apply OpW.k_call; first | (apply OpW.k_callf 10; exact OpW.callV k1 (Evs.cons rfl Evs.nil))) | refine goR ?_ | refine goP ?_ | apply PSeq.cons | apply PSeq.yes rfl rfl rfl | exact goW | fail)
    refine Fin.ret (Ent.take goTk) (Outs.many rfl (OutL.cons goOe (OutL.cons goOe OutL.nil)) rfl) ⟨rfl, rfl⟩
  rw [if_neg hE]
  have h0 : codesE l = 0 := by omega
  rw [h0] at k1
  have hd := h.resolve_left hE
  rw [if_pos hd]
  have k2 := containsFunc_str (l := codes) (p := fun c => !isKey c) (g := 42) (caps := []) (cin := []) (by omega) (fun y _ => (oddD_fn y).lend)
  rw [show (codes.map fun x => [Tr.str x]) = strRows codes from rfl] at k2
  have k3 := out_fn wt wf 5761440
  clear h hE h0
  unfold dnE at hd ⊢
  simp only at hd ⊢
  by_cases h1 : codes.length > 50
  · rw [if_pos h1]
    refine PFn.mk (Spec.body Tryz.func14 rfl rfl (Tryz.ntmps14) rfl fun w0 own0 M => ?_)
    repeat' (first | refine goH ?_ | refine goV ?_ | refine goB (fun b => ?_) | refine goG ?_ | (refine Ops.k_guard ?_; first | (refine Ops.guard_dec rfl rfl (fun hc => ?_) (fun hc => ?_) <;> try (exfalso; omega)) | refine Ops.guard_split rfl rfl (fun hc => ?_) (fun hc => ?_)) | refine goI ?_ | (refine Cw.k_cond ?_; first | (refine Cw.cond_dec rfl (fun hc => ?_) (fun hc => ?_) <;> try (exfalso; omega)) | refine Cw.cond_bool rfl (fun hc => ?_) (fun hc => ?_)) | (refine Ops.k_calla ?_; first | (refine Ops.k_callf 10 ?_; refine Ops.callV k1 (Evs.cons rfl Evs.nil) rfl ?_)) | (apply OpW.k_call; first | (apply OpW.k_callf 10; exact OpW.callV k1 (Evs.cons rfl Evs.nil))) | refine goR ?_ | refine goP ?_ | apply PSeq.cons | apply PSeq.yes rfl rfl rfl | exact goW | fail)
    refine Fin.ret (Ent.take goTk) (Outs.many rfl (OutL.cons goOe (OutL.cons goOe OutL.nil)) rfl) ⟨rfl, rfl⟩
  rw [if_neg h1] at hd ⊢
  cases h2 : codes.any fun c => !isKey c with
  | true =>
    rw [if_pos rfl]
    rw [h2] at k2
    refine PFn.mk (Spec.body Tryz.func14 rfl rfl (Tryz.ntmps14) rfl fun w0 own0 M => ?_)
    repeat' (first | refine goH ?_ | refine goV ?_ | refine goB (fun b => ?_) | refine goG ?_ | (refine Ops.k_guard ?_; first | (refine Ops.guard_dec rfl rfl (fun hc => ?_) (fun hc => ?_) <;> try (exfalso; omega)) | refine Ops.guard_split rfl rfl (fun hc => ?_) (fun hc => ?_)) | refine goI ?_ | (refine Cw.k_cond ?_; first | (refine Cw.cond_dec rfl (fun hc => ?_) (fun hc => ?_) <;> try (exfalso; omega)) | refine Cw.cond_bool rfl (fun hc => ?_) (fun hc => ?_)) | (refine Ops.k_calla ?_; first | (refine Ops.k_callf 10 ?_; refine Ops.callV k1 (Evs.cons rfl Evs.nil) rfl ?_) | (refine Ops.k_callf 37 ?_; (refine Ops.call k2 (Evs.cons rfl (Evs.cons rfl Evs.nil)) goPm rfl ?_; rintro r cs' ⟨rfl, rfl⟩))) | (apply OpW.k_call; first | (apply OpW.k_callf 10; exact OpW.callV k1 (Evs.cons rfl Evs.nil))) | refine goR ?_ | refine goP ?_ | apply PSeq.cons | apply PSeq.yes rfl rfl rfl | exact goW | fail)
    refine Fin.ret (Ent.take goTk) (Outs.many rfl (OutL.cons goOe (OutL.cons goOe OutL.nil)) rfl) ⟨rfl, rfl⟩
  | false =>
    rw [h2, if_neg (by simp)] at hd
    rw [if_neg (by simp)]
    rw [h2] at k2
    have h3 : wf < 0 ∨ wt < wf ∨ 5761440 < wt := by
      refine Classical.byContradiction fun h3 => hd ?_
      rw [if_neg h3]
    rw [if_pos h3]
    by_cases h4 : wf < 0
    · refine PFn.mk (Spec.body Tryz.func14 rfl rfl (Tryz.ntmps14) rfl fun w0 own0 M => ?_)
      repeat' (first | refine goH ?_ | refine goV ?_ | refine goB (fun b => ?_) | refine goG ?_ | (refine Ops.k_guard ?_; first | (refine Ops.guard_dec rfl rfl (fun hc => ?_) (fun hc => ?_) <;> try (exfalso; omega)) | refine Ops.guard_split rfl rfl (fun hc => ?_) (fun hc => ?_)) | refine goI ?_ | (refine Cw.k_cond ?_; first | (refine Cw.cond_dec rfl (fun hc => ?_) (fun hc => ?_) <;> try (exfalso; omega)) | refine Cw.cond_bool rfl (fun hc => ?_) (fun hc => ?_)) | (refine Ops.k_calla ?_; first | (refine Ops.k_callf 10 ?_; refine Ops.callV k1 (Evs.cons rfl Evs.nil) rfl ?_) | (refine Ops.k_callf 37 ?_; (refine Ops.call k2 (Evs.cons rfl (Evs.cons rfl Evs.nil)) goPm rfl ?_; rintro r cs' ⟨rfl, rfl⟩))) | (apply OpW.k_call; first | (apply OpW.k_callf 10; exact OpW.callV k1 (Evs.cons rfl Evs.nil))) | refine goR ?_ | refine goP ?_ | apply PSeq.cons | apply PSeq.yes rfl rfl rfl | exact goW | fail)
      all_goals first | (exfalso; omega) | refine Fin.ret (Ent.take goTk) (Outs.many rfl (OutL.cons goOe (OutL.cons goOe OutL.nil)) rfl) ⟨rfl, rfl⟩
    · rw [show outB wt wf 5761440 = true by simp [outB]; omega] at k3
      refine PFn.mk (Spec.body Tryz.func14 rfl rfl (Tryz.ntmps14) rfl fun w0 own0 M => ?_)
      repeat' (first | refine goH ?_ | refine goV ?_ | refine goB (fun b => ?_) | refine goG ?_ | (refine Ops.k_guard ?_; first | (refine Ops.guard_dec rfl rfl (fun hc => ?_) (fun hc => ?_) <;> try (exfalso; omega)) | refine Ops.guard_split rfl rfl (fun hc => ?_) (fun hc => ?_)) | refine goI ?_ | (refine Cw.k_cond ?_; first | (refine Cw.cond_dec rfl (fun hc => ?_) (fun hc => ?_) <;> try (exfalso; omega)) | refine Cw.cond_bool rfl (fun hc => ?_) (fun hc => ?_)) | (refine Ops.k_calla ?_; first | (refine Ops.k_callf 10 ?_; refine Ops.callV k1 (Evs.cons rfl Evs.nil) rfl ?_) | (refine Ops.k_callf 37 ?_; (refine Ops.call k2 (Evs.cons rfl (Evs.cons rfl Evs.nil)) goPm rfl ?_; rintro r cs' ⟨rfl, rfl⟩)) | (refine Ops.k_callf 38 ?_; refine Ops.callV k3 (Evs.cons rfl (Evs.cons rfl (Evs.cons rfl Evs.nil))) rfl ?_)) | (apply OpW.k_call; first | (apply OpW.k_callf 10; exact OpW.callV k1 (Evs.cons rfl Evs.nil)) | (apply OpW.k_callf 38; exact OpW.callV k3 (Evs.cons rfl (Evs.cons rfl (Evs.cons rfl Evs.nil))))) | refine goR ?_ | refine goP ?_ | apply PSeq.cons | apply PSeq.yes rfl rfl rfl | exact goW | fail)
      all_goals first | (exfalso; omega) | refine Fin.ret (Ent.take goTk) (Outs.many rfl (OutL.cons goOe (OutL.cons goOe OutL.nil)) rfl) ⟨rfl, rfl⟩
end Lg
end
section
set_option linter.all false
set_option maxRecDepth 100000
set_option maxHeartbeats 8000000
namespace Lg
open Go Go.Proofs

theorem down_ok (l : List Cd) (hl : l.length ≤ 100) (hE : codesE l = 0) (codes : List ByteArray) (hc : codes.length ≤ 50) (h2 : (codes.any fun c => !isKey c) = false) (w : Wn) (hw : 0 ≤ w.fr ∧ w.fr ≤ w.to ∧ w.to ≤ 5761440) : PFn Tryz.prog 14 [.cds l, .strs codes, .agg w.row] (· = .tup [.int (sumQ ((whenW (momL l) (anyOn l codes)).map (ovW w))), .int 0]) := by
  have k1 := checkCodes_fn l (by omega)
  have hCl := strRows_len codes
  have hok := (codes_ok hE).2
  rw [hE] at k1
  have k2 := containsFunc_str (l := codes) (p := fun c => !isKey c) (g := 42) (caps := []) (cin := []) (by omega) (fun y _ => (oddD_fn y).lend)
  rw [show (codes.map fun x => [Tr.str x]) = strRows codes from rfl] at k2
  rw [h2] at k2
  have k3 := out_fn w.to w.fr 5761440
  rw [show outB w.to w.fr 5761440 = false by simp [outB]; omega] at k3
  have k4 := someOnV_fn l hl hok codes (by omega)
  obtain ⟨hcan, hA, hAl⟩ := anyWhen hok codes
  generalize whenW (momL l) (anyOn l codes) = A at *
  have k5 := bothV_fn A [w] (by omega) (by simp)
  rw [← both_len hcan]
  have hBs : (bothW A [w]).length ≤ 103 ∧ ∀ x ∈ bothW A [w], 0 ≤ x.fr ∧ x.fr < x.to ∧ x.to ≤ 5761440 := by
    by_cases hwe : w.fr < w.to
    · have hcw : Can [w] := can_snoc.2 ⟨Can.nil, hwe, fun x h => (by cases h)⟩
      obtain ⟨g1, g2, g3⟩ := bothW_ok hcan hcw
      refine ⟨by simp at g3; omega, fun x hx => ?_⟩
      have hne := g1.ne x hx
      obtain ⟨y, hy, e1, e2⟩ := ((g2 x.fr).1 ⟨x, hx, Int.le_refl _, hne⟩).1
      obtain ⟨z, hz, e3, e4⟩ := ((g2 (x.to - 1)).1 ⟨x, hx, by omega, by omega⟩).1
      have h5 := hA y hy
      have h6 := hA z hz
      omega
    · have hemp : ∀ L : List Wn, bothW L [w] = [] := by
        intro L
        induction L with
        | nil => exact bothW_nil_l _
        | cons a L ih =>
          rw [bothW_cons, if_neg (by omega), List.nil_append, ih, bothW_nil_r]
          split <;> rfl
      rw [hemp]
      exact ⟨by simp, fun x hx => (by cases hx)⟩
  obtain ⟨hBl, hB⟩ := hBs
  generalize bothW A [w] = B at *
  have hBL : (B.map Wn.row).length = B.length := List.length_map _
  have hb := fun k => sumQ_bdN (L := lenW B) (B := 5761440) (fun x hx => by
    unfold lenW at hx
    obtain ⟨y, hy, rfl⟩ := List.mem_map.1 hx
    have h1 := hB y hy
    omega) (by omega) k
  have hql : (lenW B).length = B.length := List.length_map _
  rw [hql] at hb
  obtain ⟨wf, wt⟩ := w
  change PFn Tryz.prog 43 [Tr.sl 2 (A.map Wn.row), Tr.sl 2 [[Tr.int wf, Tr.int wt]]] (· = .sl 2 (B.map Wn.row)) at k5
  change PFn Tryz.prog 14 [.cds l, .strs codes, .agg [.int wf, .int wt]] (· = .tup [.int (sumQ (lenW B)), .int 0])
  simp only at hw k3
  clear hE hA hAl hcan h2 hok
  refine PFn.mk (Spec.body Tryz.func14 rfl rfl (Tryz.ntmps14) rfl fun w0 own0 M => ?_)
  repeat' (first | refine goH ?_ | refine goV ?_ | refine goB (fun b => ?_) | refine goG ?_ | (refine Ops.k_guard ?_; first | (refine Ops.guard_dec rfl rfl (fun hc => ?_) (fun hc => ?_) <;> try (exfalso; omega)) | refine Ops.guard_split rfl rfl (fun hc => ?_) (fun hc => ?_)) | refine goI ?_ | (refine Cw.k_cond ?_; first | (refine Cw.cond_dec rfl (fun hc => ?_) (fun hc => ?_) <;> try (exfalso; omega)) | refine Cw.cond_bool rfl (fun hc => ?_) (fun hc => ?_)) | (refine Ops.k_calla ?_; first | (refine Ops.k_callf 10 ?_; refine Ops.callV k1 (Evs.cons rfl Evs.nil) rfl ?_) | (refine Ops.k_callf 37 ?_; (refine Ops.call k2 (Evs.cons rfl (Evs.cons rfl Evs.nil)) goPm rfl ?_; rintro r cs' ⟨rfl, rfl⟩)) | (refine Ops.k_callf 38 ?_; refine Ops.callV k3 (Evs.cons rfl (Evs.cons rfl (Evs.cons rfl Evs.nil))) rfl ?_) | (refine Ops.k_callf 44 ?_; refine Ops.callV k4 (Evs.cons rfl (Evs.cons rfl Evs.nil)) rfl ?_) | (refine Ops.k_callf 43 ?_; refine Ops.callV k5 (Evs.cons rfl (Evs.cons rfl Evs.nil)) rfl ?_)) | (apply OpW.k_call; first | (apply OpW.k_callf 10; exact OpW.callV k1 (Evs.cons rfl Evs.nil)) | (apply OpW.k_callf 38; exact OpW.callV k3 (Evs.cons rfl (Evs.cons rfl (Evs.cons rfl Evs.nil)))) | (apply OpW.k_callf 44; exact OpW.callV k4 (Evs.cons rfl (Evs.cons rfl Evs.nil))) | (apply OpW.k_callf 43; exact OpW.callV k5 (Evs.cons rfl (Evs.cons rfl Evs.nil)))) | refine goR ?_ | refine goP ?_ | apply PSeq.cons | apply PSeq.yes rfl rfl rfl | exact goW | fail)
  all_goals try (exfalso; omega)
  refine Cw.loopI [(37, _), (38, _)] _ (fun q e c => ∃ (k : Nat) (z : Int), q = B.length - k ∧ (k ≤ B.length ∧ z = sumQ ((lenW B).take k)) ∧ e = [(9, .int z), (39, .int k)] ∧ c = [])
    ⟨_, _, _, (Ent.mkP goSub goPm), 0, 0, rfl, ⟨by omega, rfl⟩, rfl, rfl⟩ ?_
  rintro _ _ _ ⟨k, z, rfl, ⟨hk, hz⟩, rfl, rfl⟩
  by_cases hkl : k < B.length
  · obtain ⟨x, hx⟩ := at_lt hkl
    have hrow : (B.map Wn.row)[k]? = some [.int x.fr, .int x.to] := rows_at hx
    have hxb := hB x (List.mem_of_getElem? hx)
    have hmx : (lenW B)[k]? = some (x.to - x.fr) := by unfold lenW; rw [List.getElem?_map, hx]; rfl
    have hn := sumQ_take hmx
    have hbk := hb k
    rw [← hz] at hn hbk
    obtain ⟨xf, xt⟩ := x
    simp only at hrow hxb hn
    clear hx hz hmx
    repeat' (first | refine goH ?_ | refine goV ?_ | refine goB (fun b => ?_) | refine goG ?_ | (refine Ops.k_guard ?_; first | (refine Ops.guard_dec rfl rfl (fun hc => ?_) (fun hc => ?_) <;> try (exfalso; omega)) | refine Ops.guard_split rfl rfl (fun hc => ?_) (fun hc => ?_)) | refine goI ?_ | (refine Cw.k_cond ?_; first | (refine Cw.cond_dec rfl (fun hc => ?_) (fun hc => ?_) <;> try (exfalso; omega)) | refine Cw.cond_bool rfl (fun hc => ?_) (fun hc => ?_)) | refine goR ?_ | refine goP ?_ | apply PSeq.cons | apply PSeq.yes rfl rfl rfl | exact goW | fail)
    exact ⟨_, _, _, (Ent.mk goSub goTk), ⟨k + 1, _, rfl, ⟨by omega, hn.symm⟩, rfl, rfl⟩, by omega⟩
  · rw [List.take_of_length_le (by omega)] at hz
    rw [← hz]
    repeat' (first | refine goH ?_ | refine goV ?_ | refine goB (fun b => ?_) | refine goG ?_ | (refine Ops.k_guard ?_; first | (refine Ops.guard_dec rfl rfl (fun hc => ?_) (fun hc => ?_) <;> try (exfalso; omega)) | refine Ops.guard_split rfl rfl (fun hc => ?_) (fun hc => ?_)) | refine goI ?_ | (refine Cw.k_cond ?_; first | (refine Cw.cond_dec rfl (fun hc => ?_) (fun hc => ?_) <;> try (exfalso; omega)) | refine Cw.cond_bool rfl (fun hc => ?_) (fun hc => ?_)) | refine goR ?_ | refine goP ?_ | apply PSeq.cons | apply PSeq.yes rfl rfl rfl | exact goW | fail)
    refine Fin.ret (Ent.take goTk) (Outs.many rfl (OutL.cons goOe (OutL.cons goOe OutL.nil)) rfl) ⟨rfl, rfl⟩
end Lg
end
