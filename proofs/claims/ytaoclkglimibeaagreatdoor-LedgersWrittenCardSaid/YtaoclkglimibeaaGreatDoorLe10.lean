/- A part of the proof of a law of this seat: it adds no condition. By an AI agent. -/
import Derived.Lib.ItoaLen
import Derived.Shelf.Strconv.Itoa3
import Derived.Test.YtaoclkglimibeaaGreatDoorLe9
section
set_option linter.all false
set_option maxRecDepth 100000
set_option maxHeartbeats 8000000
namespace Lg
open Go Go.Proofs

def idxN : List Int → Int → Nat
  | [], _ => 0
  | x :: l, v => if x = v then 0 else idxN l v + 1
theorem idxN_no {l : List Int} {k : Nat} {x v : Int} (h : l[k]? = some x) (hx : x ≠ v) : k + idxN (l.drop k) v = (k + 1) + idxN (l.drop (k + 1)) v := by
  rw [drop_at h, idxN, if_neg hx]
  omega
theorem idxN_yes {l : List Int} {k : Nat} {v : Int} (h : l[k]? = some v) : k + idxN (l.drop k) v = k := by
  rw [drop_at h, idxN, if_pos rfl]
  omega
theorem idxN_lt : ∀ {l : List Int} {v : Int}, v ∈ l → idxN l v < l.length
  | x :: l, v, h => by
    rw [idxN]
    by_cases hx : x = v
    · rw [if_pos hx]; simp
    · rw [if_neg hx]
      rcases List.mem_cons.1 h with e | h
      · exact absurd e.symm hx
      · have := idxN_lt h
        simp
        omega
attribute [local irreducible] intRows
theorem index_fn (l : List Int) (v : Int) (hv : v ∈ l) (hl : l.length ≤ 1000000) : PFn Tryz.prog 83 [.ints l, .int v] (· = .int (idxN l v)) := by
  have hL := intRows_len l
  have hlt := idxN_lt hv
  refine PFn.mk (Spec.body Tryz.func83 rfl rfl (Tryz.ntmps83) rfl fun w0 own0 M => ?_)
  repeat' (first | refine goH ?_ | refine goV ?_ | refine goI ?_ | (refine Cw.k_cond ?_; first | (refine Cw.cond_dec rfl (fun hc => ?_) (fun hc => ?_) <;> try (exfalso; omega)) | refine Cw.cond_bool rfl (fun hc => ?_) (fun hc => ?_)) | fail)
  refine Cw.loopI [(0, _), (1, _), (7, _)] _ (fun q e cc => ∃ (k : Nat), q = l.length - k ∧ (k ≤ l.length ∧ idxN l v = k + idxN (l.drop k) v) ∧ e = [(8, .int k)] ∧ cc = []) ⟨_, _, _, (Ent.mkP goSub goPm), 0, rfl, ⟨by omega, by rw [List.drop_zero]; omega⟩, rfl, rfl⟩ ?_
  rintro _ _ _ ⟨k, rfl, ⟨hk, hV⟩, rfl, rfl⟩
  by_cases hkl : k < l.length
  · obtain ⟨y, hy⟩ := at_lt hkl
    have r1 := intRows_at hy
    by_cases hyv : v = y
    · subst hyv
      have hV2 := hV.trans (idxN_yes hy)
      rw [hV2]
      clear hV hy hV2
      repeat' (first | refine goH ?_ | refine goV ?_ | refine goI ?_ | (refine Cw.k_cond ?_; first | (refine Cw.cond_dec rfl (fun hc => ?_) (fun hc => ?_) <;> try (exfalso; omega)) | refine Cw.cond_bool rfl (fun hc => ?_) (fun hc => ?_)) | fail)
      exact Fin.ret (Ent.take goTk) (Outs.one rfl rfl) ⟨rfl, rfl⟩
    · have hV2 := hV.trans (idxN_no hy (fun e => hyv e.symm))
      clear hV hy
      repeat' (first | refine goH ?_ | refine goV ?_ | refine goI ?_ | (refine Cw.k_cond ?_; first | (refine Cw.cond_dec rfl (fun hc => ?_) (fun hc => ?_) <;> try (exfalso; omega)) | refine Cw.cond_bool rfl (fun hc => ?_) (fun hc => ?_)) | fail)
      exact ⟨_, _, _, (Ent.mk goSub goTk), ⟨k + 1, rfl, ⟨by omega, hV2⟩, rfl, rfl⟩, by omega⟩
  · exfalso
    omega
theorem indexN_fn (l : List Int) (v : Int) (hv : v ∉ l) (hl : l.length ≤ 1000000) : PFn Tryz.prog 83 [.ints l, .int v] (· = .int (-1)) := by
  have hL := intRows_len l
  refine PFn.mk (Spec.body Tryz.func83 rfl rfl (Tryz.ntmps83) rfl fun w0 own0 M => ?_)
  repeat' (first | refine goH ?_ | refine goV ?_ | refine goI ?_ | (refine Cw.k_cond ?_; first | (refine Cw.cond_dec rfl (fun hc => ?_) (fun hc => ?_) <;> try (exfalso; omega)) | refine Cw.cond_bool rfl (fun hc => ?_) (fun hc => ?_)) | fail)
  refine Cw.loopI [(0, _), (1, _), (7, _)] _ (fun q e cc => ∃ (k : Nat), q = l.length - k ∧ k ≤ l.length ∧ e = [(8, .int k)] ∧ cc = []) ⟨_, _, _, (Ent.mkP goSub goPm), 0, rfl, by omega, rfl, rfl⟩ ?_
  rintro _ _ _ ⟨k, rfl, hk, rfl, rfl⟩
  by_cases hkl : k < l.length
  · obtain ⟨y, hy⟩ := at_lt hkl
    have r1 := intRows_at hy
    have hyv : v ≠ y := fun e => hv (by rw [e]; exact List.mem_of_getElem? hy)
    clear hy
    repeat' (first | refine goH ?_ | refine goV ?_ | refine goI ?_ | (refine Cw.k_cond ?_; first | (refine Cw.cond_dec rfl (fun hc => ?_) (fun hc => ?_) <;> try (exfalso; omega)) | refine Cw.cond_bool rfl (fun hc => ?_) (fun hc => ?_)) | fail)
    exact ⟨_, _, _, (Ent.mk goSub goTk), ⟨k + 1, rfl, by omega, rfl, rfl⟩, by omega⟩
  · repeat' (first | refine goH ?_ | refine goV ?_ | refine goI ?_ | (refine Cw.k_cond ?_; first | (refine Cw.cond_dec rfl (fun hc => ?_) (fun hc => ?_) <;> try (exfalso; omega)) | refine Cw.cond_bool rfl (fun hc => ?_) (fun hc => ?_)) | fail)
    exact Fin.ret (Ent.take goTk) (Outs.one rfl rfl) ⟨rfl, rfl⟩
theorem contains_fn (l : List Int) (v : Int) (hl : l.length ≤ 1000000) : PFn Tryz.prog 54 [.ints l, .int v] (· = .bool (decide (v ∈ l))) := by
  by_cases hv : v ∈ l
  · rw [decide_eq_true hv]
    have k1 := index_fn l v hv hl
    generalize idxN l v = i at *
    refine PFn.mk (Spec.body Tryz.func54 rfl rfl (Tryz.ntmps54) rfl fun w0 own0 M => ?_)
    repeat' (first | refine goH ?_ | refine goV ?_ | refine goI ?_ | (refine Cw.k_cond ?_; first | (refine Cw.cond_dec rfl (fun hc => ?_) (fun hc => ?_) <;> try (exfalso; omega)) | refine Cw.cond_bool rfl (fun hc => ?_) (fun hc => ?_)) | (refine Ops.k_calla ?_; first | (refine Ops.k_callf 83 ?_; refine Ops.callV k1 (Evs.cons rfl (Evs.cons rfl Evs.nil)) rfl ?_)) | fail)
    exact Fin.ret (Ent.take goTk) (Outs.one rfl rfl) ⟨rfl, congrArg Tr.bool (decide_eq_true (by omega))⟩
  · rw [decide_eq_false hv]
    have k1 := indexN_fn l v hv hl
    refine PFn.mk (Spec.body Tryz.func54 rfl rfl (Tryz.ntmps54) rfl fun w0 own0 M => ?_)
    repeat' (first | refine goH ?_ | refine goV ?_ | refine goI ?_ | (refine Cw.k_cond ?_; first | (refine Cw.cond_dec rfl (fun hc => ?_) (fun hc => ?_) <;> try (exfalso; omega)) | refine Cw.cond_bool rfl (fun hc => ?_) (fun hc => ?_)) | (refine Ops.k_calla ?_; first | (refine Ops.k_callf 83 ?_; refine Ops.callV k1 (Evs.cons rfl (Evs.cons rfl Evs.nil)) rfl ?_)) | fail)
    exact Fin.ret (Ent.take goTk) (Outs.one rfl rfl) ⟨rfl, congrArg Tr.bool (decide_eq_false (by omega))⟩
end Lg
end
section
set_option linter.all false
set_option maxRecDepth 100000
set_option maxHeartbeats 8000000
namespace Lg
open Go Go.Proofs

/-! ### Post -/
def itoaK (n : Int) : ByteArray := mkB (Lib.itoa n)
theorem itoaK_size {x : Int} (h0 : -9223372036854775808 ≤ x) (h1 : x ≤ 9223372036854775807) : (itoaK x).size ≤ 21 := Lib.itoa_length_le x h0 h1
theorem itoaK_fn (n : Int) (h0 : -9223372036854775808 ≤ n) (h1 : n ≤ 9223372036854775807) : Spec Tryz.prog 32 [.int n] [bkC] (fun r cs => r = .str (itoaK n) ∧ cs = [bkC]) := by
  refine Spec.of_vars (args := [.int .i64 n]) (post := (· = .str (itoaK n))) (fun vs w => rfl) (fun w hv => ?_)
  have ht : Lib.TabIs Tryz.prog w "internal/strconv.uint64pow10" .u64 Lib.pow10Tab := by
    obtain ⟨a, h1, h2⟩ := hv _ bk_pow
    unfold Lib.TabIs
    rw [h1]
    exact congrArg some h2
  refine (Any.strconv_Itoa Tryz.lays171 n h0 h1 w ht).mono ?_
  rintro e w' ⟨rfl, q, os, rfl⟩
  refine ⟨_, _, rfl, rfl, fun _ _ => raw_self _, ?_, fun _ => by unfold Sort.grow World.drewN; simp⟩
  refine ⟨rfl, rfl, rfl, by unfold Sort.grow World.drewN; simp, fun b hb => ?_⟩
  unfold Sort.grow World.drewN
  simp only
  rw [Array.getElem?_append, if_pos hb]
def flgO (L : List Ps) (j : Nat) : Bool := L.any fun q => decide (q.back = (j : Int) + 1)
/-- what holds of a ledger's entries -/
structure LSt (L : List Ps) : Prop where
  ok : OkL L
  ky : ∀ p ∈ L, ∀ x ∈ p.e.ls, isKey x.acc = true
  bk : ∀ p ∈ L, 0 ≤ p.back ∧ p.back ≤ (L.length : Int)
  dy : ∀ p ∈ L, 0 ≤ p.e.day ∧ p.e.day ≤ 4000
  tx : ∀ p ∈ L, p.e.text.size ≤ 60
theorem LSt.nil : LSt [] := ⟨⟨by simp, by simp⟩, by simp, by simp, by simp, by simp⟩
theorem LSt.snoc {L : List Ps} (h : LSt L) {p : Ps} (hl : L.length < 2000) (hp : OkP p) (hk : ∀ x ∈ p.e.ls, isKey x.acc = true) (hb : 0 ≤ p.back ∧ p.back ≤ (L.length : Int)) (hd : 0 ≤ p.e.day ∧ p.e.day ≤ 4000) (ht : p.e.text.size ≤ 60) : LSt (L ++ [p]) := by
  have all : ∀ {q : Ps → Prop}, (∀ x ∈ L, q x) → q p → ∀ x ∈ L ++ [p], q x := fun h1 h2 x hx => by
    rcases List.mem_append.1 hx with h | h
    · exact h1 x h
    · rw [List.mem_singleton.1 h]; exact h2
  have hn : ((L ++ [p]).length : Int) = L.length + 1 := by rw [List.length_append]; rfl
  refine ⟨⟨by rw [List.length_append]; simp only [List.length_cons, List.length_nil]; omega, all h.ok.2 hp⟩, all h.ky hk, ?_, all h.dy hd, all h.tx ht⟩
  rw [hn]
  exact all (fun x hx => by have := h.bk x hx; omega) (by omega)
theorem LSt.new {L : List Ps} (h : LSt L) : flgO L L.length = false := by
  unfold flgO
  rw [List.any_eq_false]
  intro q hq
  have := (h.bk q hq).2
  simp only [decide_eq_true_eq]
  omega
theorem flgO_snoc (L : List Ps) (p : Ps) (j : Nat) : flgO (L ++ [p]) j = (flgO L j || decide (p.back = (j : Int) + 1)) := by
  unfold flgO
  rw [List.any_append]
  simp
structure EnOk (e : En) : Prop where
  len : e.ls.length ≤ 20
  line : ∀ x ∈ e.ls, isKey x.acc = true ∧ -1000000000 ≤ x.c ∧ x.c ≤ 1000000000
  day : 0 ≤ e.day ∧ e.day ≤ 4000
  text : e.text.size ≤ 60
theorem ent_ok {e : En} (h : entS e = 0) : EnOk e := by
  rw [entS_eq] at h
  split at h
  · cases h
  rename_i h1
  split at h
  · cases h
  rename_i h2
  split at h
  · cases h
  split at h
  · cases h
  rename_i h4
  unfold linK at h
  split at h
  · rename_i h5; exact absurd h h5
  rename_i h5
  refine ⟨by omega, fun x hx => ?_, ?_, ?_⟩
  · obtain ⟨k, hk, he⟩ := List.getElem_of_mem hx
    have h6 := firstE_zero (by omega : firstE (lnE e.ls) 0 (e.ls.length - 0) = 0) k (by omega) (by omega)
    have hxk : e.ls[k]? = some x := by rw [List.getElem?_eq_getElem hk, he]
    unfold lnE at h6
    rw [hxk] at h6
    simp only at h6
    unfold lnX at h6
    split at h6
    · cases h6
    rename_i h7
    split at h6
    · cases h6
    split at h6
    · cases h6
    rename_i h8
    refine ⟨by cases hq : isKey x.acc; exact absurd hq h7; rfl, by omega, by omega⟩
  · have : ¬ dayB e.day = false := h1
    unfold dayB outB at this
    simp only [Bool.not_eq_false', decide_eq_true_eq] at this
    omega
  · by_cases h9 : e.text.size < 1 ∨ 60 < e.text.size
    · exact absurd (.inl h9) h2
    · omega
def earl (L : List Ps) (e : En) : Bool := (L.getLast?).any fun q => decide (e.day < q.e.day)
abbrev pstR (L : List Ps) (e : En) : List Ps × Int × Int := pstO 2000 plS L e
theorem pstR_bad {L : List Ps} {e : En} (h : entS e ≠ 0) : pstR L e = (L, 0, entS e) := by unfold pstR pstO; exact if_pos h
theorem pstR_early {L : List Ps} {e : En} (h : entS e = 0) (h2 : earl L e = true) : pstR L e = (L, 0, 7) := by unfold pstR pstO; exact (if_neg (fun e => e h)).trans (if_pos h2)
theorem pstR_ok {L : List Ps} {e : En} (h : entS e = 0) (h2 : earl L e = false) : pstR L e = addR L ⟨e, 0⟩ := by unfold pstR pstO; exact (if_neg (fun e => e h)).trans (if_neg (by unfold earl at h2; rw [h2]; decide))
theorem addR_st {L : List Ps} (h : LSt L) {p : Ps} (hp : OkP p) (hk : ∀ x ∈ p.e.ls, isKey x.acc = true) (hb : 0 ≤ p.back ∧ p.back ≤ (L.length : Int)) (hd : 0 ≤ p.e.day ∧ p.e.day ≤ 4000) (ht : p.e.text.size ≤ 60) : LSt (addR L p).1 := by
  by_cases hf : L.length = 2000
  · rw [addR_full hf]; exact h
  cases ho : p.e.ls.any (ovL L)
  · rw [addR_ok hf ho]
    exact h.snoc (by have := h.ok.1; omega) hp hk hb hd ht
  · rw [addR_ov hf ho]; exact h
def resR (x : List Ps × Int × Int) : Tr := .tup [.int x.2.1, .int x.2.2]
theorem last_none {L : List Ps} {e : En} (h : L.length = 0) : earl L e = false := by
  obtain rfl := List.eq_nil_of_length_eq_zero h
  rfl
theorem last_some {L : List Ps} {e : En} {q : Ps} (h : L[L.length - 1]? = some q) : earl L e = decide (e.day < q.e.day) := by
  unfold earl
  rw [List.getLast?_eq_getElem?, h]
  rfl
attribute [local irreducible] entS plS dayB flgO itoaK
theorem postX_fn (bx n cap bm : Nat) (ad : Option Addr) (L : List Ps) (m : List (ByteArray × Int)) (e : En) (hs : LSt L) (hm : MI m L) (hn : n = L.length) (ht : e.text.size ≤ 1000000000) (hl : e.ls.length ≤ 1000000) :
    Spec Tryz.prog 23 [.ptr bx, .agg e.row] [bkC, ledX bx ad n cap bm, ownX ad cap (flgO L) L, sumC' bm m]
      (fun r cs => ∃ (ad' : Option Addr) (n' cap' : Nat) (m' : List (ByteArray × Int)), r = resR (pstR L e) ∧ LSt (pstR L e).1 ∧ MI m' (pstR L e).1 ∧ n' = (pstR L e).1.length ∧ cs = [bkC, ledX bx ad' n' cap' bm, ownX ad' cap' (flgO (pstR L e).1) (pstR L e).1, sumC' bm m']) := by
  have kc := checkEntry_fn e ht (by omega)
  have hL : (rowsF (flgO L) L 0).length = n := by rw [rowsF_len, hn]
  have hLl := hs.ok.1
  have hlr : (e.ls.map Ln.row).length = e.ls.length := List.length_map _
  have hkc := (clone_lne (e.ls.map Ln.row) (fun r hr => by obtain ⟨x, _, rfl⟩ := List.mem_map.1 hr; rfl) (by rw [hlr]; omega)).val
  have hst : e.row = [.int e.day, .str e.text, .lns e.ls] := rfl
  rw [hst] at kc ⊢
  refine Spec.body Tryz.func23 rfl rfl (Tryz.ntmps23) rfl fun w0 own0 M => ?_
  unfold resR
  by_cases he : entS e ≠ 0
  · rw [pstR_bad he]
    generalize entS e = E at *
    repeat' (first | refine goH ?_ | refine goV ?_ | refine goB (fun b => ?_) | refine goG ?_ | (refine Ops.k_guard ?_; first | (refine Ops.guard_dec rfl rfl (fun hc => ?_) (fun hc => ?_) <;> try (exfalso; omega)) | refine Ops.guard_split rfl rfl (fun hc => ?_) (fun hc => ?_)) | refine goI ?_ | (refine Cw.k_cond ?_; first | (refine Cw.cond_dec rfl (fun hc => ?_) (fun hc => ?_) <;> try (exfalso; omega)) | refine Cw.cond_bool rfl (fun hc => ?_) (fun hc => ?_)) | (refine Ops.k_calla ?_; first | (refine Ops.k_callf 51 ?_; refine Ops.callS kc (Evs.cons rfl Evs.nil) goPm rfl ?_)) | (apply OpW.k_call; first | (apply OpW.k_callf 51; exact OpW.callS kc (Evs.cons rfl Evs.nil) goPm)) | refine goR ?_ | refine goP ?_ | apply PSeq.cons | apply PSeq.yes rfl rfl rfl | exact goW | fail)
    exact Fin.ret (Ent.take goTk) (Outs.many rfl (OutL.cons goOe (OutL.cons goOe OutL.nil)) rfl) ⟨ad, n, cap, m, rfl, hs, hm, hn, rfl⟩
  have he0 : entS e = 0 := by omega
  rw [he0] at kc
  have ho := ent_ok he0
  have hadd : earl L e = false → Spec Tryz.prog 50 [.ptr bx, .agg [.int e.day, .str e.text, .lns e.ls, .int 0, .bool false]] [ledX bx ad n cap bm, ownX ad cap (flgO L) L, sumC' bm m]
      (fun r cs => ∃ (ad' : Option Addr) (n' cap' : Nat) (m' : List (ByteArray × Int)), r = .tup [.int (pstR L e).2.1, .int (pstR L e).2.2] ∧ LSt (pstR L e).1 ∧ MI m' (pstR L e).1 ∧ n' = (pstR L e).1.length ∧ cs = [ledX bx ad' n' cap' bm, ownX ad' cap' (flgO (pstR L e).1) (pstR L e).1, sumC' bm m']) := fun hea => by
    have h1 := addX_fn bx n cap bm ad (flgO L) L m ⟨e, 0⟩ hs.ok ⟨ho.len, fun x hx => (ho.line x hx).2⟩ hm hn (by rw [hn]; exact hs.new)
    have h2 := addR_st hs (p := ⟨e, 0⟩) ⟨ho.len, fun x hx => (ho.line x hx).2⟩ (fun x hx => (ho.line x hx).1) ⟨by simp, by simp⟩ ho.day ho.text
    have h3 : rowsF (flgO L) (addR L ⟨e, 0⟩).1 0 = rowsF (flgO (addR L ⟨e, 0⟩).1) (addR L ⟨e, 0⟩).1 0 := by
      by_cases hf : L.length = 2000
      · rw [addR_full hf]
      cases hov : e.ls.any (ovL L)
      · rw [addR_ok hf hov]
        refine rowsF_congr fun j _ _ => ?_
        rw [flgO_snoc, decide_eq_false (by simp only; omega), Bool.or_false]
      · rw [addR_ov hf hov]
    rw [pstR_ok he0 hea]
    refine Spec.mono h1 ?_
    rintro r cs ⟨ad', n', cap', m', rfl, hm', hn', rfl⟩
    exact ⟨ad', n', cap', m', rfl, h2, hm', hn', by unfold ownX; rw [h3]⟩
  have hear : earl L e = true → pstR L e = (L, 0, 7) := fun h => pstR_early he0 h
  by_cases hn0 : n = 0
  · have hadd := hadd (last_none (by omega))
    clear hear
    generalize pstR L e = R at *
    repeat' (first | refine goH ?_ | refine goV ?_ | refine goB (fun b => ?_) | refine goG ?_ | (refine Ops.k_guard ?_; first | (refine Ops.guard_dec rfl rfl (fun hc => ?_) (fun hc => ?_) <;> try (exfalso; omega)) | refine Ops.guard_split rfl rfl (fun hc => ?_) (fun hc => ?_)) | refine goI ?_ | (refine Cw.k_cond ?_; first | (refine Cw.cond_dec rfl (fun hc => ?_) (fun hc => ?_) <;> try (exfalso; omega)) | refine Cw.cond_bool rfl (fun hc => ?_) (fun hc => ?_)) | (refine Ops.k_calla ?_; first | (refine Ops.k_callf 51 ?_; refine Ops.callS kc (Evs.cons rfl Evs.nil) goPm rfl ?_) | (refine Ops.k_callf 52 ?_; refine Ops.callV hkc (Evs.cons rfl Evs.nil) rfl ?_) | (refine Ops.k_callf 50 ?_; (refine Ops.call hadd (Evs.cons rfl (Evs.cons rfl Evs.nil)) goPm rfl ?_; rintro r cs' ⟨ad', n', cap', m', rfl, hs', hm', hn', rfl⟩))) | (apply OpW.k_call; first | (apply OpW.k_callf 51; exact OpW.callS kc (Evs.cons rfl Evs.nil) goPm) | (apply OpW.k_callf 52; exact OpW.callV hkc (Evs.cons rfl Evs.nil))) | refine goR ?_ | refine goP ?_ | apply PSeq.cons | apply PSeq.yes rfl rfl rfl | exact goW | fail)
    exact Fin.ret (Ent.take goTk) (Outs.many rfl (OutL.cons goOe (OutL.cons goOe OutL.nil)) rfl) ⟨ad', n', cap', m', rfl, hs', hm', hn', rfl⟩
  obtain ⟨q, hq⟩ := at_lt (l := L) (k := n - 1) (by omega)
  have hrow : (rowsF (flgO L) L 0)[((n : Int) - 1).toNat]? = some [.int q.e.day, .str q.e.text, .lns q.e.ls, .int q.back, .bool (flgO L (0 + (n - 1)))] := by
    rw [show ((n : Int) - 1).toNat = n - 1 by omega]
    exact rowsF_at (flgO L) hq
  have hl2 := last_some (e := e) (L := L) (q := q) (by rw [← hn]; exact hq)
  rw [hl2] at hadd hear
  clear hl2 hq
  by_cases hday : e.day < q.e.day
  · rw [hear (decide_eq_true hday)]
    clear hear hadd
    repeat' (first | refine goH ?_ | refine goV ?_ | refine goB (fun b => ?_) | refine goG ?_ | (refine Ops.k_guard ?_; first | (refine Ops.guard_dec rfl rfl (fun hc => ?_) (fun hc => ?_) <;> try (exfalso; omega)) | refine Ops.guard_split rfl rfl (fun hc => ?_) (fun hc => ?_)) | refine goI ?_ | (refine Cw.k_cond ?_; first | (refine Cw.cond_dec rfl (fun hc => ?_) (fun hc => ?_) <;> try (exfalso; omega)) | refine Cw.cond_bool rfl (fun hc => ?_) (fun hc => ?_)) | (refine Ops.k_calla ?_; first | (refine Ops.k_callf 51 ?_; refine Ops.callS kc (Evs.cons rfl Evs.nil) goPm rfl ?_)) | (apply OpW.k_call; first | (apply OpW.k_callf 51; exact OpW.callS kc (Evs.cons rfl Evs.nil) goPm)) | refine goR ?_ | refine goP ?_ | apply PSeq.cons | apply PSeq.yes rfl rfl rfl | exact goW | fail)
    exact Fin.ret (Ent.take goTk) (Outs.many rfl (OutL.cons goOe (OutL.cons goOe OutL.nil)) rfl) ⟨ad, n, cap, m, rfl, hs, hm, hn, rfl⟩
  · have hadd := hadd (decide_eq_false hday)
    clear hear
    generalize pstR L e = R at *
    repeat' (first | refine goH ?_ | refine goV ?_ | refine goB (fun b => ?_) | refine goG ?_ | (refine Ops.k_guard ?_; first | (refine Ops.guard_dec rfl rfl (fun hc => ?_) (fun hc => ?_) <;> try (exfalso; omega)) | refine Ops.guard_split rfl rfl (fun hc => ?_) (fun hc => ?_)) | refine goI ?_ | (refine Cw.k_cond ?_; first | (refine Cw.cond_dec rfl (fun hc => ?_) (fun hc => ?_) <;> try (exfalso; omega)) | refine Cw.cond_bool rfl (fun hc => ?_) (fun hc => ?_)) | (refine Ops.k_calla ?_; first | (refine Ops.k_callf 51 ?_; refine Ops.callS kc (Evs.cons rfl Evs.nil) goPm rfl ?_) | (refine Ops.k_callf 52 ?_; refine Ops.callV hkc (Evs.cons rfl Evs.nil) rfl ?_) | (refine Ops.k_callf 50 ?_; (refine Ops.call hadd (Evs.cons rfl (Evs.cons rfl Evs.nil)) goPm rfl ?_; rintro r cs' ⟨ad', n', cap', m', rfl, hs', hm', hn', rfl⟩))) | (apply OpW.k_call; first | (apply OpW.k_callf 51; exact OpW.callS kc (Evs.cons rfl Evs.nil) goPm) | (apply OpW.k_callf 52; exact OpW.callV hkc (Evs.cons rfl Evs.nil))) | refine goR ?_ | refine goP ?_ | apply PSeq.cons | apply PSeq.yes rfl rfl rfl | exact goW | fail)
    exact Fin.ret (Ent.take goTk) (Outs.many rfl (OutL.cons goOe (OutL.cons goOe OutL.nil)) rfl) ⟨ad', n', cap', m', rfl, hs', hm', hn', rfl⟩
end Lg
end
