/- A part of the proof of a law of this seat: it adds no condition. By an AI agent. -/
import Derived.Test.YtaoclkglimibeaaGreatDoorLz5
section
set_option linter.all false
set_option maxRecDepth 100000
set_option maxHeartbeats 8000000
namespace Lg
open Go Go.Proofs

/-! ### head and readLine in plain terms -/
theorem canP_l : canP.data.toList = canL ++ [32] := rfl
theorem entP_l : entP.data.toList = entL ++ [32] := rfl
theorem numDV_t {n : Nat} {l : List UInt8} (h : okNum n l = true) : numDV n l = valNum l := by unfold numDV; rw [h, if_pos rfl]
theorem can_no : (32 : UInt8) ∉ canL := by decide
theorem ent_no : (32 : UInt8) ∉ entL := by decide
/-- what head says of the first line of an entry -/
def hdZ (d : Int) (x : ByteArray) (no : Int) (c ok : Bool) : Tr := .tup [.agg [.int d, .str x, Tr.raw (.slice none 0 0)], .int no, .bool c, .bool ok]
theorem hd_rel (s : ByteArray) : (hdL s.data.toList = none → ∃ d x no c, hdT s = hdZ d x no c false) ∧ ∀ h, hdL s.data.toList = some h → ∀ i, hdT s = hdZ (mkP i h).e.day (mkP i h).e.text (mkP i h).no (mkP i h).can true := by
  unfold hdT hpr
  rw [canP_l]
  have ht : ∀ p : ByteArray, (tpr s p).data.toList = Lib.trimPrefix s.data.toList p.data.toList := fun p => rfl
  cases hb : brk s.data.toList with
  | none =>
    have h1 : Lib.hasPrefix s.data.toList (canL ++ [32]) = false := by
      cases h : Lib.hasPrefix s.data.toList (canL ++ [32])
      · rfl
      · obtain ⟨r, e⟩ := (brk_pre can_no).1 h
        rw [hb] at e; cases e
    have h2 : Lib.hasPrefix s.data.toList (entL ++ [32]) = false := by
      cases h : Lib.hasPrefix s.data.toList (entL ++ [32])
      · rfl
      · obtain ⟨r, e⟩ := (brk_pre ent_no).1 h
        rw [hb] at e; cases e
    rw [h1, if_neg (by decide), entP_l, h2]
    unfold hdL
    rw [hb]
    refine ⟨fun _ => ⟨_, _, _, _, rfl⟩, fun h e => by cases e⟩
  | some p =>
    obtain ⟨a, b⟩ := p
    unfold hdL
    simp only [hb]
    by_cases ha : a = canL
    · subst ha
      have h1 := (brk_pre can_no).2 ⟨b, hb⟩
      have h2 := trim_pre can_no hb
      rw [h1, if_pos rfl, ht, canP_l, h2]
      simp only [if_pos]
      cases hk : okNum 10 b
      · refine ⟨fun _ => ⟨_, _, _, _, rfl⟩, fun h e => by simp at e⟩
      · refine ⟨fun e => by simp at e, fun h e i => ?_⟩
        simp only [if_true, Option.some.injEq] at e
        subst e
        rw [numDV_t hk]
        rfl
    · have h1 : Lib.hasPrefix s.data.toList (canL ++ [32]) = false := by
        cases h : Lib.hasPrefix s.data.toList (canL ++ [32])
        · rfl
        · obtain ⟨r, e⟩ := (brk_pre can_no).1 h
          rw [hb] at e; cases e; exact absurd rfl ha
      rw [h1]
      simp only [if_neg ha, Bool.false_eq_true, if_false]
      by_cases he : a = entL
      · subst he
        have h3 : Lib.hasPrefix s.data.toList [101, 110, 116, 114, 121, 32] = true := (brk_pre ent_no).2 ⟨b, hb⟩
        have h4 := trim_pre ent_no hb
        have h5 : tpr s entP = mkB b := by unfold tpr; rw [entP_l, h4]
        rw [h3, h5]
        simp only [if_pos]
        cases hb2 : brk b with
        | none =>
          have h6 := cut_none (s := mkB b) (by rw [mkB_list]; exact hb2)
          rw [h6]
          refine ⟨fun _ => ⟨_, _, _, _, rfl⟩, fun h e => by cases e⟩
        | some q =>
          obtain ⟨d, x⟩ := q
          have h6 := cut_some (s := mkB b) (by rw [mkB_list]; exact hb2)
          rw [h6]
          simp only [mkB_list]
          cases hk : okNum 10 d
          · refine ⟨fun _ => ⟨_, _, _, _, rfl⟩, fun h e => by simp at e⟩
          · refine ⟨fun e => by simp at e, fun h e i => ?_⟩
            simp only [if_true, Option.some.injEq] at e
            subst e
            rw [numDV_t hk]
            rfl
      · have h3 : Lib.hasPrefix s.data.toList [101, 110, 116, 114, 121, 32] = false := by
          show Lib.hasPrefix s.data.toList (entL ++ [32]) = false
          cases h : Lib.hasPrefix s.data.toList (entL ++ [32])
          · rfl
          · obtain ⟨r, e⟩ := (brk_pre ent_no).1 h
            rw [hb] at e; cases e; exact absurd rfl he
        rw [h3]
        simp only [if_neg he]
        refine ⟨fun _ => ⟨_, _, _, _, rfl⟩, fun h e => by cases e⟩
/-- what readLine says of a line -/
theorem rl_rel (l : List UInt8) : (lnL l = none → ∃ x v, rlT l = .tup [.agg [.str x, .int v], .bool false]) ∧ ∀ x, lnL l = some x → rlT l = .tup [.agg [.str x.acc, .int x.c], .bool true] := by
  unfold rlT lnL
  cases hb : brk l with
  | none => exact ⟨fun _ => ⟨_, _, rfl⟩, fun x e => by cases e⟩
  | some p =>
    obtain ⟨a, b⟩ := p
    simp only
    by_cases ha : a = []
    · rw [if_pos ha, if_neg (fun h => h.1 ha)]
      exact ⟨fun _ => ⟨_, _, rfl⟩, fun x e => by cases e⟩
    · rw [if_neg ha]
      cases hb2 : brk b with
      | none =>
        have hc : a ≠ [] ∧ (none : Option (List UInt8 × List UInt8)) = none := ⟨ha, rfl⟩
        rw [if_pos hc]
        cases hk : okNum 10 b
        · exact ⟨fun _ => ⟨_, _, rfl⟩, fun x e => by simp at e⟩
        · refine ⟨fun e => by simp at e, fun x e => ?_⟩
          simp only [if_true, Option.some.injEq] at e
          subst e
          rw [numDV_t hk]
      | some q =>
        have hc : ¬ (a ≠ [] ∧ some q = none) := fun h => by cases h.2
        rw [if_neg hc, okNum_brk hb2]
        exact ⟨fun _ => ⟨_, _, rfl⟩, fun x e => by simp at e⟩
theorem pre2_eq (s : ByteArray) : pre2 s = hpr s ⟨#[32, 32]⟩ := rfl
theorem tpr_pre2 {s : ByteArray} (h : pre2 s = true) : (tpr s ⟨#[32, 32]⟩).data.toList = s.data.toList.drop 2 := by
  rw [tpr_yes (by rw [← pre2_eq]; exact h), ext_drop]
  rfl
end Lg
end
section
set_option linter.all false
set_option maxRecDepth 100000
set_option maxHeartbeats 8000000
namespace Lg
open Go Go.Proofs
theorem newX_fn : Spec Tryz.prog 18 [] [] (fun r cs => ∃ b bm, r = .ptr b ∧ cs = [ledX b none 0 0 bm, sumC' bm []]) := by
  refine Spec.body Tryz.func18 rfl rfl (Tryz.ntmps18) rfl fun w0 own0 M => ?_
  repeat' (first | refine goH ?_ | (refine Ops.k_makeMap ?_; first | (refine Ops.makeMap Value.string rfl (fun bm => ?_))) | refine goV ?_ | refine goB (fun b => ?_) | refine goI ?_ | (refine Cw.k_cond ?_; first | (refine Cw.cond_dec rfl (fun hc => ?_) (fun hc => ?_) <;> try (exfalso; omega)) | refine Cw.cond_bool rfl (fun hc => ?_) (fun hc => ?_)) | fail)
  exact Fin.ret (Ent.take goTk) (Outs.one rfl rfl) ⟨_, _, rfl, rfl⟩
theorem newY_fn : Spec Tryz.prog 24 [] [] (fun r cs => ∃ b, r = .ptr b ∧ cs = [ledY b none 0 0 none 0 0]) := by
  refine Spec.body Tryz.func24 rfl rfl (Tryz.ntmps24) rfl fun w0 own0 M => ?_
  repeat' (first | refine goH ?_ | refine goV ?_ | refine goB (fun b => ?_) | refine goI ?_ | (refine Cw.k_cond ?_; first | (refine Cw.cond_dec rfl (fun hc => ?_) (fun hc => ?_) <;> try (exfalso; omega)) | refine Cw.cond_bool rfl (fun hc => ?_) (fun hc => ?_)) | fail)
  exact Fin.ret (Ent.take goTk) (Outs.one rfl rfl) ⟨_, rfl, rfl⟩
end Lg
end
section
set_option linter.all false
set_option maxRecDepth 100000
set_option maxHeartbeats 8000000
namespace Lg
open Go Go.Proofs

/-! ### Read -/
theorem lines_take {S : List ByteArray} (h : S ≠ []) : ∃ w, S[S.length - 1]? = some w ∧ S.getLast? = some w := by
  have hl := List.length_pos_iff.2 h
  obtain ⟨w, hw⟩ := at_lt (l := S) (k := S.length - 1) (by omega)
  exact ⟨w, hw, by rw [List.getLast?_eq_getElem?, hw]⟩
theorem strRows_drop (S : List ByteArray) : (strRows S).take (S.length - 1) = strRows S.dropLast := by
  unfold strRows
  rw [List.dropLast_eq_take, List.map_take]
def readP (R : List Ps × Nat × Int) (r : Tr) (cs : List Chunk) : Prop :=
  (∃ (bx bm n cap : Nat) (ad : Option Addr) (m : List (ByteArray × Int)), R.2.2 = 0 ∧ r = .tup [.ptr bx, .int 0, .int 0] ∧ LSt R.1 ∧ MI m R.1 ∧ n = R.1.length ∧ cs = [bkC, ledX bx ad n cap bm, ownX ad cap (flgO R.1) R.1, sumC' bm m])
  ∨ (R.2.2 ≠ 0 ∧ r = .tup [.raw (.pointer none), .int R.2.1, .int R.2.2] ∧ cs = [bkC])
theorem hasP2_fn (s : ByteArray) : PFn Tryz.prog 20 [.str s, .str ⟨#[32, 32]⟩] (· = .bool (pre2 s)) := hasP_fn s ⟨#[32, 32]⟩
attribute [local irreducible] entS plS dayB flgO itoaK cnlO pstO strRows splS numDV okNum pre2 hdL lnL rlT hdT rdS
theorem rdS_nil {last i : Nat} {L : List Ps} : rdS last [] i L none = (L, 0, 0) := by with_unfolding_all rfl
theorem rdS_h0 {last i : Nat} {L : List Ps} {s : ByteArray} {r : List ByteArray} (h : hdL s.data.toList = none) : rdS last (s :: r) i L none = (L, i, 9) := by unfold rdS; rw [h]
theorem rdS_h1 {last i : Nat} {L : List Ps} {s : ByteArray} {r : List ByteArray} {y} (h : hdL s.data.toList = some y) (hi : i = last) : rdS last (s :: r) i L none = (L, i, 9) := by unfold rdS; rw [h]; exact if_pos hi
theorem rdS_h2 {last i : Nat} {L : List Ps} {s : ByteArray} {r : List ByteArray} {y} (h : hdL s.data.toList = some y) (hi : ¬ i = last) : rdS last (s :: r) i L none = rdS last r (i + 1) L (some (mkP i y)) := by
  conv => lhs; unfold rdS
  rw [h]
  exact if_neg hi
theorem rdS_l0 {last i : Nat} {L : List Ps} {p : Pend} {s : ByteArray} {r : List ByteArray} (hp : pre2 s = true) (h : lnL (s.data.toList.drop 2) = none) : rdS last (s :: r) i L (some p) = (L, i, 9) := by unfold rdS; rw [if_pos hp, h]
theorem rdS_l1 {last i : Nat} {L : List Ps} {p : Pend} {s : ByteArray} {r : List ByteArray} {x} (hp : pre2 s = true) (h : lnL (s.data.toList.drop 2) = some x) (hc : p.can = true ∨ i = last) : rdS last (s :: r) i L (some p) = (L, i, 9) := by unfold rdS; rw [if_pos hp, h]; exact if_pos hc
theorem rdS_l2 {last i : Nat} {L : List Ps} {p : Pend} {s : ByteArray} {r : List ByteArray} {x} (hp : pre2 s = true) (h : lnL (s.data.toList.drop 2) = some x) (hc : ¬ (p.can = true ∨ i = last)) : rdS last (s :: r) i L (some p) = rdS last r (i + 1) L (some (p.add x)) := by
  conv => lhs; unfold rdS
  rw [if_pos hp, h]
  exact if_neg hc
theorem mkP_text {s : ByteArray} {y} (h : hdL s.data.toList = some y) (i : Nat) : (mkP i y).e.text.size ≤ s.size := by
  cases y with
  | inl no => exact Nat.zero_le _
  | inr p =>
    obtain ⟨d, x⟩ := p
    show x.size ≤ s.size
    unfold hdL at h
    cases hb : brk s.data.toList with
    | none => rw [hb] at h; cases h
    | some q =>
      obtain ⟨a, b⟩ := q
      simp only [hb] at h
      have h1 := (brk_some hb).1
      split at h
      · split at h <;> cases h
      split at h
      rotate_left
      · cases h
      cases hb2 : brk b with
      | none => rw [hb2] at h; cases h
      | some q =>
        obtain ⟨d2, x2⟩ := q
        simp only [hb2] at h
        have h2 := (brk_some hb2).1
        split at h
        · cases h
          rw [str_list s, h1, h2, List.length_append, List.length_cons, List.length_append, List.length_cons]
          show x2.length ≤ _
          omega
        · cases h
theorem readX_fn (t : ByteArray) (hsz : t.size ≤ 1000000000) : Spec Tryz.prog 5 [.str t] [bkC] (fun r cs => readP (readS t) r cs) := by
  obtain ⟨R, hR⟩ : ∃ R, R = readS t := ⟨_, rfl⟩
  rw [← hR]
  unfold readS at hR
  have kX := newX_fn
  refine Spec.body Tryz.func5 rfl rfl (Tryz.ntmps5) rfl fun w0 own0 M => ?_
  by_cases hbig : 200000 < t.size
  · rw [if_pos hbig] at hR
    subst hR
    repeat' (first | refine goH ?_ | refine goV ?_ | refine goB (fun b => ?_) | refine goC (fun ad cap => ?_) | refine goG ?_ | (refine Ops.k_guard ?_; first | (refine Ops.guard_dec rfl rfl (fun hc => ?_) (fun hc => ?_) <;> try (exfalso; omega)) | refine Ops.guard_split rfl rfl (fun hc => ?_) (fun hc => ?_)) | refine goI ?_ | (refine Cw.k_cond ?_; first | (refine Cw.cond_dec rfl (fun hc => ?_) (fun hc => ?_) <;> try (exfalso; omega)) | refine Cw.cond_bool rfl (fun hc => ?_) (fun hc => ?_)) | fail)
    exact Fin.ret (Ent.take goTk) (Outs.many rfl (OutL.cons goOe (OutL.cons goOe (OutL.cons goOe OutL.nil))) rfl) (Or.inr ⟨by decide, rfl, rfl⟩)
  rw [if_neg hbig] at hR
  have k1 := split1_fn t hsz 10
  have hSl := splS_len 10 t
  have hS2 := countByte_le t.data.toList 10
  have htl := str_list t
  have hSz : ∀ w ∈ splS 10 t, w.size ≤ 200000 := fun w hw => by have := splS_size hw; omega
  unfold linesR at hR
  generalize splS 10 t = S at *
  have hSn : S ≠ [] := fun e => by rw [e] at hSl; simp at hSl
  obtain ⟨w, hw1, hw2⟩ := lines_take hSn
  have hrw : (strRows S)[S.length - 1]? = some [.str w] := strRows_at hw1
  obtain ⟨last, hlast⟩ : ∃ last, last = S.length - 1 := ⟨_, rfl⟩
  have hSL : S.length = last + 1 := by omega
  have hSR : (strRows S).length = last + 1 := by rw [strRows_len, hSL]
  have hSb : last ≤ 200000 := by omega
  rw [← hlast] at hrw hR
  have hsub : ((strRows S).length : Int) - 1 = (last : Int) := by omega
  obtain ⟨D, hD, hDl, hDm, hDw⟩ : ∃ D, D = (if S.getLast? = some ⟨#[]⟩ then S.dropLast else S) ∧ (strRows D).length ≤ 200001 ∧ (∀ x ∈ D, x ∈ S) ∧ (w = ⟨#[]⟩ → D = S.dropLast) ∧ (¬ w = ⟨#[]⟩ → D = S) := by
    refine ⟨_, rfl, ?_, ?_, ?_, ?_⟩
    · rw [strRows_len]
      split
      · rw [List.length_dropLast]; omega
      · omega
    · intro x hx
      split at hx
      · exact List.dropLast_subset S hx
      · exact hx
    · intro e; rw [hw2, e, if_pos rfl]
    · intro e; rw [hw2, if_neg (fun h => e (by injection h))]
  rw [← hD] at hR
  clear hD
  have hDZ : ∀ x ∈ D, x.size ≤ 200000 := fun x hx => hSz x (hDm x hx)
  have hDR := strRows_len D
  have htk : w = ⟨#[]⟩ → (strRows S).take ((last : Int)).toNat = strRows D := fun e => by
    rw [hDw.1 e, ← strRows_drop, Int.toNat_natCast, hlast]
  have hDS : ¬ w = ⟨#[]⟩ → S = D := fun e => (hDw.2 e).symm
  have hR0 : R = rdS last (D.drop 0) 0 [] none := hR
  clear hR hSz hSl hS2 htl hDw hDm hw1 hw2 hSn hSL hlast
  by_cases hw : w = ⟨#[]⟩
  all_goals
    try (have hDS2 := (hDS hw).symm; subst hDS2)
    repeat' (first | refine goH ?_ | (refine Ops.k_b_sub ?_; first | (refine Ops.sub rfl rfl (by omega) rfl ?_; rw [hsub])) | (refine Ops.k_b_eql ?_; first | (first | refine Ops.eqlS_t rfl rfl hw rfl ?_ | refine Ops.eqlS_f rfl rfl hw rfl ?_)) | (refine Ops.k_slice ?_; first | (refine Ops.slice_h rfl rfl (by omega) rfl ?_; rw [htk hw])) | refine goV ?_ | refine goB (fun b => ?_) | refine goC (fun ad cap => ?_) | refine goG ?_ | (refine Ops.k_guard ?_; first | (refine Ops.guard_dec rfl rfl (fun hc => ?_) (fun hc => ?_) <;> try (exfalso; omega)) | refine Ops.guard_split rfl rfl (fun hc => ?_) (fun hc => ?_)) | refine goI ?_ | (refine Cw.k_cond ?_; first | (refine Cw.cond_dec rfl (fun hc => ?_) (fun hc => ?_) <;> try (exfalso; omega)) | refine Cw.cond_bool rfl (fun hc => ?_) (fun hc => ?_)) | (refine Ops.k_calla ?_; first | (refine Ops.k_callf 17 ?_; refine Ops.callV k1 (Evs.cons rfl (Evs.cons rfl Evs.nil)) rfl ?_) | (refine Ops.k_callf 18 ?_; (refine Ops.call kX Evs.nil goPm rfl ?_; rintro r cs' ⟨bx, bm, rfl, rfl⟩))) | fail)
    clear htk hDS k1 hrw hSR
    refine Cw.loopI [(5, _), (6, _), (7, _)] _ (fun q e cc => ∃ (i : Nat) (L : List Ps) (m : List (ByteArray × Int)) (ad : Option Addr) (n cap : Nat), q = D.length - i ∧ (i ≤ D.length ∧ R = rdS last (D.drop i) i L none ∧ LSt L ∧ MI m L ∧ n = L.length) ∧ e = [(8, .int i)] ∧ cc = [ledX bx ad n cap bm, ownX ad cap (flgO L) L, sumC' bm m])
      ⟨_, _, _, Ent.trans (Ent.nil 5 78) (Ent.mkP goSub goPm), 0, [], [], none, 0, 0, rfl, ⟨by omega, hR0, LSt.nil, MI.nil, rfl⟩, rfl, rfl⟩ ?_
    clear hR0
    rintro _ _ _ ⟨i, L, m, ad, n, cap, rfl, ⟨hi, hR, hs, hm, hn⟩, rfl, rfl⟩
    by_cases hil : i < D.length
    rotate_left
    · rw [List.drop_of_length_le (by omega), rdS_nil] at hR
      subst hR
      repeat' (first | refine goH ?_ | refine goV ?_ | refine goB (fun b => ?_) | refine goC (fun ad cap => ?_) | refine goG ?_ | (refine Ops.k_guard ?_; first | (refine Ops.guard_dec rfl rfl (fun hc => ?_) (fun hc => ?_) <;> try (exfalso; omega)) | refine Ops.guard_split rfl rfl (fun hc => ?_) (fun hc => ?_)) | refine goI ?_ | (refine Cw.k_cond ?_; first | (refine Cw.cond_dec rfl (fun hc => ?_) (fun hc => ?_) <;> try (exfalso; omega)) | refine Cw.cond_bool rfl (fun hc => ?_) (fun hc => ?_)) | fail)
      exact Fin.ret (Ent.take goTk) (Outs.many rfl (OutL.cons goOe (OutL.cons goOe (OutL.cons goOe OutL.nil))) rfl) (Or.inl ⟨bx, bm, n, cap, ad, m, rfl, rfl, hs, hm, hn, rfl⟩)
    obtain ⟨s, hsi⟩ := at_lt hil
    have hrow : (strRows D)[i]? = some [.str s] := strRows_at hsi
    have hsz2 := hDZ s (List.mem_of_getElem? hsi)
    have kh := head_fn s (by omega)
    obtain ⟨h1, h2⟩ := hd_rel s
    rw [drop_at hsi] at hR
    cases hh : hdL s.data.toList with
    | none =>
      obtain ⟨d, x, no, c, e1⟩ := h1 hh
      rw [e1] at kh
      unfold hdZ at kh
      rw [rdS_h0 hh] at hR
      subst hR
      clear h1 h2 e1
      repeat' (first | refine goH ?_ | refine goV ?_ | refine goB (fun b => ?_) | refine goC (fun ad cap => ?_) | refine goG ?_ | (refine Ops.k_guard ?_; first | (refine Ops.guard_dec rfl rfl (fun hc => ?_) (fun hc => ?_) <;> try (exfalso; omega)) | refine Ops.guard_split rfl rfl (fun hc => ?_) (fun hc => ?_)) | refine goI ?_ | (refine Cw.k_cond ?_; first | (refine Cw.cond_dec rfl (fun hc => ?_) (fun hc => ?_) <;> try (exfalso; omega)) | refine Cw.cond_bool rfl (fun hc => ?_) (fun hc => ?_)) | (refine Ops.k_calla ?_; first | (refine Ops.k_callf 19 ?_; refine Ops.callS kh (Evs.cons rfl Evs.nil) goPm rfl ?_)) | fail)
      exact Fin.ret (Ent.take goTk) (Outs.many rfl (OutL.cons goOe (OutL.cons goOe (OutL.cons goOe OutL.nil))) rfl) (Or.inr ⟨show (9 : Int) ≠ 0 by decide, rfl, rfl⟩)
    | some y =>
      have e1 := h2 y hh i
      rw [e1] at kh
      unfold hdZ at kh
      clear h1 h2 e1
      by_cases hla : i = last
      · rw [rdS_h1 hh hla] at hR
        subst hR
        generalize mkP i y = p at *
        repeat' (first | refine goH ?_ | refine goV ?_ | refine goB (fun b => ?_) | refine goC (fun ad cap => ?_) | refine goG ?_ | (refine Ops.k_guard ?_; first | (refine Ops.guard_dec rfl rfl (fun hc => ?_) (fun hc => ?_) <;> try (exfalso; omega)) | refine Ops.guard_split rfl rfl (fun hc => ?_) (fun hc => ?_)) | refine goI ?_ | (refine Cw.k_cond ?_; first | (refine Cw.cond_dec rfl (fun hc => ?_) (fun hc => ?_) <;> try (exfalso; omega)) | refine Cw.cond_bool rfl (fun hc => ?_) (fun hc => ?_)) | (refine Ops.k_calla ?_; first | (refine Ops.k_callf 19 ?_; refine Ops.callS kh (Evs.cons rfl Evs.nil) goPm rfl ?_)) | fail)
        exact Fin.ret (Ent.take goTk) (Outs.many rfl (OutL.cons goOe (OutL.cons goOe (OutL.cons goOe OutL.nil))) rfl) (Or.inr ⟨show (9 : Int) ≠ 0 by decide, rfl, rfl⟩)
      rw [rdS_h2 hh hla] at hR
      have hpf : (mkP i y).first = i := by cases y <;> rfl
      have hpl : (mkP i y).e.ls = [] := by cases y <;> rfl
      have hpt := mkP_text hh i
      generalize mkP i y = p at *
      obtain ⟨f, no, can, ⟨day, text, ls⟩⟩ := p
      simp only at hpf hpl hpt kh
      subst hpf hpl
      repeat' (first | refine goH ?_ | refine goV ?_ | refine goB (fun b => ?_) | refine goC (fun ad cap => ?_) | refine goG ?_ | (refine Ops.k_guard ?_; first | (refine Ops.guard_dec rfl rfl (fun hc => ?_) (fun hc => ?_) <;> try (exfalso; omega)) | refine Ops.guard_split rfl rfl (fun hc => ?_) (fun hc => ?_)) | refine goI ?_ | (refine Cw.k_cond ?_; first | (refine Cw.cond_dec rfl (fun hc => ?_) (fun hc => ?_) <;> try (exfalso; omega)) | refine Cw.cond_bool rfl (fun hc => ?_) (fun hc => ?_)) | (refine Ops.k_calla ?_; first | (refine Ops.k_callf 19 ?_; refine Ops.callS kh (Evs.cons rfl Evs.nil) goPm rfl ?_)) | fail)
      refine Cw.loopI [(5, _), (6, _), (7, _), (9, _), (10, _), (11, _), (12, _)] _ (fun q e cc => ∃ (j nl : Nat) (ls : List Ln) (rows : List (List Tr)) (ad2 : Option Addr) (cap2 : Nat), q = D.length - j ∧ (j ≤ D.length ∧ R = rdS last (D.drop j) j L (some ⟨f, no, can, ⟨day, text, ls⟩⟩) ∧ rows = ls.map Ln.row ∧ nl = rows.length ∧ nl + f < j) ∧ e = [(8, .int j)] ∧ cc = [Chunk.box b 52 [.int day, .str text, Tr.raw (.slice ad2 nl cap2)], Chunk.own ad2 cap2 2 57 rows])
        ⟨_, _, _, Ent.trans (Ent.nil 2 57) (Ent.mkP goSub goPm), f + 1, 0, [], [], none, 0, rfl, ⟨by omega, hR, rfl, rfl, by omega⟩, rfl, rfl⟩ ?_
      clear hR
      rintro _ _ _ ⟨j, nl, ls, rows, ad2, cap2, rfl, ⟨hj, hR, hrows, hrl, hnj⟩, rfl, rfl⟩
      have hll : ls.length = nl := by rw [hrl, hrows, List.length_map]
      by_cases hjx : ∃ s', D[j]? = some s' ∧ pre2 s' = true
      · obtain ⟨s', hs', hpp⟩ := hjx
        have hjl : j < D.length := (List.getElem?_eq_some_iff.1 hs').1
        have hrow2 : (strRows D)[j]? = some [.str s'] := strRows_at hs'
        have hsz3 := hDZ s' (List.mem_of_getElem? hs')
        have kpre := hasP2_fn s'
        rw [hpp] at kpre
        have kr := readLine_fn s' (by omega)
        rw [tpr_pre2 hpp] at kr
        obtain ⟨r1, r2⟩ := rl_rel (s'.data.toList.drop 2)
        rw [drop_at hs'] at hR
        cases hl : lnL (s'.data.toList.drop 2) with
        | none =>
          obtain ⟨x, v, e1⟩ := r1 hl
          rw [e1] at kr
          rw [rdS_l0 hpp hl] at hR
          subst hR
          clear r1 r2 e1
          repeat' (first | refine goH ?_ | refine goV ?_ | refine goB (fun b => ?_) | refine goC (fun ad cap => ?_) | refine goG ?_ | (refine Ops.k_guard ?_; first | (refine Ops.guard_dec rfl rfl (fun hc => ?_) (fun hc => ?_) <;> try (exfalso; omega)) | refine Ops.guard_split rfl rfl (fun hc => ?_) (fun hc => ?_)) | refine goI ?_ | (refine Cw.k_cond ?_; first | (refine Cw.cond_dec rfl (fun hc => ?_) (fun hc => ?_) <;> try (exfalso; omega)) | refine Cw.cond_bool rfl (fun hc => ?_) (fun hc => ?_)) | (refine Ops.k_calla ?_; first | (refine Ops.k_callf 20 ?_; refine Ops.callV kpre (Evs.cons rfl (Evs.cons rfl Evs.nil)) rfl ?_) | (refine Ops.k_callf 21 ?_; refine Ops.callS kr (Evs.cons rfl Evs.nil) goPm rfl ?_)) | fail)
          exact Fin.ret (Ent.take goTk) (Outs.many rfl (OutL.cons goOe (OutL.cons goOe (OutL.cons goOe OutL.nil))) rfl) (Or.inr ⟨show (9 : Int) ≠ 0 by decide, rfl, rfl⟩)
        | some x =>
          rw [r2 x hl] at kr
          clear r1 r2
          by_cases hcl : can = true ∨ j = last
          · rw [rdS_l1 hpp hl hcl] at hR
            subst hR
            cases can
            · have hjl2 : j = last := by simpa using hcl
              repeat' (first | refine goH ?_ | refine goV ?_ | refine goB (fun b => ?_) | refine goC (fun ad cap => ?_) | refine goG ?_ | (refine Ops.k_guard ?_; first | (refine Ops.guard_dec rfl rfl (fun hc => ?_) (fun hc => ?_) <;> try (exfalso; omega)) | refine Ops.guard_split rfl rfl (fun hc => ?_) (fun hc => ?_)) | refine goI ?_ | (refine Cw.k_cond ?_; first | (refine Cw.cond_dec rfl (fun hc => ?_) (fun hc => ?_) <;> try (exfalso; omega)) | refine Cw.cond_bool rfl (fun hc => ?_) (fun hc => ?_)) | (refine Ops.k_calla ?_; first | (refine Ops.k_callf 20 ?_; refine Ops.callV kpre (Evs.cons rfl (Evs.cons rfl Evs.nil)) rfl ?_) | (refine Ops.k_callf 21 ?_; refine Ops.callS kr (Evs.cons rfl Evs.nil) goPm rfl ?_)) | fail)
              exact Fin.ret (Ent.take goTk) (Outs.many rfl (OutL.cons goOe (OutL.cons goOe (OutL.cons goOe OutL.nil))) rfl) (Or.inr ⟨show (9 : Int) ≠ 0 by decide, rfl, rfl⟩)
            · repeat' (first | refine goH ?_ | refine goV ?_ | refine goB (fun b => ?_) | refine goC (fun ad cap => ?_) | refine goG ?_ | (refine Ops.k_guard ?_; first | (refine Ops.guard_dec rfl rfl (fun hc => ?_) (fun hc => ?_) <;> try (exfalso; omega)) | refine Ops.guard_split rfl rfl (fun hc => ?_) (fun hc => ?_)) | refine goI ?_ | (refine Cw.k_cond ?_; first | (refine Cw.cond_dec rfl (fun hc => ?_) (fun hc => ?_) <;> try (exfalso; omega)) | refine Cw.cond_bool rfl (fun hc => ?_) (fun hc => ?_)) | (refine Ops.k_calla ?_; first | (refine Ops.k_callf 20 ?_; refine Ops.callV kpre (Evs.cons rfl (Evs.cons rfl Evs.nil)) rfl ?_) | (refine Ops.k_callf 21 ?_; refine Ops.callS kr (Evs.cons rfl Evs.nil) goPm rfl ?_)) | fail)
              exact Fin.ret (Ent.take goTk) (Outs.many rfl (OutL.cons goOe (OutL.cons goOe (OutL.cons goOe OutL.nil))) rfl) (Or.inr ⟨show (9 : Int) ≠ 0 by decide, rfl, rfl⟩)
          · rw [rdS_l2 hpp hl hcl] at hR
            have hjl2 : ¬ j = last := fun e => hcl (Or.inr e)
            have hcf : can = false := by cases can; rfl; exact absurd (Or.inl rfl) hcl
            subst hcf
            have hnx : rows ++ [[Tr.str x.acc, Tr.int x.c]] = (ls ++ [x]).map Ln.row := by rw [hrows, List.map_append]; rfl
            clear hrows
            repeat' (first | refine goH ?_ | refine goV ?_ | refine goB (fun b => ?_) | refine goC (fun ad cap => ?_) | refine goG ?_ | (refine Ops.k_guard ?_; first | (refine Ops.guard_dec rfl rfl (fun hc => ?_) (fun hc => ?_) <;> try (exfalso; omega)) | refine Ops.guard_split rfl rfl (fun hc => ?_) (fun hc => ?_)) | refine goI ?_ | (refine Cw.k_cond ?_; first | (refine Cw.cond_dec rfl (fun hc => ?_) (fun hc => ?_) <;> try (exfalso; omega)) | refine Cw.cond_bool rfl (fun hc => ?_) (fun hc => ?_)) | (refine Ops.k_calla ?_; first | (refine Ops.k_callf 20 ?_; refine Ops.callV kpre (Evs.cons rfl (Evs.cons rfl Evs.nil)) rfl ?_) | (refine Ops.k_callf 21 ?_; refine Ops.callS kr (Evs.cons rfl Evs.nil) goPm rfl ?_)) | fail)
            exact ⟨_, _, _, (Ent.mk goSub goTk), ⟨j + 1, _, ls ++ [x], _, _, _, rfl, ⟨by omega, hR, hnx, rfl, by rw [List.length_append, ← hrl]; simp only [List.length_cons, List.length_nil]; omega⟩, rfl, rfl⟩, by omega⟩
      have hx : ∀ s r, D.drop j = s :: r → pre2 s = false := fun s r e => by
        have h0 : (D.drop j)[0]? = some s := by rw [e]; rfl
        have h1 : D[j]? = some s := by rw [List.getElem?_drop] at h0; exact h0
        cases h2 : pre2 s
        · rfl
        · exact absurd ⟨s, h1, h2⟩ hjx
      have hjc : ¬ j < D.length ∨ ∃ s', D[j]? = some s' ∧ pre2 s' = false := by
        by_cases hjl : j < D.length
        · obtain ⟨s', hs'⟩ := at_lt hjl
          exact Or.inr ⟨s', hs', hx s' _ (drop_at hs')⟩
        · exact Or.inl hjl
      refine Cw.ent (Ent.settle_box (b := b) (i := 2) (kk := 2) (rows := rows) (ts' := [.int day, .str text, .lns ls]) (by exact Perm.cons' goPk (Perm.cons' goPk (List.Perm.refl _))) rfl hrl (by rw [hrows]; rfl)) ?_
      clear hrl hrows hjx
      have kpo := postX_fn bx n cap bm ad L m ⟨day, text, ls⟩ hs hm hn (by simp only; omega) (by simp only; omega)
      have kca := cancelX_fn bx n cap bm ad L m no hs hm hn
      rw [show (En.mk day text ls).row = [.int day, .str text, .lns ls] from rfl] at kpo
      unfold resR at kpo kca
      have hfi : ∀ G : List Ps × Int × Int, G = finP L ⟨f, no, can, ⟨day, text, ls⟩⟩ → (G.2.2 = 0 ∧ R = rdS last (D.drop j) j G.1 none) ∨ (G.2.2 ≠ 0 ∧ R = (L, f, G.2.2)) := fun G hG => by
        by_cases h : G.2.2 = 0
        · exact Or.inl ⟨h, by rw [hR, hG]; exact rdS_fin hx (by rw [← hG]; exact h)⟩
        · exact Or.inr ⟨h, by rw [hR, hG]; exact rdS_err hx (by rw [← hG]; exact h)⟩
      clear hR hx hs hm hn
      have hjb : j ≤ 200001 := by omega
      rcases hjc with hjl | ⟨s', hs', hpp⟩
      all_goals
        try (
          have hjl : j < D.length := (List.getElem?_eq_some_iff.1 hs').1
          have hrow2 : (strRows D)[j]? = some [.str s'] := strRows_at hs'
          have kpre := hasP2_fn s'
          rw [hpp] at kpre)
        cases can
        · obtain ⟨G, hG⟩ : ∃ G, G = pstR L ⟨day, text, ls⟩ := ⟨_, rfl⟩
          have hf := hfi G hG
          rw [← hG] at kpo
          clear hfi hG kca
          rcases hf with ⟨hz, hR⟩ | ⟨hz, hR⟩
          · repeat' (first | refine goH ?_ | refine goV ?_ | refine goB (fun b => ?_) | refine goC (fun ad cap => ?_) | refine goG ?_ | (refine Ops.k_guard ?_; first | (refine Ops.guard_dec rfl rfl (fun hc => ?_) (fun hc => ?_) <;> try (exfalso; omega)) | refine Ops.guard_split rfl rfl (fun hc => ?_) (fun hc => ?_)) | refine goI ?_ | (refine Cw.k_cond ?_; first | (refine Cw.cond_dec rfl (fun hc => ?_) (fun hc => ?_) <;> try (exfalso; omega)) | refine Cw.cond_bool rfl (fun hc => ?_) (fun hc => ?_)) | (refine Ops.k_calla ?_; first | (refine Ops.k_callf 20 ?_; refine Ops.callV kpre (Evs.cons rfl (Evs.cons rfl Evs.nil)) rfl ?_) | (refine Ops.k_callf 23 ?_; (refine Ops.call kpo (Evs.cons rfl (Evs.cons rfl Evs.nil)) goPm rfl ?_; rintro r cs' ⟨ad', n', cap', m', rfl, hs', hm', hn', rfl⟩))) | fail)
            exact ⟨_, _, _, (Ent.mk goSub goTk), ⟨j, G.1, m', ad', n', cap', rfl, ⟨hj, hR, hs', hm', hn'⟩, rfl, rfl⟩, by omega⟩
          · subst hR
            repeat' (first | refine goH ?_ | refine goV ?_ | refine goB (fun b => ?_) | refine goC (fun ad cap => ?_) | refine goG ?_ | (refine Ops.k_guard ?_; first | (refine Ops.guard_dec rfl rfl (fun hc => ?_) (fun hc => ?_) <;> try (exfalso; omega)) | refine Ops.guard_split rfl rfl (fun hc => ?_) (fun hc => ?_)) | refine goI ?_ | (refine Cw.k_cond ?_; first | (refine Cw.cond_dec rfl (fun hc => ?_) (fun hc => ?_) <;> try (exfalso; omega)) | refine Cw.cond_bool rfl (fun hc => ?_) (fun hc => ?_)) | (refine Ops.k_calla ?_; first | (refine Ops.k_callf 20 ?_; refine Ops.callV kpre (Evs.cons rfl (Evs.cons rfl Evs.nil)) rfl ?_) | (refine Ops.k_callf 23 ?_; (refine Ops.call kpo (Evs.cons rfl (Evs.cons rfl Evs.nil)) goPm rfl ?_; rintro r cs' ⟨ad', n', cap', m', rfl, hs', hm', hn', rfl⟩))) | fail)
            exact Fin.ret (Ent.take goTk) (Outs.many rfl (OutL.cons goOe (OutL.cons goOe (OutL.cons goOe OutL.nil))) rfl) (Or.inr ⟨hz, rfl, rfl⟩)
        · obtain ⟨G, hG⟩ : ∃ G, G = cnlR L no := ⟨_, rfl⟩
          have hf := hfi G hG
          rw [← hG] at kca
          clear hfi hG kpo
          rcases hf with ⟨hz, hR⟩ | ⟨hz, hR⟩
          · repeat' (first | refine goH ?_ | refine goV ?_ | refine goB (fun b => ?_) | refine goC (fun ad cap => ?_) | refine goG ?_ | (refine Ops.k_guard ?_; first | (refine Ops.guard_dec rfl rfl (fun hc => ?_) (fun hc => ?_) <;> try (exfalso; omega)) | refine Ops.guard_split rfl rfl (fun hc => ?_) (fun hc => ?_)) | refine goI ?_ | (refine Cw.k_cond ?_; first | (refine Cw.cond_dec rfl (fun hc => ?_) (fun hc => ?_) <;> try (exfalso; omega)) | refine Cw.cond_bool rfl (fun hc => ?_) (fun hc => ?_)) | (refine Ops.k_calla ?_; first | (refine Ops.k_callf 20 ?_; refine Ops.callV kpre (Evs.cons rfl (Evs.cons rfl Evs.nil)) rfl ?_) | (refine Ops.k_callf 22 ?_; (refine Ops.call kca (Evs.cons rfl (Evs.cons rfl Evs.nil)) goPm rfl ?_; rintro r cs' ⟨ad', n', cap', m', rfl, hs', hm', hn', rfl⟩))) | fail)
            exact ⟨_, _, _, (Ent.mk goSub goTk), ⟨j, G.1, m', ad', n', cap', rfl, ⟨hj, hR, hs', hm', hn'⟩, rfl, rfl⟩, by omega⟩
          · subst hR
            repeat' (first | refine goH ?_ | refine goV ?_ | refine goB (fun b => ?_) | refine goC (fun ad cap => ?_) | refine goG ?_ | (refine Ops.k_guard ?_; first | (refine Ops.guard_dec rfl rfl (fun hc => ?_) (fun hc => ?_) <;> try (exfalso; omega)) | refine Ops.guard_split rfl rfl (fun hc => ?_) (fun hc => ?_)) | refine goI ?_ | (refine Cw.k_cond ?_; first | (refine Cw.cond_dec rfl (fun hc => ?_) (fun hc => ?_) <;> try (exfalso; omega)) | refine Cw.cond_bool rfl (fun hc => ?_) (fun hc => ?_)) | (refine Ops.k_calla ?_; first | (refine Ops.k_callf 20 ?_; refine Ops.callV kpre (Evs.cons rfl (Evs.cons rfl Evs.nil)) rfl ?_) | (refine Ops.k_callf 22 ?_; (refine Ops.call kca (Evs.cons rfl (Evs.cons rfl Evs.nil)) goPm rfl ?_; rintro r cs' ⟨ad', n', cap', m', rfl, hs', hm', hn', rfl⟩))) | fail)
            exact Fin.ret (Ent.take goTk) (Outs.many rfl (OutL.cons goOe (OutL.cons goOe (OutL.cons goOe OutL.nil))) rfl) (Or.inr ⟨hz, rfl, rfl⟩)
end Lg
end
