/- A part of the proof of a law of this seat: it adds no condition. By an AI agent. -/
import Derived.Shelf.Strings.Search3
import Derived.Shelf.Strings.Prefix
import Derived.Shelf.Strings.Trim
import Derived.Test.YtaoclkglimibeaaGreatDoorLe4
import Derived.Test.YtaoclkglimibeaaGreatDoorShelf2
section
set_option linter.all false
set_option maxRecDepth 100000
set_option maxHeartbeats 8000000
namespace Lg
open Go Go.Proofs

/-! ### base.Plain and coilref.PlainOf -/
theorem hasP_fn (s p : ByteArray) : PFn Tryz.prog 20 [.str s, .str p] (· = .bool (Lib.hasPrefix s.data.toList p.data.toList)) := by
  refine PFn.of_calls (args := [.string s, .string p]) (fun vs w => rfl) (fun w => ?_)
  refine (Any.strings_HasPrefix Tryz.lays99 s p w).mono ?_
  rintro e w' ⟨rfl, rfl⟩
  exact ⟨rfl, Go.RowKit.Below.refl _ _, fun _ => Nat.le_refl _⟩
theorem hasQ_fn (s p : ByteArray) (hs : s.size ≤ 9223372036854775807) : PFn Tryz.prog 107 [.str s, .str p] (· = .bool (Lib.hasSuffix s.data.toList p.data.toList)) := by
  refine PFn.of_calls (args := [.string s, .string p]) (fun vs w => rfl) (fun w => ?_)
  refine (Any.strings_HasSuffix Tryz.lays100 s p w hs).mono ?_
  rintro e w' ⟨rfl, rfl⟩
  exact ⟨rfl, Go.RowKit.Below.refl _ _, fun _ => Nat.le_refl _⟩
theorem trim1_fn (s : ByteArray) (c : UInt8) (hc : c.toNat < 128) (hs : s.size ≤ 9223372036854775807) : PFn Tryz.prog 120 [.str s, .str ⟨#[c]⟩] (· = .str ⟨(Lib.trimB s.data.toList c).toArray⟩) := by
  refine PFn.of_calls (args := [.string s, .string ⟨#[c]⟩]) (fun vs w => rfl) (fun w => ?_)
  refine (Any.strings_Trim_one Tryz.lays160 s c hc w hs).mono ?_
  rintro e w' ⟨rfl, rfl | rfl⟩
  · exact ⟨rfl, Go.RowKit.Below.refl _ _, fun _ => Nat.le_refl _⟩
  · exact ⟨rfl, ⟨rfl, rfl, rfl, Nat.le_refl _, fun _ _ => rfl⟩, fun _ => Nat.le_succ _⟩
theorem bk_cell {w : World} (h : VarsIn Tryz.prog bkV w) {g : Nat} (hg : Tryz.prog.globalNamed "internal/bytealg.MaxLen" = some g) : ∃ m, w.cell? ⟨g, 0, none⟩ = some (.int .i64 m) := by
  obtain ⟨a, h1, m, h3⟩ := h _ bk_max
  simp only at h1 h3
  refine ⟨m, ?_⟩
  unfold World.var? at h1
  rw [hg] at h1
  simp only [Option.bind_some] at h1
  split at h1
  · rename_i h2
    cases h1
    rw [cell_at h2, h3]
  · cases h1
theorem strHas_fn (s p : ByteArray) (hs : s.size ≤ 1000000000) : Spec Tryz.prog 108 [.str s, .str p] [bkC] (fun r cs => r = .bool (Lib.contains s.data.toList p.data.toList) ∧ cs = [bkC]) := by
  refine Spec.of_vars (args := [.string s, .string p]) (post := (· = .bool (Lib.contains s.data.toList p.data.toList))) (fun vs w => rfl) (fun w hv => ?_)
  obtain ⟨m, hm⟩ := bk_cell hv (g := Tryz.lays144_ren.g 1) (by kernel_rfl)
  refine (Any.strings_Contains Tryz.lays144 s p m w (by omega) hm).mono ?_
  rintro e w' ⟨rfl, rfl⟩
  exact ⟨_, _, rfl, rfl, fun _ _ => raw_self _, Go.RowKit.Below.refl _ _, fun _ => Nat.le_refl _⟩
theorem dropW_self {α : Type} (p : α → Bool) : ∀ (l : List α), l.dropWhile p = l ↔ ∀ x, l.head? = some x → p x = false
  | [] => by simp
  | a :: l => by
    rw [List.dropWhile_cons]
    cases h : p a with
    | false => simp [h]
    | true =>
      simp only [if_true, List.head?_cons, Option.some.injEq]
      constructor
      · intro e
        have := congrArg List.length e
        have h2 := (List.dropWhile_suffix p (l := l)).length_le
        rw [List.length_cons] at this
        omega
      · intro e
        exact absurd (e a rfl) (by rw [h]; decide)
theorem hasP_one (l : List UInt8) (c : UInt8) : Lib.hasPrefix l [c] = false ↔ l.dropWhile (· == c) = l := by
  rw [dropW_self]
  cases l with
  | nil => simp [Lib.hasPrefix]
  | cons a l =>
    have e : Lib.hasPrefix (a :: l) [c] = (c == a) := by
      show (c == a && ([] : List UInt8).isPrefixOf l) = (c == a)
      cases l <;> exact Bool.and_true _
    rw [e, List.head?_cons]
    constructor
    · intro h x hx
      cases hx
      rw [beq_eq_false_iff_ne] at h ⊢
      exact fun k => h k.symm
    · intro h
      have := h a rfl
      rw [beq_eq_false_iff_ne] at this ⊢
      exact fun k => this k.symm
theorem hasQ_one (l : List UInt8) (c : UInt8) : Lib.hasSuffix l [c] = false ↔ Lib.trimRightB l c = l := by
  have h := hasP_one l.reverse c
  unfold Lib.hasPrefix at h
  unfold Lib.hasSuffix Lib.trimRightB List.isSuffixOf
  rw [show ([c] : List UInt8).reverse = [c] from rfl, h]
  constructor
  · intro e; rw [e, List.reverse_reverse]
  · intro e
    have := congrArg List.reverse e
    rwa [List.reverse_reverse] at this
theorem trimB_one (l : List UInt8) (c : UInt8) : Lib.trimB l c = l ↔ (Lib.hasPrefix l [c] = false ∧ Lib.hasSuffix l [c] = false) := by
  rw [hasP_one, hasQ_one]
  have h1 : (Lib.trimRightB l c).length ≤ l.length := by
    unfold Lib.trimRightB
    rw [List.length_reverse]
    have := (List.dropWhile_suffix (· == c) (l := l.reverse)).length_le
    rwa [List.length_reverse] at this
  unfold Lib.trimB Lib.trimLeftB
  constructor
  · intro e
    have h2 := (List.dropWhile_suffix (· == c) (l := Lib.trimRightB l c)).length_le
    have h3 : (Lib.trimRightB l c).length = l.length := by
      have := congrArg List.length e
      omega
    have h4 : Lib.trimRightB l c = l := by
      unfold Lib.trimRightB at h3 ⊢
      have h5 := (List.dropWhile_suffix (· == c) (l := l.reverse)).eq_of_length (by rw [List.length_reverse] at h3; rw [h3, List.length_reverse])
      rw [h5, List.reverse_reverse]
    rw [h4] at e
    exact ⟨e, h4⟩
  · rintro ⟨e1, e2⟩
    rw [e2, e1]
def okc (b : Int) : Bool := decide (32 ≤ b ∧ b ≠ 127)
def okB (s : ByteArray) : Bool := decide (∀ j, j < s.size → okc (sby s j) = true)
def plS (s : ByteArray) : Bool := okB s && vS s && !Lib.hasPrefix s.data.toList [32] && !Lib.hasSuffix s.data.toList [32] && !Lib.contains s.data.toList [32, 32]
theorem plain_fn (s : ByteArray) (hs : s.size ≤ 1000000000) : Spec Tryz.prog 77 [.str s] [bkC] (fun r cs => r = .bool (plS s) ∧ cs = [bkC]) := by
  have kv := valid_fn s (by omega)
  have kp := hasP_fn s ⟨#[32]⟩
  have kq := hasQ_fn s ⟨#[32]⟩ (by omega)
  have kc := strHas_fn s ⟨#[32, 32]⟩ hs
  have hp : plS s = (okB s && vS s && !Lib.hasPrefix s.data.toList (ByteArray.mk #[32]).data.toList && !Lib.hasSuffix s.data.toList (ByteArray.mk #[32]).data.toList && !Lib.contains s.data.toList (ByteArray.mk #[32, 32]).data.toList) := rfl
  generalize plS s = R at *
  generalize vS s = a at *
  generalize Lib.hasPrefix s.data.toList (ByteArray.mk #[32]).data.toList = b at *
  generalize Lib.hasSuffix s.data.toList (ByteArray.mk #[32]).data.toList = c at *
  generalize Lib.contains s.data.toList (ByteArray.mk #[32, 32]).data.toList = d at *
  refine Spec.body Tryz.func77 rfl rfl (Tryz.ntmps77) rfl fun w0 own0 M => ?_
  repeat' (first | refine goH ?_ | refine goV ?_ | refine goG ?_ | (refine Ops.k_guard ?_; first | (refine Ops.guard_dec rfl rfl (fun hc => ?_) (fun hc => ?_) <;> try (exfalso; omega)) | refine Ops.guard_split rfl rfl (fun hc => ?_) (fun hc => ?_)) | refine goI ?_ | (refine Cw.k_cond ?_; first | (refine Cw.cond_dec rfl (fun hc => ?_) (fun hc => ?_) <;> try (exfalso; omega)) | refine Cw.cond_bool rfl (fun hc => ?_) (fun hc => ?_)) | fail)
  refine Cw.loopI [(0, _), (5, _)] _ (fun q e cc => ∃ k : Nat, q = s.size - k ∧ (k ≤ s.size ∧ ∀ j, j < k → okc (sby s j) = true) ∧ e = [(6, .int k)] ∧ cc = []) ⟨_, _, _, (Ent.mkP goSub goPm), 0, rfl, ⟨by omega, fun _ h => by omega⟩, rfl, rfl⟩ ?_
  rintro _ _ _ ⟨k, rfl, ⟨hk, hall⟩, rfl, rfl⟩
  by_cases hkl : k < s.size
  · have hbk := sby_bd s k
    by_cases h1 : 32 ≤ sby s k ∧ sby s k ≠ 127
    · repeat' (first | refine goH ?_ | refine goV ?_ | refine goG ?_ | (refine Ops.k_guard ?_; first | (refine Ops.guard_dec rfl rfl (fun hc => ?_) (fun hc => ?_) <;> try (exfalso; omega)) | refine Ops.guard_split rfl rfl (fun hc => ?_) (fun hc => ?_)) | refine goI ?_ | (refine Cw.k_cond ?_; first | (refine Cw.cond_dec rfl (fun hc => ?_) (fun hc => ?_) <;> try (exfalso; omega)) | refine Cw.cond_bool rfl (fun hc => ?_) (fun hc => ?_)) | fail)
      all_goals exact ⟨_, _, _, (Ent.mk goSub goTk), ⟨k + 1, rfl, ⟨by omega, fun j hj => by
        by_cases e : j = k
        · subst e; unfold okc; exact decide_eq_true h1
        · exact hall j (by omega)⟩, rfl, rfl⟩, by omega⟩
    · have hno : okB s = false := by
        unfold okB
        refine decide_eq_false (fun h => h1 ?_)
        have := h k hkl
        unfold okc at this
        exact of_decide_eq_true this
      rw [hno] at hp
      repeat' (first | refine goH ?_ | refine goV ?_ | refine goG ?_ | (refine Ops.k_guard ?_; first | (refine Ops.guard_dec rfl rfl (fun hc => ?_) (fun hc => ?_) <;> try (exfalso; omega)) | refine Ops.guard_split rfl rfl (fun hc => ?_) (fun hc => ?_)) | refine goI ?_ | (refine Cw.k_cond ?_; first | (refine Cw.cond_dec rfl (fun hc => ?_) (fun hc => ?_) <;> try (exfalso; omega)) | refine Cw.cond_bool rfl (fun hc => ?_) (fun hc => ?_)) | fail)
      all_goals exact Fin.ret (Ent.take goTk) (Outs.one rfl rfl) ⟨by rw [hp]; rfl, rfl⟩
  · have hyes : okB s = true := by
      unfold okB
      exact decide_eq_true (fun j hj => hall j (by omega))
    rw [hyes] at hp
    cases a
    · repeat' (first | refine goH ?_ | refine goV ?_ | refine goG ?_ | (refine Ops.k_guard ?_; first | (refine Ops.guard_dec rfl rfl (fun hc => ?_) (fun hc => ?_) <;> try (exfalso; omega)) | refine Ops.guard_split rfl rfl (fun hc => ?_) (fun hc => ?_)) | refine goI ?_ | (refine Cw.k_cond ?_; first | (refine Cw.cond_dec rfl (fun hc => ?_) (fun hc => ?_) <;> try (exfalso; omega)) | refine Cw.cond_bool rfl (fun hc => ?_) (fun hc => ?_)) | (refine Ops.k_calla ?_; first | (refine Ops.k_callf 106 ?_; refine Ops.callS kv (Evs.cons rfl Evs.nil) goPm rfl ?_)) | fail)
      exact Fin.ret (Ent.take goTk) (Outs.one rfl rfl) ⟨by rw [hp]; rfl, rfl⟩
    cases b
    rotate_left
    · repeat' (first | refine goH ?_ | refine goV ?_ | refine goG ?_ | (refine Ops.k_guard ?_; first | (refine Ops.guard_dec rfl rfl (fun hc => ?_) (fun hc => ?_) <;> try (exfalso; omega)) | refine Ops.guard_split rfl rfl (fun hc => ?_) (fun hc => ?_)) | refine goI ?_ | (refine Cw.k_cond ?_; first | (refine Cw.cond_dec rfl (fun hc => ?_) (fun hc => ?_) <;> try (exfalso; omega)) | refine Cw.cond_bool rfl (fun hc => ?_) (fun hc => ?_)) | (refine Ops.k_calla ?_; first | (refine Ops.k_callf 106 ?_; refine Ops.callS kv (Evs.cons rfl Evs.nil) goPm rfl ?_) | (refine Ops.k_callf 20 ?_; refine Ops.callV kp (Evs.cons rfl (Evs.cons rfl Evs.nil)) rfl ?_)) | fail)
      exact Fin.ret (Ent.take goTk) (Outs.one rfl rfl) ⟨by rw [hp]; rfl, rfl⟩
    cases c
    rotate_left
    · repeat' (first | refine goH ?_ | refine goV ?_ | refine goG ?_ | (refine Ops.k_guard ?_; first | (refine Ops.guard_dec rfl rfl (fun hc => ?_) (fun hc => ?_) <;> try (exfalso; omega)) | refine Ops.guard_split rfl rfl (fun hc => ?_) (fun hc => ?_)) | refine goI ?_ | (refine Cw.k_cond ?_; first | (refine Cw.cond_dec rfl (fun hc => ?_) (fun hc => ?_) <;> try (exfalso; omega)) | refine Cw.cond_bool rfl (fun hc => ?_) (fun hc => ?_)) | (refine Ops.k_calla ?_; first | (refine Ops.k_callf 106 ?_; refine Ops.callS kv (Evs.cons rfl Evs.nil) goPm rfl ?_) | (refine Ops.k_callf 20 ?_; refine Ops.callV kp (Evs.cons rfl (Evs.cons rfl Evs.nil)) rfl ?_) | (refine Ops.k_callf 107 ?_; refine Ops.callV kq (Evs.cons rfl (Evs.cons rfl Evs.nil)) rfl ?_)) | fail)
      exact Fin.ret (Ent.take goTk) (Outs.one rfl rfl) ⟨by rw [hp]; rfl, rfl⟩
    repeat' (first | refine goH ?_ | refine goV ?_ | refine goG ?_ | (refine Ops.k_guard ?_; first | (refine Ops.guard_dec rfl rfl (fun hc => ?_) (fun hc => ?_) <;> try (exfalso; omega)) | refine Ops.guard_split rfl rfl (fun hc => ?_) (fun hc => ?_)) | refine goI ?_ | (refine Cw.k_cond ?_; first | (refine Cw.cond_dec rfl (fun hc => ?_) (fun hc => ?_) <;> try (exfalso; omega)) | refine Cw.cond_bool rfl (fun hc => ?_) (fun hc => ?_)) | (refine Ops.k_calla ?_; first | (refine Ops.k_callf 106 ?_; refine Ops.callS kv (Evs.cons rfl Evs.nil) goPm rfl ?_) | (refine Ops.k_callf 20 ?_; refine Ops.callV kp (Evs.cons rfl (Evs.cons rfl Evs.nil)) rfl ?_) | (refine Ops.k_callf 107 ?_; refine Ops.callV kq (Evs.cons rfl (Evs.cons rfl Evs.nil)) rfl ?_) | (refine Ops.k_callf 108 ?_; refine Ops.callS kc (Evs.cons rfl (Evs.cons rfl Evs.nil)) goPm rfl ?_)) | fail)
    exact Fin.ret (Ent.take goTk) (Outs.one rfl rfl) ⟨by rw [hp]; rfl, rfl⟩
theorem bytR_row (s : ByteArray) {k : Nat} (h : k < s.size) : (bytR s)[((k : Nat) : Int).toNat]? = some [Tr.raw (.int .u8 (sby s k))] := by
  rw [Int.toNat_natCast, bytR, List.getElem?_map, sby_get h]
  have h2 : k < s.data.toList.length := h
  rw [List.getElem?_eq_getElem h2]
  rfl
theorem wellF_fn (s : ByteArray) (hs : s.size ≤ 1000000000) : Spec Tryz.prog 119 [.str s, .bool false] [bkC] (fun r cs => r = .bool (okB s && vS s) ∧ cs = [bkC]) := by
  have kv := valid_fn s (by omega)
  have hL := bytR_len s
  generalize vS s = a at *
  refine Spec.body Tryz.func119 rfl rfl (Tryz.ntmps119) rfl fun w0 own0 M => ?_
  repeat' (first | refine goH ?_ | (refine Ops.k_convert ?_; first | (refine Ops.convSB Tryz.underlying9 Tryz.underlying70 Tryz.underlying5 rfl hs rfl ?_)) | refine goV ?_ | refine goG ?_ | (refine Ops.k_guard ?_; first | (refine Ops.guard_dec rfl rfl (fun hc => ?_) (fun hc => ?_) <;> try (exfalso; omega)) | refine Ops.guard_split rfl rfl (fun hc => ?_) (fun hc => ?_)) | refine goI ?_ | (refine Cw.k_cond ?_; first | (refine Cw.cond_dec rfl (fun hc => ?_) (fun hc => ?_) <;> try (exfalso; omega)) | refine Cw.cond_bool rfl (fun hc => ?_) (fun hc => ?_)) | fail)
  refine Cw.loopI [(0, _), (1, _), (8, _), (9, _)] _ (fun q e cc => ∃ k : Nat, q = s.size - k ∧ (k ≤ s.size ∧ ∀ j, j < k → okc (sby s j) = true) ∧ e = [(10, .int k)] ∧ cc = []) ⟨_, _, _, (Ent.mkP goSub goPm), 0, rfl, ⟨by omega, fun _ h => by omega⟩, rfl, rfl⟩ ?_
  rintro _ _ _ ⟨k, rfl, ⟨hk, hall⟩, rfl, rfl⟩
  by_cases hkl : k < s.size
  · have hbk := sby_bd s k
    have hrow := bytR_row s hkl
    by_cases h1 : 32 ≤ sby s k ∧ sby s k ≠ 127
    · repeat' (first | refine goH ?_ | refine goV ?_ | refine goG ?_ | (refine Ops.k_guard ?_; first | (refine Ops.guard_dec rfl rfl (fun hc => ?_) (fun hc => ?_) <;> try (exfalso; omega)) | refine Ops.guard_split rfl rfl (fun hc => ?_) (fun hc => ?_)) | refine goI ?_ | (refine Cw.k_cond ?_; first | (refine Cw.cond_dec rfl (fun hc => ?_) (fun hc => ?_) <;> try (exfalso; omega)) | refine Cw.cond_bool rfl (fun hc => ?_) (fun hc => ?_)) | fail)
      all_goals exact ⟨_, _, _, (Ent.mk goSub goTk), ⟨k + 1, rfl, ⟨by omega, fun j hj => by
        by_cases e : j = k
        · subst e; unfold okc; exact decide_eq_true h1
        · exact hall j (by omega)⟩, rfl, rfl⟩, by omega⟩
    · have hno : okB s = false := by
        unfold okB
        refine decide_eq_false (fun h => h1 ?_)
        have := h k hkl
        unfold okc at this
        exact of_decide_eq_true this
      rw [hno]
      repeat' (first | refine goH ?_ | refine goV ?_ | refine goG ?_ | (refine Ops.k_guard ?_; first | (refine Ops.guard_dec rfl rfl (fun hc => ?_) (fun hc => ?_) <;> try (exfalso; omega)) | refine Ops.guard_split rfl rfl (fun hc => ?_) (fun hc => ?_)) | refine goI ?_ | (refine Cw.k_cond ?_; first | (refine Cw.cond_dec rfl (fun hc => ?_) (fun hc => ?_) <;> try (exfalso; omega)) | refine Cw.cond_bool rfl (fun hc => ?_) (fun hc => ?_)) | fail)
      all_goals exact Fin.ret (Ent.take goTk) (Outs.one rfl rfl) ⟨rfl, rfl⟩
  · have hyes : okB s = true := by
      unfold okB
      exact decide_eq_true (fun j hj => hall j (by omega))
    rw [hyes]
    repeat' (first | refine goH ?_ | refine goV ?_ | refine goG ?_ | (refine Ops.k_guard ?_; first | (refine Ops.guard_dec rfl rfl (fun hc => ?_) (fun hc => ?_) <;> try (exfalso; omega)) | refine Ops.guard_split rfl rfl (fun hc => ?_) (fun hc => ?_)) | refine goI ?_ | (refine Cw.k_cond ?_; first | (refine Cw.cond_dec rfl (fun hc => ?_) (fun hc => ?_) <;> try (exfalso; omega)) | refine Cw.cond_bool rfl (fun hc => ?_) (fun hc => ?_)) | (refine Ops.k_calla ?_; first | (refine Ops.k_callf 106 ?_; refine Ops.callS kv (Evs.cons rfl Evs.nil) goPm rfl ?_)) | fail)
    exact Fin.ret (Ent.take goTk) (Outs.one rfl rfl) ⟨rfl, rfl⟩
theorem plainOf_fn (s : ByteArray) (hs : s.size ≤ 1000000000) : Spec Tryz.prog 85 [.str s] [bkC] (fun r cs => r = .bool (plS s) ∧ cs = [bkC]) := by
  have kw := wellF_fn s hs
  have kt := trim1_fn s 32 (by decide) (by omega)
  have kc := strHas_fn s ⟨#[32, 32]⟩ hs
  have hp : plS s = (okB s && vS s && !Lib.hasPrefix s.data.toList [32] && !Lib.hasSuffix s.data.toList [32] && !Lib.contains s.data.toList (ByteArray.mk #[32, 32]).data.toList) := rfl
  have ht := trimB_one s.data.toList 32
  have hmk : ∀ u : ByteArray, (⟨u.data.toList.toArray⟩ : ByteArray) = u := fun u => by cases u; rfl
  generalize plS s = R at *
  generalize (okB s && vS s) = a at *
  generalize Lib.hasPrefix s.data.toList [32] = b at *
  generalize Lib.hasSuffix s.data.toList [32] = c at *
  generalize Lib.contains s.data.toList (ByteArray.mk #[32, 32]).data.toList = d at *
  obtain ⟨u, hu⟩ : ∃ u : ByteArray, u = ⟨(Lib.trimB s.data.toList 32).toArray⟩ := ⟨_, rfl⟩
  rw [← hu] at kt
  have hus : u = s ↔ (b = false ∧ c = false) := by
    rw [← ht]
    constructor
    · intro e
      have := congrArg (fun x : ByteArray => x.data.toList) (hu.symm.trans e)
      simpa using this
    · intro e
      rw [hu, e, hmk]
  clear hu ht hmk
  refine Spec.body Tryz.func85 rfl rfl (Tryz.ntmps85) rfl fun w0 own0 M => ?_
  cases a
  · repeat' (first | refine goH ?_ | refine goV ?_ | refine goG ?_ | (refine Ops.k_guard ?_; first | (refine Ops.guard_dec rfl rfl (fun hc => ?_) (fun hc => ?_) <;> try (exfalso; omega)) | refine Ops.guard_split rfl rfl (fun hc => ?_) (fun hc => ?_)) | refine goI ?_ | (refine Cw.k_cond ?_; first | (refine Cw.cond_dec rfl (fun hc => ?_) (fun hc => ?_) <;> try (exfalso; omega)) | refine Cw.cond_bool rfl (fun hc => ?_) (fun hc => ?_)) | (refine Ops.k_calla ?_; first | (refine Ops.k_callf 119 ?_; refine Ops.callS kw (Evs.cons rfl (Evs.cons rfl Evs.nil)) goPm rfl ?_)) | fail)
    exact Fin.ret (Ent.take goTk) (Outs.one rfl rfl) ⟨by rw [hp]; rfl, rfl⟩
  by_cases h : u = s
  · obtain ⟨rfl, rfl⟩ := hus.1 h
    repeat' (first | refine goH ?_ | (refine Ops.k_b_eql ?_; first | refine Ops.eqlS_t rfl rfl h rfl ?_) | refine goV ?_ | refine goG ?_ | (refine Ops.k_guard ?_; first | (refine Ops.guard_dec rfl rfl (fun hc => ?_) (fun hc => ?_) <;> try (exfalso; omega)) | refine Ops.guard_split rfl rfl (fun hc => ?_) (fun hc => ?_)) | refine goI ?_ | (refine Cw.k_cond ?_; first | (refine Cw.cond_dec rfl (fun hc => ?_) (fun hc => ?_) <;> try (exfalso; omega)) | refine Cw.cond_bool rfl (fun hc => ?_) (fun hc => ?_)) | (refine Ops.k_calla ?_; first | (refine Ops.k_callf 119 ?_; refine Ops.callS kw (Evs.cons rfl (Evs.cons rfl Evs.nil)) goPm rfl ?_) | (refine Ops.k_callf 120 ?_; refine Ops.callV kt (Evs.cons rfl (Evs.cons rfl Evs.nil)) rfl ?_) | (refine Ops.k_callf 108 ?_; refine Ops.callS kc (Evs.cons rfl (Evs.cons rfl Evs.nil)) goPm rfl ?_)) | fail)
    exact Fin.ret (Ent.take goTk) (Outs.one rfl rfl) ⟨by rw [hp]; rfl, rfl⟩
  · have hbc : (!b && !c) = false := by
      cases b <;> cases c <;> first | rfl | exact absurd (hus.2 ⟨rfl, rfl⟩) h
    repeat' (first | refine goH ?_ | (refine Ops.k_b_eql ?_; first | refine Ops.eqlS_f rfl rfl h rfl ?_) | refine goV ?_ | refine goG ?_ | (refine Ops.k_guard ?_; first | (refine Ops.guard_dec rfl rfl (fun hc => ?_) (fun hc => ?_) <;> try (exfalso; omega)) | refine Ops.guard_split rfl rfl (fun hc => ?_) (fun hc => ?_)) | refine goI ?_ | (refine Cw.k_cond ?_; first | (refine Cw.cond_dec rfl (fun hc => ?_) (fun hc => ?_) <;> try (exfalso; omega)) | refine Cw.cond_bool rfl (fun hc => ?_) (fun hc => ?_)) | (refine Ops.k_calla ?_; first | (refine Ops.k_callf 119 ?_; refine Ops.callS kw (Evs.cons rfl (Evs.cons rfl Evs.nil)) goPm rfl ?_) | (refine Ops.k_callf 120 ?_; refine Ops.callV kt (Evs.cons rfl (Evs.cons rfl Evs.nil)) rfl ?_)) | fail)
    exact Fin.ret (Ent.take goTk) (Outs.one rfl rfl) ⟨by rw [hp, Bool.true_and, hbc]; rfl, rfl⟩
end Lg
end
section
set_option linter.all false
set_option maxRecDepth 100000
set_option maxHeartbeats 8000000
namespace Lg
open Go Go.Proofs

/-! ### strings compared; names with numbers -/
theorem cmpString_fn (a b : ByteArray) : PFn Tryz.prog 63 [.str a, .str b] (· = .int (cmpS a b)) := by
  have hx : ∀ w, (callFunc 100 #[.string a, .string b]).run Tryz.prog w = .ok (.value (.int .i64 (cmpS a b))) w := fun w => by
    rw [run_callFunc_extern Tryz.func100 (by kernel_rfl) (by kernel_rfl) (by kernel_rfl) (e := Extern.BytealgCompare.compare) (by kernel_rfl), Lib.run_compareString, cmpS_cb]
    rfl
  refine PFn.mk (Spec.body Tryz.func63 rfl rfl (Tryz.ntmps63) rfl fun w0 own0 M => ?_)
  repeat' (first | refine Ops.nil ?_ | refine Then.norm ?_ | refine Cw.seq ?_ | refine Cw.region ?_ | refine Cw.block ?_ | refine Cw.exit ?_ | refine Cw.skip ?_ | refine Cw.ret ?_ | refine Then.exit ?_ | refine Then.ret ?_ | refine InB.exit ?_ | refine InB.norm ?_ | refine InB.ret ?_ | refine InB.exit_ne rfl ?_ | (refine Ops.k_move ?_; first | refine Ops.move rfl rfl ?_ | refine Ops.move_any rfl ?_) | (refine Ops.k_assign ?_; first | refine Ops.assign rfl rfl ?_ | refine Ops.assign_any rfl ?_) | (refine Cw.k_cond ?_; first | refine Cw.cond_true rfl ?_ | refine Cw.cond_false rfl ?_ | (refine Cw.cond_dec rfl (fun hc => ?_) (fun hc => ?_) <;> try (exfalso; omega)) | refine Cw.cond_bool rfl (fun hc => ?_) (fun hc => ?_)) | refine Ops.ext2 hx rfl rfl rfl ?_)
  exact Fin.ret (Ent.take goTk) (Outs.one rfl rfl) ⟨rfl, rfl⟩
theorem compareS_fn (a b : ByteArray) : PFn Tryz.prog 37 [.str a, .str b] (· = .int (cmpS a b)) := by
  have k1 := cmpString_fn a b
  refine PFn.mk (Spec.body Tryz.func37 rfl rfl (Tryz.ntmps37) rfl fun w0 own0 M => ?_)
  repeat' (first | refine Ops.nil ?_ | refine Then.norm ?_ | refine Cw.seq ?_ | refine Cw.region ?_ | refine Cw.block ?_ | refine Cw.exit ?_ | refine Cw.skip ?_ | refine Cw.ret ?_ | refine Then.exit ?_ | refine Then.ret ?_ | refine InB.exit ?_ | refine InB.norm ?_ | refine InB.ret ?_ | refine InB.exit_ne rfl ?_ | (refine Ops.k_move ?_; first | refine Ops.move rfl rfl ?_ | refine Ops.move_any rfl ?_) | (refine Ops.k_assign ?_; first | refine Ops.assign rfl rfl ?_ | refine Ops.assign_any rfl ?_) | (refine Cw.k_cond ?_; first | refine Cw.cond_true rfl ?_ | refine Cw.cond_false rfl ?_ | (refine Cw.cond_dec rfl (fun hc => ?_) (fun hc => ?_) <;> try (exfalso; omega)) | refine Cw.cond_bool rfl (fun hc => ?_) (fun hc => ?_)) | (refine Ops.k_calla ?_; first | (refine Ops.k_callf 63 ?_; refine Ops.callV k1 (Evs.cons rfl (Evs.cons rfl Evs.nil)) rfl ?_)))
  exact Fin.ret (Ent.take goTk) (Outs.one rfl rfl) ⟨rfl, rfl⟩
end Lg
end
section
set_option linter.all false
set_option maxRecDepth 100000
set_option maxHeartbeats 4000000
namespace Lg
open Go Go.Proofs

/-- the length in bits of a small number: some number -/
theorem len64_fn (n : Int) (hn : 0 ≤ n ∧ n ≤ 200) : PFn Tryz.prog 99 [Tr.raw (.int .u64 n)] (fun r => ∃ v : Int, r = .int v) := by
  refine PFn.mk (Spec.body Tryz.func99 rfl rfl (Tryz.ntmps99) rfl fun w0 own0 M => ?_)
  repeat' (first | refine goH ?_ | (refine Ops.k_convert ?_; first | (refine Ops.convN Tryz.underlying137 Tryz.underlying5 rfl (wrap_u8 (by omega)) rfl ?_) | (refine Ops.convN Tryz.underlying5 Tryz.underlying3 rfl (wrap_i64 (by omega)) rfl ?_)) | (refine Ops.k_index ?_; first | (refine Ops.indexS_any Tryz.underlying9 rfl rfl (by refine ⟨by omega, ?_⟩; show n < 256; omega) rfl (fun v hv => ?_))) | refine goV ?_ | refine goI ?_ | (refine Cw.k_cond ?_; first | (refine Cw.cond_dec rfl (fun hc => ?_) (fun hc => ?_) <;> try (exfalso; omega)) | refine Cw.cond_bool rfl (fun hc => ?_) (fun hc => ?_)) | fail)
  exact Fin.ret (Ent.take goTk) (Outs.one rfl rfl) ⟨rfl, _, rfl⟩
theorem bitsLen_fn (n : Int) (hn : 0 ≤ n ∧ n ≤ 200) : PFn Tryz.prog 62 [Tr.raw (.int .u64 n)] (fun r => ∃ v : Int, r = .int v) := by
  have h := len64_fn n hn
  unfold PFn at h
  refine PFn.mk (Spec.body Tryz.func62 rfl rfl (Tryz.ntmps62) rfl fun w0 own0 M => ?_)
  repeat' (first | refine goH ?_ | refine goV ?_ | refine goI ?_ | (refine Cw.k_cond ?_; first | (refine Cw.cond_dec rfl (fun hc => ?_) (fun hc => ?_) <;> try (exfalso; omega)) | refine Cw.cond_bool rfl (fun hc => ?_) (fun hc => ?_)) | (refine Ops.k_calla ?_; first | (refine Ops.call (cf := []) h (Evs.cons rfl Evs.nil) (by simp) rfl ?_; rintro r cs' ⟨rfl, v, rfl⟩)) | fail)
  exact Fin.ret (Ent.take goTk) (Outs.one rfl rfl) ⟨rfl, _, rfl⟩
end Lg
end
