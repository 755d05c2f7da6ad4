/- A part of the proof of a law of this seat: it adds no condition. By an AI agent. -/
import Derived.Test.YtdkioblnppppeaaGreatDoorCf2
section
set_option linter.all false
set_option maxRecDepth 100000
set_option maxHeartbeats 1000000
namespace Lg
open Go Go.Proofs

/-! ### pieces put together -/
/-- slices.Grow of nil, slices.Concat: a slice of its own -/
theorem grow_piece (n : Nat) (hn : n ≤ 1000000) : PFnO Tryz.prog 55 [Tr.raw (.slice none 0 0), .int n] 2 51 (· = []) := by
  unfold PFnO
  refine Spec.body Tryz.func55 rfl rfl (Tryz.ntmps55) rfl fun w0 own0 M => ?_
  refine Cw.ent (Ent.nil 2 51) ?_
  by_cases h0 : 0 < n
  · repeat' (first | refine goH ?_ | refine goV ?_ | refine goC (fun ad cap => ?_) | refine goI ?_ | (refine Cw.k_cond ?_; first | (refine Cw.cond_dec rfl (fun hc => ?_) (fun hc => ?_) <;> try (exfalso; omega)) | refine Cw.cond_bool rfl (fun hc => ?_) (fun hc => ?_)) | (refine Ops.val' rfl (OpV.cap Tryz.underlying26 rfl) ?_) | (refine Ops.append_zeros (n := n) Tryz.underlying3 rfl ?_ h0 (by omega) (by omega) rfl (fun ad cap => ?_)) | fail)
    · show some (Tr.int ((n : Int) - (((0 : Nat) : Int) - ((0 : Nat) : Int)))) = some (Tr.int (n : Int))
      rw [show (n : Int) - (((0 : Nat) : Int) - ((0 : Nat) : Int)) = (n : Int) by omega]
    · exact Fin.ret (Ent.take goTk) (Outs.one rfl rfl) ⟨_, _, [], rfl, rfl, rfl⟩
  · repeat' (first | refine goH ?_ | refine goV ?_ | refine goC (fun ad cap => ?_) | refine goI ?_ | (refine Cw.k_cond ?_; first | (refine Cw.cond_dec rfl (fun hc => ?_) (fun hc => ?_) <;> try (exfalso; omega)) | refine Cw.cond_bool rfl (fun hc => ?_) (fun hc => ?_)) | (refine Ops.val' rfl (OpV.cap Tryz.underlying26 rfl) ?_) | fail)
    exact Fin.ret (Ent.take goTk) (Outs.one rfl rfl) ⟨none, 0, [], rfl, rfl, rfl⟩
theorem concat_piece (L : List (List (List Tr))) (h1 : L.length ≤ 1000) (h2 : L.flatten.length ≤ 1000000) : PFnO Tryz.prog 33 [.sl 1 (L.map fun l => [Tr.sl 2 l])] 2 51 (· = L.flatten) := by
  have hL : (L.map fun l => [Tr.sl 2 l]).length = L.length := List.length_map _
  have fl_take : ∀ {k : Nat} {l : List (List Tr)}, L[k]? = some l → (L.take (k + 1)).flatten = (L.take k).flatten ++ l := fun h => by rw [take_at h, List.flatten_append]; simp
  have fl_le : ∀ k, (L.take k).flatten.length ≤ L.flatten.length := fun k => by
    have h := List.take_append_drop k L
    have h2 := congrArg (fun l => l.flatten.length) h
    simp only [List.flatten_append, List.length_append] at h2
    omega
  unfold PFnO
  refine Spec.body Tryz.func33 rfl rfl (Tryz.ntmps33) rfl fun w0 own0 M => ?_
  repeat' (first | refine goH ?_ | refine goV ?_ | refine goC (fun ad cap => ?_) | refine goI ?_ | (refine Cw.k_cond ?_; first | (refine Cw.cond_dec rfl (fun hc => ?_) (fun hc => ?_) <;> try (exfalso; omega)) | refine Cw.cond_bool rfl (fun hc => ?_) (fun hc => ?_)) | fail)
  refine Cw.loopI [(0, _), (9, _), (10, _)] _ (fun q e cc => ∃ (k : Nat), q = L.length - k ∧ (k ≤ L.length) ∧ e = [(3, .int ((L.take k).flatten.length : Nat)), (11, .int k)] ∧ cc = []) ⟨_, _, _, (Ent.mkP goSub goPm), 0, rfl, by omega, rfl, rfl⟩ ?_
  rintro _ _ _ ⟨k, rfl, hk, rfl, rfl⟩
  by_cases hkl : k < L.length
  · obtain ⟨l, hl⟩ := at_lt hkl
    have hrow : (L.map fun l => [Tr.sl 2 l])[k]? = some [Tr.sl 2 l] := rows_at hl
    have hst := congrArg List.length (fl_take hl)
    rw [List.length_append] at hst
    have hb := fl_le (k + 1)
    clear fl_take fl_le
    repeat' (first | refine goH ?_ | refine goV ?_ | refine goC (fun ad cap => ?_) | refine goI ?_ | (refine Cw.k_cond ?_; first | (refine Cw.cond_dec rfl (fun hc => ?_) (fun hc => ?_) <;> try (exfalso; omega)) | refine Cw.cond_bool rfl (fun hc => ?_) (fun hc => ?_)) | fail)
    exact ⟨_, _, _, Ent.mk (by first | (refine Sub.cons (by show some (Tr.int _) = some (Tr.int _); congr 2; omega) ?_; repeat' (first | exact Sub.nil | refine Sub.cons rfl ?_))) goTk, ⟨k + 1, rfl, by omega, rfl, rfl⟩, by omega⟩
  · have hkk : k = L.length := by omega
    subst hkk
    have hg := grow_piece L.flatten.length h2
    rw [List.take_of_length_le (Nat.le_refl _)]
    generalize hN : L.flatten.length = N at *
    repeat' (first | refine goH ?_ | refine goV ?_ | refine goC (fun ad cap => ?_) | refine goI ?_ | (refine Cw.k_cond ?_; first | (refine Cw.cond_dec rfl (fun hc => ?_) (fun hc => ?_) <;> try (exfalso; omega)) | refine Cw.cond_bool rfl (fun hc => ?_) (fun hc => ?_)) | (refine Ops.k_calla ?_; first | (refine Ops.k_callf 55 ?_; (refine Ops.callO hg (Evs.cons rfl (Evs.cons rfl Evs.nil)) rfl (fun ad cap rows hr => ?_); subst hr))) | fail)
    refine Cw.loopI [(25, _), (26, _)] _ (fun q e cc => ∃ (k : Nat) (ad : Option Addr) (cap : Nat) (rows : List (List Tr)), q = L.length - k ∧ (k ≤ L.length ∧ rows = (L.take k).flatten ∧ rows.length ≤ N) ∧ e = [(6, Tr.raw (.slice ad rows.length cap)), (27, .int k)] ∧ cc = [Chunk.own ad cap 2 51 rows])
      ⟨_, _, _, (Ent.mkP goSub goPm), 0, ad, cap, [], rfl, ⟨by omega, rfl, by simp⟩, rfl, rfl⟩ ?_
    clear ad cap
    rintro _ _ _ ⟨k, ad, cap, rows, rfl, ⟨hk, hrows, hrl⟩, rfl, rfl⟩
    by_cases hkl : k < L.length
    · obtain ⟨l, hl⟩ := at_lt hkl
      have hrow : (L.map fun l => [Tr.sl 2 l])[k]? = some [Tr.sl 2 l] := rows_at hl
      have hst := fl_take hl
      have hb := fl_le (k + 1)
      have key : rows ++ l = (L.take (k + 1)).flatten := by rw [hst, hrows]
      have hkl2 := congrArg List.length key
      rw [List.length_append] at hkl2
      clear fl_take fl_le hst
      repeat' (first | refine goH ?_ | refine goV ?_ | refine goC (fun ad cap => ?_) | refine goI ?_ | (refine Cw.k_cond ?_; first | (refine Cw.cond_dec rfl (fun hc => ?_) (fun hc => ?_) <;> try (exfalso; omega)) | refine Cw.cond_bool rfl (fun hc => ?_) (fun hc => ?_)) | fail)
      exact ⟨_, _, _, (Ent.mk goSub goTk), ⟨k + 1, _, _, _, rfl, ⟨by omega, key, by rw [List.length_append]; omega⟩, rfl, rfl⟩, by omega⟩
    · rw [List.take_of_length_le (by omega)] at hrows
      repeat' (first | refine goH ?_ | refine goV ?_ | refine goC (fun ad cap => ?_) | refine goI ?_ | (refine Cw.k_cond ?_; first | (refine Cw.cond_dec rfl (fun hc => ?_) (fun hc => ?_) <;> try (exfalso; omega)) | refine Cw.cond_bool rfl (fun hc => ?_) (fun hc => ?_)) | fail)
      exact Fin.ret (Ent.take goTk) (Outs.one rfl rfl) ⟨ad, cap, rows, rfl, rfl, hrows⟩

theorem joinP_snoc {l : List Piece} {k : Nat} {x : Piece} (h : l[k]? = some x) : joinP (l.take (k + 1)) = joinS (joinP (l.take k)) x := by
  unfold joinP
  rw [take_at h, List.foldl_append]
  rfl
theorem joinS_app {out : List Piece} {x : Piece} (h : ∀ q, out.getLast? = some q → q.lot ≠ x.lot) : joinS out x = out ++ [x] := by
  unfold joinS
  cases hl : out.getLast? with
  | none => rw [List.getLast?_eq_none_iff] at hl; subst hl; rfl
  | some q => simp only; rw [if_neg (h q hl)]
theorem joinS_set {out : List Piece} {x q : Piece} {j : Nat} (hj : out.length = j + 1) (hq : out[j]? = some q) (h : q.lot = x.lot) : joinS out x = out.set j ⟨q.lot, q.many + x.many⟩ := by
  have hl : out.getLast? = some q := by rw [List.getLast?_eq_getElem?, hj]; exact hq
  unfold joinS
  rw [hl]
  simp only
  rw [if_pos h]
  apply List.ext_getElem?
  intro i
  rw [List.getElem?_set]
  by_cases hi : j = i
  · subst hi
    rw [if_pos rfl, if_pos (by omega), List.getElem?_append_right (by simp; omega)]
    simp [hj]
  · rw [if_neg hi]
    by_cases h2 : i < j
    · rw [List.getElem?_append_left (by simp; omega), List.getElem?_dropLast, if_pos (by omega)]
    · rw [List.getElem?_eq_none (by simp; omega), List.getElem?_eq_none (by omega)]
theorem joinS_len (out : List Piece) (x : Piece) : (joinS out x).length ≤ out.length + 1 := by
  by_cases h : ∀ q, out.getLast? = some q → q.lot ≠ x.lot
  · rw [joinS_app h]; simp
  · obtain ⟨q, hq, h2⟩ : ∃ q, out.getLast? = some q ∧ q.lot = x.lot := by
      refine Classical.byContradiction fun hn => h fun q hq e => hn ⟨q, hq, e⟩
    rw [List.getLast?_eq_getElem?] at hq
    have := (List.getElem?_eq_some_iff.1 hq).1
    rw [joinS_set (j := out.length - 1) (by omega) hq h2, List.length_set]
    omega
/-- what the last piece has grown to, by units -/
theorem joinS_bd {out : List Piece} {x : Piece} {B C : Int} (h : ∀ p ∈ out, 0 ≤ p.many ∧ p.many ≤ B) (hx : 0 ≤ x.many ∧ x.many ≤ C) (hB : 0 ≤ B) : ∀ p ∈ joinS out x, 0 ≤ p.many ∧ p.many ≤ B + C := by
  intro p hp
  unfold joinS at hp
  cases hl : out.getLast? with
  | none =>
    rw [hl] at hp
    simp only [List.mem_singleton] at hp
    subst hp
    omega
  | some q =>
    rw [hl] at hp
    simp only at hp
    split at hp
    · rcases List.mem_append.1 hp with hp | hp
      · have := h p (List.dropLast_subset out hp); omega
      · rw [List.mem_singleton] at hp
        subst hp
        have := h q (List.mem_of_getLast? hl)
        simp only
        omega
    · rcases List.mem_append.1 hp with hp | hp
      · have := h p hp; omega
      · rw [List.mem_singleton] at hp
        subst hp
        omega
theorem joined_fn (l : List Piece) (hl : l.length ≤ 100000) (hm : ∀ p ∈ l, 0 ≤ p.many ∧ p.many ≤ 1000) : PFnO Tryz.prog 32 [.pieces l] 2 51 (· = (joinP l).map Piece.row) := by
  unfold PFnO
  refine Spec.body Tryz.func32 rfl rfl (Tryz.ntmps32) rfl fun w0 own0 M => ?_
  have hL : (l.map Piece.row).length = l.length := List.length_map _
  repeat' (first | refine goH ?_ | refine goV ?_ | refine goB (fun b => ?_) | refine goC (fun ad cap => ?_) | refine goG ?_ | (refine Ops.k_guard ?_; first | (refine Ops.guard_dec rfl rfl (fun hc => ?_) (fun hc => ?_) <;> try (exfalso; omega)) | refine Ops.guard_split rfl rfl (fun hc => ?_) (fun hc => ?_)) | refine goI ?_ | (refine Cw.k_cond ?_; first | (refine Cw.cond_dec rfl (fun hc => ?_) (fun hc => ?_) <;> try (exfalso; omega)) | refine Cw.cond_bool rfl (fun hc => ?_) (fun hc => ?_)) | refine goR ?_ | refine goP ?_ | apply PSeq.cons | apply PSeq.yes rfl rfl rfl | exact goW | fail)
  refine Cw.loopI [(7, _), (8, _)] _ (fun n e c => ∃ (k m : Nat) (ad : Option Addr) (cap : Nat) (out : List Piece) (rows : List (List Tr)), n = l.length - k ∧ (k ≤ l.length ∧ out = joinP (l.take k) ∧ rows = out.map Piece.row ∧ rows.length = m ∧ m ≤ k ∧ ∀ p ∈ out, 0 ≤ p.many ∧ p.many ≤ 1000 * (k : Int)) ∧ e = [(3, Tr.raw (.slice ad m cap)), (9, .int k)] ∧ c = [Chunk.own ad cap 2 51 rows])
    ⟨_, _, _, Ent.trans (Ent.nil 2 51) (Ent.mkP goSub goPm), 0, 0, none, 0, [], [], rfl, ⟨by omega, rfl, rfl, rfl, by omega, fun p hp => by cases hp⟩, rfl, rfl⟩ ?_
  rintro _ _ _ ⟨k, m, ad, cap, out, rows, rfl, ⟨hk, hout, hrows, hlen, hmk, hbd⟩, rfl, rfl⟩
  by_cases hkl : k < l.length
  · obtain ⟨x, hx⟩ := at_lt hkl
    have hrow : (l.map Piece.row)[k]? = some [.str x.lot, .int x.many] := rows_at hx
    have hmx := hm x (List.mem_of_getElem? hx)
    have hnx := joinP_snoc hx
    rw [← hout] at hnx
    have hol : out.length = m := by rw [← hlen, hrows, List.length_map]
    have hbd2 := joinS_bd (x := x) (C := 1000) hbd (by omega) (by omega)
    have hjl := joinS_len out x
    rw [hol] at hjl
    clear hm hx
    by_cases hz : m = 0
    · subst hz
      have ho : out = [] := List.length_eq_zero_iff.1 hol
      subst ho
      have hr0 : rows = [] := by rw [hrows]; rfl
      subst hr0
      have key : ([] : List (List Tr)) ++ [[Tr.str x.lot, .int x.many]] = (joinS [] x).map Piece.row := rfl
      repeat' (first | refine goH ?_ | refine goV ?_ | refine goB (fun b => ?_) | refine goC (fun ad cap => ?_) | refine goG ?_ | (refine Ops.k_guard ?_; first | (refine Ops.guard_dec rfl rfl (fun hc => ?_) (fun hc => ?_) <;> try (exfalso; omega)) | refine Ops.guard_split rfl rfl (fun hc => ?_) (fun hc => ?_)) | refine goI ?_ | (refine Cw.k_cond ?_; first | (refine Cw.cond_dec rfl (fun hc => ?_) (fun hc => ?_) <;> try (exfalso; omega)) | refine Cw.cond_bool rfl (fun hc => ?_) (fun hc => ?_)) | refine goR ?_ | refine goP ?_ | apply PSeq.cons | apply PSeq.yes rfl rfl rfl | exact goW | fail)
      all_goals first
        | exact ⟨_, _, _, (Ent.mk goSub goTk), ⟨k + 1, 1, _, _, _, _, rfl, ⟨by omega, hnx.symm, key, rfl, by omega, fun p hp => by have := hbd2 p hp; omega⟩, rfl, rfl⟩, by omega⟩
    · obtain ⟨j, rfl⟩ : ∃ j, m = j + 1 := ⟨m - 1, by omega⟩
      obtain ⟨q, hq⟩ := at_lt (l := out) (k := j) (by omega)
      have hqb := hbd q (List.mem_of_getElem? hq)
      have hq0 : rows[(((j + 1 : Nat) : Int) - 1).toNat]? = some [Tr.str q.lot, .int q.many] := by rw [show (((j + 1 : Nat) : Int) - 1).toNat = j by omega, hrows]; exact rows_at hq
      have hgl : out.getLast? = some q := by rw [List.getLast?_eq_getElem?, hol]; exact hq
      by_cases he : q.lot = x.lot
      · have key : rows.set (((j + 1 : Nat) : Int) - 1).toNat [Tr.str q.lot, .int (q.many + x.many)] = (joinS out x).map Piece.row := by
          rw [show (((j + 1 : Nat) : Int) - 1).toNat = j by omega, joinS_set hol hq he, hrows, List.map_set]
          rfl
        have kl : (rows.set (((j + 1 : Nat) : Int) - 1).toNat [Tr.str q.lot, .int (q.many + x.many)]).length = j + 1 := by rw [List.length_set, hlen]
        clear hrows hbd hgl hq
        repeat' (first | refine goH ?_ | refine goV ?_ | refine goB (fun b => ?_) | refine goC (fun ad cap => ?_) | refine goG ?_ | (refine Ops.k_guard ?_; first | (refine Ops.guard_dec rfl rfl (fun hc => ?_) (fun hc => ?_) <;> try (exfalso; omega)) | refine Ops.guard_split rfl rfl (fun hc => ?_) (fun hc => ?_)) | refine goI ?_ | (refine Cw.k_cond ?_; first | (refine Cw.cond_dec rfl (fun hc => ?_) (fun hc => ?_) <;> try (exfalso; omega)) | refine Cw.cond_bool rfl (fun hc => ?_) (fun hc => ?_)) | refine goR ?_ | refine goP ?_ | apply PSeq.cons | apply PSeq.yes rfl rfl rfl | exact goW | fail)
        all_goals first
          | exact ⟨_, _, _, (Ent.mk goSub goTk), ⟨k + 1, j + 1, _, _, _, _, rfl, ⟨by omega, hnx.symm, key, kl, by omega, fun p hp => by have := hbd2 p hp; omega⟩, rfl, rfl⟩, by omega⟩
      · have key : rows ++ [[Tr.str x.lot, .int x.many]] = (joinS out x).map Piece.row := by
          rw [joinS_app (fun q' hq' => by rw [hgl] at hq'; cases hq'; exact he), hrows, List.map_append]
          rfl
        have kl : (rows ++ [[Tr.str x.lot, .int x.many]]).length = j + 2 := by rw [List.length_append, hlen]; rfl
        clear hrows hbd hgl hq
        repeat' (first | refine goH ?_ | refine goV ?_ | refine goB (fun b => ?_) | refine goC (fun ad cap => ?_) | refine goG ?_ | (refine Ops.k_guard ?_; first | (refine Ops.guard_dec rfl rfl (fun hc => ?_) (fun hc => ?_) <;> try (exfalso; omega)) | refine Ops.guard_split rfl rfl (fun hc => ?_) (fun hc => ?_)) | refine goI ?_ | (refine Cw.k_cond ?_; first | (refine Cw.cond_dec rfl (fun hc => ?_) (fun hc => ?_) <;> try (exfalso; omega)) | refine Cw.cond_bool rfl (fun hc => ?_) (fun hc => ?_)) | refine goR ?_ | refine goP ?_ | apply PSeq.cons | apply PSeq.yes rfl rfl rfl | exact goW | fail)
        rw [kl]
        exact ⟨_, _, _, (Ent.mk goSub goTk), ⟨k + 1, j + 2, _, _, _, _, rfl, ⟨by omega, hnx.symm, key, kl, by omega, fun p hp => by have := hbd2 p hp; omega⟩, rfl, rfl⟩, by omega⟩
  · rw [List.take_of_length_le (by omega)] at hout
    subst hlen
    repeat' (first | refine goH ?_ | refine goV ?_ | refine goB (fun b => ?_) | refine goC (fun ad cap => ?_) | refine goG ?_ | (refine Ops.k_guard ?_; first | (refine Ops.guard_dec rfl rfl (fun hc => ?_) (fun hc => ?_) <;> try (exfalso; omega)) | refine Ops.guard_split rfl rfl (fun hc => ?_) (fun hc => ?_)) | refine goI ?_ | (refine Cw.k_cond ?_; first | (refine Cw.cond_dec rfl (fun hc => ?_) (fun hc => ?_) <;> try (exfalso; omega)) | refine Cw.cond_bool rfl (fun hc => ?_) (fun hc => ?_)) | refine goR ?_ | refine goP ?_ | apply PSeq.cons | apply PSeq.yes rfl rfl rfl | exact goW | fail)
    refine Fin.ret (Ent.take goTk) (Outs.one rfl rfl) ⟨ad, cap, rows, rfl, rfl, ?_⟩
    rw [hrows, hout]
end Lg
end
section
set_option linter.all false
set_option maxRecDepth 100000
set_option maxHeartbeats 4000000
namespace Lg
open Go Go.Proofs



theorem piece_eq0 (n : Nat) (a : ByteArray) (b : Int) (w : World) : (Op.equalIn (n + 1 + 1) 51 (.agg #[.string a, .int .i64 b]) (.agg #[.string a, .int .i64 b])).run Tryz.prog w = .ok true w := by
  have hs : Tryz.prog.stoodInHeld 51 = false := by kernel_rfl
  simp [Op.equalIn, run_underlying Tryz.underlying51, run_underlying Tryz.underlying9, run_underlying Tryz.underlying3, ba_self, hs, part, Go.sizeOf, typeInfo]
theorem piece_eq1 (a : ByteArray) (b : Int) (w : World) : (binOp .eql 51 (.agg #[.string a, .int .i64 b]) (.agg #[.string a, .int .i64 b])).run Tryz.prog w = .ok (.bool true) w := by
  show (do let r ← Op.equalIn (9998 + 1 + 1) 51 _ _; pure (Value.bool r) : Sem Value).run Tryz.prog w = _
  have := piece_eq0 9998 a b w
  generalize Op.equalIn (9998 + 1 + 1) 51 (.agg #[.string a, .int .i64 b]) (.agg #[.string a, .int .i64 b]) = s at *
  simp [this]
theorem piece_ne1 (a : ByteArray) (b : Int) (w : World) : (binOp .neq 51 (.agg #[.string a, .int .i64 b]) (.agg #[.string a, .int .i64 b])).run Tryz.prog w = .ok (.bool false) w := by
  show (do let r ← Op.equalIn (9998 + 1 + 1) 51 _ _; pure (Value.bool !r) : Sem Value).run Tryz.prog w = _
  have := piece_eq0 9998 a b w
  generalize Op.equalIn (9998 + 1 + 1) 51 (.agg #[.string a, .int .i64 b]) (.agg #[.string a, .int .i64 b]) = s at *
  simp [this]
section
variable {Γ : Ctx} {env : Env} {cs : List Chunk} {x y : Operand} {T2 ty : TypeId}
theorem OpV.piece_t {a : ByteArray} {b : Int} (hx : ev env x = some (.agg ([.string a, .int .i64 b].map Tr.raw))) (hy : ev env y = some (.agg ([.string a, .int .i64 b].map Tr.raw))) : OpV Tryz.prog Γ (.binOp .eql 51 x y T2) ty env cs (.bool true) := by
  unfold OpV
  intro ac w d
  have h1 := agg_raw (l := [.string a, .int .i64 b]) (d.ev hx)
  have h2 := agg_raw (l := [.string a, .int .i64 b]) (d.ev hy)
  have h3 := piece_eq1 a b w
  have h4 : (eqGuard .eql 51 x y (.agg #[.string a, .int .i64 b]) (.agg #[.string a, .int .i64 b])).run Tryz.prog w = .ok () w := by simp [eqGuard]
  exact ⟨.bool true, by simp [execOp, h1, h2, h3, h4], by unfold Tr.bool Tr.raw; rfl⟩
theorem OpV.piece_ne_f {a : ByteArray} {b : Int} (hx : ev env x = some (.agg ([.string a, .int .i64 b].map Tr.raw))) (hy : ev env y = some (.agg ([.string a, .int .i64 b].map Tr.raw))) : OpV Tryz.prog Γ (.binOp .neq 51 x y T2) ty env cs (.bool false) := by
  unfold OpV
  intro ac w d
  have h1 := agg_raw (l := [.string a, .int .i64 b]) (d.ev hx)
  have h2 := agg_raw (l := [.string a, .int .i64 b]) (d.ev hy)
  have h3 := piece_ne1 a b w
  have h4 : (eqGuard .neq 51 x y (.agg #[.string a, .int .i64 b]) (.agg #[.string a, .int .i64 b])).run Tryz.prog w = .ok () w := by simp [eqGuard]
  exact ⟨.bool false, by simp [execOp, h1, h2, h3, h4], by unfold Tr.bool Tr.raw; rfl⟩
end
theorem equal_piece (xs : List Piece) (h : xs.length ≤ 1000000000) : PFn Tryz.prog 22 [.sl 2 (xs.map Piece.row), .sl 2 (xs.map Piece.row)] (· = .bool true) := by
  refine PFn.mk (Spec.body Tryz.func22 rfl rfl (Tryz.ntmps22) rfl fun w0 own0 M => ?_)
  have hL : (xs.map Piece.row).length = xs.length := List.length_map _
  repeat' (first | refine goH ?_ | refine goV ?_ | refine goI ?_ | (refine Cw.k_cond ?_; first | (refine Cw.cond_dec rfl (fun hc => ?_) (fun hc => ?_) <;> try (exfalso; omega)) | refine Cw.cond_bool rfl (fun hc => ?_) (fun hc => ?_)) | refine goR ?_ | refine goP ?_ | apply PSeq.cons | apply PSeq.yes rfl rfl rfl | exact goW | fail)
  refine Cw.loop (ι := Nat) (fun k => k ≤ xs.length) (fun k => [(0, .sl 2 (xs.map Piece.row)), (1, .sl 2 (xs.map Piece.row)), (11, .sl 2 (xs.map Piece.row)), (12, .int (xs.map Piece.row).length), (13, .int k)]) (fun _ => []) (fun k => xs.length - k) ⟨0, by omega, (Ent.mk goSub goTk)⟩ ?_
  intro k hk
  by_cases hkl : k < xs.length
  · obtain ⟨d, hd⟩ : ∃ x, xs[k]? = some x := ⟨_, List.getElem?_eq_getElem hkl⟩
    have hrow : (xs.map Piece.row)[k]? = some [.str d.lot, .int d.many] := rows_at hd
    repeat' (first | refine goH ?_ | refine goV ?_ | refine goI ?_ | (refine Cw.k_cond ?_; first | (refine Cw.cond_dec rfl (fun hc => ?_) (fun hc => ?_) <;> try (exfalso; omega)) | refine Cw.cond_bool rfl (fun hc => ?_) (fun hc => ?_)) | (apply OpV.w; apply OpV.piece_ne_f; exact rfl; exact rfl) | refine goR ?_ | refine goP ?_ | apply PSeq.cons | apply PSeq.yes rfl rfl rfl | exact goW | fail)
    exact ⟨k + 1, by omega, by omega, (Ent.mk goSub goTk)⟩
  · repeat' (first | refine goH ?_ | refine goV ?_ | refine goI ?_ | (refine Cw.k_cond ?_; first | (refine Cw.cond_dec rfl (fun hc => ?_) (fun hc => ?_) <;> try (exfalso; omega)) | refine Cw.cond_bool rfl (fun hc => ?_) (fun hc => ?_)) | refine goR ?_ | refine goP ?_ | apply PSeq.cons | apply PSeq.yes rfl rfl rfl | exact goW | fail)
    exact Fin.ret Ent.refl (Outs.one rfl rfl) ⟨rfl, rfl⟩

end Lg
end
section
set_option linter.all false
set_option maxRecDepth 100000
set_option maxHeartbeats 1000000
namespace Lg
open Go Go.Proofs

/-! ### units put together; Push, PushOf, SameCoil -/
theorem pcs_snoc {l : List ByteArray} {k : Nat} {x : ByteArray} (h : l[k]? = some x) : pcs (l.take (k + 1)) = joinS (pcs (l.take k)) ⟨x, 1⟩ := by
  unfold pcs
  rw [take_at h, List.foldl_append]
  rfl
theorem pieces_fn (l : List ByteArray) (hl : l.length ≤ 1000000) : PFnO Tryz.prog 46 [.strs l] 2 51 (· = (pcs l).map Piece.row) := by
  unfold PFnO
  refine Spec.body Tryz.func46 rfl rfl (Tryz.ntmps46) rfl fun w0 own0 M => ?_
  have hL := strRows_len l
  repeat' (first | refine goH ?_ | refine goV ?_ | refine goC (fun ad cap => ?_) | refine goG ?_ | (refine Ops.k_guard ?_; first | (refine Ops.guard_dec rfl rfl (fun hc => ?_) (fun hc => ?_) <;> try (exfalso; omega)) | refine Ops.guard_split rfl rfl (fun hc => ?_) (fun hc => ?_)) | refine goI ?_ | (refine Cw.k_cond ?_; first | (refine Cw.cond_dec rfl (fun hc => ?_) (fun hc => ?_) <;> try (exfalso; omega)) | refine Cw.cond_bool rfl (fun hc => ?_) (fun hc => ?_)) | fail)
  refine Cw.loopI [(7, _), (8, _)] _ (fun n e c => ∃ (k m : Nat) (ad : Option Addr) (cap : Nat) (out : List Piece) (rows : List (List Tr)), n = l.length - k ∧ (k ≤ l.length ∧ out = pcs (l.take k) ∧ rows = out.map Piece.row ∧ rows.length = m ∧ m ≤ k ∧ ∀ p ∈ out, 0 ≤ p.many ∧ p.many ≤ (k : Int)) ∧ e = [(3, Tr.raw (.slice ad m cap)), (9, .int k)] ∧ c = [Chunk.own ad cap 2 51 rows])
    ⟨_, _, _, Ent.trans (Ent.nil 2 51) (Ent.mkP goSub goPm), 0, 0, none, 0, [], [], rfl, ⟨by omega, rfl, rfl, rfl, by omega, fun p hp => by cases hp⟩, rfl, rfl⟩ ?_
  rintro _ _ _ ⟨k, m, ad, cap, out, rows, rfl, ⟨hk, hout, hrows, hlen, hmk, hbd⟩, rfl, rfl⟩
  by_cases hkl : k < l.length
  · obtain ⟨x, hx⟩ := at_lt hkl
    have hrow := strRows_at hx
    have hnx := pcs_snoc hx
    rw [← hout] at hnx
    have hol : out.length = m := by rw [← hlen, hrows, List.length_map]
    have hbd2 := joinS_bd (x := ⟨x, 1⟩) (C := 1) hbd (by simp) (by omega)
    have hjl := joinS_len out ⟨x, 1⟩
    rw [hol] at hjl
    clear hx
    by_cases hz : m = 0
    · subst hz
      have ho : out = [] := List.length_eq_zero_iff.1 hol
      subst ho
      have hr0 : rows = [] := by rw [hrows]; rfl
      subst hr0
      have key : ([] : List (List Tr)) ++ [[Tr.str x, .int 1]] = (joinS [] ⟨x, 1⟩).map Piece.row := rfl
      repeat' (first | refine goH ?_ | refine goV ?_ | refine goC (fun ad cap => ?_) | refine goG ?_ | (refine Ops.k_guard ?_; first | (refine Ops.guard_dec rfl rfl (fun hc => ?_) (fun hc => ?_) <;> try (exfalso; omega)) | refine Ops.guard_split rfl rfl (fun hc => ?_) (fun hc => ?_)) | refine goI ?_ | (refine Cw.k_cond ?_; first | (refine Cw.cond_dec rfl (fun hc => ?_) (fun hc => ?_) <;> try (exfalso; omega)) | refine Cw.cond_bool rfl (fun hc => ?_) (fun hc => ?_)) | fail)
      exact ⟨_, _, _, (Ent.mk goSub goTk), ⟨k + 1, 1, _, _, _, _, rfl, ⟨by omega, hnx.symm, key, rfl, by omega, fun p hp => by have := hbd2 p hp; omega⟩, rfl, rfl⟩, by omega⟩
    · obtain ⟨j, rfl⟩ : ∃ j, m = j + 1 := ⟨m - 1, by omega⟩
      obtain ⟨q, hq⟩ := at_lt (l := out) (k := j) (by omega)
      have hqb := hbd q (List.mem_of_getElem? hq)
      have hq0 : rows[(((j + 1 : Nat) : Int) - 1).toNat]? = some [Tr.str q.lot, .int q.many] := by rw [show (((j + 1 : Nat) : Int) - 1).toNat = j by omega, hrows]; exact rows_at hq
      have hgl : out.getLast? = some q := by rw [List.getLast?_eq_getElem?, hol]; exact hq
      by_cases he : q.lot = x
      · have key : rows.set (((j + 1 : Nat) : Int) - 1).toNat [Tr.str q.lot, .int (q.many + 1)] = (joinS out ⟨x, 1⟩).map Piece.row := by
          rw [show (((j + 1 : Nat) : Int) - 1).toNat = j by omega, joinS_set hol hq he, hrows, List.map_set]
          rfl
        have kl : (rows.set (((j + 1 : Nat) : Int) - 1).toNat [Tr.str q.lot, .int (q.many + 1)]).length = j + 1 := by rw [List.length_set, hlen]
        clear hrows hbd hgl hq
        repeat' (first | refine goH ?_ | refine goV ?_ | refine goC (fun ad cap => ?_) | refine goG ?_ | (refine Ops.k_guard ?_; first | (refine Ops.guard_dec rfl rfl (fun hc => ?_) (fun hc => ?_) <;> try (exfalso; omega)) | refine Ops.guard_split rfl rfl (fun hc => ?_) (fun hc => ?_)) | refine goI ?_ | (refine Cw.k_cond ?_; first | (refine Cw.cond_dec rfl (fun hc => ?_) (fun hc => ?_) <;> try (exfalso; omega)) | refine Cw.cond_bool rfl (fun hc => ?_) (fun hc => ?_)) | fail)
        exact ⟨_, _, _, (Ent.mk goSub goTk), ⟨k + 1, j + 1, _, _, _, _, rfl, ⟨by omega, hnx.symm, key, kl, by omega, fun p hp => by have := hbd2 p hp; omega⟩, rfl, rfl⟩, by omega⟩
      · have key : rows ++ [[Tr.str x, .int 1]] = (joinS out ⟨x, 1⟩).map Piece.row := by
          rw [joinS_app (fun q' hq' => by rw [hgl] at hq'; cases hq'; exact he), hrows, List.map_append]
          rfl
        have kl : (rows ++ [[Tr.str x, .int 1]]).length = j + 2 := by rw [List.length_append, hlen]; rfl
        clear hrows hbd hgl hq
        repeat' (first | refine goH ?_ | refine goV ?_ | refine goC (fun ad cap => ?_) | refine goG ?_ | (refine Ops.k_guard ?_; first | (refine Ops.guard_dec rfl rfl (fun hc => ?_) (fun hc => ?_) <;> try (exfalso; omega)) | refine Ops.guard_split rfl rfl (fun hc => ?_) (fun hc => ?_)) | refine goI ?_ | (refine Cw.k_cond ?_; first | (refine Cw.cond_dec rfl (fun hc => ?_) (fun hc => ?_) <;> try (exfalso; omega)) | refine Cw.cond_bool rfl (fun hc => ?_) (fun hc => ?_)) | fail)
        rw [kl]
        exact ⟨_, _, _, (Ent.mk goSub goTk), ⟨k + 1, j + 2, _, _, _, _, rfl, ⟨by omega, hnx.symm, key, kl, by omega, fun p hp => by have := hbd2 p hp; omega⟩, rfl, rfl⟩, by omega⟩
  · rw [List.take_of_length_le (by omega)] at hout
    subst hlen
    repeat' (first | refine goH ?_ | refine goV ?_ | refine goC (fun ad cap => ?_) | refine goG ?_ | (refine Ops.k_guard ?_; first | (refine Ops.guard_dec rfl rfl (fun hc => ?_) (fun hc => ?_) <;> try (exfalso; omega)) | refine Ops.guard_split rfl rfl (fun hc => ?_) (fun hc => ?_)) | refine goI ?_ | (refine Cw.k_cond ?_; first | (refine Cw.cond_dec rfl (fun hc => ?_) (fun hc => ?_) <;> try (exfalso; omega)) | refine Cw.cond_bool rfl (fun hc => ?_) (fun hc => ?_)) | fail)
    refine Fin.ret (Ent.take goTk) (Outs.one rfl rfl) ⟨ad, cap, rows, rfl, rfl, ?_⟩
    rw [hrows, hout]

theorem pushErr_ok {c : Coil} {l : List Lot} {p : List Piece} (h : pushErr c l p = 0) : lotsErr l = 0 ∧ coilErr c = 0 ∧ (∀ x ∈ p, 1 ≤ x.many ∧ x.many ≤ 1000 ∧ ∃ y, findL l x.lot = some y) ∧ unitsI c.ps + unitsI p ≤ c.most := by
  unfold pushErr at h
  split at h
  · omega
  · split at h
    · omega
    · split at h
      · rename_i h3; exact absurd h h3
      · rename_i h1 h2 h3
        split at h
        · omega
        · exact ⟨by omega, by omega, pushE_ok (by simpa using h3), by omega⟩
def pushC (c : Coil) (p : List Piece) : Coil := ⟨c.prod, c.most, joinP (c.ps ++ p)⟩
abbrev coil0 : List Tr := [.str ⟨#[]⟩, .int 0, .raw (.slice none 0 0)]
theorem pushBad_fn (c : Coil) (hc : c.ps.length ≤ 1000000) (l : List Lot) (hl : l.length ≤ 1000000) (p : List Piece) (hp : p.length ≤ 1000000) (h : pushErr c l p ≠ 0) : PFn Tryz.prog 11 [.agg c.row, .lots l, .pieces p] (· = .tup [.agg coil0, .int (pushErr c l p)]) := by
  have h1 := pushFault_fn c hc l hl p hp
  refine PFn.mk (Spec.body Tryz.func11 rfl rfl (Tryz.ntmps11) rfl fun w0 own0 M => ?_)
  unfold Coil.row at *
  generalize pushErr c l p = e at *
  repeat' (first | refine goH ?_ | refine goV ?_ | refine goB (fun b => ?_) | refine goI ?_ | (refine Cw.k_cond ?_; first | (refine Cw.cond_dec rfl (fun hc => ?_) (fun hc => ?_) <;> try (exfalso; omega)) | refine Cw.cond_bool rfl (fun hc => ?_) (fun hc => ?_)) | (refine Ops.k_calla ?_; first | (refine Ops.k_callf 31 ?_; refine Ops.callV h1 (Evs.cons rfl (Evs.cons rfl (Evs.cons rfl Evs.nil))) rfl ?_)) | fail)
  refine Fin.ret (Ent.trans (Ent.setbox (s := 6) rfl goPk) (Ent.take goTk)) (Outs.many rfl (OutL.cons goOe (OutL.cons goOe OutL.nil)) rfl) ⟨rfl, rfl⟩
theorem push_fn (c : Coil) (l : List Lot) (hl : l.length ≤ 1000000) (p : List Piece) (hp : p.length ≤ 10000) (h : pushErr c l p = 0) : PFn Tryz.prog 11 [.agg c.row, .lots l, .pieces p] (· = .tup [.agg (pushC c p).row, .int 0]) := by
  obtain ⟨e1, e2, e3, e4⟩ := pushErr_ok h
  obtain ⟨_, b1, b2, b3, b4, b5⟩ := coilErr_ok e2
  have h1 := pushFault_fn c (by omega) l hl p (by omega)
  rw [h] at h1
  have hj := (joined_fn (c.ps ++ p) (by rw [List.length_append]; omega) (fun q hq => (List.mem_append.1 hq).elim (fun hq => by have := b4 q hq; omega) (fun hq => by have := e3 q hq; omega))).val
  have hcc := (concat_piece [c.ps.map Piece.row, p.map Piece.row] (by simp) (by simp; omega)).val
  simp only [List.map_cons, List.map_nil, List.flatten_cons, List.flatten_nil, List.append_nil] at hcc
  rw [← List.map_append] at hcc
  unfold pushC
  obtain ⟨prod, most, ps⟩ := c
  unfold Coil.row at *
  simp only at *
  generalize joinP (ps ++ p) = jj at *
  generalize ps ++ p = cc at *
  clear b4 e3
  refine PFn.mk (Spec.body Tryz.func11 rfl rfl (Tryz.ntmps11) rfl fun w0 own0 M => ?_)
  repeat' (first | refine goH ?_ | refine goV ?_ | refine goB (fun b => ?_) | refine goI ?_ | (refine Cw.k_cond ?_; first | (refine Cw.cond_dec rfl (fun hc => ?_) (fun hc => ?_) <;> try (exfalso; omega)) | refine Cw.cond_bool rfl (fun hc => ?_) (fun hc => ?_)) | (refine Ops.k_calla ?_; first | (refine Ops.k_callf 31 ?_; refine Ops.callV h1 (Evs.cons rfl (Evs.cons rfl (Evs.cons rfl Evs.nil))) rfl ?_) | (refine Ops.k_callf 33 ?_; refine Ops.callV hcc (Evs.cons rfl Evs.nil) rfl ?_) | (refine Ops.k_callf 32 ?_; refine Ops.callV hj (Evs.cons rfl Evs.nil) rfl ?_)) | fail)
  refine Fin.ret (Ent.trans (Ent.setbox (s := 6) rfl goPk) (Ent.take goTk)) (Outs.many rfl (OutL.cons goOe (OutL.cons goOe OutL.nil)) rfl) ⟨rfl, rfl⟩
theorem units_le {ps : List Piece} (h : ∀ x ∈ ps, 1 ≤ x.many) (hb : unitsI ps ≤ 100000) : (unitsU ps).length ≤ 100000 := by
  have := unitsU_len (ps := ps) fun p hp => by have := h p hp; omega
  omega
theorem pushOf_fn (c : Coil) (l : List Lot) (p : List Piece) (hp : p.length ≤ 10000) (h : pushErr c l p = 0) : PFn Tryz.prog 17 [.agg c.row, .pieces p] (· = .agg (pushC c p).row) := by
  obtain ⟨e1, e2, e3, e4⟩ := pushErr_ok h
  obtain ⟨_, b1, b2, b3, b4, b5⟩ := coilErr_ok e2
  obtain ⟨prod, most, ps⟩ := c
  simp only at *
  have g1 := unitsI_ge (ps := ps) (fun q hq => by have := b4 q hq; omega)
  have g2 := unitsI_ge (ps := p) (fun q hq => by have := e3 q hq; omega)
  have u1 := units_ref ps (fun q hq => by have := b4 q hq; omega) (by omega)
  have u2 := (units_ref p (fun q hq => by have := e3 q hq; omega) (by omega)).val
  have l1 := units_le (ps := ps) (fun q hq => by have := b4 q hq; omega) (by omega)
  have l2 := units_le (ps := p) (fun q hq => by have := e3 q hq; omega) (by omega)
  have hpc := (pieces_fn (unitsU (ps ++ p)) (by rw [unitsU_app, List.length_append]; omega)).val
  rw [pcs_join (fun q hq => (List.mem_append.1 hq).elim (fun hq => by have := b4 q hq; omega) (fun hq => by have := e3 q hq; omega)), unitsU_app] at hpc
  unfold pushC Tr.strs at *
  rw [strRows_app] at hpc
  simp only at *
  have k1 := strRows_len (unitsU ps)
  have k2 := strRows_len (unitsU p)
  generalize joinP (ps ++ p) = jj at *
  generalize strRows (unitsU ps) = r1 at *
  generalize strRows (unitsU p) = r2 at *
  clear b4 e3
  refine PFn.mk (Spec.body Tryz.func17 rfl rfl (Tryz.ntmps17) rfl fun w0 own0 M => ?_)
  unfold Coil.row
  simp only
  repeat' (first | refine goH ?_ | refine goV ?_ | refine goB (fun b => ?_) | refine goC (fun ad cap => ?_) | refine goI ?_ | (refine Cw.k_cond ?_; first | (refine Cw.cond_dec rfl (fun hc => ?_) (fun hc => ?_) <;> try (exfalso; omega)) | refine Cw.cond_bool rfl (fun hc => ?_) (fun hc => ?_)) | (refine Ops.ent (Ent.settle (s := 10) rfl goPk rfl) ?_; refine Ops.callV hpc (Evs.cons rfl Evs.nil) rfl ?_) | (refine Ops.k_calla ?_; first | (refine Ops.k_callf 43 ?_; (refine Ops.callO u1 (Evs.cons rfl Evs.nil) rfl (fun ad cap rows hr => ?_); subst hr)) | (refine Ops.k_callf 43 ?_; refine Ops.callV u2 (Evs.cons rfl Evs.nil) rfl ?_)) | fail)
  refine Fin.ret (Ent.trans (Ent.setbox (s := 4) rfl goPk) (Ent.take goTk)) (Outs.sole rfl goOe) ⟨rfl, rfl⟩
theorem sameCoil_fn (c : Coil) (hc : c.ps.length ≤ 1000000) : PFn Tryz.prog 16 [.agg c.row, .agg c.row] (· = .bool true) := by
  have he := equal_piece c.ps (by omega)
  refine PFn.mk (Spec.body Tryz.func16 rfl rfl (Tryz.ntmps16) rfl fun w0 own0 M => ?_)
  unfold Coil.row
  repeat' (first | refine goH ?_ | refine goV ?_ | refine goB (fun b => ?_) | refine goG ?_ | (refine Ops.k_guard ?_; first | (refine Ops.guard_dec rfl rfl (fun hc => ?_) (fun hc => ?_) <;> try (exfalso; omega)) | refine Ops.guard_split rfl rfl (fun hc => ?_) (fun hc => ?_)) | refine goI ?_ | (refine Cw.k_cond ?_; first | (refine Cw.cond_dec rfl (fun hc => ?_) (fun hc => ?_) <;> try (exfalso; omega)) | refine Cw.cond_bool rfl (fun hc => ?_) (fun hc => ?_)) | (refine Ops.k_calla ?_; first | (refine Ops.k_callf 22 ?_; refine Ops.callV he (Evs.cons rfl (Evs.cons rfl Evs.nil)) rfl ?_)) | fail)
  exact Fin.ret (Ent.take goTk) (Outs.one rfl rfl) ⟨rfl, rfl⟩
end Lg
end
