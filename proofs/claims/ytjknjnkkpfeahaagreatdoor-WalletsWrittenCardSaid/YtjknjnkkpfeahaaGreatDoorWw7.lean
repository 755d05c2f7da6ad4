/- A part of the proof of a law of this seat: it adds no condition. By an AI agent. -/
import Derived.Test.YtjknjnkkpfeahaaGreatDoorWw6
import Derived.Test.YtjknjnkkpfeahaaGreatDoorNumW
set_option linter.all false
set_option maxRecDepth 100000
set_option maxHeartbeats 8000000
namespace Lg
open Go Go.Proofs

/-! ### the law WalletsWritten -/
theorem wNil_bdW : WBd wNil := ⟨by simp [wNil], by simp [wNil], by simp [wNil], by simp [wNil]⟩
theorem finW_bd (w : Wal) : WBd (finW w).1 := by
  unfold finW
  by_cases h : walE w = 0
  · rw [if_neg (by omega)]; exact (wok_E h).bd
  · rw [if_pos h]; exact wNil_bdW
theorem psL_bd (S : List ByteArray) : ∀ (ls : List ByteArray) (i : Nat) (R : List (List Int)) (U : List Int), WBd (psL S ls i R U).1
  | [], i, R, U => wNil_bdW
  | [r], i, R, U => by
    rw [psL_one]
    split
    · exact finW_bd _
    · exact wNil_bdW
  | ln :: l2 :: ls, i, R, U => by
    by_cases hi : i < S.length
    · obtain ⟨x, hx⟩ := at_lt hi
      cases h : rowP S.length x ln with
      | none => rw [psL_none (by simp) hx h]; exact wNil_bdW
      | some l => rw [psL_some (by simp) hx h]; exact psL_bd S (l2 :: ls) _ _ _
    · rw [psL_end hi (by simp)]; exact wNil_bdW
theorem psP_bd (s : ByteArray) : WBd (psP s).1 := by
  unfold psP
  split
  · exact wNil_bdW
  · unfold psH
    split
    · split
      · exact wNil_bdW
      · exact psL_bd _ _ _ _ _
    · exact wNil_bdW
theorem walT_size {w : Wal} (h : WOk w) (hk : ∀ x ∈ w.sites, x.size ≤ 40) : (walT w).size ≤ 5000 := by
  have h1 := boT_size h hk (siT walB w.sites ++ nlB) w.sites.length (Nat.le_refl _)
  have h2 := siT_size w.sites hk walB
  have h3 := h.n1
  unfold walT
  rw [ByteArray.size_append, nlB_size] at h1
  rw [show walB.size = 6 from rfl] at h2
  omega
theorem emptyW_ab : PFn Tryz.prog 39 [.sl 1 [[.str ⟨#[97]⟩], [.str ⟨#[98]⟩]]] (· = .tup [.agg [.strs abS, .sl 1 (intsR (empW abS).rights), .ints (empW abS).used], .int 0]) := by
  have := emptyD_fn abS (by decide)
  rw [resW_ok sitE_ab] at this
  exact this
theorem depotsW_fn : PFn Tryz.prog 11 [] (· = .bool true) := by
  have k := emptyW_ab
  have h1 : (strRows abS).length = 2 := rfl
  have h2 : (intRows (empW abS).used).length = 2 := rfl
  refine PFn.mk (Spec.body Tryz.func11 rfl rfl (Tryz.ntmps11) rfl fun w0 own0 M => ?_)
  repeat' (first | refine goH ?_ | refine goV ?_ | refine goB (fun b => ?_) | refine goG ?_ | (refine Ops.k_guard ?_; first | (refine Ops.guard_dec rfl rfl (fun hc => ?_) (fun hc => ?_) <;> try (exfalso; omega)) | refine Ops.guard_split rfl rfl (fun hc => ?_) (fun hc => ?_)) | refine goI ?_ | (refine Cw.k_cond ?_; first | (refine Cw.cond_dec rfl (fun hc => ?_) (fun hc => ?_) <;> try (exfalso; omega)) | refine Cw.cond_bool rfl (fun hc => ?_) (fun hc => ?_)) | (refine Ops.k_calla ?_; first | (refine Ops.k_callf 39 ?_; refine Ops.callV k (Evs.cons rfl Evs.nil) rfl ?_)) | fail)
  all_goals first | exact Fin.ret (Ent.take goTk) (Outs.one rfl rfl) ⟨rfl, rfl⟩ | skip
theorem abc_sz : ∀ y ∈ abc, y.size ≤ 40 := by
  intro y hy
  unfold abc at hy
  simp only [List.mem_cons, List.mem_nil_iff, or_false] at hy
  rcases hy with rfl | rfl | rfl <;> decide
attribute [local irreducible] intRows intsR strRows wAt
theorem wtext_gen (bs : Nat) (xs : List Int) (N : Nat) (hN : N ≤ 100000) : Spec Tryz.prog 8 [Tr.ptr bs] [Chunk.strm 25 bs (intRows xs) N, numC] (fun r cs => ∃ s m, r = .str s ∧ s.size ≤ 100000 ∧ m ≤ N + 200 ∧ cs = [Chunk.strm 25 bs (intRows xs) m, numC]) := by
  refine Spec.body Tryz.func8 rfl rfl (Tryz.ntmps8) rfl fun w0 own0 M => ?_
  repeat' (first | refine goH ?_ | ((fail_if_success refine Ops.k_c_call ?_); refine goV ?_) | refine goI ?_ | (refine Cw.k_cond ?_; first | (refine Cw.cond_dec rfl (fun hc => ?_) (fun hc => ?_) <;> try (exfalso; omega)) | refine Cw.cond_bool rfl (fun hc => ?_) (fun hc => ?_)) | (refine Ops.k_calla ?_; first | (refine Ops.k_callf 13 ?_; (refine Ops.callG wallets_gen (Evs.cons rfl Evs.nil) goPk (by omega) rfl ?_; rintro r ⟨l, rfl, hl, hg⟩; have hlr : (l.map Wal.row).length = 3 := (by rw [List.length_map, hl]))) | (refine Ops.k_callf 14 ?_; (refine Ops.callG (next_gen 3 (by omega)) (Evs.cons rfl (Evs.cons rfl Evs.nil)) goPk (by omega) rfl ?_; rintro r ⟨x, rfl, hx⟩; unfold InRange at hx; have hx3 : 0 ≤ x ∧ x < 3 := (by omega); have hrow : (l.map Wal.row)[x.toNat]? = some [.strs (wAt l x).sites, .sl 1 (intsR (wAt l x).rights), .ints (wAt l x).used] := wAt_row hl hx3))) | fail)
  have hg1 := hg _ (wAt_mem hl hx3)
  obtain ⟨hok, hsa⟩ := hg1
  have hsz : ∀ y ∈ (wAt l x).sites, y.size ≤ 40 := fun y hy => abc_sz y (hsa ▸ hy)
  have kT := walletText_fn (wAt l x) hok hsz (by rw [hsa]; exact List.cons_ne_nil _ _)
  have hT := walT_size hok hsz
  generalize walT (wAt l x) = T0 at *
  generalize wAt l x = w at *
  clear hg hsa hok hsz hrow
  repeat' (first | refine goH ?_ | (refine Ops.k_b_add ?_; first | (refine Ops.catB rfl rfl (by omega) rfl ?_)) | refine goV ?_ | refine goI ?_ | (refine Cw.k_cond ?_; first | (refine Cw.cond_dec rfl (fun hc => ?_) (fun hc => ?_) <;> try (exfalso; omega)) | refine Cw.cond_bool rfl (fun hc => ?_) (fun hc => ?_)) | (refine Ops.k_calla ?_; first | (refine Ops.k_callf 7 ?_; (refine Ops.call kT (Evs.cons rfl Evs.nil) goPm rfl ?_; rintro r cs' ⟨rfl, rfl⟩)) | (refine Ops.k_callf 15 ?_; (refine Ops.callG (flip_gen _ (by omega)) (Evs.cons rfl (Evs.cons rfl Evs.nil)) goPk (by omega) rfl ?_; rintro r ⟨u, rfl⟩)) | (refine Ops.k_callf 19 ?_; (refine Ops.callG (one_gen (by repeat' (first | exact IsStrs.nil | apply IsStrs.cons)) (by simp)) (Evs.cons rfl (Evs.cons rfl Evs.nil)) goPk (by omega) rfl ?_; rintro r ⟨w, rfl, hw⟩; have hwz : w.size ≤ 20 := (by simp at hw; rcases hw with rfl | rfl | rfl | rfl | rfl | rfl <;> decide); clear hw)) | (refine Ops.k_callf 19 ?_; (refine Ops.callG (one_gen (by repeat' (first | exact IsStrs.nil | apply IsStrs.cons)) (by simp)) (Evs.cons rfl (Evs.cons rfl Evs.nil)) goPk (by omega) rfl ?_; rintro r ⟨w, rfl, hw⟩; have hwz : w.size ≤ 20 := (by simp at hw; rcases hw with rfl | rfl | rfl <;> decide); clear hw)) | (refine Ops.k_callf 32 ?_; (refine Ops.callG (changed_gen _ _ (by omega) (by omega)) (Evs.cons rfl (Evs.cons rfl (Evs.cons rfl Evs.nil))) goPk (by omega) rfl ?_; rintro r ⟨c, rfl, hc⟩))) | fail)
  all_goals exact Fin.ret (Ent.take goTk) (Outs.sole rfl goOe) ⟨_, _, rfl, by first | omega | (rw [ByteArray.size_append]; omega), by omega, rfl⟩
theorem walletsWritten_law (xs : List Int) : Spec Tryz.prog 3 [Tr.ints xs] [numC] (fun r _ => r = Tr.bool true) := by
  refine Spec.body Tryz.func3 rfl rfl (Tryz.ntmps3) rfl fun w0 own0 M => ?_
  repeat' (first | refine goH ?_ | ((fail_if_success refine Ops.k_c_call ?_); refine goV ?_) | ((fail_if_success refine Ops.k_c_call ?_); refine goB (fun b => ?_)) | refine goG ?_ | (refine Ops.k_guard ?_; first | (refine Ops.guard_dec rfl rfl (fun hc => ?_) (fun hc => ?_) <;> try (exfalso; omega)) | refine Ops.guard_split rfl rfl (fun hc => ?_) (fun hc => ?_)) | refine goI ?_ | (refine Cw.k_cond ?_; first | (refine Cw.cond_dec rfl (fun hc => ?_) (fun hc => ?_) <;> try (exfalso; omega)) | refine Cw.cond_bool rfl (fun hc => ?_) (fun hc => ?_)) | refine Ops.shut0 (ty := 25) rfl ?_ | (refine Ops.k_calla ?_; first | (refine Ops.k_callf 4 ?_; (refine Ops.callG wallet_gen (Evs.cons rfl Evs.nil) goPk (by omega) rfl ?_; rintro r ⟨w, rfl, hbd⟩))) | fail)
  have kL := walletFault_fn w hbd
  have kM := depotsW_fn
  by_cases h0 : walE w = 0
  · have hok := wok_E h0
    have hs0 : sitE w.sites = 0 := by
      have h0 := h0
      unfold walE at h0
      by_cases h : sitE w.sites ≠ 0
      · rw [if_pos h] at h0; exact absurd h0 h
      · omega
    obtain ⟨hn0, hn1, hkey, hsz⟩ := sitE_sz hs0
    have kE := print_ok w h0
    have kT := walletText_fn w hok hsz (fun h => by rw [h] at hn0; simp at hn0)
    rw [h0] at kL
    generalize walT w = T0 at *
    clear h0 hok hs0 hn0 hn1 hkey hsz
    repeat' (first | refine goH ?_ | (refine Ops.k_b_neq ?_; first | (first | refine Ops.val' rfl (OpV.neqS_f rfl rfl rfl) ?_ | refine Ops.val' rfl (OpV.neq_f rfl rfl rfl) ?_)) | ((fail_if_success refine Ops.k_c_call ?_); refine goV ?_) | ((fail_if_success refine Ops.k_c_call ?_); refine goB (fun b => ?_)) | refine goG ?_ | (refine Ops.k_guard ?_; first | (refine Ops.guard_dec rfl rfl (fun hc => ?_) (fun hc => ?_) <;> try (exfalso; omega)) | refine Ops.guard_split rfl rfl (fun hc => ?_) (fun hc => ?_)) | refine goI ?_ | (refine Cw.k_cond ?_; first | (refine Cw.cond_dec rfl (fun hc => ?_) (fun hc => ?_) <;> try (exfalso; omega)) | refine Cw.cond_bool rfl (fun hc => ?_) (fun hc => ?_)) | (refine Ops.k_calla ?_; first | (refine Ops.k_callf 6 ?_; refine Ops.callV kL (Evs.cons rfl Evs.nil) rfl ?_) | (refine Ops.k_callf 5 ?_; (refine Ops.call kE (Evs.cons rfl Evs.nil) goPm rfl ?_; rintro r cs' ⟨rfl, rfl⟩)) | (refine Ops.k_callf 7 ?_; (refine Ops.call kT (Evs.cons rfl Evs.nil) goPm rfl ?_; rintro r cs' ⟨rfl, rfl⟩))) | fail)
    refine Ops.k_calla ?_
    refine Ops.call (wtext_gen _ xs (0 + 100) (by omega)) (Evs.cons rfl Evs.nil) goPm rfl ?_
    rintro r cs' ⟨s, m, rfl, hs, hm, rfl⟩
    have kD := parseW_ok s (by omega)
    have kF := from_ok s (by omega)
    have hX := psP_bd s
    generalize psP s = X at *
    obtain ⟨W, k, e⟩ := X
    have kS := sameWallet_fn W hX
    unfold psT at kD kF
    repeat' (first | refine goH ?_ | (refine Ops.k_b_eql ?_; first | (refine Ops.val' rfl (OpV.eql_t rfl rfl rfl) ?_)) | refine goV ?_ | refine goB (fun b => ?_) | refine goG ?_ | (refine Ops.k_guard ?_; first | (refine Ops.guard_dec rfl rfl (fun hc => ?_) (fun hc => ?_) <;> try (exfalso; omega)) | refine Ops.guard_split rfl rfl (fun hc => ?_) (fun hc => ?_)) | refine goI ?_ | (refine Cw.k_cond ?_; first | (refine Cw.cond_dec rfl (fun hc => ?_) (fun hc => ?_) <;> try (exfalso; omega)) | refine Cw.cond_bool rfl (fun hc => ?_) (fun hc => ?_)) | (refine Ops.k_calla ?_; first | (refine Ops.k_callf 9 ?_; (refine Ops.call kD (Evs.cons rfl Evs.nil) goPm rfl ?_; rintro r cs' ⟨rfl, rfl⟩)) | (refine Ops.k_callf 10 ?_; (refine Ops.call kF (Evs.cons rfl Evs.nil) goPm rfl ?_; rintro r cs' ⟨rfl, rfl⟩)) | (refine Ops.k_callf 11 ?_; refine Ops.callV kM Evs.nil rfl ?_) | (refine Ops.k_callf 12 ?_; refine Ops.callV kS (Evs.cons rfl (Evs.cons rfl Evs.nil)) rfl ?_)) | fail)
    all_goals exact Fin.ret (Ent.take goTk) (Outs.one rfl rfl) rfl
  · have kE := print_bad w hbd h0
    generalize walE w = E at *
    repeat' (first | refine goH ?_ | (refine Ops.k_b_neq ?_; first | (refine Ops.val' rfl (OpV.neq_f rfl rfl rfl) ?_)) | (refine Ops.k_b_eql ?_; first | (refine Ops.val' rfl (OpV.eql_f rfl rfl (by omega)) ?_)) | ((fail_if_success refine Ops.k_c_call ?_); refine goV ?_) | ((fail_if_success refine Ops.k_c_call ?_); refine goB (fun b => ?_)) | refine goG ?_ | (refine Ops.k_guard ?_; first | (refine Ops.guard_dec rfl rfl (fun hc => ?_) (fun hc => ?_) <;> try (exfalso; omega)) | refine Ops.guard_split rfl rfl (fun hc => ?_) (fun hc => ?_)) | refine goI ?_ | (refine Cw.k_cond ?_; first | (refine Cw.cond_dec rfl (fun hc => ?_) (fun hc => ?_) <;> try (exfalso; omega)) | refine Cw.cond_bool rfl (fun hc => ?_) (fun hc => ?_)) | (refine Ops.k_calla ?_; first | (refine Ops.k_callf 6 ?_; refine Ops.callV kL (Evs.cons rfl Evs.nil) rfl ?_) | (refine Ops.k_callf 5 ?_; refine Ops.callV kE (Evs.cons rfl Evs.nil) rfl ?_)) | fail)
    refine Ops.k_calla ?_
    refine Ops.call (wtext_gen _ xs (0 + 100) (by omega)) (Evs.cons rfl Evs.nil) goPm rfl ?_
    rintro r cs' ⟨s, m, rfl, hs, hm, rfl⟩
    have kD := parseW_ok s (by omega)
    have kF := from_ok s (by omega)
    have hX := psP_bd s
    generalize psP s = X at *
    obtain ⟨W, k, e⟩ := X
    have kS := sameWallet_fn W hX
    unfold psT at kD kF
    repeat' (first | refine goH ?_ | (refine Ops.k_b_eql ?_; first | (refine Ops.val' rfl (OpV.eql_t rfl rfl rfl) ?_)) | refine goV ?_ | refine goB (fun b => ?_) | refine goG ?_ | (refine Ops.k_guard ?_; first | (refine Ops.guard_dec rfl rfl (fun hc => ?_) (fun hc => ?_) <;> try (exfalso; omega)) | refine Ops.guard_split rfl rfl (fun hc => ?_) (fun hc => ?_)) | refine goI ?_ | (refine Cw.k_cond ?_; first | (refine Cw.cond_dec rfl (fun hc => ?_) (fun hc => ?_) <;> try (exfalso; omega)) | refine Cw.cond_bool rfl (fun hc => ?_) (fun hc => ?_)) | (refine Ops.k_calla ?_; first | (refine Ops.k_callf 9 ?_; (refine Ops.call kD (Evs.cons rfl Evs.nil) goPm rfl ?_; rintro r cs' ⟨rfl, rfl⟩)) | (refine Ops.k_callf 10 ?_; (refine Ops.call kF (Evs.cons rfl Evs.nil) goPm rfl ?_; rintro r cs' ⟨rfl, rfl⟩)) | (refine Ops.k_callf 11 ?_; refine Ops.callV kM Evs.nil rfl ?_) | (refine Ops.k_callf 12 ?_; refine Ops.callV kS (Evs.cons rfl (Evs.cons rfl Evs.nil)) rfl ?_)) | fail)
    all_goals exact Fin.ret (Ent.take goTk) (Outs.one rfl rfl) rfl
theorem walletsWritten_walk {w : World} {a : Option Addr} {len cap : Nat} {zs : List Int} (h1 : Lib.TabIs Tryz.prog w "internal/strconv.uint64pow10" .u64 Lib.pow10Tab) (h2 : ∃ tp p, w.var? Tryz.prog "strconv.ErrSyntax" = some #[.iface tp p]) (h3 : ∃ tp p, w.var? Tryz.prog "strconv.ErrRange" = some #[.iface tp p]) (hr : IsRow .i64 w a len cap zs) :
    Calls Tryz.prog 3 #[.slice a len cap] w fun e w' => e = .returned (.bool true) ∧ Go.RowKit.Below w.heap.size w w' := law_callsV (numV_of h1 h2 h3) (walletsWritten_law (zs.take len)) hr
end Lg
