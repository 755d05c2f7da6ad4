/- A part of the proof of a law of this seat: it adds no condition. By an AI agent. -/
import Derived.Test.YteommidoocekmaaGreatDoorBg2
section
set_option linter.all false
set_option maxRecDepth 100000
set_option maxHeartbeats 8000000
namespace Lg
open Go Go.Proofs

theorem bagRows_k (l : List Bag) : ∀ r ∈ l.map Bag.row, r.length = 4 := by
  intro r hr
  obtain ⟨x, _, rfl⟩ := List.mem_map.1 hr
  rfl
theorem offs_fn (l : List Bag) (hb : BgB l) (who : ByteArray) : PFn Tryz.prog 38 [.bags l, .str who] (· = .ints (ownB l who)) := by
  have hL : (l.map Bag.row).length = l.length := List.length_map _
  have hl := hb.1
  have k1 := clone_bag (l.map Bag.row) (bagRows_k l) (by omega)
  unfold PFnO at k1
  obtain ⟨F, hF⟩ : ∃ F, F = l.filter fun x => decide (x.who = who) := ⟨_, rfl⟩
  have k2 := fun (ad : Option Addr) (cap b : Nat) => delFuncB_bag (ad := ad) (cap := cap) (n := (l.map Bag.row).length) l (fun x => !decide (x.who = who)) (f := 53) (caps := [.pointer (some ⟨b, 0, none⟩)]) (cb := Chunk.box b 9 [.str who]) hL (by omega) (fun x => notWho_fn x b who)
  have hff : (l.filter fun x => !(!decide (x.who = who))) = F := by rw [hF]; congr 1; funext x; rw [Bool.not_not]
  rw [hff] at k2
  have k3 := offOf_fn F (hF ▸ hb.filter _)
  rw [show ownB l who = offL F by unfold ownB; rw [hF]]
  have hFL : (F.map Bag.row).length = F.length := List.length_map _
  rw [← hFL] at k2
  clear hff hF
  refine PFn.mk (Spec.body Tryz.func38 rfl rfl (Tryz.ntmps38) rfl fun w0 own0 M => ?_)
  repeat' (first | refine goH ?_ | refine goV ?_ | refine goB (fun b => ?_) | refine goI ?_ | (refine Cw.k_cond ?_; first | (refine Cw.cond_dec rfl (fun hc => ?_) (fun hc => ?_) <;> try (exfalso; omega)) | refine Cw.cond_bool rfl (fun hc => ?_) (fun hc => ?_)) | (refine Ops.k_calla ?_; first | (refine Ops.k_callf 52 ?_; (refine Ops.call k1 (Evs.cons rfl Evs.nil) (List.Perm.refl _) rfl ?_; rintro r cs' ⟨ad, cap, rows, rfl, rfl, rfl⟩)) | (refine Ops.k_callf 51 ?_; (refine Ops.call (k2 _ _ _) (Evs.cons rfl (Evs.cons rfl Evs.nil)) goPm rfl ?_; rintro r cs' ⟨rfl, rfl⟩; refine Ops.ent (Ent.settle (s := 8) rfl goPk rfl) ?_)) | (refine Ops.k_callf 17 ?_; refine Ops.callV k3 (Evs.cons rfl Evs.nil) rfl ?_)) | fail)
  exact Fin.ret (Ent.take goTk) (Outs.one rfl rfl) ⟨rfl, rfl⟩
theorem driftOf_fn (l : List Bag) (hb : BgB l) (who : ByteArray) : PFn Tryz.prog 18 [.bags l, .str who] (· = .tup [.int (sumQ (ownB l who)), .int (drF (ownB l who)).2]) := by
  have k1 := offs_fn l hb who
  obtain ⟨h1, h2⟩ := hb.own who
  generalize ownB l who = O at *
  have hR := intRows_len O
  have k2 := sumQ_fn O (by omega) (fun i => by have := sumQ_bdT h1 h2 i; omega)
  have hd := drF_bd O
  refine PFn.mk (Spec.body Tryz.func18 rfl rfl (Tryz.ntmps18) rfl fun w0 own0 M => ?_)
  repeat' (first | refine goH ?_ | refine goV ?_ | refine goI ?_ | (refine Cw.k_cond ?_; first | (refine Cw.cond_dec rfl (fun hc => ?_) (fun hc => ?_) <;> try (exfalso; omega)) | refine Cw.cond_bool rfl (fun hc => ?_) (fun hc => ?_)) | (refine Ops.k_calla ?_; first | (refine Ops.k_callf 38 ?_; refine Ops.callV k1 (Evs.cons rfl (Evs.cons rfl Evs.nil)) rfl ?_)) | fail)
  refine Cw.loopI [(8, _), (14, _), (15, _)] _ (fun q e c => ∃ (k : Nat) (a b : Int), q = O.length - k ∧ (k ≤ O.length ∧ (a, b) = drF (O.take k)) ∧ e = [(6, .int a), (7, .int b), (16, .int k)] ∧ c = [])
    ⟨_, _, _, (Ent.mkP goSub goPm), 0, 0, 0, rfl, ⟨by omega, rfl⟩, rfl, rfl⟩ ?_
  rintro _ _ _ ⟨k, a, b, rfl, ⟨hk, hs⟩, rfl, rfl⟩
  by_cases hkl : k < O.length
  · obtain ⟨x, hx⟩ := at_lt hkl
    have r1 : (intRows O)[k]? = some [Tr.int x] := intRows_at hx
    have hn := drF_take hx
    have hd2 := hd k (by omega)
    rw [← hs] at hn hd2
    simp only at hd2
    unfold drS at hn
    by_cases h0 : x ≥ 0
    · rw [if_pos h0] at hn
      clear hx hs
      repeat' (first | refine goH ?_ | refine goV ?_ | refine goI ?_ | (refine Cw.k_cond ?_; first | (refine Cw.cond_dec rfl (fun hc => ?_) (fun hc => ?_) <;> try (exfalso; omega)) | refine Cw.cond_bool rfl (fun hc => ?_) (fun hc => ?_)) | fail)
      exact ⟨_, _, _, (Ent.mk goSub goTk), ⟨k + 1, _, _, rfl, ⟨by omega, hn.symm⟩, rfl, rfl⟩, by omega⟩
    · rw [if_neg h0] at hn
      clear hx hs
      repeat' (first | refine goH ?_ | refine goV ?_ | refine goI ?_ | (refine Cw.k_cond ?_; first | (refine Cw.cond_dec rfl (fun hc => ?_) (fun hc => ?_) <;> try (exfalso; omega)) | refine Cw.cond_bool rfl (fun hc => ?_) (fun hc => ?_)) | fail)
      exact ⟨_, _, _, (Ent.mk goSub goTk), ⟨k + 1, _, _, rfl, ⟨by omega, hn.symm⟩, rfl, rfl⟩, by omega⟩
  · rw [List.take_of_length_le (by omega)] at hs
    rw [← hs]
    repeat' (first | refine goH ?_ | refine goV ?_ | refine goI ?_ | (refine Cw.k_cond ?_; first | (refine Cw.cond_dec rfl (fun hc => ?_) (fun hc => ?_) <;> try (exfalso; omega)) | refine Cw.cond_bool rfl (fun hc => ?_) (fun hc => ?_)) | (refine Ops.k_calla ?_; first | (refine Ops.k_callf 28 ?_; refine Ops.callV k2 (Evs.cons rfl Evs.nil) rfl ?_)) | fail)
    refine Fin.ret (Ent.take goTk) (Outs.many rfl (OutL.cons goOe (OutL.cons goOe OutL.nil)) rfl) ⟨rfl, rfl⟩
def drT (l : List Bag) (who : ByteArray) : Tr := if bagsE l ≠ 0 then .tup [.int 0, .int 0, .int (bagsE l)] else if isKey who = false then .tup [.int 0, .int 0, .int 5] else .tup [.int (sumQ (ownB l who)), .int (drF (ownB l who)).2, .int 0]
theorem drift_fn (l : List Bag) (hl : l.length ≤ 1000000) (who : ByteArray) : PFn Tryz.prog 13 [.bags l, .str who] (· = drT l who) := by
  have k1 := checkBags_fn l hl
  have k2 := key_fn who
  have hL : (l.map Bag.row).length = l.length := List.length_map _
  unfold drT
  by_cases h : bagsE l ≠ 0
  · rw [if_pos h]
    generalize bagsE l = E at *
    refine PFn.mk (Spec.body Tryz.func13 rfl rfl (Tryz.ntmps13) rfl fun w0 own0 M => ?_)
    repeat' (first | refine goH ?_ | refine goV ?_ | refine goB (fun b => ?_) | refine goI ?_ | (refine Cw.k_cond ?_; first | (refine Cw.cond_dec rfl (fun hc => ?_) (fun hc => ?_) <;> try (exfalso; omega)) | refine Cw.cond_bool rfl (fun hc => ?_) (fun hc => ?_)) | (refine Ops.k_calla ?_; first | (refine Ops.k_callf 11 ?_; refine Ops.callV k1 (Evs.cons rfl Evs.nil) rfl ?_)) | fail)
    refine Fin.ret (Ent.take goTk) (Outs.many rfl (OutL.cons goOe (OutL.cons goOe (OutL.cons goOe OutL.nil))) rfl) ⟨rfl, rfl⟩
  rw [if_neg h]
  have h0 : bagsE l = 0 := by omega
  have hb := bgB h0
  rw [h0] at k1
  clear h h0
  by_cases hq : isKey who = false
  · rw [if_pos hq]
    rw [hq] at k2
    refine PFn.mk (Spec.body Tryz.func13 rfl rfl (Tryz.ntmps13) rfl fun w0 own0 M => ?_)
    repeat' (first | refine goH ?_ | refine goV ?_ | refine goB (fun b => ?_) | refine goI ?_ | (refine Cw.k_cond ?_; first | (refine Cw.cond_dec rfl (fun hc => ?_) (fun hc => ?_) <;> try (exfalso; omega)) | refine Cw.cond_bool rfl (fun hc => ?_) (fun hc => ?_)) | (refine Ops.k_calla ?_; first | (refine Ops.k_callf 11 ?_; refine Ops.callV k1 (Evs.cons rfl Evs.nil) rfl ?_) | (refine Ops.k_callf 31 ?_; refine Ops.callV k2 (Evs.cons rfl Evs.nil) rfl ?_)) | fail)
    refine Fin.ret (Ent.take goTk) (Outs.many rfl (OutL.cons goOe (OutL.cons goOe (OutL.cons goOe OutL.nil))) rfl) ⟨rfl, rfl⟩
  rw [if_neg hq]
  rw [Bool.not_eq_false] at hq
  rw [hq] at k2
  clear hq
  refine PFn.mk (Spec.body Tryz.func13 rfl rfl (Tryz.ntmps13) rfl fun w0 own0 M => ?_)
  repeat' (first | refine goH ?_ | refine goV ?_ | refine goB (fun b => ?_) | refine goI ?_ | (refine Cw.k_cond ?_; first | (refine Cw.cond_dec rfl (fun hc => ?_) (fun hc => ?_) <;> try (exfalso; omega)) | refine Cw.cond_bool rfl (fun hc => ?_) (fun hc => ?_)) | (refine Ops.k_calla ?_; first | (refine Ops.k_callf 11 ?_; refine Ops.callV k1 (Evs.cons rfl Evs.nil) rfl ?_) | (refine Ops.k_callf 31 ?_; refine Ops.callV k2 (Evs.cons rfl Evs.nil) rfl ?_)) | fail)
  refine Cw.loopI [(1, _), (21, _), (22, _)] _ (fun q e c => ∃ (k : Nat) (s a b : Int), q = l.length - k ∧ (k ≤ l.length ∧ s = sumQ (ownB (l.take k) who) ∧ (a, b) = drF (ownB (l.take k) who)) ∧ e = [(8, .int s), (9, .int a), (10, .int b), (23, .int k)] ∧ c = [])
    ⟨_, _, _, (Ent.mkP goSub goPm), 0, 0, 0, 0, rfl, ⟨by omega, rfl, rfl⟩, rfl, rfl⟩ ?_
  rintro _ _ _ ⟨k, s, a, b, rfl, ⟨hk, hs, hd⟩, rfl, rfl⟩
  by_cases hkl : k < l.length
  · obtain ⟨x, hx⟩ := at_lt hkl
    have hrow : (l.map Bag.row)[k]? = some [.int x.day, .str x.who, .int x.mtr, .int x.fnd] := rows_at hx
    have hxb := hb.2 x (List.mem_of_getElem? hx)
    have k3 := off_fn x hxb.2.2
    unfold Bag.row at k3
    have ht := ownB_take who hx
    have hbt : BgB (l.take k) := ⟨by have := hb.1; rw [List.length_take]; omega, fun y hy => hb.2 y (List.mem_of_mem_take hy)⟩
    obtain ⟨g1, g2⟩ := hbt.own who
    have hsb := sumQ_bdT g1 g2 (ownB (l.take k) who).length
    rw [List.take_length, ← hs] at hsb
    have hdb := drF_bd' (ownB (l.take k) who)
    rw [← hd] at hdb
    simp only at hdb
    by_cases hw : x.who = who
    · rw [if_pos hw] at ht
      have hs2 : s + offI x = sumQ (ownB (l.take (k + 1)) who) := by rw [ht, sumQ_app, ← hs]; simp [sumQ]
      have hd2 : drF (ownB (l.take (k + 1)) who) = drS (a, b) (offI x) := by rw [ht, drF_snoc, ← hd]
      have hz := hxb.1
      have hz2 := hxb.2.1
      generalize offI x = z at *
      unfold drS at hd2
      simp only at hd2
      clear ht hs hd hx hbt g2 hxb
      by_cases h0 : z ≥ 0
      · rw [if_pos h0] at hd2
        repeat' (first | refine goH ?_ | refine goV ?_ | refine goB (fun b => ?_) | refine goI ?_ | (refine Cw.k_cond ?_; first | (refine Cw.cond_dec rfl (fun hc => ?_) (fun hc => ?_) <;> try (exfalso; omega)) | refine Cw.cond_bool rfl (fun hc => ?_) (fun hc => ?_)) | (refine Ops.k_calla ?_; first | (refine Ops.k_callf 32 ?_; refine Ops.callV k3 (Evs.cons rfl Evs.nil) rfl ?_)) | fail)
        all_goals first | (exact absurd hw (by assumption)) | exact ⟨_, _, _, (Ent.mk goSub goTk), ⟨k + 1, _, _, _, rfl, ⟨by omega, hs2, hd2.symm⟩, rfl, rfl⟩, by omega⟩
      · rw [if_neg h0] at hd2
        repeat' (first | refine goH ?_ | refine goV ?_ | refine goB (fun b => ?_) | refine goI ?_ | (refine Cw.k_cond ?_; first | (refine Cw.cond_dec rfl (fun hc => ?_) (fun hc => ?_) <;> try (exfalso; omega)) | refine Cw.cond_bool rfl (fun hc => ?_) (fun hc => ?_)) | (refine Ops.k_calla ?_; first | (refine Ops.k_callf 32 ?_; refine Ops.callV k3 (Evs.cons rfl Evs.nil) rfl ?_)) | fail)
        all_goals first | (exact absurd hw (by assumption)) | exact ⟨_, _, _, (Ent.mk goSub goTk), ⟨k + 1, _, _, _, rfl, ⟨by omega, hs2, hd2.symm⟩, rfl, rfl⟩, by omega⟩
    · rw [if_neg hw, List.append_nil] at ht
      rw [← ht] at hs hd
      clear ht hx hbt g2 hxb
      repeat' (first | refine goH ?_ | refine goV ?_ | refine goB (fun b => ?_) | refine goI ?_ | (refine Cw.k_cond ?_; first | (refine Cw.cond_dec rfl (fun hc => ?_) (fun hc => ?_) <;> try (exfalso; omega)) | refine Cw.cond_bool rfl (fun hc => ?_) (fun hc => ?_)) | (refine Ops.k_calla ?_; first | (refine Ops.k_callf 32 ?_; refine Ops.callV k3 (Evs.cons rfl Evs.nil) rfl ?_)) | fail)
      all_goals first | (exact absurd (show x.who ≠ who from hw) (by assumption)) | exact ⟨_, _, _, (Ent.mk goSub goTk), ⟨k + 1, _, _, _, rfl, ⟨by omega, hs, hd⟩, rfl, rfl⟩, by omega⟩
  · rw [List.take_of_length_le (by omega)] at hs hd
    rw [← hd, ← hs]
    repeat' (first | refine goH ?_ | refine goV ?_ | refine goB (fun b => ?_) | refine goI ?_ | (refine Cw.k_cond ?_; first | (refine Cw.cond_dec rfl (fun hc => ?_) (fun hc => ?_) <;> try (exfalso; omega)) | refine Cw.cond_bool rfl (fun hc => ?_) (fun hc => ?_)) | fail)
    refine Fin.ret (Ent.take goTk) (Outs.many rfl (OutL.cons goOe (OutL.cons goOe (OutL.cons goOe OutL.nil))) rfl) ⟨rfl, rfl⟩
end Lg
end
section
set_option linter.all false
set_option maxRecDepth 100000
set_option maxHeartbeats 1000000
namespace Lg
open Go Go.Proofs

def gcdI (a b : Int) : Int := (Nat.gcd a.natAbs b.natAbs : Nat)
theorem gcdI_pos {a b : Int} (h : 1 ≤ b) : 1 ≤ gcdI a b := by
  unfold gcdI
  have : 0 < Nat.gcd a.natAbs b.natAbs := Nat.gcd_pos_of_pos_right _ (by omega)
  omega
structure Frac where
  num : Int
  den : Int
def Frac.row (f : Frac) : List Tr := [Tr.int f.num, Tr.int f.den]
def frac (num den : Int) : Frac := ⟨num.tdiv (gcdI num den), den / (gcdI num den)⟩

theorem nat_gcd_step (m n : Nat) : Nat.gcd n (m % n) = Nat.gcd m n := by
  rw [Nat.gcd_comm n, ← Nat.gcd_rec, Nat.gcd_comm]

theorem gcd_fn (a b : Int) (ha : 0 ≤ a) (hb : 0 ≤ b) : PFn Tryz.prog 44 [.int a, .int b] (· = .int (gcdI a b)) := by
  obtain ⟨m, rfl⟩ := Int.eq_ofNat_of_zero_le ha
  obtain ⟨n, rfl⟩ := Int.eq_ofNat_of_zero_le hb
  refine PFn.mk (Spec.body Tryz.func44 rfl rfl (Tryz.ntmps44) rfl fun w0 own0 M => ?_)
  repeat' (first | refine Ops.nil ?_ | refine Then.norm ?_ | refine Cw.seq ?_ | refine Cw.region ?_ | refine Cw.block ?_ | refine Cw.exit ?_ | refine Cw.skip ?_ | refine Cw.ret ?_ | refine Then.exit ?_ | refine Then.ret ?_ | refine InB.exit ?_ | refine InB.norm ?_ | refine InB.ret ?_ | refine InB.exit_ne rfl ?_ | (refine Ops.k_move ?_; first | refine Ops.move rfl rfl ?_ | refine Ops.move_any rfl ?_) | (refine Ops.k_assign ?_; first | refine Ops.assign rfl rfl ?_ | refine Ops.assign_any rfl ?_) | (refine Ops.k_b_neq ?_; first | refine Ops.neq rfl rfl rfl ?_) | (refine Ops.k_b_rem ?_; first | refine Ops.rem rfl rfl (by omega) rfl ?_ | refine Ops.remT rfl rfl (by omega) rfl ?_) | (refine Cw.k_cond ?_; first | refine Cw.cond_true rfl ?_ | refine Cw.cond_false rfl ?_ | (refine Cw.cond_dec rfl (fun hc => ?_) (fun hc => ?_) <;> try (exfalso; omega)) | refine Cw.cond_bool rfl (fun hc => ?_) (fun hc => ?_)) | (refine Cw.k_draw ?_; first | refine Cw.region_seqC rfl (by decide +kernel) rfl ?_ | refine Cw.region_seq rfl (by decide +kernel) rfl ?_) | refine PSeq.nil ?_ | apply PSeq.cons | apply PSeq.yes rfl rfl rfl | refine PSeq.no rfl rfl rfl ?_ | refine PSeq.pass rfl rfl rfl ?_ | (apply OpV.w; apply OpV.k_move; first | exact OpV.move rfl) | (apply OpV.w; apply OpV.k_assign; first | exact OpV.assign rfl) | (apply OpV.w; apply OpV.k_b_neq; first | exact OpV.neq_t rfl rfl (by omega) | exact OpV.neq_f rfl rfl (by omega) | exact OpV.neq rfl rfl) | (apply OpV.w; apply OpV.k_b_rem; first | exact OpV.rem rfl rfl (by omega) | exact OpV.remT rfl rfl (by omega)))
  refine Cw.loop (ι := Nat × Nat) (fun s => Nat.gcd s.1 s.2 = Nat.gcd m n) (fun s => [(0, .int s.1), (1, .int s.2)]) (fun _ => []) (fun s => s.2) ⟨(m, n), rfl, (Ent.mk goSub goTk)⟩ ?_
  rintro ⟨a, b⟩ h
  simp only at h ⊢
  by_cases hb : b = 0
  · subst hb
    repeat' (first | refine Ops.nil ?_ | refine Then.norm ?_ | refine Cw.seq ?_ | refine Cw.region ?_ | refine Cw.block ?_ | refine Cw.exit ?_ | refine Cw.skip ?_ | refine Cw.ret ?_ | refine Then.exit ?_ | refine Then.ret ?_ | refine InB.exit ?_ | refine InB.norm ?_ | refine InB.ret ?_ | refine InB.exit_ne rfl ?_ | (refine Ops.k_move ?_; first | refine Ops.move rfl rfl ?_ | refine Ops.move_any rfl ?_) | (refine Ops.k_assign ?_; first | refine Ops.assign rfl rfl ?_ | refine Ops.assign_any rfl ?_) | (refine Ops.k_b_neq ?_; first | refine Ops.neq rfl rfl rfl ?_) | (refine Ops.k_b_rem ?_; first | refine Ops.rem rfl rfl (by omega) rfl ?_ | refine Ops.remT rfl rfl (by omega) rfl ?_) | (refine Cw.k_cond ?_; first | refine Cw.cond_true rfl ?_ | refine Cw.cond_false rfl ?_ | (refine Cw.cond_dec rfl (fun hc => ?_) (fun hc => ?_) <;> try (exfalso; omega)) | refine Cw.cond_bool rfl (fun hc => ?_) (fun hc => ?_)) | (refine Cw.k_draw ?_; first | refine Cw.region_seqC rfl (by decide +kernel) rfl ?_ | refine Cw.region_seq rfl (by decide +kernel) rfl ?_) | refine PSeq.nil ?_ | apply PSeq.cons | apply PSeq.yes rfl rfl rfl | refine PSeq.no rfl rfl rfl ?_ | refine PSeq.pass rfl rfl rfl ?_ | (apply OpV.w; apply OpV.k_move; first | exact OpV.move rfl) | (apply OpV.w; apply OpV.k_assign; first | exact OpV.assign rfl) | (apply OpV.w; apply OpV.k_b_neq; first | exact OpV.neq_t rfl rfl (by omega) | exact OpV.neq_f rfl rfl (by omega) | exact OpV.neq rfl rfl) | (apply OpV.w; apply OpV.k_b_rem; first | exact OpV.rem rfl rfl (by omega) | exact OpV.remT rfl rfl (by omega)))
    refine Fin.ret Ent.refl (Outs.one rfl rfl) ⟨rfl, congrArg Tr.int ?_⟩
    rw [Nat.gcd_zero_right] at h
    unfold gcdI
    simp [h]
  · repeat' (first | refine Ops.nil ?_ | refine Then.norm ?_ | refine Cw.seq ?_ | refine Cw.region ?_ | refine Cw.block ?_ | refine Cw.exit ?_ | refine Cw.skip ?_ | refine Cw.ret ?_ | refine Then.exit ?_ | refine Then.ret ?_ | refine InB.exit ?_ | refine InB.norm ?_ | refine InB.ret ?_ | refine InB.exit_ne rfl ?_ | (refine Ops.k_move ?_; first | refine Ops.move rfl rfl ?_ | refine Ops.move_any rfl ?_) | (refine Ops.k_assign ?_; first | refine Ops.assign rfl rfl ?_ | refine Ops.assign_any rfl ?_) | (refine Ops.k_b_neq ?_; first | refine Ops.neq rfl rfl rfl ?_) | (refine Ops.k_b_rem ?_; first | refine Ops.rem rfl rfl (by omega) rfl ?_ | refine Ops.remT rfl rfl (by omega) rfl ?_) | (refine Cw.k_cond ?_; first | refine Cw.cond_true rfl ?_ | refine Cw.cond_false rfl ?_ | (refine Cw.cond_dec rfl (fun hc => ?_) (fun hc => ?_) <;> try (exfalso; omega)) | refine Cw.cond_bool rfl (fun hc => ?_) (fun hc => ?_)) | (refine Cw.k_draw ?_; first | refine Cw.region_seqC rfl (by decide +kernel) rfl ?_ | refine Cw.region_seq rfl (by decide +kernel) rfl ?_) | refine PSeq.nil ?_ | apply PSeq.cons | apply PSeq.yes rfl rfl rfl | refine PSeq.no rfl rfl rfl ?_ | refine PSeq.pass rfl rfl rfl ?_ | (apply OpV.w; apply OpV.k_move; first | exact OpV.move rfl) | (apply OpV.w; apply OpV.k_assign; first | exact OpV.assign rfl) | (apply OpV.w; apply OpV.k_b_neq; first | exact OpV.neq_t rfl rfl (by omega) | exact OpV.neq_f rfl rfl (by omega) | exact OpV.neq rfl rfl) | (apply OpV.w; apply OpV.k_b_rem; first | exact OpV.rem rfl rfl (by omega) | exact OpV.remT rfl rfl (by omega)))
    exact ⟨(b, a % b), by rw [nat_gcd_step]; exact h, Nat.mod_lt _ (by omega), (Ent.mk goSub goTk)⟩

theorem fraction_fn (a b : Int) (ha : -2000000000000000000 ≤ a ∧ a ≤ 2000000000000000000) (hb : 1 ≤ b ∧ b ≤ 2000000000000000000) : PFn Tryz.prog 25 [.int a, .int b] (· = .agg (frac a b).row) := by
  have hm : max a (-a) = a.natAbs := by omega
  have hg : gcdI (max a (-a)) b = gcdI a b := by rw [hm]; rfl
  have hp := gcdI_pos (a := a) hb.1
  have hf := gcd_fn (max a (-a)) b (by omega) (by omega)
  rw [hg] at hf
  refine PFn.mk (Spec.body Tryz.func25 rfl rfl (Tryz.ntmps25) rfl fun w0 own0 M => ?_)
  repeat' (first | refine Ops.nil ?_ | refine Then.norm ?_ | refine Cw.seq ?_ | refine Cw.region ?_ | refine Cw.block ?_ | refine Cw.exit ?_ | refine Cw.skip ?_ | refine Cw.ret ?_ | refine Then.exit ?_ | refine Then.ret ?_ | refine InB.exit ?_ | refine InB.norm ?_ | refine InB.ret ?_ | refine InB.exit_ne rfl ?_ | (refine Ops.k_move ?_; first | refine Ops.move rfl rfl ?_ | refine Ops.move_any rfl ?_) | (refine Ops.k_assign ?_; first | refine Ops.assign rfl rfl ?_ | refine Ops.assign_any rfl ?_) | (refine Ops.k_store ?_; first | refine Ops.store_box rfl rfl goPk rfl rfl ?_ | refine Ops.store_own1 rfl rfl goPk (by first | rfl | assumption | (simp [*]; done)) (by decide) ?_ | refine Ops.store_own_all rfl rfl goPk (by first | assumption | omega | (simp; omega) | (simp [*]; done)) rfl ?_) | (refine Ops.k_b_quo ?_; first | refine Ops.quo rfl rfl (by omega) rfl ?_ | refine Ops.quoT rfl rfl (by omega) rfl ?_) | (refine Ops.k_neg ?_; first | refine Ops.neg rfl (by omega) rfl ?_) | (refine Ops.k_c_max ?_; first | refine Ops.max2 rfl rfl rfl ?_) | (refine Ops.k_alloc ?_; first | refine Ops.alloc rfl (fun b => ?_)) | (refine Ops.k_build ?_; first | (refine Ops.k_build2 ?_; refine Ops.build (by exact Parts.cons rfl rfl rfl (by exact Parts.cons rfl rfl rfl (by exact Parts.nil))) rfl ?_)) | (refine Cw.k_cond ?_; first | refine Cw.cond_true rfl ?_ | refine Cw.cond_false rfl ?_ | (refine Cw.cond_dec rfl (fun hc => ?_) (fun hc => ?_) <;> try (exfalso; omega)) | refine Cw.cond_bool rfl (fun hc => ?_) (fun hc => ?_)) | (refine Ops.k_calla ?_; first | (refine Ops.k_callf 44 ?_; refine Ops.callV hf (Evs.cons rfl (Evs.cons rfl Evs.nil)) rfl ?_)) | (apply OpW.k_call; first | (apply OpW.k_callf 44; exact OpW.callV hf (Evs.cons rfl (Evs.cons rfl Evs.nil)))) | (refine Cw.k_draw ?_; first | refine Cw.region_seqC rfl (by decide +kernel) rfl ?_ | refine Cw.region_seq rfl (by decide +kernel) rfl ?_) | refine PSeq.nil ?_ | apply PSeq.cons | apply PSeq.yes rfl rfl rfl | refine PSeq.no rfl rfl rfl ?_ | refine PSeq.pass rfl rfl rfl ?_ | (apply OpV.w; apply OpV.k_move; first | exact OpV.move rfl) | (apply OpV.w; apply OpV.k_assign; first | exact OpV.assign rfl) | (apply OpV.w; apply OpV.k_b_quo; first | exact OpV.quo rfl rfl (by omega) | exact OpV.quoT rfl rfl (by omega)) | (apply OpV.w; apply OpV.k_neg; first | exact OpV.neg rfl (by omega)) | (apply OpV.w; apply OpV.k_c_max; first | exact OpV.max2 rfl rfl) | (apply OpV.w; apply OpV.k_build; first | (apply OpV.k_build2; exact OpV.build (by exact Parts.cons rfl rfl rfl (by exact Parts.cons rfl rfl rfl (by exact Parts.nil))))))
  refine Fin.ret (Ent.trans (Ent.setbox (s := 4) rfl goPk) (Ent.take goTk)) (Outs.sole rfl goOe) ⟨rfl, rfl⟩

theorem part_fn (a b : Int) (ha : -2000000000000000000 ≤ a ∧ a ≤ 2000000000000000000) (hb : 1 ≤ b ∧ b ≤ 2000000000000000000) : PFn Tryz.prog 27 [.int a, .int b] (· = .agg (frac a b).row) := by
  have hm : max a (-a) = a.natAbs := by omega
  obtain ⟨n, rfl⟩ := Int.eq_ofNat_of_zero_le (show 0 ≤ b by omega)
  refine PFn.mk (Spec.body Tryz.func27 rfl rfl (Tryz.ntmps27) rfl fun w0 own0 M => ?_)
  repeat' (first | refine Ops.nil ?_ | refine Then.norm ?_ | refine Cw.seq ?_ | refine Cw.region ?_ | refine Cw.block ?_ | refine Cw.exit ?_ | refine Cw.skip ?_ | refine Cw.ret ?_ | refine Then.exit ?_ | refine Then.ret ?_ | refine InB.exit ?_ | refine InB.norm ?_ | refine InB.ret ?_ | refine InB.exit_ne rfl ?_ | (refine Ops.k_move ?_; first | refine Ops.move rfl rfl ?_ | refine Ops.move_any rfl ?_) | (refine Ops.k_assign ?_; first | refine Ops.assign rfl rfl ?_ | refine Ops.assign_any rfl ?_) | (refine Ops.k_store ?_; first | refine Ops.store_box rfl rfl goPk rfl rfl ?_ | refine Ops.store_own1 rfl rfl goPk (by first | rfl | assumption | (simp [*]; done)) (by decide) ?_ | refine Ops.store_own_all rfl rfl goPk (by first | assumption | omega | (simp; omega) | (simp [*]; done)) rfl ?_) | (refine Ops.k_b_neq ?_; first | refine Ops.neq rfl rfl rfl ?_) | (refine Ops.k_b_quo ?_; first | refine Ops.quo rfl rfl (by omega) rfl ?_ | refine Ops.quoT rfl rfl (by omega) rfl ?_) | (refine Ops.k_b_rem ?_; first | refine Ops.rem rfl rfl (by omega) rfl ?_ | refine Ops.remT rfl rfl (by omega) rfl ?_) | (refine Ops.k_neg ?_; first | refine Ops.neg rfl (by omega) rfl ?_) | (refine Ops.k_c_max ?_; first | refine Ops.max2 rfl rfl rfl ?_) | (refine Ops.k_alloc ?_; first | refine Ops.alloc rfl (fun b => ?_)) | (refine Ops.k_build ?_; first | (refine Ops.k_build2 ?_; refine Ops.build (by exact Parts.cons rfl rfl rfl (by exact Parts.cons rfl rfl rfl (by exact Parts.nil))) rfl ?_)) | (refine Cw.k_cond ?_; first | refine Cw.cond_true rfl ?_ | refine Cw.cond_false rfl ?_ | (refine Cw.cond_dec rfl (fun hc => ?_) (fun hc => ?_) <;> try (exfalso; omega)) | refine Cw.cond_bool rfl (fun hc => ?_) (fun hc => ?_)) | (refine Cw.k_draw ?_; first | refine Cw.region_seqC rfl (by decide +kernel) rfl ?_ | refine Cw.region_seq rfl (by decide +kernel) rfl ?_) | refine PSeq.nil ?_ | apply PSeq.cons | apply PSeq.yes rfl rfl rfl | refine PSeq.no rfl rfl rfl ?_ | refine PSeq.pass rfl rfl rfl ?_ | (apply OpV.w; apply OpV.k_move; first | exact OpV.move rfl) | (apply OpV.w; apply OpV.k_assign; first | exact OpV.assign rfl) | (apply OpV.w; apply OpV.k_b_neq; first | exact OpV.neq_t rfl rfl (by omega) | exact OpV.neq_f rfl rfl (by omega) | exact OpV.neq rfl rfl) | (apply OpV.w; apply OpV.k_b_quo; first | exact OpV.quo rfl rfl (by omega) | exact OpV.quoT rfl rfl (by omega)) | (apply OpV.w; apply OpV.k_b_rem; first | exact OpV.rem rfl rfl (by omega) | exact OpV.remT rfl rfl (by omega)) | (apply OpV.w; apply OpV.k_neg; first | exact OpV.neg rfl (by omega)) | (apply OpV.w; apply OpV.k_c_max; first | exact OpV.max2 rfl rfl) | (apply OpV.w; apply OpV.k_build; first | (apply OpV.k_build2; exact OpV.build (by exact Parts.cons rfl rfl rfl (by exact Parts.cons rfl rfl rfl (by exact Parts.nil))))))
  rw [hm]
  refine Cw.loop (ι := Nat × Nat) (fun s => Nat.gcd s.1 s.2 = Nat.gcd a.natAbs n) (fun s => [(0, .int a), (1, .int n), (4, .ptr b), (5, .int s.1), (6, .int s.2)]) (fun _ => [Chunk.box b 32 [Tr.int 0, Tr.int 0]]) (fun s => s.2) ⟨(a.natAbs, n), rfl, (Ent.mk goSub goTk)⟩ ?_
  rintro ⟨x, y⟩ h
  simp only at h ⊢
  by_cases hy : y = 0
  · subst hy
    rw [Nat.gcd_zero_right] at h
    have hg : gcdI a n = x := by unfold gcdI; simp [h]
    have hp := gcdI_pos (a := a) hb.1
    repeat' (first | refine Ops.nil ?_ | refine Then.norm ?_ | refine Cw.seq ?_ | refine Cw.region ?_ | refine Cw.block ?_ | refine Cw.exit ?_ | refine Cw.skip ?_ | refine Cw.ret ?_ | refine Then.exit ?_ | refine Then.ret ?_ | refine InB.exit ?_ | refine InB.norm ?_ | refine InB.ret ?_ | refine InB.exit_ne rfl ?_ | (refine Ops.k_move ?_; first | refine Ops.move rfl rfl ?_ | refine Ops.move_any rfl ?_) | (refine Ops.k_assign ?_; first | refine Ops.assign rfl rfl ?_ | refine Ops.assign_any rfl ?_) | (refine Ops.k_store ?_; first | refine Ops.store_box rfl rfl goPk rfl rfl ?_ | refine Ops.store_own1 rfl rfl goPk (by first | rfl | assumption | (simp [*]; done)) (by decide) ?_ | refine Ops.store_own_all rfl rfl goPk (by first | assumption | omega | (simp; omega) | (simp [*]; done)) rfl ?_) | (refine Ops.k_b_neq ?_; first | refine Ops.neq rfl rfl rfl ?_) | (refine Ops.k_b_quo ?_; first | refine Ops.quo rfl rfl (by omega) rfl ?_ | refine Ops.quoT rfl rfl (by omega) rfl ?_) | (refine Ops.k_b_rem ?_; first | refine Ops.rem rfl rfl (by omega) rfl ?_ | refine Ops.remT rfl rfl (by omega) rfl ?_) | (refine Ops.k_neg ?_; first | refine Ops.neg rfl (by omega) rfl ?_) | (refine Ops.k_c_max ?_; first | refine Ops.max2 rfl rfl rfl ?_) | (refine Ops.k_alloc ?_; first | refine Ops.alloc rfl (fun b => ?_)) | (refine Ops.k_build ?_; first | (refine Ops.k_build2 ?_; refine Ops.build (by exact Parts.cons rfl rfl rfl (by exact Parts.cons rfl rfl rfl (by exact Parts.nil))) rfl ?_)) | (refine Cw.k_cond ?_; first | refine Cw.cond_true rfl ?_ | refine Cw.cond_false rfl ?_ | (refine Cw.cond_dec rfl (fun hc => ?_) (fun hc => ?_) <;> try (exfalso; omega)) | refine Cw.cond_bool rfl (fun hc => ?_) (fun hc => ?_)) | (refine Cw.k_draw ?_; first | refine Cw.region_seqC rfl (by decide +kernel) rfl ?_ | refine Cw.region_seq rfl (by decide +kernel) rfl ?_) | refine PSeq.nil ?_ | apply PSeq.cons | apply PSeq.yes rfl rfl rfl | refine PSeq.no rfl rfl rfl ?_ | refine PSeq.pass rfl rfl rfl ?_ | (apply OpV.w; apply OpV.k_move; first | exact OpV.move rfl) | (apply OpV.w; apply OpV.k_assign; first | exact OpV.assign rfl) | (apply OpV.w; apply OpV.k_b_neq; first | exact OpV.neq_t rfl rfl (by omega) | exact OpV.neq_f rfl rfl (by omega) | exact OpV.neq rfl rfl) | (apply OpV.w; apply OpV.k_b_quo; first | exact OpV.quo rfl rfl (by omega) | exact OpV.quoT rfl rfl (by omega)) | (apply OpV.w; apply OpV.k_b_rem; first | exact OpV.rem rfl rfl (by omega) | exact OpV.remT rfl rfl (by omega)) | (apply OpV.w; apply OpV.k_neg; first | exact OpV.neg rfl (by omega)) | (apply OpV.w; apply OpV.k_c_max; first | exact OpV.max2 rfl rfl) | (apply OpV.w; apply OpV.k_build; first | (apply OpV.k_build2; exact OpV.build (by exact Parts.cons rfl rfl rfl (by exact Parts.cons rfl rfl rfl (by exact Parts.nil))))))
    refine Fin.ret (Ent.trans (Ent.setbox (s := 4) rfl goPk) (Ent.take goTk)) (Outs.sole rfl goOe) ⟨rfl, ?_⟩
    unfold frac
    rw [hg]
    rfl
  · repeat' (first | refine Ops.nil ?_ | refine Then.norm ?_ | refine Cw.seq ?_ | refine Cw.region ?_ | refine Cw.block ?_ | refine Cw.exit ?_ | refine Cw.skip ?_ | refine Cw.ret ?_ | refine Then.exit ?_ | refine Then.ret ?_ | refine InB.exit ?_ | refine InB.norm ?_ | refine InB.ret ?_ | refine InB.exit_ne rfl ?_ | (refine Ops.k_move ?_; first | refine Ops.move rfl rfl ?_ | refine Ops.move_any rfl ?_) | (refine Ops.k_assign ?_; first | refine Ops.assign rfl rfl ?_ | refine Ops.assign_any rfl ?_) | (refine Ops.k_store ?_; first | refine Ops.store_box rfl rfl goPk rfl rfl ?_ | refine Ops.store_own1 rfl rfl goPk (by first | rfl | assumption | (simp [*]; done)) (by decide) ?_ | refine Ops.store_own_all rfl rfl goPk (by first | assumption | omega | (simp; omega) | (simp [*]; done)) rfl ?_) | (refine Ops.k_b_neq ?_; first | refine Ops.neq rfl rfl rfl ?_) | (refine Ops.k_b_quo ?_; first | refine Ops.quo rfl rfl (by omega) rfl ?_ | refine Ops.quoT rfl rfl (by omega) rfl ?_) | (refine Ops.k_b_rem ?_; first | refine Ops.rem rfl rfl (by omega) rfl ?_ | refine Ops.remT rfl rfl (by omega) rfl ?_) | (refine Ops.k_neg ?_; first | refine Ops.neg rfl (by omega) rfl ?_) | (refine Ops.k_c_max ?_; first | refine Ops.max2 rfl rfl rfl ?_) | (refine Ops.k_alloc ?_; first | refine Ops.alloc rfl (fun b => ?_)) | (refine Ops.k_build ?_; first | (refine Ops.k_build2 ?_; refine Ops.build (by exact Parts.cons rfl rfl rfl (by exact Parts.cons rfl rfl rfl (by exact Parts.nil))) rfl ?_)) | (refine Cw.k_cond ?_; first | refine Cw.cond_true rfl ?_ | refine Cw.cond_false rfl ?_ | (refine Cw.cond_dec rfl (fun hc => ?_) (fun hc => ?_) <;> try (exfalso; omega)) | refine Cw.cond_bool rfl (fun hc => ?_) (fun hc => ?_)) | (refine Cw.k_draw ?_; first | refine Cw.region_seqC rfl (by decide +kernel) rfl ?_ | refine Cw.region_seq rfl (by decide +kernel) rfl ?_) | refine PSeq.nil ?_ | apply PSeq.cons | apply PSeq.yes rfl rfl rfl | refine PSeq.no rfl rfl rfl ?_ | refine PSeq.pass rfl rfl rfl ?_ | (apply OpV.w; apply OpV.k_move; first | exact OpV.move rfl) | (apply OpV.w; apply OpV.k_assign; first | exact OpV.assign rfl) | (apply OpV.w; apply OpV.k_b_neq; first | exact OpV.neq_t rfl rfl (by omega) | exact OpV.neq_f rfl rfl (by omega) | exact OpV.neq rfl rfl) | (apply OpV.w; apply OpV.k_b_quo; first | exact OpV.quo rfl rfl (by omega) | exact OpV.quoT rfl rfl (by omega)) | (apply OpV.w; apply OpV.k_b_rem; first | exact OpV.rem rfl rfl (by omega) | exact OpV.remT rfl rfl (by omega)) | (apply OpV.w; apply OpV.k_neg; first | exact OpV.neg rfl (by omega)) | (apply OpV.w; apply OpV.k_c_max; first | exact OpV.max2 rfl rfl) | (apply OpV.w; apply OpV.k_build; first | (apply OpV.k_build2; exact OpV.build (by exact Parts.cons rfl rfl rfl (by exact Parts.cons rfl rfl rfl (by exact Parts.nil))))))
    exact ⟨(y, x % y), by rw [nat_gcd_step]; exact h, Nat.mod_lt _ (by omega), (Ent.mk goSub goTk)⟩
end Lg
end
