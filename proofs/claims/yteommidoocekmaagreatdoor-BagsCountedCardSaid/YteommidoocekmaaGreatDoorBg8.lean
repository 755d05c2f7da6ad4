/- A part of the proof of a law of this seat: it adds no condition. By an AI agent. -/
import Derived.Shelf.Bits.Mul64
import Derived.Test.YteommidoocekmaaGreatDoorBg6
section
set_option linter.all false
set_option maxRecDepth 100000
set_option maxHeartbeats 8000000
namespace Lg
open Go Go.Proofs

/-! ### the program's suspects -/
theorem PFn.tup2 {P : Program} {f : FuncId} {args : List Tr} {a b : Value} (h : PFn P f args (· = .raw (.tuple #[a, b]))) : PFn P f args (· = .tup [.raw a, .raw b]) := by
  have h := h.spec
  refine PFn.mk ?_
  unfold Spec at h ⊢
  refine ⟨h.1, fun M w vs h1 h2 h3 h4 h5 => (h.2 M w vs h1 h2 h3 h4 h5).mono ?_⟩
  rintro e w' ⟨v, r, cs', he, ⟨hc, hr⟩, hrd, hrest⟩
  subst hr
  refine ⟨v, .tup [.raw a, .raw b], cs', he, ⟨hc, rfl⟩, ?_, hrest⟩
  rw [rd_raw hrd]
  unfold Tr.tup
  exact ⟨[a, b], rfl, a, [b], rfl, raw_self _, b, [], rfl, raw_self _, rfl⟩
theorem mul64_fn (x y : Nat) (hx : x < 18446744073709551616) (hy : y < 18446744073709551616) : PFn Tryz.prog 46 [.raw (.int .u64 x), .raw (.int .u64 y)] (· = .tup [.raw (.int .u64 ((x * y / 18446744073709551616 : Nat) : Int)), .raw (.int .u64 ((x * y % 18446744073709551616 : Nat) : Int))]) := by
  refine PFn.tup2 (PFn.of_calls (args := [.int .u64 x, .int .u64 y]) (fun vs w => rfl) (fun w => ?_))
  refine (Any.bits_Mul64 Tryz.lays264 x y hx hy w).mono ?_
  rintro e w' ⟨rfl, rfl⟩
  exact ⟨rfl, Go.RowKit.Below.refl _ _, fun _ => Nat.le_refl _⟩
theorem wide_fn (x y : Nat) (hx : x ≤ 1152921504606846976) (hy : y ≤ 1000000) : PFn Tryz.prog 33 [.int x, .int y] (· = .tup [.raw (.int .u64 ((x * y / 18446744073709551616 : Nat) : Int)), .raw (.int .u64 ((x * y % 18446744073709551616 : Nat) : Int))]) := by
  have k1 := mul64_fn x y (by omega) (by omega)
  generalize ((x * y / 18446744073709551616 : Nat) : Int) = p at *
  generalize ((x * y % 18446744073709551616 : Nat) : Int) = q at *
  refine PFn.mk (Spec.body Tryz.func33 rfl rfl (Tryz.ntmps33) rfl fun w0 own0 M => ?_)
  repeat' (first | refine goH ?_ | (refine Ops.k_convert ?_; first | (first | refine Ops.convN Tryz.underlying3 Tryz.underlying65 rfl (wrap_u64 (by omega)) rfl ?_)) | refine goV ?_ | refine goI ?_ | (refine Cw.k_cond ?_; first | (refine Cw.cond_dec rfl (fun hc => ?_) (fun hc => ?_) <;> try (exfalso; omega)) | refine Cw.cond_bool rfl (fun hc => ?_) (fun hc => ?_)) | (refine Ops.k_calla ?_; first | (refine Ops.k_callf 46 ?_; refine Ops.callV k1 (Evs.cons rfl (Evs.cons rfl Evs.nil)) rfl ?_)) | fail)
  refine Fin.ret (Ent.take goTk) (Outs.many rfl (OutL.cons goOe (OutL.cons goOe OutL.nil)) rfl) ⟨rfl, rfl⟩
theorem nmLtU_fn (x y : Nm) : PFn Tryz.prog 35 [.agg x.row, .agg y.row] (· = .int (cmpS x.key y.key)) := by
  have k1 := compareS_fn x.key y.key
  unfold Nm.row
  refine PFn.mk (Spec.body Tryz.func35 rfl rfl (Tryz.ntmps35) rfl fun w0 own0 M => ?_)
  repeat' (first | refine goH ?_ | refine goV ?_ | refine goB (fun b => ?_) | refine goI ?_ | (refine Cw.k_cond ?_; first | (refine Cw.cond_dec rfl (fun hc => ?_) (fun hc => ?_) <;> try (exfalso; omega)) | refine Cw.cond_bool rfl (fun hc => ?_) (fun hc => ?_)) | (refine Ops.k_calla ?_; first | (refine Ops.k_callf 36 ?_; refine Ops.callV k1 (Evs.cons rfl (Evs.cons rfl Evs.nil)) rfl ?_)) | fail)
  exact Fin.ret (Ent.take goTk) (Outs.one rfl rfl) ⟨rfl, rfl⟩
theorem wide_le {x y m : Nat} (hm : m ≤ 60) : (((x * y / 18446744073709551616 : Nat) : Int) = 0 ∧ ((x * y % 18446744073709551616 : Nat) : Int) ≤ ((2 ^ m : Nat) : Int)) ↔ (x : Int) * (y : Int) ≤ ((2 ^ m : Nat) : Int) := by
  have h2 : 2 ^ m ≤ 2 ^ 60 := Nat.pow_le_pow_right (by omega) hm
  rw [show (x : Int) * (y : Int) = ((x * y : Nat) : Int) by push_cast; rfl]
  generalize x * y = z at *
  generalize 2 ^ m = Q at *
  omega
theorem mset_len {α : Type} [DecidableEq α] {k : α} {v : Tr} {m : List (α × Tr)} : (mset k v m).length ≤ m.length + 1 := by
  have h := congrArg List.length (mset_keys k v m)
  rw [List.length_map] at h
  rw [h]
  split
  · rw [List.length_map]; omega
  · rw [List.length_append, List.length_map]; simp
theorem susZ_nodup {l : List Bag} {least : Int} {ks : List ByteArray} (h : ks.Nodup) : ((susZ l least ks).map Nm.key).Nodup := by
  unfold susZ
  rw [List.map_map]
  rw [show (Nm.key ∘ fun w => (⟨w, sumQ (ownB l w)⟩ : Nm)) = id from rfl, List.map_id]
  exact h.sublist List.filter_sublist
structure GMap (l : List Bag) (k : Nat) (G : List Gr) : Prop where
  val : ∀ w, gval w G = ownB (l.take k) w
  nd : ((gkv G).map Prod.fst).Nodup
  mem : ∀ w, w ∈ (gkv G).map Prod.fst ↔ w ∈ whoL (l.take k)
  len : (gkv G).length ≤ k
theorem GMap.zero (l : List Bag) : GMap l 0 [] := ⟨fun w => rfl, List.nodup_nil, fun w => Iff.rfl, Nat.le_refl _⟩
theorem GMap.next {l : List Bag} {k : Nat} {x : Bag} {G G2 : List Gr} {v : Tr} (h : GMap l k G) (hx : l[k]? = some x) (hs : mset x.who v (gkv G) = gkv G2) (h1 : gval x.who G2 = gval x.who G ++ [offI x]) (h2 : ∀ j, j ≠ x.who → gval j G2 = gval j G) : GMap l (k + 1) G2 := by
  refine ⟨fun w => ?_, ?_, fun w => ?_, ?_⟩
  · rw [ownB_take w hx]
    by_cases hw : x.who = w
    · subst hw
      rw [if_pos rfl, h1, h.val]
    · rw [if_neg hw, List.append_nil, h2 w (fun e => hw e.symm), h.val]
  · rw [← hs]; exact mset_nodup h.nd
  · rw [← hs, mset_mem, h.mem, take_at hx]
    unfold whoL
    rw [List.map_append, List.mem_append]
    simp
  · rw [← hs]
    exact Nat.le_trans mset_len (by have := h.len; omega)
attribute [local irreducible] intRows gkv gch gval mread susZ
theorem suspects_ok (l : List Bag) (hE : bagsE l = 0) (least : Int) (hl1 : 1 ≤ least) (hl2 : least ≤ 1000000) (Z : List Nm) (hZ1 : Z.Pairwise Nm.lt) (hZ2 : ∀ x, x ∈ Z ↔ SusP l least x) : PFn Tryz.prog 14 [.bags l, .int least] (· = .tup [.nms Z, .int 0]) := by
  have hL : (l.map Bag.row).length = l.length := List.length_map _
  have hb := bgB hE
  have hl := hb.1
  have k1 := checkBags_fn l (by omega)
  rw [hE] at k1
  have k2 := out_fn least 1 1000000
  rw [show outB least 1 1000000 = false by simp [outB]; omega] at k2
  clear hE
  refine PFn.mk (Spec.body Tryz.func14 rfl rfl (Tryz.ntmps14) rfl fun w0 own0 M => ?_)
  repeat' (first | refine goH ?_ | (refine Ops.k_makeMap ?_; first | (refine Ops.makeMap Value.string rfl (fun bm => ?_))) | refine goV ?_ | refine goB (fun b => ?_) | refine goC (fun ad cap => ?_) | refine goG ?_ | (refine Ops.k_guard ?_; first | (refine Ops.guard_dec rfl rfl (fun hc => ?_) (fun hc => ?_) <;> try (exfalso; omega)) | refine Ops.guard_split rfl rfl (fun hc => ?_) (fun hc => ?_)) | refine goI ?_ | (refine Cw.k_cond ?_; first | (refine Cw.cond_dec rfl (fun hc => ?_) (fun hc => ?_) <;> try (exfalso; omega)) | refine Cw.cond_bool rfl (fun hc => ?_) (fun hc => ?_)) | (refine Ops.k_calla ?_; first | (refine Ops.k_callf 11 ?_; refine Ops.callV k1 (Evs.cons rfl Evs.nil) rfl ?_) | (refine Ops.k_callf 24 ?_; refine Ops.callV k2 (Evs.cons rfl (Evs.cons rfl (Evs.cons rfl Evs.nil))) rfl ?_)) | (apply OpW.k_call; first | (apply OpW.k_callf 11; exact OpW.callV k1 (Evs.cons rfl Evs.nil)) | (apply OpW.k_callf 24; exact OpW.callV k2 (Evs.cons rfl (Evs.cons rfl (Evs.cons rfl Evs.nil))))) | refine goR ?_ | refine goP ?_ | apply PSeq.cons | apply PSeq.yes rfl rfl rfl | exact goW | fail)
  refine Cw.ent Ent.bun0 ?_
  refine Cw.loopI [(1, _), (7, _), (30, _), (31, _)] _ (fun q e c => ∃ (k : Nat) (kv : List (ByteArray × Tr)) (ch : List Chunk) (G : List Gr), q = l.length - k ∧ (k ≤ l.length ∧ GMap l k G ∧ kv = gkv G ∧ ch = gch G) ∧ e = [(32, .int k)] ∧ c = [Chunk.mp Value.string bm kv, Chunk.bun ch])
    ⟨_, _, _, (Ent.mkP goSub goPm), 0, [], [], [], rfl, ⟨by omega, GMap.zero l, gkv_nil.symm, gch_nil.symm⟩, rfl, rfl⟩ ?_
  rintro _ _ _ ⟨k, _, _, G, rfl, ⟨hk, hG, rfl, rfl⟩, rfl, rfl⟩
  by_cases hkl : k < l.length
  · obtain ⟨x, hx⟩ := at_lt hkl
    have hrow : (l.map Bag.row)[k]? = some [.int x.day, .str x.who, .int x.mtr, .int x.fnd] := rows_at hx
    have hxb := hb.2 x (List.mem_of_getElem? hx)
    have k3 := off_fn x hxb.2.2
    unfold Bag.row at k3
    obtain ⟨ad, cap, l0, R, hmr, hgv, hpull, hput⟩ := grp_take x.who G
    have hl0 : l0.length ≤ 500 := by
      have h1 := hG.val x.who
      rw [← hgv, h1]
      have hbt : BgB (l.take k) := ⟨by have := hb.1; rw [List.length_take]; omega, fun y hy => hb.2 y (List.mem_of_mem_take hy)⟩
      exact (hbt.own x.who).1
    have hl0r := intRows_len l0
    obtain ⟨n, hn⟩ : ∃ n, n = l0.length := ⟨_, rfl⟩
    rw [← hn] at hmr hl0 hl0r
    have hnx := fun (G2 : List Gr) (v : Tr) => GMap.next (G2 := G2) (v := v) hG hx
    clear hx hG
    generalize offI x = z at *
    obtain ⟨xd, xw, xm, xf⟩ := x
    simp only at hrow hmr hgv hput hnx k3
    refine Cw.ent (hpull _ _ _ _ goPk) ?_
    repeat' (first | refine goH ?_ | refine goV ?_ | refine goB (fun b => ?_) | refine goC (fun ad cap => ?_) | refine goG ?_ | (refine Ops.k_guard ?_; first | (refine Ops.guard_dec rfl rfl (fun hc => ?_) (fun hc => ?_) <;> try (exfalso; omega)) | refine Ops.guard_split rfl rfl (fun hc => ?_) (fun hc => ?_)) | refine goI ?_ | (refine Cw.k_cond ?_; first | (refine Cw.cond_dec rfl (fun hc => ?_) (fun hc => ?_) <;> try (exfalso; omega)) | refine Cw.cond_bool rfl (fun hc => ?_) (fun hc => ?_)) | fail)
    first | refine Cw.region_YP (fun ξ S => stg (S 10) (Chunk.own ad cap 1 3 (intRows l0)) (ownV (ξ 10) 1 3 (intRows l0 ++ [[.int z]])) :: Chunk.bun R :: stg (S 11) (Chunk.mp Value.string bm (gkv G)) (Chunk.mp Value.string bm (mset xw (Tr.raw (.slice (vAd (ξ 10)) (n + 1) (vCap (ξ 10)))) (gkv G))) :: Chunk.box b 56 [.int xd, .str xw, .int xm, .int xf] :: []) rfl (by decide +kernel) rfl ((fun (ξ : Nat → Value) (S : Nat → Bool) => stg (S 10) (Chunk.own ad cap 1 3 (intRows l0)) (ownV (ξ 10) 1 3 (intRows l0 ++ [[.int z]])) :: Chunk.bun R :: stg (S 11) (Chunk.mp Value.string bm (gkv G)) (Chunk.mp Value.string bm (mset xw (Tr.raw (.slice (vAd (ξ 10)) (n + 1) (vCap (ξ 10)))) (gkv G))) :: Chunk.box b 56 [.int xd, .str xw, .int xm, .int xf] :: []) (fun _ => undef) (fun _ => false)) (by simp only [upd_same, updD_same, upd_ne, updD_ne, ne_eq, Nat.reduceEqDiff, not_false_eq_true, stg_t, stg_f, vAd_s, vCap_s, blk_p, List.cons_append, List.nil_append, b2n_t, b2n_f]; exact goXm) (fun _ => rfl) ?_ | fail
    apply YSeq.w (by intro _ _ _; rfl)
    · intro ξ S h1 h2 h3 h4
      have hN0_11 := closed_false h1 h3 (k := 11) rfl (by decide)
      try simp only [upd_same, updD_same, upd_ne, updD_ne, ne_eq, Nat.reduceEqDiff, not_false_eq_true, stg_t, stg_f, vAd_s, vCap_s, blk_p, List.cons_append, List.nil_append, b2n_t, b2n_f, hN0_11]
      exact goW
    · intro ξ v; rfl
    · intro ξ k v S h3 hn hk
      first
      | rfl
    apply YSeq.w (by intro _ _ _; rfl)
    · intro ξ S h1 h2 h3 h4
      have hN1_11 := closed_false h1 h3 (k := 11) rfl (by decide)
      try simp only [upd_same, updD_same, upd_ne, updD_ne, ne_eq, Nat.reduceEqDiff, not_false_eq_true, stg_t, stg_f, vAd_s, vCap_s, blk_p, List.cons_append, List.nil_append, b2n_t, b2n_f, hN1_11]
      exact goW
    · intro ξ v; rfl
    · intro ξ k v S h3 hn hk
      first
      | rfl
    apply YSeq.w (by intro _ _ _; rfl)
    · intro ξ S h1 h2 h3 h4
      have hN2_11 := closed_false h1 h3 (k := 11) rfl (by decide)
      try simp only [upd_same, updD_same, upd_ne, updD_ne, ne_eq, Nat.reduceEqDiff, not_false_eq_true, stg_t, stg_f, vAd_s, vCap_s, blk_p, List.cons_append, List.nil_append, b2n_t, b2n_f, hN2_11]
      exact goW
    · intro ξ v; rfl
    · intro ξ k v S h3 hn hk
      first
      | rfl
    apply YSeq.w (by intro _ _ _; rfl)
    · intro ξ S h1 h2 h3 h4
      have hN3_6 := closed_false h1 h3 (k := 6) rfl (by decide)
      have hN3_10 := closed_false hN3_6 h3 (k := 10) rfl (by decide)
      have hN3_11 := closed_false h1 h3 (k := 11) rfl (by decide)
      try simp only [upd_same, updD_same, upd_ne, updD_ne, ne_eq, Nat.reduceEqDiff, not_false_eq_true, stg_t, stg_f, vAd_s, vCap_s, blk_p, List.cons_append, List.nil_append, b2n_t, b2n_f, hN3_10, hN3_11]
      exact goW
    · intro ξ v; rfl
    · intro ξ k v S h3 hn hk
      first
      | rfl
    apply YSeq.w (by intro _ _ _; rfl)
    · intro ξ S h1 h2 h3 h4
      have hN4_5 := closed_false h1 h3 (k := 5) rfl (by decide)
      have hN4_6 := closed_false hN4_5 h3 (k := 6) rfl (by decide)
      have hN4_10 := closed_false hN4_6 h3 (k := 10) rfl (by decide)
      have hN4_11 := closed_false h1 h3 (k := 11) rfl (by decide)
      try simp only [upd_same, updD_same, upd_ne, updD_ne, ne_eq, Nat.reduceEqDiff, not_false_eq_true, stg_t, stg_f, vAd_s, vCap_s, blk_p, List.cons_append, List.nil_append, b2n_t, b2n_f, hN4_10, hN4_11]
      exact goW
    · intro ξ v; rfl
    · intro ξ k v S h3 hn hk
      first
      | rfl
    apply YSeq.w (by intro _ _ _; rfl)
    · intro ξ S h1 h2 h3 h4
      have hN5_6 := closed_false h1 h3 (k := 6) rfl (by decide)
      have hN5_10 := closed_false hN5_6 h3 (k := 10) rfl (by decide)
      have hN5_11 := closed_false h1 h3 (k := 11) rfl (by decide)
      try simp only [upd_same, updD_same, upd_ne, updD_ne, ne_eq, Nat.reduceEqDiff, not_false_eq_true, stg_t, stg_f, vAd_s, vCap_s, blk_p, List.cons_append, List.nil_append, b2n_t, b2n_f, hN5_10, hN5_11]
      exact goW
    · intro ξ v; rfl
    · intro ξ k v S h3 hn hk
      first
      | rfl
    apply YSeq.w (by intro _ _ _; rfl)
    · intro ξ S h1 h2 h3 h4
      have hN6_10 := closed_false h1 h3 (k := 10) rfl (by decide)
      have hN6_11 := closed_false h1 h3 (k := 11) rfl (by decide)
      try simp only [upd_same, updD_same, upd_ne, updD_ne, ne_eq, Nat.reduceEqDiff, not_false_eq_true, stg_t, stg_f, vAd_s, vCap_s, blk_p, List.cons_append, List.nil_append, b2n_t, b2n_f, hN6_10, hN6_11]
      exact OpV.lookup_eqG rfl rfl goPk hmr
    · intro ξ v; rfl
    · intro ξ k v S h3 hn hk
      first
      | rfl
    apply YSeq.w (by intro _ _ _; rfl)
    · intro ξ S h1 h2 h3 h4
      have hN7_8 := closed_false h1 h3 (k := 8) rfl (by decide)
      have hN7_10 := closed_false hN7_8 h3 (k := 10) rfl (by decide)
      have hN7_11 := closed_false h1 h3 (k := 11) rfl (by decide)
      try simp only [upd_same, updD_same, upd_ne, updD_ne, ne_eq, Nat.reduceEqDiff, not_false_eq_true, stg_t, stg_f, vAd_s, vCap_s, blk_p, List.cons_append, List.nil_append, b2n_t, b2n_f, hN7_10, hN7_11]
      exact goW
    · intro ξ v; rfl
    · intro ξ k v S h3 hn hk
      first
      | rfl
    apply YSeq.callV (by intro _ _ _; rfl)
    · intro ξ S h1 h2 h3 h4
      have hN8_10 := closed_false h1 h3 (k := 10) rfl (by decide)
      have hN8_11 := closed_false h1 h3 (k := 11) rfl (by decide)
      try simp only [upd_same, updD_same, upd_ne, updD_ne, ne_eq, Nat.reduceEqDiff, not_false_eq_true, stg_t, stg_f, vAd_s, vCap_s, blk_p, List.cons_append, List.nil_append, b2n_t, b2n_f, hN8_10, hN8_11]
      exact ⟨_, (Evs.cons rfl Evs.nil), k3⟩
    · intro ξ v; rfl
    · intro ξ k v S h3 hn hk
      first
      | rfl
    apply YSeq.w (by intro _ _ _; rfl)
    · intro ξ S h1 h2 h3 h4
      have hN9_10 := closed_false h1 h3 (k := 10) rfl (by decide)
      have hN9_11 := closed_false h1 h3 (k := 11) rfl (by decide)
      try simp only [upd_same, updD_same, upd_ne, updD_ne, ne_eq, Nat.reduceEqDiff, not_false_eq_true, stg_t, stg_f, vAd_s, vCap_s, blk_p, List.cons_append, List.nil_append, b2n_t, b2n_f, hN9_10, hN9_11]
      exact goW
    · intro ξ v; rfl
    · intro ξ k v S h3 hn hk
      first
      | rfl
    apply YSeq.append (n + 1)
    · intro ξ S h1 h2 h3 h4
      have hN10_11 := closed_false h1 h3 (k := 11) rfl (by decide)
      simp only [upd_same, updD_same, upd_ne, updD_ne, ne_eq, Nat.reduceEqDiff, not_false_eq_true, stg_t, stg_f, vAd_s, vCap_s, blk_p, List.cons_append, List.nil_append, b2n_t, b2n_f, h1, hN10_11]
      refine ⟨_, _, _, _, _, _, rfl, rfl, goXp, (by first | rfl | (simp; done) | omega), (by first | rfl | omega | (simp; done) | (simp; omega)), (by first | omega | (simp; done) | (simp; omega)), (by first | omega | (simp; done) | (simp; omega)), fun ad' cap' => ?_⟩
      exact goXm
    apply YSeq.mapUpdate (enc := Value.string)
    · intro ξ S h1 h2 h3 h4
      have hY11_10 : S 10 = true := h2 10 (by decide)
      simp only [upd_same, updD_same, upd_ne, updD_ne, ne_eq, Nat.reduceEqDiff, not_false_eq_true, stg_t, stg_f, vAd_s, vCap_s, blk_p, List.cons_append, List.nil_append, b2n_t, b2n_f, hY11_10, h1]
      refine ⟨_, _, _, _, _, rfl, rfl, rfl, goXp, ?_⟩
      exact goXm
    refine YSeq.nil fun ξ hf => ?_
    refine ⟨[(1, _), (7, _), (30, _), (31, _), (32, _)], _, Ent.trans (Ent.eqc rfl (by first | (simp only [upd_same, updD_same, upd_ne, updD_ne, ne_eq, Nat.reduceEqDiff, not_false_eq_true, stg_t, stg_f, vAd_s, vCap_s, blk_p, List.cons_append, List.nil_append, b2n_t, b2n_f, ownV, slV, ptV] <;> rfl) | rfl)) (Ent.sub goSub), ?_⟩
    clear hf
    generalize vAd (ξ 10) = ad46
    generalize vCap (ξ 10) = cap46
    obtain ⟨G2, hms2, hput2, hgv2, hgo2⟩ := hput ad46 cap46 (l0 ++ [z])
    rw [show (l0 ++ [z]).length = n + 1 by rw [List.length_append, hn]; rfl] at hms2
    rw [hms2, show intRows l0 ++ [[Tr.int z]] = intRows (l0 ++ [z]) from intRows_snocB _ _]
    repeat (first | refine InB.norm ?_ | refine Then.norm ?_)
    refine Cw.ent (hput2 _ _ _ _ _ goPk goPk) ?_
    have hG2 := hnx G2 _ hms2 (by rw [hgv2, hgv]) hgo2
    clear hput hput2 hpull hmr hms2 hnx
    repeat' (first | refine goH ?_ | refine goV ?_ | refine goB (fun b => ?_) | refine goC (fun ad cap => ?_) | refine goG ?_ | (refine Ops.k_guard ?_; first | (refine Ops.guard_dec rfl rfl (fun hc => ?_) (fun hc => ?_) <;> try (exfalso; omega)) | refine Ops.guard_split rfl rfl (fun hc => ?_) (fun hc => ?_)) | refine goI ?_ | (refine Cw.k_cond ?_; first | (refine Cw.cond_dec rfl (fun hc => ?_) (fun hc => ?_) <;> try (exfalso; omega)) | refine Cw.cond_bool rfl (fun hc => ?_) (fun hc => ?_)) | refine goR ?_ | refine goP ?_ | apply PSeq.cons | apply PSeq.yes rfl rfl rfl | exact goW | fail)
    exact ⟨_, _, _, (Ent.mk goSub goTk), ⟨k + 1, _, _, G2, rfl, ⟨by omega, hG2, rfl, rfl⟩, rfl, rfl⟩, by omega⟩
  have hke : k = l.length := by omega
  subst hke
  clear hk hkl
  have hG2 := hG.mem
  rw [List.take_length] at hG2
  have hval := hG.val
  rw [List.take_length] at hval
  have hnd := hG.nd
  have hGl := hG.len
  clear hG
  repeat' (first | refine goH ?_ | (refine Ops.k_range ?_; first | (refine Ops.range rfl goPk rfl (fun r => ?_))) | refine goV ?_ | refine goB (fun b => ?_) | refine goC (fun ad cap => ?_) | refine goG ?_ | (refine Ops.k_guard ?_; first | (refine Ops.guard_dec rfl rfl (fun hc => ?_) (fun hc => ?_) <;> try (exfalso; omega)) | refine Ops.guard_split rfl rfl (fun hc => ?_) (fun hc => ?_)) | refine goI ?_ | (refine Cw.k_cond ?_; first | (refine Cw.cond_dec rfl (fun hc => ?_) (fun hc => ?_) <;> try (exfalso; omega)) | refine Cw.cond_bool rfl (fun hc => ?_) (fun hc => ?_)) | refine goR ?_ | refine goP ?_ | apply PSeq.cons | apply PSeq.yes rfl rfl rfl | exact goW | fail)
  refine Cw.loopI [(1, _), (49, _)] _ (fun q e c => ∃ (g left : List (ByteArray × Tr)) (ad : Option Addr) (cap : Nat) (rows : List (List Tr)), q = left.length ∧ ((gkv G).Perm (g ++ left) ∧ rows = (susZ l least (g.map Prod.fst)).map Nm.row ∧ rows.length ≤ g.length) ∧ e = [(10, Tr.raw (.slice ad rows.length cap))] ∧ c = [Chunk.rg Value.string bm r (gkv G) left, Chunk.own ad cap 2 51 rows])
    ⟨_, _, _, Ent.trans (Ent.nil 2 51) (Ent.mkP goSub goPm), [], gkv G, none, 0, [], rfl, ⟨List.Perm.refl _, by unfold susZ; rfl, Nat.le_refl _⟩, rfl, rfl⟩ ?_
  rintro _ _ _ ⟨g, left, ad, cap, rows, rfl, ⟨hp, hrows, hrl⟩, rfl, rfl⟩
  have hgl : g.length ≤ 500 := by have := hp.length_eq; rw [List.length_append] at this; omega
  repeat' (first | refine goH ?_ | ((fail_if_success refine Ops.k_next ?_); refine goV ?_) | ((fail_if_success refine Ops.k_next ?_); refine goB (fun b => ?_)) | ((fail_if_success refine Ops.k_next ?_); refine goC (fun ad cap => ?_)) | refine goG ?_ | (refine Ops.k_guard ?_; first | (refine Ops.guard_dec rfl rfl (fun hc => ?_) (fun hc => ?_) <;> try (exfalso; omega)) | refine Ops.guard_split rfl rfl (fun hc => ?_) (fun hc => ?_)) | refine goI ?_ | (refine Cw.k_cond ?_; first | (refine Cw.cond_dec rfl (fun hc => ?_) (fun hc => ?_) <;> try (exfalso; omega)) | refine Cw.cond_bool rfl (fun hc => ?_) (fun hc => ?_)) | refine goR ?_ | refine goP ?_ | apply PSeq.cons | apply PSeq.yes rfl rfl rfl | exact goW | fail)
  refine Ops.k_next ?_
  refine Ops.nextC rfl goPk rfl (fun hl0 => ?_) (fun j a t hj => ?_)
  · subst hl0
    rw [List.append_nil] at hp
    have hkn : (g.map Prod.fst).Nodup := (hp.map Prod.fst).nodup_iff.1 hnd
    have hkm : ∀ x, x ∈ g.map Prod.fst ↔ x ∈ whoL l := fun x => by rw [← (hp.map Prod.fst).mem_iff, hG2]
    obtain ⟨Y, hY⟩ : ∃ Y, Y = susZ l least (g.map Prod.fst) := ⟨_, rfl⟩
    have hYn : (Y.map Nm.key).Nodup := by rw [hY]; exact susZ_nodup hkn
    rw [← hY] at hrows
    have hYl : rows.length = Y.length := by rw [hrows, List.length_map]
    have kS := fun ad cap => sortNmK nmLtU_fn Y (by omega) hYn ad cap
    have hZ : isort nmLt Y = Z := nm_uniq (isortN_strict hYn) hZ1 fun x => by rw [(isort_perm nmLt Y).mem_iff, hY, susZ_mem hkm, hZ2]
    rw [hZ] at kS
    have hZl : (Z.map Nm.row).length = Y.length := by rw [List.length_map, ← hZ, isort_len]
    rw [hYl]
    subst hrows
    clear hG2 hval hnd hp hkn hkm hZ hY
    repeat' (first | refine goH ?_ | refine goV ?_ | refine goB (fun b => ?_) | refine goC (fun ad cap => ?_) | refine goG ?_ | (refine Ops.k_guard ?_; first | (refine Ops.guard_dec rfl rfl (fun hc => ?_) (fun hc => ?_) <;> try (exfalso; omega)) | refine Ops.guard_split rfl rfl (fun hc => ?_) (fun hc => ?_)) | refine goI ?_ | (refine Cw.k_cond ?_; first | (refine Cw.cond_dec rfl (fun hc => ?_) (fun hc => ?_) <;> try (exfalso; omega)) | refine Cw.cond_bool rfl (fun hc => ?_) (fun hc => ?_)) | (refine Ops.k_calla ?_; first | (refine Ops.k_callf 34 ?_; (refine Ops.call (kS _ _) (Evs.cons rfl (Evs.cons rfl Evs.nil)) goPm rfl ?_; rintro r cs' ⟨rfl, rfl⟩))) | refine goR ?_ | refine goP ?_ | apply PSeq.cons | apply PSeq.yes rfl rfl rfl | exact goW | fail)
    rw [← hZl]
    refine Fin.ret (Ent.trans (Ent.settle (s := 4) rfl goPk rfl) (Ent.take goTk)) (Outs.many rfl (OutL.cons goOe (OutL.cons goOe OutL.nil)) rfl) ⟨rfl, rfl⟩
  · have hmem : (a, t) ∈ gkv G := hp.mem_iff.2 (List.mem_append.2 (.inr (List.mem_of_getElem? hj)))
    obtain ⟨ad2, cap2, L, R, rfl, hgv, hpull, hput⟩ := grp_entry hnd hmem
    have hp2 := eraseIdx_snoc hp hj
    have hlen := eraseIdx_len hj
    generalize left.eraseIdx j = left2 at *
    have hLo : L = ownB l a := by rw [← hgv, hval]
    obtain ⟨o1, o2⟩ := hb.own a
    rw [← hLo] at o1 o2
    have hrl2 := intRows_len L
    refine Ops.ent (hpull _ _ _ _ goPk) ?_
    clear hG2 hval hnd hp hmem hpull
    repeat' (first | refine goH ?_ | (refine Ops.k_entry ?_; first | (refine Ops.entry rfl goPk rfl ?_)) | refine goV ?_ | refine goB (fun b => ?_) | refine goC (fun ad cap => ?_) | refine goG ?_ | (refine Ops.k_guard ?_; first | (refine Ops.guard_dec rfl rfl (fun hc => ?_) (fun hc => ?_) <;> try (exfalso; omega)) | refine Ops.guard_split rfl rfl (fun hc => ?_) (fun hc => ?_)) | refine goI ?_ | (refine Cw.k_cond ?_; first | (refine Cw.cond_dec rfl (fun hc => ?_) (fun hc => ?_) <;> try (exfalso; omega)) | refine Cw.cond_bool rfl (fun hc => ?_) (fun hc => ?_)) | refine goR ?_ | refine goP ?_ | apply PSeq.cons | apply PSeq.yes rfl rfl rfl | exact goW | fail)
    refine Cw.loopI [(1, _), (10, _), (11, _), (14, _), (49, _), (55, _), (56, _)] _ (fun q e c => ∃ (i : Nat) (sm : Int) (ad3 : Option Addr) (cap3 : Nat) (rows3 : List (List Tr)), q = L.length - i ∧ (i ≤ L.length ∧ sm = sumQ (L.take i) ∧ rows3 = intRows ((L.take i).filter fun n => !decide (n = 0)) ∧ rows3.length ≤ i) ∧ e = [(13, .int sm), (15, Tr.raw (.slice ad3 rows3.length cap3)), (57, .int i)] ∧ c = [Chunk.own ad3 cap3 1 3 rows3])
      ⟨_, _, _, Ent.trans (Ent.nil 1 3) (Ent.mkP goSub goPm), 0, 0, none, 0, [], rfl, ⟨by omega, rfl, by unfold intRows; rfl, Nat.le_refl _⟩, rfl, rfl⟩ ?_
    rintro _ _ _ ⟨i, sm, ad3, cap3, rows3, rfl, ⟨hi, hsm, hrows3, hrl3⟩, rfl, rfl⟩
    have hsb := sumQ_bdT o1 o2 i
    rw [← hsm] at hsb
    by_cases hiL : i < L.length
    · obtain ⟨x, hx⟩ := at_lt hiL
      have r1 : (intRows L)[((i : Nat) : Int).toNat]? = some [Tr.int x] := by rw [Int.toNat_natCast]; exact intRows_at hx
      have hxb := o2 x (List.mem_of_getElem? hx)
      have hn := sumQ_take hx
      rw [← hsm] at hn
      have ht := take_at hx
      by_cases h0 : x = 0
      · have hr2 : rows3 = intRows ((L.take (i + 1)).filter fun n => !decide (n = 0)) := by rw [hrows3, ht, List.filter_append, h0]; simp
        clear hx ht
        repeat' (first | refine goH ?_ | refine goV ?_ | refine goB (fun b => ?_) | refine goC (fun ad cap => ?_) | refine goG ?_ | (refine Ops.k_guard ?_; first | (refine Ops.guard_dec rfl rfl (fun hc => ?_) (fun hc => ?_) <;> try (exfalso; omega)) | refine Ops.guard_split rfl rfl (fun hc => ?_) (fun hc => ?_)) | refine goI ?_ | (refine Cw.k_cond ?_; first | (refine Cw.cond_dec rfl (fun hc => ?_) (fun hc => ?_) <;> try (exfalso; omega)) | refine Cw.cond_bool rfl (fun hc => ?_) (fun hc => ?_)) | refine goR ?_ | refine goP ?_ | apply PSeq.cons | apply PSeq.yes rfl rfl rfl | exact goW | fail)
        all_goals first | (exfalso; omega) | exact ⟨_, _, _, (Ent.mk goSub goTk), ⟨i + 1, _, _, _, _, rfl, ⟨by omega, hn.symm, hr2, by omega⟩, rfl, rfl⟩, by omega⟩
      · have hr2 : rows3 ++ [[Tr.int x]] = intRows ((L.take (i + 1)).filter fun n => !decide (n = 0)) := by rw [hrows3, ht, List.filter_append, intRows_snocB]; simp [h0]
        clear hx ht
        repeat' (first | refine goH ?_ | refine goV ?_ | refine goB (fun b => ?_) | refine goC (fun ad cap => ?_) | refine goG ?_ | (refine Ops.k_guard ?_; first | (refine Ops.guard_dec rfl rfl (fun hc => ?_) (fun hc => ?_) <;> try (exfalso; omega)) | refine Ops.guard_split rfl rfl (fun hc => ?_) (fun hc => ?_)) | refine goI ?_ | (refine Cw.k_cond ?_; first | (refine Cw.cond_dec rfl (fun hc => ?_) (fun hc => ?_) <;> try (exfalso; omega)) | refine Cw.cond_bool rfl (fun hc => ?_) (fun hc => ?_)) | refine goR ?_ | refine goP ?_ | apply PSeq.cons | apply PSeq.yes rfl rfl rfl | exact goW | fail)
        all_goals first | (exfalso; omega) | exact ⟨_, _, _, (Ent.mk goSub goTk), ⟨i + 1, _, _, _, _, rfl, ⟨by omega, hn.symm, hr2, by rw [List.length_append]; simp; omega⟩, rfl, rfl⟩, by omega⟩
    rw [List.take_of_length_le (by omega)] at hsm hrows3
    have hM : rows3.drop (max 0 ((rows3.length : Int) - 60)).toNat = intRows (oddB L) := by
      unfold oddB
      rw [hrows3, ← intRows_dropB, intRows_len]
      congr 1
      omega
    have hm60 := oddB_len L
    have hsus : susB L least = (decide (sumQ L < 0) && decide (headsP (oddB L).length (negB (oddB L)) * least ≤ ((2 ^ (oddB L).length : Nat) : Int))) := rfl
    have hsz := susZ_snoc l least (g.map Prod.fst) a
    rw [← hLo, ← hsm] at hsz
    rw [← hsm] at hsus
    clear hsm hrows3 hLo hgv o2
    generalize oddB L = Mo at *
    generalize hsB : susB L least = sB at *
    clear hsB
    refine Cw.ent (Ent.settle (s := 15) rfl goPk rfl) ?_
    refine Cw.ent (hput _ _ _ _ _ goPk goPk) ?_
    clear hput
    have hMl := intRows_len Mo
    repeat' (first | refine goH ?_ | refine goV ?_ | refine goB (fun b => ?_) | refine goC (fun ad cap => ?_) | refine goG ?_ | (refine Ops.k_guard ?_; first | (refine Ops.guard_dec rfl rfl (fun hc => ?_) (fun hc => ?_) <;> try (exfalso; omega)) | refine Ops.guard_split rfl rfl (fun hc => ?_) (fun hc => ?_)) | refine goI ?_ | (refine Cw.k_cond ?_; first | (refine Cw.cond_dec rfl (fun hc => ?_) (fun hc => ?_) <;> try (exfalso; omega)) | refine Cw.cond_bool rfl (fun hc => ?_) (fun hc => ?_)) | refine goR ?_ | refine goP ?_ | apply PSeq.cons | apply PSeq.yes rfl rfl rfl | exact goW | fail)
    rw [hM]
    clear hM hrl3
    refine Cw.loopI [(1, _), (10, _), (11, _), (13, _), (15, _), (49, _), (77, _), (78, _)] _ (fun q e cc => ∃ (i : Nat) (c : Int), q = Mo.length - i ∧ (i ≤ Mo.length ∧ c = (negB (Mo.take i) : Nat)) ∧ e = [(14, .int c), (79, .int i)] ∧ cc = []) ⟨_, _, _, (Ent.mkP goSub goPm), 0, 0, rfl, ⟨by omega, rfl⟩, rfl, rfl⟩ ?_
    clear hi hiL
    rintro _ _ _ ⟨i, c, rfl, ⟨hi, hc0⟩, rfl, rfl⟩
    have hcb := negB_len (Mo.take i)
    rw [List.length_take] at hcb
    by_cases him : i < Mo.length
    · obtain ⟨x, hx⟩ := at_lt him
      have r1 : (intRows Mo)[i]? = some [Tr.int x] := intRows_at hx
      have hn := negB_take hx
      rw [← hc0] at hn
      by_cases h0 : x < 0
      · rw [if_pos h0] at hn
        clear hx
        repeat' (first | refine goH ?_ | refine goV ?_ | refine goB (fun b => ?_) | refine goC (fun ad cap => ?_) | refine goG ?_ | (refine Ops.k_guard ?_; first | (refine Ops.guard_dec rfl rfl (fun hc => ?_) (fun hc => ?_) <;> try (exfalso; omega)) | refine Ops.guard_split rfl rfl (fun hc => ?_) (fun hc => ?_)) | refine goI ?_ | (refine Cw.k_cond ?_; first | (refine Cw.cond_dec rfl (fun hc => ?_) (fun hc => ?_) <;> try (exfalso; omega)) | refine Cw.cond_bool rfl (fun hc => ?_) (fun hc => ?_)) | refine goR ?_ | refine goP ?_ | apply PSeq.cons | apply PSeq.yes rfl rfl rfl | exact goW | fail)
        exact ⟨_, _, _, (Ent.mk goSub goTk), ⟨i + 1, _, rfl, ⟨by omega, hn.symm⟩, rfl, rfl⟩, by omega⟩
      · rw [if_neg h0, Int.add_zero] at hn
        clear hx
        repeat' (first | refine goH ?_ | refine goV ?_ | refine goB (fun b => ?_) | refine goC (fun ad cap => ?_) | refine goG ?_ | (refine Ops.k_guard ?_; first | (refine Ops.guard_dec rfl rfl (fun hc => ?_) (fun hc => ?_) <;> try (exfalso; omega)) | refine Ops.guard_split rfl rfl (fun hc => ?_) (fun hc => ?_)) | refine goI ?_ | (refine Cw.k_cond ?_; first | (refine Cw.cond_dec rfl (fun hc => ?_) (fun hc => ?_) <;> try (exfalso; omega)) | refine Cw.cond_bool rfl (fun hc => ?_) (fun hc => ?_)) | refine goR ?_ | refine goP ?_ | apply PSeq.cons | apply PSeq.yes rfl rfl rfl | exact goW | fail)
        exact ⟨_, _, _, (Ent.mk goSub goTk), ⟨i + 1, _, rfl, ⟨by omega, hn.symm⟩, rfl, rfl⟩, by omega⟩
    rw [List.take_of_length_le (by omega)] at hc0 hcb
    have hcm : negB Mo ≤ Mo.length := negB_len Mo
    have kH := heads_fn Mo.length (negB Mo) hm60 hcm
    have hH := headsP_le hm60 (k := negB Mo) (by omega)
    obtain ⟨h, hh⟩ : ∃ h : Nat, headsP Mo.length (negB Mo) = h := ⟨(headsP Mo.length (negB Mo)).toNat, by omega⟩
    obtain ⟨lq, hlq⟩ : ∃ lq : Nat, least = lq := ⟨least.toNat, by omega⟩
    rw [hh] at kH hH hsus
    have kW := wide_fn h lq (by omega) (by omega)
    rw [← hlq] at kW
    have hwl := wide_le (x := h) (y := lq) hm60
    rw [← hlq] at hwl
    have hp60 := pow2_bd hm60
    have kS : ∀ (Γ : Ctx) (env : Env) (cs : List Chunk) (ty T T2 : TypeId) (x y : Operand), ev env x = some (.raw (.int .u64 1)) → ev env y = some (.int ((intRows Mo).length : Nat)) → OpV Tryz.prog Γ (.binOp .shl T x y T2) ty env cs (.raw (.int .u64 ((2 ^ Mo.length : Nat) : Int))) := fun _ _ _ _ _ _ _ _ h1 h2 => OpV.shlU h1 (by rw [← hMl]; exact h2) (by omega)
    generalize ((2 ^ Mo.length : Nat) : Int) = P at *
    generalize ((h * lq / 18446744073709551616 : Nat) : Int) = whi at *
    generalize ((h * lq % 18446744073709551616 : Nat) : Int) = wlo at *
    rw [← hMl] at kH
    clear hh hlq
    subst hc0
    have hkey : (g ++ [(a, Tr.raw (Value.slice ad2 L.length cap2))]).map Prod.fst = g.map Prod.fst ++ [a] := by rw [List.map_append]; rfl
    rw [← hkey] at hsz
    clear hkey
    by_cases hsB : sB = true
    · rw [if_pos hsB] at hsz
      rw [hsB] at hsus
      have h3 := hsus.symm
      rw [Bool.and_eq_true, decide_eq_true_iff, decide_eq_true_iff] at h3
      obtain ⟨hs1, hs2⟩ := h3
      obtain ⟨hw1, hw2⟩ := hwl.2 hs2
      have hr2 : rows ++ [[Tr.str a, Tr.int sm]] = (susZ l least ((g ++ [(a, Tr.raw (Value.slice ad2 L.length cap2))]).map Prod.fst)).map Nm.row := by rw [hsz, hrows, nmRows_snoc]
      clear hsus hsz hrows hwl hs2
      subst hw1
      repeat' (first | refine goH ?_ | (refine Ops.k_b_shl ?_; first | (refine Ops.val' rfl (kS _ _ _ _ _ _ _ _ rfl rfl) ?_)) | refine goV ?_ | refine goB (fun b => ?_) | refine goC (fun ad cap => ?_) | refine goG ?_ | (refine Ops.k_guard ?_; first | (refine Ops.guard_dec rfl rfl (fun hc => ?_) (fun hc => ?_) <;> try (exfalso; omega)) | refine Ops.guard_split rfl rfl (fun hc => ?_) (fun hc => ?_)) | refine goI ?_ | (refine Cw.k_cond ?_; first | (refine Cw.cond_dec rfl (fun hc => ?_) (fun hc => ?_) <;> try (exfalso; omega)) | refine Cw.cond_bool rfl (fun hc => ?_) (fun hc => ?_)) | exact OpV.w (kS _ _ _ _ _ _ _ _ rfl rfl) | (refine Ops.k_calla ?_; first | (refine Ops.k_callf 26 ?_; refine Ops.callV kH (Evs.cons rfl (Evs.cons rfl Evs.nil)) rfl ?_) | (refine Ops.k_callf 33 ?_; refine Ops.callV kW (Evs.cons rfl (Evs.cons rfl Evs.nil)) rfl ?_)) | (apply OpW.k_call; first | (apply OpW.k_callf 26; exact OpW.callV kH (Evs.cons rfl (Evs.cons rfl Evs.nil))) | (apply OpW.k_callf 33; exact OpW.callV kW (Evs.cons rfl (Evs.cons rfl Evs.nil)))) | refine goR ?_ | refine goP ?_ | apply PSeq.cons | apply PSeq.yes rfl rfl rfl | exact goW | fail)
      all_goals first | (exfalso; omega) | exact ⟨_, _, _, (Ent.mk goSub goTk), ⟨_, left2, _, _, _, rfl, ⟨hp2, hr2, by rw [List.length_append, List.length_append]; simp; omega⟩, rfl, rfl⟩, by omega⟩
    · rw [if_neg hsB, List.append_nil] at hsz
      rw [← hsz] at hrows
      have hno : ¬ (sm < 0 ∧ (whi = 0 ∧ wlo ≤ P)) := fun h3 => hsB (by rw [hsus, decide_eq_true h3.1, decide_eq_true (hwl.1 h3.2)]; rfl)
      clear hsus hsz hwl
      by_cases hs1 : sm < 0
      · by_cases hw1 : whi = 0
        · have hw2 : ¬ wlo ≤ P := fun h4 => hno ⟨hs1, hw1, h4⟩
          subst hw1
          repeat' (first | refine goH ?_ | (refine Ops.k_b_shl ?_; first | (refine Ops.val' rfl (kS _ _ _ _ _ _ _ _ rfl rfl) ?_)) | refine goV ?_ | refine goB (fun b => ?_) | refine goC (fun ad cap => ?_) | refine goG ?_ | (refine Ops.k_guard ?_; first | (refine Ops.guard_dec rfl rfl (fun hc => ?_) (fun hc => ?_) <;> try (exfalso; omega)) | refine Ops.guard_split rfl rfl (fun hc => ?_) (fun hc => ?_)) | refine goI ?_ | (refine Cw.k_cond ?_; first | (refine Cw.cond_dec rfl (fun hc => ?_) (fun hc => ?_) <;> try (exfalso; omega)) | refine Cw.cond_bool rfl (fun hc => ?_) (fun hc => ?_)) | exact OpV.w (kS _ _ _ _ _ _ _ _ rfl rfl) | (refine Ops.k_calla ?_; first | (refine Ops.k_callf 26 ?_; refine Ops.callV kH (Evs.cons rfl (Evs.cons rfl Evs.nil)) rfl ?_) | (refine Ops.k_callf 33 ?_; refine Ops.callV kW (Evs.cons rfl (Evs.cons rfl Evs.nil)) rfl ?_)) | (apply OpW.k_call; first | (apply OpW.k_callf 26; exact OpW.callV kH (Evs.cons rfl (Evs.cons rfl Evs.nil))) | (apply OpW.k_callf 33; exact OpW.callV kW (Evs.cons rfl (Evs.cons rfl Evs.nil)))) | refine goR ?_ | refine goP ?_ | apply PSeq.cons | apply PSeq.yes rfl rfl rfl | exact goW | fail)
          all_goals first | (exfalso; omega) | exact ⟨_, _, _, (Ent.mk goSub goTk), ⟨_, left2, _, _, _, rfl, ⟨hp2, hrows, by rw [List.length_append]; simp; omega⟩, rfl, rfl⟩, by omega⟩
        · repeat' (first | refine goH ?_ | (refine Ops.k_b_shl ?_; first | (refine Ops.val' rfl (kS _ _ _ _ _ _ _ _ rfl rfl) ?_)) | refine goV ?_ | refine goB (fun b => ?_) | refine goC (fun ad cap => ?_) | refine goG ?_ | (refine Ops.k_guard ?_; first | (refine Ops.guard_dec rfl rfl (fun hc => ?_) (fun hc => ?_) <;> try (exfalso; omega)) | refine Ops.guard_split rfl rfl (fun hc => ?_) (fun hc => ?_)) | refine goI ?_ | (refine Cw.k_cond ?_; first | (refine Cw.cond_dec rfl (fun hc => ?_) (fun hc => ?_) <;> try (exfalso; omega)) | refine Cw.cond_bool rfl (fun hc => ?_) (fun hc => ?_)) | exact OpV.w (kS _ _ _ _ _ _ _ _ rfl rfl) | (refine Ops.k_calla ?_; first | (refine Ops.k_callf 26 ?_; refine Ops.callV kH (Evs.cons rfl (Evs.cons rfl Evs.nil)) rfl ?_) | (refine Ops.k_callf 33 ?_; refine Ops.callV kW (Evs.cons rfl (Evs.cons rfl Evs.nil)) rfl ?_)) | (apply OpW.k_call; first | (apply OpW.k_callf 26; exact OpW.callV kH (Evs.cons rfl (Evs.cons rfl Evs.nil))) | (apply OpW.k_callf 33; exact OpW.callV kW (Evs.cons rfl (Evs.cons rfl Evs.nil)))) | refine goR ?_ | refine goP ?_ | apply PSeq.cons | apply PSeq.yes rfl rfl rfl | exact goW | fail)
          all_goals first | (exfalso; omega) | exact ⟨_, _, _, (Ent.mk goSub goTk), ⟨_, left2, _, _, _, rfl, ⟨hp2, hrows, by rw [List.length_append]; simp; omega⟩, rfl, rfl⟩, by omega⟩
      · repeat' (first | refine goH ?_ | (refine Ops.k_b_shl ?_; first | (refine Ops.val' rfl (kS _ _ _ _ _ _ _ _ rfl rfl) ?_)) | refine goV ?_ | refine goB (fun b => ?_) | refine goC (fun ad cap => ?_) | refine goG ?_ | (refine Ops.k_guard ?_; first | (refine Ops.guard_dec rfl rfl (fun hc => ?_) (fun hc => ?_) <;> try (exfalso; omega)) | refine Ops.guard_split rfl rfl (fun hc => ?_) (fun hc => ?_)) | refine goI ?_ | (refine Cw.k_cond ?_; first | (refine Cw.cond_dec rfl (fun hc => ?_) (fun hc => ?_) <;> try (exfalso; omega)) | refine Cw.cond_bool rfl (fun hc => ?_) (fun hc => ?_)) | exact OpV.w (kS _ _ _ _ _ _ _ _ rfl rfl) | (refine Ops.k_calla ?_; first | (refine Ops.k_callf 26 ?_; refine Ops.callV kH (Evs.cons rfl (Evs.cons rfl Evs.nil)) rfl ?_) | (refine Ops.k_callf 33 ?_; refine Ops.callV kW (Evs.cons rfl (Evs.cons rfl Evs.nil)) rfl ?_)) | (apply OpW.k_call; first | (apply OpW.k_callf 26; exact OpW.callV kH (Evs.cons rfl (Evs.cons rfl Evs.nil))) | (apply OpW.k_callf 33; exact OpW.callV kW (Evs.cons rfl (Evs.cons rfl Evs.nil)))) | refine goR ?_ | refine goP ?_ | apply PSeq.cons | apply PSeq.yes rfl rfl rfl | exact goW | fail)
        all_goals first | (exfalso; omega) | exact ⟨_, _, _, (Ent.mk goSub goTk), ⟨_, left2, _, _, _, rfl, ⟨hp2, hrows, by rw [List.length_append]; simp; omega⟩, rfl, rfl⟩, by omega⟩
end Lg
end
section
set_option linter.all false
set_option maxRecDepth 100000
set_option maxHeartbeats 4000000
namespace Lg
open Go Go.Proofs

theorem oneU_gen {rows : List (List Tr)} {l : List ByteArray} (hr : IsStrs rows l) (h : 0 < l.length ∧ l.length ≤ 100000) :
    Gen Tryz.prog 25 5 [.sl 1 rows] 1 (fun r => ∃ v, r = .str v ∧ v ∈ l) := by
  unfold Gen
  intro bs xs N hN
  refine Spec.body Tryz.func5 rfl rfl (Tryz.ntmps5) rfl fun w0 own0 M => ?_
  repeat' (first | refine goH ?_ | refine goV ?_ | refine goI ?_ | (refine Cw.k_cond ?_; first | (refine Cw.cond_dec rfl (fun hc => ?_) (fun hc => ?_) <;> try (exfalso; omega)) | refine Cw.cond_bool rfl (fun hc => ?_) (fun hc => ?_)) | (refine Ops.k_calla ?_; first | (refine Ops.k_callf 22 ?_; (refine Ops.callG (one_gen hr h) (Evs.cons rfl (Evs.cons rfl Evs.nil)) goPk (by omega) rfl ?_; rintro r ⟨v, rfl, hv⟩))) | fail)
  refine Fin.ret (Ent.strm_only goPk (by omega)) (Outs.sole rfl goOe) ⟨rfl, v, rfl, hv⟩
theorem bags_gen : Gen Tryz.prog 25 4 [] 80 (fun r => ∃ l : List Bag, r = .bags l ∧ l.length ≤ 20) := by
  unfold Gen
  intro b xs N hN
  refine Spec.body Tryz.func4 rfl rfl (Tryz.ntmps4) rfl fun w0 own0 M => ?_
  repeat' (first | refine goH ?_ | refine goV ?_ | refine goC (fun ad cap => ?_) | refine goI ?_ | (refine Cw.k_cond ?_; first | (refine Cw.cond_dec rfl (fun hc => ?_) (fun hc => ?_) <;> try (exfalso; omega)) | refine Cw.cond_bool rfl (fun hc => ?_) (fun hc => ?_)) | (refine Ops.k_calla ?_; first | (refine Ops.k_callf 21 ?_; (refine Ops.callG (next_gen _ (by omega)) (Evs.cons rfl (Evs.cons rfl Evs.nil)) goPk (by omega) rfl ?_; rintro r ⟨n, rfl, hn⟩; unfold InRange at hn))) | fail)
  obtain ⟨m, rfl⟩ : ∃ m : Nat, n = m := ⟨n.toNat, by omega⟩
  refine Cw.loopI [(0, _), (6, _)] _ (fun q e cc => ∃ (k : Nat) (ad : Option Addr) (cap : Nat) (gs : List Bag) (c : Nat), q = m - k ∧ (k ≤ m ∧ gs.length ≤ k ∧ c ≤ N + 1 + 4 * k) ∧ e = [(3, Tr.raw (.slice ad (gs.map Bag.row).length cap)), (7, .int k)] ∧ cc = [Chunk.own ad cap 4 56 (gs.map Bag.row), Chunk.strm 25 b (intRows xs) c])
    ⟨_, _, _, Ent.trans (Ent.nil 4 56) (Ent.mkP goSub goPm), 0, none, 0, [], N + 1, rfl, ⟨by omega, by simp, by omega⟩, rfl, rfl⟩ ?_
  rintro _ _ _ ⟨k, ad, cap, gs, c, rfl, ⟨hk, hlen, h3⟩, rfl, rfl⟩
  have hrl : (gs.map Bag.row).length = gs.length := List.length_map _
  have key : ∀ (d : Int) (s : ByteArray) (a f : Int), gs.map Bag.row ++ [[Tr.int d, Tr.str s, Tr.int a, Tr.int f]] = (gs ++ [Bag.mk d s a f]).map Bag.row := by intro d s a f; rw [List.map_append]; rfl
  by_cases hkl : k < m
  · repeat' (first | refine goH ?_ | refine goV ?_ | refine goC (fun ad cap => ?_) | refine goI ?_ | (refine Cw.k_cond ?_; first | (refine Cw.cond_dec rfl (fun hc => ?_) (fun hc => ?_) <;> try (exfalso; omega)) | refine Cw.cond_bool rfl (fun hc => ?_) (fun hc => ?_)) | (refine Ops.k_calla ?_; first | (refine Ops.k_callf 21 ?_; (refine Ops.callG (next_gen _ (by omega)) (Evs.cons rfl (Evs.cons rfl Evs.nil)) goPk (by omega) rfl ?_; rintro r ⟨n, rfl, hn⟩; unfold InRange at hn)) | (refine Ops.k_callf 6 ?_; (refine Ops.callG (pick_gen (by repeat' (first | exact IsInts.nil | apply IsInts.cons)) (by simp)) (Evs.cons rfl (Evs.cons rfl Evs.nil)) goPk (by omega) rfl ?_; rintro r ⟨v, rfl, hv⟩; simp only [List.mem_cons, List.mem_nil_iff, or_false] at hv)) | (refine Ops.k_callf 22 ?_; (refine Ops.callG (one_gen (by repeat' (first | exact IsStrs.nil | apply IsStrs.cons)) (by simp)) (Evs.cons rfl (Evs.cons rfl Evs.nil)) goPk (by omega) rfl ?_; rintro r ⟨w, rfl, hw⟩; clear hw))) | fail)
    all_goals (rw [key]; exact ⟨_, _, _, (Ent.mk goSub goTk), ⟨k + 1, _, _, gs ++ [_], _, rfl, ⟨by omega, by rw [List.length_append]; simp; omega, by omega⟩, rfl, rfl⟩, by omega⟩)
  · repeat' (first | refine goH ?_ | refine goV ?_ | refine goC (fun ad cap => ?_) | refine goI ?_ | (refine Cw.k_cond ?_; first | (refine Cw.cond_dec rfl (fun hc => ?_) (fun hc => ?_) <;> try (exfalso; omega)) | refine Cw.cond_bool rfl (fun hc => ?_) (fun hc => ?_)) | (refine Ops.k_calla ?_; first | (refine Ops.k_callf 23 ?_; (refine Ops.callG (flip_gen _ (by omega)) (Evs.cons rfl (Evs.cons rfl Evs.nil)) goPk (by omega) rfl ?_; rintro r ⟨v, rfl⟩)) | (refine Ops.k_callf 6 ?_; (refine Ops.callG (pick_gen (by repeat' (first | exact IsInts.nil | apply IsInts.cons)) (by simp)) (Evs.cons rfl (Evs.cons rfl Evs.nil)) goPk (by omega) rfl ?_; rintro r ⟨v, rfl, hv⟩; clear hv)) | (refine Ops.k_callf 22 ?_; (refine Ops.callG (one_gen (by repeat' (first | exact IsStrs.nil | apply IsStrs.cons)) (by simp)) (Evs.cons rfl (Evs.cons rfl Evs.nil)) goPk (by omega) rfl ?_; rintro r ⟨w, rfl, hw⟩; clear hw))) | fail)
    · refine Fin.ret (Ent.trans (Ent.settle (s := 2) rfl goPk rfl) (Ent.strm_only goPk (by omega))) (Outs.one rfl rfl) ⟨rfl, _, congrArg (Tr.sl 4) (key _ _ _ _), ?_⟩
      rw [List.length_append]; simp; omega
    · refine Fin.ret (Ent.trans (Ent.settle (s := 2) rfl goPk rfl) (Ent.strm_only goPk (by omega))) (Outs.one rfl rfl) ⟨rfl, _, rfl, ?_⟩
      omega
end Lg
end
