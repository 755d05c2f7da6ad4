/- A part of the proof of a law of this seat: it adds no condition. By an AI agent. -/
import Derived.Test.YtjknjnkkpfeahaaGreatDoorWal14
set_option linter.all false
set_option maxRecDepth 100000
set_option maxHeartbeats 8000000
namespace Lg
open Go Go.Proofs

def abc : List ByteArray := [⟨#[97]⟩, ⟨#[98]⟩, ⟨#[99]⟩]
def abS : List ByteArray := [⟨#[97]⟩, ⟨#[98]⟩]
theorem sitE_abc : sitE abc = 0 := by decide +kernel
theorem sitE_ab : sitE abS = 0 := by decide +kernel
def Wal.row (w : Wal) : List Tr := [.strs w.sites, .sl 1 (intsR w.rights), .ints w.used]
def WG (w : Wal) : Prop := WOk w ∧ w.sites = abc
theorem empW_ok {s : List ByteArray} (h : s.length ≤ 12) : WOk (empW s) := by
  refine ⟨h, by simp [empW], by simp [empW], ?_, ?_, ?_⟩
  · intro l hl
    rw [(List.mem_replicate.1 hl).2]
    simp [empW]
  · intro x hx
    rw [(List.mem_replicate.1 hx).2]
    omega
  · intro l hl x hx
    rw [(List.mem_replicate.1 hl).2] at hx
    rw [(List.mem_replicate.1 hx).2]
    omega
theorem wg_set {l : List Wal} {k : Nat} {w : Wal} (h : ∀ x ∈ l, WG x) (hw : WG w) : ∀ x ∈ l.set k w, WG x := by
  intro x hx
  rcases List.mem_or_eq_of_mem_set hx with h1 | h1
  · exact h x h1
  · rw [h1]; exact hw
def nmA (x : Int) : ByteArray := abc.getD x.toNat ⟨#[]⟩
theorem nmA_at {x : Int} (h : 0 ≤ x ∧ x < 3) : (strRows abc)[x.toNat]? = some [Tr.str (nmA x)] := by
  have : x.toNat < abc.length := by show _ < 3; omega
  have e : abc[x.toNat]? = some (nmA x) := by unfold nmA; rw [List.getD_eq_getElem?_getD, List.getElem?_eq_getElem this]; rfl
  exact strRows_at e
def wAt (l : List Wal) (x : Int) : Wal := l.getD x.toNat wNil
theorem wAt_mem {l : List Wal} {x : Int} (hl : l.length = 3) (h : 0 ≤ x ∧ x < 3) : wAt l x ∈ l := by
  have : x.toNat < l.length := by omega
  unfold wAt
  rw [List.getD_eq_getElem?_getD, List.getElem?_eq_getElem this]
  exact List.getElem_mem _
theorem wAt_row {l : List Wal} {x : Int} (hl : l.length = 3) (h : 0 ≤ x ∧ x < 3) : (l.map Wal.row)[x.toNat]? = some (wAt l x).row := by
  have : x.toNat < l.length := by omega
  unfold wAt
  rw [List.getD_eq_getElem?_getD, List.getElem?_map, List.getElem?_eq_getElem this]
  rfl
/-- what a step hands out: a wallet, if there is no error -/
def stepT (w : Wal) (e : Int) : Wal := if e = 0 then w else wNil
theorem wg_given {w : Wal} (h : WG w) {a b : ByteArray} {c : Int} {cr : Bool} (he : gvE w a b c cr = 0) : WG (stepT (gvW w a b c) (gvE w a b c cr)) := by
  unfold stepT
  rw [if_pos he]
  exact ⟨gvW_ok h.1 he, h.2⟩
theorem wg_spent {w : Wal} (h : WG w) {a : ByteArray} {c : Int} (he : spE w a c = 0) : WG (stepT (spW w a c) (spE w a c)) := by
  unfold stepT
  rw [if_pos he]
  exact ⟨spW_ok h.1 he, h.2⟩
theorem wg_merged {v w : Wal} (h : WG v) (h2 : WG w) (he : mrgE v w = 0) : WG (stepT (mrgW v w) (mrgE v w)) := by
  unfold stepT
  rw [if_pos he]
  exact ⟨h.1.mrg h2.1 (by rw [h.2, h2.2]), h.2⟩
abbrev rows3 : List (List Tr) := [[Tr.raw (Value.string ⟨#[97]⟩)], [Tr.raw (Value.string ⟨#[98]⟩)], [Tr.raw (Value.string ⟨#[99]⟩)]]
theorem rows3_at {x : Int} (h : 0 ≤ x ∧ x < 3) : rows3[x.toNat]? = some [Tr.str (nmA x)] := nmA_at h
abbrev wTup (W : Wal) (e : Int) : Tr := .tup [.agg [.strs W.sites, .sl 1 (intsR W.rights), .ints W.used], .int e]
theorem gen_given {w : Wal} (h : WG w) (a b : ByteArray) (c : Int) (cr : Bool) (hc : 5 ≤ c ∧ c ≤ 100) : ∃ (W : Wal) (e : Int), PFn Tryz.prog 44 [.wal w, .str a, .str b, .int c, .bool cr] (· = wTup W e) ∧ (e = 0 → WG W) :=
  ⟨stepT (gvW w a b c) (gvE w a b c cr), gvE w a b c cr, given_fn w h.1 a b c cr (by omega), wg_given h⟩
theorem gen_spent {w : Wal} (h : WG w) (a : ByteArray) (c : Int) (hc : 5 ≤ c ∧ c ≤ 100) : ∃ (W : Wal) (e : Int), PFn Tryz.prog 45 [.wal w, .str a, .int c] (· = wTup W e) ∧ (e = 0 → WG W) :=
  ⟨stepT (spW w a c) (spE w a c), spE w a c, spent_fn w h.1 a c (by omega), wg_spent h⟩
theorem gen_merged {v w : Wal} (h : WG v) (h2 : WG w) : ∃ (W : Wal) (e : Int), PFn Tryz.prog 46 [.wal v, .wal w] (· = wTup W e) ∧ (e = 0 → WG W) :=
  ⟨stepT (mrgW v w) (mrgE v w), mrgE v w, merged_fn v w h.1.bd h2.1.bd, wg_merged h h2⟩
theorem fam {α : Type} [Inhabited α] {p : Int → α → Prop} (h : ∀ x, 0 ≤ x ∧ x < 3 → ∃ a, p x a) : ∃ f : Int → α, ∀ x, 0 ≤ x ∧ x < 3 → p x (f x) := by
  refine ⟨fun x => if hx : 0 ≤ x ∧ x < 3 then Classical.choose (h x hx) else default, fun x hx => ?_⟩
  simp only [hx, and_self, dif_pos]
  exact Classical.choose_spec (h x hx)
instance : Inhabited Wal := ⟨wNil⟩
theorem emptyR_abc : PFn Tryz.prog 43 [.sl 1 [[.str ⟨#[97]⟩], [.str ⟨#[98]⟩], [.str ⟨#[99]⟩]]] (· = .tup [.agg [.strs abc, .sl 1 (intsR (empW abc).rights), .ints (empW abc).used], .int 0]) := by
  have := emptyR_fn abc (by decide)
  rw [resW_ok sitE_abc] at this
  exact this
attribute [local irreducible] intRows intsR strRows valsW rowsW idxS rgt at2 set2 gvW gvE spW spE mrgW mrgE stepT nmA wAt
theorem wallets_gen : Gen Tryz.prog 25 13 [] 80 (fun r => ∃ l : List Wal, r = .sl 3 (l.map Wal.row) ∧ l.length = 3 ∧ ∀ w ∈ l, WG w) := by
  unfold Gen
  intro bs xs N hN
  refine Spec.body Tryz.func13 rfl rfl (Tryz.ntmps13) rfl fun w0 own0 M => ?_
  have kE := emptyR_abc
  repeat' (first | refine goH ?_ | (refine Ops.k_buildSlice ?_; first | (refine Ops.k_buildSlice3 ?_; refine Ops.buildSlice_own (E := 29) (rows := [empW abc, empW abc, empW abc].map Wal.row) (by exact Parts.cons rfl rfl rfl (by exact Parts.cons rfl rfl rfl (by exact Parts.cons rfl rfl rfl (by exact Parts.nil)))) rfl rfl rfl (fun ad cap => ?_))) | refine goV ?_ | refine goB (fun b => ?_) | refine goI ?_ | (refine Cw.k_cond ?_; first | (refine Cw.cond_dec rfl (fun hc => ?_) (fun hc => ?_) <;> try (exfalso; omega)) | refine Cw.cond_bool rfl (fun hc => ?_) (fun hc => ?_)) | (refine Ops.k_calla ?_; first | (refine Ops.k_callf 43 ?_; refine Ops.callV kE (Evs.cons rfl Evs.nil) rfl ?_) | (refine Ops.k_callf 14 ?_; (refine Ops.callG (next_gen 16 (by omega)) (Evs.cons rfl (Evs.cons rfl Evs.nil)) goPk (by omega) rfl ?_; rintro r ⟨w, rfl, hw⟩; unfold InRange at hw))) | (apply OpW.k_call; first | (apply OpW.k_callf 43; exact OpW.callV kE (Evs.cons rfl Evs.nil))) | refine goR ?_ | refine goP ?_ | apply PSeq.cons | apply PSeq.yes rfl rfl rfl | exact goW | fail)
  rw [show (List.map Wal.row [empW abc, empW abc, empW abc]).length = 3 from rfl]
  have hW0 : ∀ x ∈ [empW abc, empW abc, empW abc], WG x := by
    intro x hx
    simp only [List.mem_cons, List.mem_nil_iff, or_false] at hx
    rcases hx with rfl | rfl | rfl <;> exact ⟨empW_ok (by decide), rfl⟩
  refine Cw.loopI [(0, _), (3, _), (6, _), (22, _)] _ (fun q e cc => ∃ (k : Nat) (l : List Wal) (c : Nat), q = 16 - k ∧ (k ≤ 16 ∧ l.length = 3 ∧ (∀ x ∈ l, WG x) ∧ c ≤ N + 1 + 4 * k) ∧ e = [(23, .int k)] ∧ cc = [Chunk.own ad cap 3 29 (l.map Wal.row), Chunk.strm 25 bs (intRows xs) c])
    ⟨_, _, _, (Ent.mkP goSub goPm), 0, [empW abc, empW abc, empW abc], N + 1, rfl, ⟨by omega, rfl, hW0, by omega⟩, rfl, rfl⟩ ?_
  clear hW0 kE
  rintro _ _ _ ⟨k, l, c, rfl, ⟨hk, hl, hg, hc⟩, rfl, rfl⟩
  have hlr : (l.map Wal.row).length = 3 := by rw [List.length_map, hl]
  by_cases hkl : (k : Int) < w
  · repeat' (first | refine goH ?_ | refine goV ?_ | refine goB (fun b => ?_) | refine goI ?_ | (refine Cw.k_cond ?_; first | (refine Cw.cond_dec rfl (fun hc => ?_) (fun hc => ?_) <;> try (exfalso; omega)) | refine Cw.cond_bool rfl (fun hc => ?_) (fun hc => ?_)) | (refine Ops.k_calla ?_; first | (refine Ops.k_callf 14 ?_; (refine Ops.callG (next_gen 3 (by omega)) (Evs.cons rfl (Evs.cons rfl Evs.nil)) goPk (by omega) rfl ?_; rintro r ⟨x, rfl, hx⟩; unfold InRange at hx; have hx3 : 0 ≤ x ∧ x < 3 := (by omega))) | (refine Ops.k_callf 20 ?_; (refine Ops.callG (pick_gen (by repeat' (first | exact IsInts.nil | apply IsInts.cons)) (by simp)) (Evs.cons rfl (Evs.cons rfl Evs.nil)) goPk (by omega) rfl ?_; rintro r ⟨y, rfl, hy⟩; have hyb : 5 ≤ y ∧ y ≤ 100 := (by simp at hy; omega); clear hy)) | (refine Ops.k_callf 14 ?_; (refine Ops.callG (next_gen 5 (by omega)) (Evs.cons rfl (Evs.cons rfl Evs.nil)) goPk (by omega) rfl ?_; rintro r ⟨z, rfl, hz⟩; unfold InRange at hz))) | fail)
    all_goals have hg1 := hg _ (wAt_mem hl hx3)
    all_goals have hrow : (l.map Wal.row)[x.toNat]? = some [.strs (wAt l x).sites, .sl 1 (intsR (wAt l x).rights), .ints (wAt l x).used] := wAt_row hl hx3
    all_goals have hnm := rows3_at hx3
    all_goals rename Nat => b9
    · obtain ⟨W, e, kG, hWG⟩ := gen_given hg1 (nmA x) (nmA x) y true hyb
      first | refine Cw.region_YP (fun ξ S => Chunk.strm 25 bs (intRows xs) (c + 1 + 1 + 1) :: Chunk.own ad cap 3 29 (l.map Wal.row) :: Chunk.box b 29 [.strs abc, .sl 1 (intsR (empW abc).rights), .ints (empW abc).used] :: Chunk.box b9 29 (stg (S 17) [Tr.raw (.slice none 0 0), Tr.raw (.slice none 0 0), Tr.raw (.slice none 0 0)] [.strs W.sites, .sl 1 (intsR W.rights), .ints W.used]) :: []) rfl (by decide +kernel) rfl ((fun (ξ : Nat → Value) (S : Nat → Bool) => Chunk.strm 25 bs (intRows xs) (c + 1 + 1 + 1) :: Chunk.own ad cap 3 29 (l.map Wal.row) :: Chunk.box b 29 [.strs abc, .sl 1 (intsR (empW abc).rights), .ints (empW abc).used] :: Chunk.box b9 29 (stg (S 17) [Tr.raw (.slice none 0 0), Tr.raw (.slice none 0 0), Tr.raw (.slice none 0 0)] [.strs W.sites, .sl 1 (intsR W.rights), .ints W.used]) :: []) (fun _ => undef) (fun _ => false)) (by simp only [upd_same, updD_same, upd_ne, updD_ne, ne_eq, Nat.reduceEqDiff, not_false_eq_true, stg_t, stg_f, vAd_s, vCap_s, blk_p, List.cons_append, List.nil_append, b2n_t, b2n_f]; exact goXm) (fun _ => rfl) ?_ | fail
      apply YSeq.w (by intro _ _ _; rfl)
      · intro ξ S h1 h2 h3 h4
        have hN0_17 := closed_false h1 h3 (k := 17) rfl (by decide)
        try simp only [upd_same, updD_same, upd_ne, updD_ne, ne_eq, Nat.reduceEqDiff, not_false_eq_true, stg_t, stg_f, vAd_s, vCap_s, blk_p, List.cons_append, List.nil_append, b2n_t, b2n_f, hN0_17]
        exact goW
      · intro ξ v; rfl
      · intro ξ k v S h3 hn hk
        first
        | rfl
      apply YSeq.w (by intro _ _ _; rfl)
      · intro ξ S h1 h2 h3 h4
        have hN1_17 := closed_false h1 h3 (k := 17) rfl (by decide)
        try simp only [upd_same, updD_same, upd_ne, updD_ne, ne_eq, Nat.reduceEqDiff, not_false_eq_true, stg_t, stg_f, vAd_s, vCap_s, blk_p, List.cons_append, List.nil_append, b2n_t, b2n_f, hN1_17]
        exact goW
      · intro ξ v; rfl
      · intro ξ k v S h3 hn hk
        first
        | rfl
      apply YSeq.w (by intro _ _ _; rfl)
      · intro ξ S h1 h2 h3 h4
        have hN2_17 := closed_false h1 h3 (k := 17) rfl (by decide)
        try simp only [upd_same, updD_same, upd_ne, updD_ne, ne_eq, Nat.reduceEqDiff, not_false_eq_true, stg_t, stg_f, vAd_s, vCap_s, blk_p, List.cons_append, List.nil_append, b2n_t, b2n_f, hN2_17]
        exact goW
      · intro ξ v; rfl
      · intro ξ k v S h3 hn hk
        first
        | rfl
      apply YSeq.w (by intro _ _ _; rfl)
      · intro ξ S h1 h2 h3 h4
        have hN3_17 := closed_false h1 h3 (k := 17) rfl (by decide)
        try simp only [upd_same, updD_same, upd_ne, updD_ne, ne_eq, Nat.reduceEqDiff, not_false_eq_true, stg_t, stg_f, vAd_s, vCap_s, blk_p, List.cons_append, List.nil_append, b2n_t, b2n_f, hN3_17]
        exact goW
      · intro ξ v; rfl
      · intro ξ k v S h3 hn hk
        first
        | rfl
      apply YSeq.w (by intro _ _ _; rfl)
      · intro ξ S h1 h2 h3 h4
        have hN4_17 := closed_false h1 h3 (k := 17) rfl (by decide)
        try simp only [upd_same, updD_same, upd_ne, updD_ne, ne_eq, Nat.reduceEqDiff, not_false_eq_true, stg_t, stg_f, vAd_s, vCap_s, blk_p, List.cons_append, List.nil_append, b2n_t, b2n_f, hN4_17]
        exact goW
      · intro ξ v; rfl
      · intro ξ k v S h3 hn hk
        first
        | rfl
      apply YSeq.w (by intro _ _ _; rfl)
      · intro ξ S h1 h2 h3 h4
        have hN5_17 := closed_false h1 h3 (k := 17) rfl (by decide)
        try simp only [upd_same, updD_same, upd_ne, updD_ne, ne_eq, Nat.reduceEqDiff, not_false_eq_true, stg_t, stg_f, vAd_s, vCap_s, blk_p, List.cons_append, List.nil_append, b2n_t, b2n_f, hN5_17]
        exact goW
      · intro ξ v; rfl
      · intro ξ k v S h3 hn hk
        first
        | rfl
      apply YSeq.w (by intro _ _ _; rfl)
      · intro ξ S h1 h2 h3 h4
        have hN6_17 := closed_false h1 h3 (k := 17) rfl (by decide)
        try simp only [upd_same, updD_same, upd_ne, updD_ne, ne_eq, Nat.reduceEqDiff, not_false_eq_true, stg_t, stg_f, vAd_s, vCap_s, blk_p, List.cons_append, List.nil_append, b2n_t, b2n_f, hN6_17]
        exact goW
      · intro ξ v; rfl
      · intro ξ k v S h3 hn hk
        first
        | rfl
      apply YSeq.w (by intro _ _ _; rfl)
      · intro ξ S h1 h2 h3 h4
        have hN7_17 := closed_false h1 h3 (k := 17) rfl (by decide)
        try simp only [upd_same, updD_same, upd_ne, updD_ne, ne_eq, Nat.reduceEqDiff, not_false_eq_true, stg_t, stg_f, vAd_s, vCap_s, blk_p, List.cons_append, List.nil_append, b2n_t, b2n_f, hN7_17]
        exact goW
      · intro ξ v; rfl
      · intro ξ k v S h3 hn hk
        first
        | rfl
      apply YSeq.w (by intro _ _ _; rfl)
      · intro ξ S h1 h2 h3 h4
        have hN8_17 := closed_false h1 h3 (k := 17) rfl (by decide)
        try simp only [upd_same, updD_same, upd_ne, updD_ne, ne_eq, Nat.reduceEqDiff, not_false_eq_true, stg_t, stg_f, vAd_s, vCap_s, blk_p, List.cons_append, List.nil_append, b2n_t, b2n_f, hN8_17]
        exact goW
      · intro ξ v; rfl
      · intro ξ k v S h3 hn hk
        first
        | rfl
      apply YSeq.w (by intro _ _ _; rfl)
      · intro ξ S h1 h2 h3 h4
        have hN9_17 := closed_false h1 h3 (k := 17) rfl (by decide)
        try simp only [upd_same, updD_same, upd_ne, updD_ne, ne_eq, Nat.reduceEqDiff, not_false_eq_true, stg_t, stg_f, vAd_s, vCap_s, blk_p, List.cons_append, List.nil_append, b2n_t, b2n_f, hN9_17]
        exact goW
      · intro ξ v; rfl
      · intro ξ k v S h3 hn hk
        first
        | rfl
      apply YSeq.w (by intro _ _ _; rfl)
      · intro ξ S h1 h2 h3 h4
        have hN10_17 := closed_false h1 h3 (k := 17) rfl (by decide)
        try simp only [upd_same, updD_same, upd_ne, updD_ne, ne_eq, Nat.reduceEqDiff, not_false_eq_true, stg_t, stg_f, vAd_s, vCap_s, blk_p, List.cons_append, List.nil_append, b2n_t, b2n_f, hN10_17]
        exact goW
      · intro ξ v; rfl
      · intro ξ k v S h3 hn hk
        first
        | rfl
      apply YSeq.w (by intro _ _ _; rfl)
      · intro ξ S h1 h2 h3 h4
        have hN11_17 := closed_false h1 h3 (k := 17) rfl (by decide)
        try simp only [upd_same, updD_same, upd_ne, updD_ne, ne_eq, Nat.reduceEqDiff, not_false_eq_true, stg_t, stg_f, vAd_s, vCap_s, blk_p, List.cons_append, List.nil_append, b2n_t, b2n_f, hN11_17]
        exact goW
      · intro ξ v; rfl
      · intro ξ k v S h3 hn hk
        first
        | rfl
      apply YSeq.w (by intro _ _ _; rfl)
      · intro ξ S h1 h2 h3 h4
        have hN12_17 := closed_false h1 h3 (k := 17) rfl (by decide)
        try simp only [upd_same, updD_same, upd_ne, updD_ne, ne_eq, Nat.reduceEqDiff, not_false_eq_true, stg_t, stg_f, vAd_s, vCap_s, blk_p, List.cons_append, List.nil_append, b2n_t, b2n_f, hN12_17]
        exact goW
      · intro ξ v; rfl
      · intro ξ k v S h3 hn hk
        first
        | rfl
      apply YSeq.callV (by intro _ _ _; rfl)
      · intro ξ S h1 h2 h3 h4
        have hN13_17 := closed_false h1 h3 (k := 17) rfl (by decide)
        try simp only [upd_same, updD_same, upd_ne, updD_ne, ne_eq, Nat.reduceEqDiff, not_false_eq_true, stg_t, stg_f, vAd_s, vCap_s, blk_p, List.cons_append, List.nil_append, b2n_t, b2n_f, hN13_17]
        exact ⟨_, (Evs.cons rfl (Evs.cons rfl (Evs.cons rfl (Evs.cons rfl (Evs.cons rfl Evs.nil))))), kG⟩
      · intro ξ v; rfl
      · intro ξ k v S h3 hn hk
        first
        | rfl
      apply YSeq.w (by intro _ _ _; rfl)
      · intro ξ S h1 h2 h3 h4
        have hN14_17 := closed_false h1 h3 (k := 17) rfl (by decide)
        try simp only [upd_same, updD_same, upd_ne, updD_ne, ne_eq, Nat.reduceEqDiff, not_false_eq_true, stg_t, stg_f, vAd_s, vCap_s, blk_p, List.cons_append, List.nil_append, b2n_t, b2n_f, hN14_17]
        exact goW
      · intro ξ v; rfl
      · intro ξ k v S h3 hn hk
        first
        | rfl
      apply YSeq.w (by intro _ _ _; rfl)
      · intro ξ S h1 h2 h3 h4
        have hN15_17 := closed_false h1 h3 (k := 17) rfl (by decide)
        try simp only [upd_same, updD_same, upd_ne, updD_ne, ne_eq, Nat.reduceEqDiff, not_false_eq_true, stg_t, stg_f, vAd_s, vCap_s, blk_p, List.cons_append, List.nil_append, b2n_t, b2n_f, hN15_17]
        exact goW
      · intro ξ v; rfl
      · intro ξ k v S h3 hn hk
        first
        | rfl
      apply YSeq.w (by intro _ _ _; rfl)
      · intro ξ S h1 h2 h3 h4
        try simp only [upd_same, updD_same, upd_ne, updD_ne, ne_eq, Nat.reduceEqDiff, not_false_eq_true, stg_t, stg_f, vAd_s, vCap_s, blk_p, List.cons_append, List.nil_append, b2n_t, b2n_f]
        exact goW
      · intro ξ v; rfl
      · intro ξ k v S h3 hn hk
        first
        | rfl
      apply YSeq.store
      · intro ξ S h1 h2 h3 h4
        simp only [upd_same, updD_same, upd_ne, updD_ne, ne_eq, Nat.reduceEqDiff, not_false_eq_true, stg_t, stg_f, vAd_s, vCap_s, blk_p, List.cons_append, List.nil_append, b2n_t, b2n_f, h1]
        refine ⟨_, _, _, _, _, _, _, rfl, rfl, inferInstance, goXp, rfl, Nat.le_of_ble_eq_true rfl, ?_⟩
        exact goXm
      apply YSeq.w (by intro _ _ _; rfl)
      · intro ξ S h1 h2 h3 h4
        have hY18_17 : S 17 = true := h2 17 (by decide)
        try simp only [upd_same, updD_same, upd_ne, updD_ne, ne_eq, Nat.reduceEqDiff, not_false_eq_true, stg_t, stg_f, vAd_s, vCap_s, blk_p, List.cons_append, List.nil_append, b2n_t, b2n_f, hY18_17]
        exact goW
      · intro ξ v; rfl
      · intro ξ k v S h3 hn hk
        first
        | rfl
      refine YSeq.nil fun ξ hf => ?_
      refine ⟨[(0, _), (3, _), (6, _), (7, _), (9, _), (10, _), (22, _), (23, _)], _, Ent.trans (Ent.eqc rfl (by first | (simp only [upd_same, updD_same, upd_ne, updD_ne, ne_eq, Nat.reduceEqDiff, not_false_eq_true, stg_t, stg_f, vAd_s, vCap_s, blk_p, List.cons_append, List.nil_append, b2n_t, b2n_f, ownV, slV, ptV] <;> rfl) | rfl)) (Ent.sub goSub), ?_⟩
      clear hf
      have hset : (l.map Wal.row).set x.toNat [.strs W.sites, .sl 1 (intsR W.rights), .ints W.used] = (l.set x.toNat W).map Wal.row := by rw [List.map_set]; rfl
      repeat' (first | refine goH ?_ | (refine Ops.k_store ?_; first | (refine Ops.store_own_all rfl rfl goPk (by first | rfl | assumption | (simp [*]; done)) rfl ?_; erw [hset])) | refine goV ?_ | refine goB (fun b => ?_) | refine goI ?_ | (refine Cw.k_cond ?_; first | (refine Cw.cond_dec rfl (fun hc => ?_) (fun hc => ?_) <;> try (exfalso; omega)) | refine Cw.cond_bool rfl (fun hc => ?_) (fun hc => ?_)) | refine goR ?_ | refine goP ?_ | apply PSeq.cons | apply PSeq.yes rfl rfl rfl | exact goW | fail)
      · exact ⟨_, _, _, (Ent.mk goSub goTk), ⟨k + 1, l.set x.toNat W, _, rfl, ⟨by omega, by simp [hl], wg_set hg (hWG (by assumption)), by omega⟩, rfl, rfl⟩, by omega⟩
      · exact ⟨_, _, _, (Ent.mk goSub goTk), ⟨k + 1, l, _, rfl, ⟨by omega, hl, hg, by omega⟩, rfl, rfl⟩, by omega⟩
    · obtain ⟨W, hWW⟩ := fam (fun v (hv : 0 ≤ v ∧ v < 3) => gen_given hg1 (nmA x) (nmA v) y false hyb)
      obtain ⟨e, hE⟩ := fam hWW
      have kG := fun v hv => (hE v hv).1
      have hWG := fun v hv => (hE v hv).2
      clear hWW hE
      first | refine Cw.region_YP (fun ξ S => Chunk.strm 25 bs (intRows xs) (c + 1 + 1 + 1 + b2n (S 10)) :: Chunk.own ad cap 3 29 (l.map Wal.row) :: Chunk.box b 29 [.strs abc, .sl 1 (intsR (empW abc).rights), .ints (empW abc).used] :: Chunk.box b9 29 (stg (S 18) [Tr.raw (.slice none 0 0), Tr.raw (.slice none 0 0), Tr.raw (.slice none 0 0)] [.strs (W (vInt (ξ 10))).sites, .sl 1 (intsR (W (vInt (ξ 10))).rights), .ints (W (vInt (ξ 10))).used]) :: []) rfl (by decide +kernel) rfl ((fun (ξ : Nat → Value) (S : Nat → Bool) => Chunk.strm 25 bs (intRows xs) (c + 1 + 1 + 1 + b2n (S 10)) :: Chunk.own ad cap 3 29 (l.map Wal.row) :: Chunk.box b 29 [.strs abc, .sl 1 (intsR (empW abc).rights), .ints (empW abc).used] :: Chunk.box b9 29 (stg (S 18) [Tr.raw (.slice none 0 0), Tr.raw (.slice none 0 0), Tr.raw (.slice none 0 0)] [.strs (W (vInt (ξ 10))).sites, .sl 1 (intsR (W (vInt (ξ 10))).rights), .ints (W (vInt (ξ 10))).used]) :: []) (fun _ => undef) (fun _ => false)) (by simp only [upd_same, updD_same, upd_ne, updD_ne, ne_eq, Nat.reduceEqDiff, not_false_eq_true, stg_t, stg_f, vAd_s, vCap_s, blk_p, List.cons_append, List.nil_append, b2n_t, b2n_f]; exact goXm) (fun _ => rfl) ?_ | fail
      apply YSeq.w (by intro _ _ _; rfl)
      · intro ξ S h1 h2 h3 h4
        have hN0_18 := closed_false h1 h3 (k := 18) rfl (by decide)
        try simp only [upd_same, updD_same, upd_ne, updD_ne, ne_eq, Nat.reduceEqDiff, not_false_eq_true, stg_t, stg_f, vAd_s, vCap_s, blk_p, List.cons_append, List.nil_append, b2n_t, b2n_f, hN0_18]
        exact goW
      · intro ξ v; rfl
      · intro ξ k v S h3 hn hk
        first
        | rfl
      apply YSeq.w (by intro _ _ _; rfl)
      · intro ξ S h1 h2 h3 h4
        have hN1_18 := closed_false h1 h3 (k := 18) rfl (by decide)
        try simp only [upd_same, updD_same, upd_ne, updD_ne, ne_eq, Nat.reduceEqDiff, not_false_eq_true, stg_t, stg_f, vAd_s, vCap_s, blk_p, List.cons_append, List.nil_append, b2n_t, b2n_f, hN1_18]
        exact goW
      · intro ξ v; rfl
      · intro ξ k v S h3 hn hk
        first
        | rfl
      apply YSeq.w (by intro _ _ _; rfl)
      · intro ξ S h1 h2 h3 h4
        have hN2_18 := closed_false h1 h3 (k := 18) rfl (by decide)
        try simp only [upd_same, updD_same, upd_ne, updD_ne, ne_eq, Nat.reduceEqDiff, not_false_eq_true, stg_t, stg_f, vAd_s, vCap_s, blk_p, List.cons_append, List.nil_append, b2n_t, b2n_f, hN2_18]
        exact goW
      · intro ξ v; rfl
      · intro ξ k v S h3 hn hk
        first
        | rfl
      apply YSeq.w (by intro _ _ _; rfl)
      · intro ξ S h1 h2 h3 h4
        have hN3_18 := closed_false h1 h3 (k := 18) rfl (by decide)
        try simp only [upd_same, updD_same, upd_ne, updD_ne, ne_eq, Nat.reduceEqDiff, not_false_eq_true, stg_t, stg_f, vAd_s, vCap_s, blk_p, List.cons_append, List.nil_append, b2n_t, b2n_f, hN3_18]
        exact goW
      · intro ξ v; rfl
      · intro ξ k v S h3 hn hk
        first
        | rfl
      apply YSeq.w (by intro _ _ _; rfl)
      · intro ξ S h1 h2 h3 h4
        have hN4_18 := closed_false h1 h3 (k := 18) rfl (by decide)
        try simp only [upd_same, updD_same, upd_ne, updD_ne, ne_eq, Nat.reduceEqDiff, not_false_eq_true, stg_t, stg_f, vAd_s, vCap_s, blk_p, List.cons_append, List.nil_append, b2n_t, b2n_f, hN4_18]
        exact goW
      · intro ξ v; rfl
      · intro ξ k v S h3 hn hk
        first
        | rfl
      apply YSeq.w (by intro _ _ _; rfl)
      · intro ξ S h1 h2 h3 h4
        have hN5_18 := closed_false h1 h3 (k := 18) rfl (by decide)
        try simp only [upd_same, updD_same, upd_ne, updD_ne, ne_eq, Nat.reduceEqDiff, not_false_eq_true, stg_t, stg_f, vAd_s, vCap_s, blk_p, List.cons_append, List.nil_append, b2n_t, b2n_f, hN5_18]
        exact goW
      · intro ξ v; rfl
      · intro ξ k v S h3 hn hk
        first
        | rfl
      apply YSeq.w (by intro _ _ _; rfl)
      · intro ξ S h1 h2 h3 h4
        have hN6_18 := closed_false h1 h3 (k := 18) rfl (by decide)
        try simp only [upd_same, updD_same, upd_ne, updD_ne, ne_eq, Nat.reduceEqDiff, not_false_eq_true, stg_t, stg_f, vAd_s, vCap_s, blk_p, List.cons_append, List.nil_append, b2n_t, b2n_f, hN6_18]
        exact goW
      · intro ξ v; rfl
      · intro ξ k v S h3 hn hk
        first
        | rfl
      apply YSeq.w (by intro _ _ _; rfl)
      · intro ξ S h1 h2 h3 h4
        have hN7_18 := closed_false h1 h3 (k := 18) rfl (by decide)
        try simp only [upd_same, updD_same, upd_ne, updD_ne, ne_eq, Nat.reduceEqDiff, not_false_eq_true, stg_t, stg_f, vAd_s, vCap_s, blk_p, List.cons_append, List.nil_append, b2n_t, b2n_f, hN7_18]
        exact goW
      · intro ξ v; rfl
      · intro ξ k v S h3 hn hk
        first
        | rfl
      apply YSeq.w (by intro _ _ _; rfl)
      · intro ξ S h1 h2 h3 h4
        have hN8_18 := closed_false h1 h3 (k := 18) rfl (by decide)
        try simp only [upd_same, updD_same, upd_ne, updD_ne, ne_eq, Nat.reduceEqDiff, not_false_eq_true, stg_t, stg_f, vAd_s, vCap_s, blk_p, List.cons_append, List.nil_append, b2n_t, b2n_f, hN8_18]
        exact goW
      · intro ξ v; rfl
      · intro ξ k v S h3 hn hk
        first
        | rfl
      apply YSeq.w (by intro _ _ _; rfl)
      · intro ξ S h1 h2 h3 h4
        have hN9_10 := closed_false h1 h3 (k := 10) rfl (by decide)
        have hN9_18 := closed_false h1 h3 (k := 18) rfl (by decide)
        try simp only [upd_same, updD_same, upd_ne, updD_ne, ne_eq, Nat.reduceEqDiff, not_false_eq_true, stg_t, stg_f, vAd_s, vCap_s, blk_p, List.cons_append, List.nil_append, b2n_t, b2n_f, hN9_10, hN9_18]
        exact goW
      · intro ξ v; rfl
      · intro ξ k v S h3 hn hk
        first
        | rfl
      apply YSeq.callI (next_gen 3 (by omega)) (fun _ => (Evs.cons rfl (Evs.cons rfl Evs.nil)))
      · intro ξ S h1 h3
        have hN10_18 := closed_false h1 h3 (k := 18) rfl (by decide)
        have hq10 := b2n_le (S 10)
        simp only [upd_same, updD_same, upd_ne, updD_ne, ne_eq, Nat.reduceEqDiff, not_false_eq_true, stg_t, stg_f, vAd_s, vCap_s, blk_p, List.cons_append, List.nil_append, b2n_t, b2n_f, h1, hN10_18]
        refine ⟨_, _, ?_, goXp, fun v => ?_⟩
        · omega
        · refine List.Perm.trans goXp (perm_strm ?_)
          omega
      apply YSeq.w (by intro _ _ _; rfl)
      · intro ξ S h1 h2 h3 h4
        have hY11_10 : S 10 = true := h2 10 (by decide)
        have hN11_18 := closed_false h1 h3 (k := 18) rfl (by decide)
        have hR77 := pf_int (next_gen 3 (by omega)) (h4 10 hY11_10)
        try simp only [InRange] at hR77
        have hRn77 := hR77
        try simp only [Nat.zero_add, Nat.reduceAdd] at hRn77
        have hq := rows3_at (x := vInt (ξ 10)) (by omega)
        try simp only [upd_same, updD_same, upd_ne, updD_ne, ne_eq, Nat.reduceEqDiff, not_false_eq_true, stg_t, stg_f, vAd_s, vCap_s, blk_p, List.cons_append, List.nil_append, b2n_t, b2n_f, hY11_10, hN11_18]
        exact goW
      · intro ξ v; rfl
      · intro ξ k v S h3 hn hk
        first
        | rfl
        | skip
          have hY11_10 : S 10 = true := h3 11 _ rfl hn 10 (by decide)
          simp only [upd_S hY11_10 hk]
      apply YSeq.w (by intro _ _ _; rfl)
      · intro ξ S h1 h2 h3 h4
        have hY12_11 : S 11 = true := h2 11 (by decide)
        have hY12_10 : S 10 = true := h3 11 _ rfl hY12_11 10 (by decide)
        have hN12_18 := closed_false h1 h3 (k := 18) rfl (by decide)
        have hR77 := pf_int (next_gen 3 (by omega)) (h4 10 hY12_10)
        try simp only [InRange] at hR77
        have hRn77 := hR77
        try simp only [Nat.zero_add, Nat.reduceAdd] at hRn77
        try simp only [upd_same, updD_same, upd_ne, updD_ne, ne_eq, Nat.reduceEqDiff, not_false_eq_true, stg_t, stg_f, vAd_s, vCap_s, blk_p, List.cons_append, List.nil_append, b2n_t, b2n_f, hY12_10, hN12_18]
        exact goW
      · intro ξ v; rfl
      · intro ξ k v S h3 hn hk
        first
        | rfl
        | skip
          have hY12_11 : S 11 = true := h3 12 _ rfl hn 11 (by decide)
          have hY12_10 : S 10 = true := h3 11 _ rfl hY12_11 10 (by decide)
          simp only [upd_S hY12_10 hk]
      apply YSeq.w (by intro _ _ _; rfl)
      · intro ξ S h1 h2 h3 h4
        have hN13_18 := closed_false h1 h3 (k := 18) rfl (by decide)
        try simp only [upd_same, updD_same, upd_ne, updD_ne, ne_eq, Nat.reduceEqDiff, not_false_eq_true, stg_t, stg_f, vAd_s, vCap_s, blk_p, List.cons_append, List.nil_append, b2n_t, b2n_f, hN13_18]
        exact goW
      · intro ξ v; rfl
      · intro ξ k v S h3 hn hk
        first
        | rfl
      apply YSeq.callV (by intro _ _ _; rfl)
      · intro ξ S h1 h2 h3 h4
        have hY14_10 : S 10 = true := h2 10 (by decide)
        have hN14_18 := closed_false h1 h3 (k := 18) rfl (by decide)
        have hR77 := pf_int (next_gen 3 (by omega)) (h4 10 hY14_10)
        try simp only [InRange] at hR77
        have hRn77 := hR77
        try simp only [Nat.zero_add, Nat.reduceAdd] at hRn77
        try simp only [upd_same, updD_same, upd_ne, updD_ne, ne_eq, Nat.reduceEqDiff, not_false_eq_true, stg_t, stg_f, vAd_s, vCap_s, blk_p, List.cons_append, List.nil_append, b2n_t, b2n_f, hY14_10, hN14_18]
        exact ⟨_, (Evs.cons rfl (Evs.cons rfl (Evs.cons rfl (Evs.cons rfl (Evs.cons rfl Evs.nil))))), (kG (vInt (ξ 10)) (by omega))⟩
      · intro ξ v; rfl
      · intro ξ k v S h3 hn hk
        first
        | rfl
        | skip
          have hY14_10 : S 10 = true := h3 14 _ rfl hn 10 (by decide)
          simp only [upd_S hY14_10 hk]
      apply YSeq.w (by intro _ _ _; rfl)
      · intro ξ S h1 h2 h3 h4
        have hY15_14 : S 14 = true := h2 14 (by decide)
        have hY15_10 : S 10 = true := h3 14 _ rfl hY15_14 10 (by decide)
        have hN15_18 := closed_false h1 h3 (k := 18) rfl (by decide)
        have hR77 := pf_int (next_gen 3 (by omega)) (h4 10 hY15_10)
        try simp only [InRange] at hR77
        have hRn77 := hR77
        try simp only [Nat.zero_add, Nat.reduceAdd] at hRn77
        try simp only [upd_same, updD_same, upd_ne, updD_ne, ne_eq, Nat.reduceEqDiff, not_false_eq_true, stg_t, stg_f, vAd_s, vCap_s, blk_p, List.cons_append, List.nil_append, b2n_t, b2n_f, hY15_10, hN15_18]
        exact goW
      · intro ξ v; rfl
      · intro ξ k v S h3 hn hk
        first
        | rfl
        | skip
          have hY15_14 : S 14 = true := h3 15 _ rfl hn 14 (by decide)
          have hY15_10 : S 10 = true := h3 14 _ rfl hY15_14 10 (by decide)
          simp only [upd_S hY15_10 hk]
      apply YSeq.w (by intro _ _ _; rfl)
      · intro ξ S h1 h2 h3 h4
        have hY16_15 : S 15 = true := h2 15 (by decide)
        have hY16_14 : S 14 = true := h3 15 _ rfl hY16_15 14 (by decide)
        have hY16_10 : S 10 = true := h3 14 _ rfl hY16_14 10 (by decide)
        have hN16_18 := closed_false h1 h3 (k := 18) rfl (by decide)
        have hR77 := pf_int (next_gen 3 (by omega)) (h4 10 hY16_10)
        try simp only [InRange] at hR77
        have hRn77 := hR77
        try simp only [Nat.zero_add, Nat.reduceAdd] at hRn77
        try simp only [upd_same, updD_same, upd_ne, updD_ne, ne_eq, Nat.reduceEqDiff, not_false_eq_true, stg_t, stg_f, vAd_s, vCap_s, blk_p, List.cons_append, List.nil_append, b2n_t, b2n_f, hY16_10, hN16_18]
        exact goW
      · intro ξ v; rfl
      · intro ξ k v S h3 hn hk
        first
        | rfl
        | skip
          have hY16_15 : S 15 = true := h3 16 _ rfl hn 15 (by decide)
          have hY16_14 : S 14 = true := h3 15 _ rfl hY16_15 14 (by decide)
          have hY16_10 : S 10 = true := h3 14 _ rfl hY16_14 10 (by decide)
          simp only [upd_S hY16_10 hk]
      apply YSeq.w (by intro _ _ _; rfl)
      · intro ξ S h1 h2 h3 h4
        have hY17_15 : S 15 = true := h2 15 (by decide)
        have hY17_14 : S 14 = true := h3 15 _ rfl hY17_15 14 (by decide)
        have hY17_10 : S 10 = true := h3 14 _ rfl hY17_14 10 (by decide)
        have hR77 := pf_int (next_gen 3 (by omega)) (h4 10 hY17_10)
        try simp only [InRange] at hR77
        have hRn77 := hR77
        try simp only [Nat.zero_add, Nat.reduceAdd] at hRn77
        try simp only [upd_same, updD_same, upd_ne, updD_ne, ne_eq, Nat.reduceEqDiff, not_false_eq_true, stg_t, stg_f, vAd_s, vCap_s, blk_p, List.cons_append, List.nil_append, b2n_t, b2n_f, hY17_10]
        exact goW
      · intro ξ v; rfl
      · intro ξ k v S h3 hn hk
        first
        | rfl
        | skip
          have hY17_15 : S 15 = true := h3 17 _ rfl hn 15 (by decide)
          have hY17_14 : S 14 = true := h3 15 _ rfl hY17_15 14 (by decide)
          have hY17_10 : S 10 = true := h3 14 _ rfl hY17_14 10 (by decide)
          simp only [upd_S hY17_10 hk]
      apply YSeq.store
      · intro ξ S h1 h2 h3 h4
        have hY18_10 : S 10 = true := h2 10 (by decide)
        have hR77 := pf_int (next_gen 3 (by omega)) (h4 10 hY18_10)
        try simp only [InRange] at hR77
        have hRn77 := hR77
        try simp only [Nat.zero_add, Nat.reduceAdd] at hRn77
        simp only [upd_same, updD_same, upd_ne, updD_ne, ne_eq, Nat.reduceEqDiff, not_false_eq_true, stg_t, stg_f, vAd_s, vCap_s, blk_p, List.cons_append, List.nil_append, b2n_t, b2n_f, hY18_10, h1]
        refine ⟨_, _, _, _, _, _, _, rfl, rfl, inferInstance, goXp, rfl, Nat.le_of_ble_eq_true rfl, ?_⟩
        exact goXm
      apply YSeq.w (by intro _ _ _; rfl)
      · intro ξ S h1 h2 h3 h4
        have hY19_10 : S 10 = true := h2 10 (by decide)
        have hY19_18 : S 18 = true := h2 18 (by decide)
        have hR77 := pf_int (next_gen 3 (by omega)) (h4 10 hY19_10)
        try simp only [InRange] at hR77
        have hRn77 := hR77
        try simp only [Nat.zero_add, Nat.reduceAdd] at hRn77
        try simp only [upd_same, updD_same, upd_ne, updD_ne, ne_eq, Nat.reduceEqDiff, not_false_eq_true, stg_t, stg_f, vAd_s, vCap_s, blk_p, List.cons_append, List.nil_append, b2n_t, b2n_f, hY19_10, hY19_18]
        exact goW
      · intro ξ v; rfl
      · intro ξ k v S h3 hn hk
        first
        | rfl
        | skip
          have hY19_10 : S 10 = true := h3 19 _ rfl hn 10 (by decide)
          simp only [upd_S hY19_10 hk]
      refine YSeq.nil fun ξ hf => ?_
      have hR77 := pf_int (next_gen 3 (by omega)) (hf 10)
      try simp only [InRange] at hR77
      refine ⟨[(0, _), (3, _), (6, _), (7, _), (9, _), (10, _), (22, _), (23, _)], _, Ent.trans (Ent.eqc rfl (by first | (simp only [upd_same, updD_same, upd_ne, updD_ne, ne_eq, Nat.reduceEqDiff, not_false_eq_true, stg_t, stg_f, vAd_s, vCap_s, blk_p, List.cons_append, List.nil_append, b2n_t, b2n_f, ownV, slV, ptV] <;> rfl) | rfl)) (Ent.sub goSub), ?_⟩
      clear hf
      generalize vInt (ξ 10) = x77 at hR77 ⊢
      replace hWG := hWG x77 (by omega)
      generalize W x77 = W at *
      generalize e x77 = e at *
      have hset : (l.map Wal.row).set x.toNat [.strs W.sites, .sl 1 (intsR W.rights), .ints W.used] = (l.set x.toNat W).map Wal.row := by rw [List.map_set]; rfl
      repeat' (first | refine goH ?_ | (refine Ops.k_store ?_; first | (refine Ops.store_own_all rfl rfl goPk (by first | rfl | assumption | (simp [*]; done)) rfl ?_; erw [hset])) | refine goV ?_ | refine goB (fun b => ?_) | refine goI ?_ | (refine Cw.k_cond ?_; first | (refine Cw.cond_dec rfl (fun hc => ?_) (fun hc => ?_) <;> try (exfalso; omega)) | refine Cw.cond_bool rfl (fun hc => ?_) (fun hc => ?_)) | refine goR ?_ | refine goP ?_ | apply PSeq.cons | apply PSeq.yes rfl rfl rfl | exact goW | fail)
      · exact ⟨_, _, _, (Ent.mk goSub goTk), ⟨k + 1, l.set x.toNat W, _, rfl, ⟨by omega, by simp [hl], wg_set hg (hWG (by assumption)), by omega⟩, rfl, rfl⟩, by omega⟩
      · exact ⟨_, _, _, (Ent.mk goSub goTk), ⟨k + 1, l, _, rfl, ⟨by omega, hl, hg, by omega⟩, rfl, rfl⟩, by omega⟩
    · obtain ⟨W, e, kG, hWG⟩ := gen_spent hg1 (nmA x) y hyb
      first | refine Cw.region_YP (fun ξ S => Chunk.strm 25 bs (intRows xs) (c + 1 + 1 + 1) :: Chunk.own ad cap 3 29 (l.map Wal.row) :: Chunk.box b 29 [.strs abc, .sl 1 (intsR (empW abc).rights), .ints (empW abc).used] :: Chunk.box b9 29 (stg (S 13) [Tr.raw (.slice none 0 0), Tr.raw (.slice none 0 0), Tr.raw (.slice none 0 0)] [.strs W.sites, .sl 1 (intsR W.rights), .ints W.used]) :: []) rfl (by decide +kernel) rfl ((fun (ξ : Nat → Value) (S : Nat → Bool) => Chunk.strm 25 bs (intRows xs) (c + 1 + 1 + 1) :: Chunk.own ad cap 3 29 (l.map Wal.row) :: Chunk.box b 29 [.strs abc, .sl 1 (intsR (empW abc).rights), .ints (empW abc).used] :: Chunk.box b9 29 (stg (S 13) [Tr.raw (.slice none 0 0), Tr.raw (.slice none 0 0), Tr.raw (.slice none 0 0)] [.strs W.sites, .sl 1 (intsR W.rights), .ints W.used]) :: []) (fun _ => undef) (fun _ => false)) (by simp only [upd_same, updD_same, upd_ne, updD_ne, ne_eq, Nat.reduceEqDiff, not_false_eq_true, stg_t, stg_f, vAd_s, vCap_s, blk_p, List.cons_append, List.nil_append, b2n_t, b2n_f]; exact goXm) (fun _ => rfl) ?_ | fail
      apply YSeq.w (by intro _ _ _; rfl)
      · intro ξ S h1 h2 h3 h4
        have hN0_13 := closed_false h1 h3 (k := 13) rfl (by decide)
        try simp only [upd_same, updD_same, upd_ne, updD_ne, ne_eq, Nat.reduceEqDiff, not_false_eq_true, stg_t, stg_f, vAd_s, vCap_s, blk_p, List.cons_append, List.nil_append, b2n_t, b2n_f, hN0_13]
        exact goW
      · intro ξ v; rfl
      · intro ξ k v S h3 hn hk
        first
        | rfl
      apply YSeq.w (by intro _ _ _; rfl)
      · intro ξ S h1 h2 h3 h4
        have hN1_13 := closed_false h1 h3 (k := 13) rfl (by decide)
        try simp only [upd_same, updD_same, upd_ne, updD_ne, ne_eq, Nat.reduceEqDiff, not_false_eq_true, stg_t, stg_f, vAd_s, vCap_s, blk_p, List.cons_append, List.nil_append, b2n_t, b2n_f, hN1_13]
        exact goW
      · intro ξ v; rfl
      · intro ξ k v S h3 hn hk
        first
        | rfl
      apply YSeq.w (by intro _ _ _; rfl)
      · intro ξ S h1 h2 h3 h4
        have hN2_13 := closed_false h1 h3 (k := 13) rfl (by decide)
        try simp only [upd_same, updD_same, upd_ne, updD_ne, ne_eq, Nat.reduceEqDiff, not_false_eq_true, stg_t, stg_f, vAd_s, vCap_s, blk_p, List.cons_append, List.nil_append, b2n_t, b2n_f, hN2_13]
        exact goW
      · intro ξ v; rfl
      · intro ξ k v S h3 hn hk
        first
        | rfl
      apply YSeq.w (by intro _ _ _; rfl)
      · intro ξ S h1 h2 h3 h4
        have hN3_13 := closed_false h1 h3 (k := 13) rfl (by decide)
        try simp only [upd_same, updD_same, upd_ne, updD_ne, ne_eq, Nat.reduceEqDiff, not_false_eq_true, stg_t, stg_f, vAd_s, vCap_s, blk_p, List.cons_append, List.nil_append, b2n_t, b2n_f, hN3_13]
        exact goW
      · intro ξ v; rfl
      · intro ξ k v S h3 hn hk
        first
        | rfl
      apply YSeq.w (by intro _ _ _; rfl)
      · intro ξ S h1 h2 h3 h4
        have hN4_13 := closed_false h1 h3 (k := 13) rfl (by decide)
        try simp only [upd_same, updD_same, upd_ne, updD_ne, ne_eq, Nat.reduceEqDiff, not_false_eq_true, stg_t, stg_f, vAd_s, vCap_s, blk_p, List.cons_append, List.nil_append, b2n_t, b2n_f, hN4_13]
        exact goW
      · intro ξ v; rfl
      · intro ξ k v S h3 hn hk
        first
        | rfl
      apply YSeq.w (by intro _ _ _; rfl)
      · intro ξ S h1 h2 h3 h4
        have hN5_13 := closed_false h1 h3 (k := 13) rfl (by decide)
        try simp only [upd_same, updD_same, upd_ne, updD_ne, ne_eq, Nat.reduceEqDiff, not_false_eq_true, stg_t, stg_f, vAd_s, vCap_s, blk_p, List.cons_append, List.nil_append, b2n_t, b2n_f, hN5_13]
        exact goW
      · intro ξ v; rfl
      · intro ξ k v S h3 hn hk
        first
        | rfl
      apply YSeq.w (by intro _ _ _; rfl)
      · intro ξ S h1 h2 h3 h4
        have hN6_13 := closed_false h1 h3 (k := 13) rfl (by decide)
        try simp only [upd_same, updD_same, upd_ne, updD_ne, ne_eq, Nat.reduceEqDiff, not_false_eq_true, stg_t, stg_f, vAd_s, vCap_s, blk_p, List.cons_append, List.nil_append, b2n_t, b2n_f, hN6_13]
        exact goW
      · intro ξ v; rfl
      · intro ξ k v S h3 hn hk
        first
        | rfl
      apply YSeq.w (by intro _ _ _; rfl)
      · intro ξ S h1 h2 h3 h4
        have hN7_13 := closed_false h1 h3 (k := 13) rfl (by decide)
        try simp only [upd_same, updD_same, upd_ne, updD_ne, ne_eq, Nat.reduceEqDiff, not_false_eq_true, stg_t, stg_f, vAd_s, vCap_s, blk_p, List.cons_append, List.nil_append, b2n_t, b2n_f, hN7_13]
        exact goW
      · intro ξ v; rfl
      · intro ξ k v S h3 hn hk
        first
        | rfl
      apply YSeq.w (by intro _ _ _; rfl)
      · intro ξ S h1 h2 h3 h4
        have hN8_13 := closed_false h1 h3 (k := 13) rfl (by decide)
        try simp only [upd_same, updD_same, upd_ne, updD_ne, ne_eq, Nat.reduceEqDiff, not_false_eq_true, stg_t, stg_f, vAd_s, vCap_s, blk_p, List.cons_append, List.nil_append, b2n_t, b2n_f, hN8_13]
        exact goW
      · intro ξ v; rfl
      · intro ξ k v S h3 hn hk
        first
        | rfl
      apply YSeq.callV (by intro _ _ _; rfl)
      · intro ξ S h1 h2 h3 h4
        have hN9_13 := closed_false h1 h3 (k := 13) rfl (by decide)
        try simp only [upd_same, updD_same, upd_ne, updD_ne, ne_eq, Nat.reduceEqDiff, not_false_eq_true, stg_t, stg_f, vAd_s, vCap_s, blk_p, List.cons_append, List.nil_append, b2n_t, b2n_f, hN9_13]
        exact ⟨_, (Evs.cons rfl (Evs.cons rfl (Evs.cons rfl Evs.nil))), kG⟩
      · intro ξ v; rfl
      · intro ξ k v S h3 hn hk
        first
        | rfl
      apply YSeq.w (by intro _ _ _; rfl)
      · intro ξ S h1 h2 h3 h4
        have hN10_13 := closed_false h1 h3 (k := 13) rfl (by decide)
        try simp only [upd_same, updD_same, upd_ne, updD_ne, ne_eq, Nat.reduceEqDiff, not_false_eq_true, stg_t, stg_f, vAd_s, vCap_s, blk_p, List.cons_append, List.nil_append, b2n_t, b2n_f, hN10_13]
        exact goW
      · intro ξ v; rfl
      · intro ξ k v S h3 hn hk
        first
        | rfl
      apply YSeq.w (by intro _ _ _; rfl)
      · intro ξ S h1 h2 h3 h4
        have hN11_13 := closed_false h1 h3 (k := 13) rfl (by decide)
        try simp only [upd_same, updD_same, upd_ne, updD_ne, ne_eq, Nat.reduceEqDiff, not_false_eq_true, stg_t, stg_f, vAd_s, vCap_s, blk_p, List.cons_append, List.nil_append, b2n_t, b2n_f, hN11_13]
        exact goW
      · intro ξ v; rfl
      · intro ξ k v S h3 hn hk
        first
        | rfl
      apply YSeq.w (by intro _ _ _; rfl)
      · intro ξ S h1 h2 h3 h4
        try simp only [upd_same, updD_same, upd_ne, updD_ne, ne_eq, Nat.reduceEqDiff, not_false_eq_true, stg_t, stg_f, vAd_s, vCap_s, blk_p, List.cons_append, List.nil_append, b2n_t, b2n_f]
        exact goW
      · intro ξ v; rfl
      · intro ξ k v S h3 hn hk
        first
        | rfl
      apply YSeq.store
      · intro ξ S h1 h2 h3 h4
        simp only [upd_same, updD_same, upd_ne, updD_ne, ne_eq, Nat.reduceEqDiff, not_false_eq_true, stg_t, stg_f, vAd_s, vCap_s, blk_p, List.cons_append, List.nil_append, b2n_t, b2n_f, h1]
        refine ⟨_, _, _, _, _, _, _, rfl, rfl, inferInstance, goXp, rfl, Nat.le_of_ble_eq_true rfl, ?_⟩
        exact goXm
      apply YSeq.w (by intro _ _ _; rfl)
      · intro ξ S h1 h2 h3 h4
        have hY14_13 : S 13 = true := h2 13 (by decide)
        try simp only [upd_same, updD_same, upd_ne, updD_ne, ne_eq, Nat.reduceEqDiff, not_false_eq_true, stg_t, stg_f, vAd_s, vCap_s, blk_p, List.cons_append, List.nil_append, b2n_t, b2n_f, hY14_13]
        exact goW
      · intro ξ v; rfl
      · intro ξ k v S h3 hn hk
        first
        | rfl
      refine YSeq.nil fun ξ hf => ?_
      refine ⟨[(0, _), (3, _), (6, _), (7, _), (9, _), (10, _), (22, _), (23, _)], _, Ent.trans (Ent.eqc rfl (by first | (simp only [upd_same, updD_same, upd_ne, updD_ne, ne_eq, Nat.reduceEqDiff, not_false_eq_true, stg_t, stg_f, vAd_s, vCap_s, blk_p, List.cons_append, List.nil_append, b2n_t, b2n_f, ownV, slV, ptV] <;> rfl) | rfl)) (Ent.sub goSub), ?_⟩
      clear hf
      have hset : (l.map Wal.row).set x.toNat [.strs W.sites, .sl 1 (intsR W.rights), .ints W.used] = (l.set x.toNat W).map Wal.row := by rw [List.map_set]; rfl
      repeat' (first | refine goH ?_ | (refine Ops.k_store ?_; first | (refine Ops.store_own_all rfl rfl goPk (by first | rfl | assumption | (simp [*]; done)) rfl ?_; erw [hset])) | refine goV ?_ | refine goB (fun b => ?_) | refine goI ?_ | (refine Cw.k_cond ?_; first | (refine Cw.cond_dec rfl (fun hc => ?_) (fun hc => ?_) <;> try (exfalso; omega)) | refine Cw.cond_bool rfl (fun hc => ?_) (fun hc => ?_)) | refine goR ?_ | refine goP ?_ | apply PSeq.cons | apply PSeq.yes rfl rfl rfl | exact goW | fail)
      · exact ⟨_, _, _, (Ent.mk goSub goTk), ⟨k + 1, l.set x.toNat W, _, rfl, ⟨by omega, by simp [hl], wg_set hg (hWG (by assumption)), by omega⟩, rfl, rfl⟩, by omega⟩
      · exact ⟨_, _, _, (Ent.mk goSub goTk), ⟨k + 1, l, _, rfl, ⟨by omega, hl, hg, by omega⟩, rfl, rfl⟩, by omega⟩
    · obtain ⟨W, hWW⟩ := fam (fun v (hv : 0 ≤ v ∧ v < 3) => gen_merged hg1 (hg _ (wAt_mem hl hv)))
      obtain ⟨e, hE⟩ := fam hWW
      have kG := fun v hv => (hE v hv).1
      have hWG := fun v hv => (hE v hv).2
      clear hWW hE
      first | refine Cw.region_YP (fun ξ S => Chunk.strm 25 bs (intRows xs) (c + 1 + 1 + 1 + b2n (S 6)) :: Chunk.own ad cap 3 29 (l.map Wal.row) :: Chunk.box b 29 [.strs abc, .sl 1 (intsR (empW abc).rights), .ints (empW abc).used] :: Chunk.box b9 29 (stg (S 13) [Tr.raw (.slice none 0 0), Tr.raw (.slice none 0 0), Tr.raw (.slice none 0 0)] [.strs (W (vInt (ξ 6))).sites, .sl 1 (intsR (W (vInt (ξ 6))).rights), .ints (W (vInt (ξ 6))).used]) :: []) rfl (by decide +kernel) rfl ((fun (ξ : Nat → Value) (S : Nat → Bool) => Chunk.strm 25 bs (intRows xs) (c + 1 + 1 + 1 + b2n (S 6)) :: Chunk.own ad cap 3 29 (l.map Wal.row) :: Chunk.box b 29 [.strs abc, .sl 1 (intsR (empW abc).rights), .ints (empW abc).used] :: Chunk.box b9 29 (stg (S 13) [Tr.raw (.slice none 0 0), Tr.raw (.slice none 0 0), Tr.raw (.slice none 0 0)] [.strs (W (vInt (ξ 6))).sites, .sl 1 (intsR (W (vInt (ξ 6))).rights), .ints (W (vInt (ξ 6))).used]) :: []) (fun _ => undef) (fun _ => false)) (by simp only [upd_same, updD_same, upd_ne, updD_ne, ne_eq, Nat.reduceEqDiff, not_false_eq_true, stg_t, stg_f, vAd_s, vCap_s, blk_p, List.cons_append, List.nil_append, b2n_t, b2n_f]; exact goXm) (fun _ => rfl) ?_ | fail
      apply YSeq.w (by intro _ _ _; rfl)
      · intro ξ S h1 h2 h3 h4
        have hN0_13 := closed_false h1 h3 (k := 13) rfl (by decide)
        try simp only [upd_same, updD_same, upd_ne, updD_ne, ne_eq, Nat.reduceEqDiff, not_false_eq_true, stg_t, stg_f, vAd_s, vCap_s, blk_p, List.cons_append, List.nil_append, b2n_t, b2n_f, hN0_13]
        exact goW
      · intro ξ v; rfl
      · intro ξ k v S h3 hn hk
        first
        | rfl
      apply YSeq.w (by intro _ _ _; rfl)
      · intro ξ S h1 h2 h3 h4
        have hN1_13 := closed_false h1 h3 (k := 13) rfl (by decide)
        try simp only [upd_same, updD_same, upd_ne, updD_ne, ne_eq, Nat.reduceEqDiff, not_false_eq_true, stg_t, stg_f, vAd_s, vCap_s, blk_p, List.cons_append, List.nil_append, b2n_t, b2n_f, hN1_13]
        exact goW
      · intro ξ v; rfl
      · intro ξ k v S h3 hn hk
        first
        | rfl
      apply YSeq.w (by intro _ _ _; rfl)
      · intro ξ S h1 h2 h3 h4
        have hN2_13 := closed_false h1 h3 (k := 13) rfl (by decide)
        try simp only [upd_same, updD_same, upd_ne, updD_ne, ne_eq, Nat.reduceEqDiff, not_false_eq_true, stg_t, stg_f, vAd_s, vCap_s, blk_p, List.cons_append, List.nil_append, b2n_t, b2n_f, hN2_13]
        exact goW
      · intro ξ v; rfl
      · intro ξ k v S h3 hn hk
        first
        | rfl
      apply YSeq.w (by intro _ _ _; rfl)
      · intro ξ S h1 h2 h3 h4
        have hN3_13 := closed_false h1 h3 (k := 13) rfl (by decide)
        try simp only [upd_same, updD_same, upd_ne, updD_ne, ne_eq, Nat.reduceEqDiff, not_false_eq_true, stg_t, stg_f, vAd_s, vCap_s, blk_p, List.cons_append, List.nil_append, b2n_t, b2n_f, hN3_13]
        exact goW
      · intro ξ v; rfl
      · intro ξ k v S h3 hn hk
        first
        | rfl
      apply YSeq.w (by intro _ _ _; rfl)
      · intro ξ S h1 h2 h3 h4
        have hN4_13 := closed_false h1 h3 (k := 13) rfl (by decide)
        try simp only [upd_same, updD_same, upd_ne, updD_ne, ne_eq, Nat.reduceEqDiff, not_false_eq_true, stg_t, stg_f, vAd_s, vCap_s, blk_p, List.cons_append, List.nil_append, b2n_t, b2n_f, hN4_13]
        exact goW
      · intro ξ v; rfl
      · intro ξ k v S h3 hn hk
        first
        | rfl
      apply YSeq.w (by intro _ _ _; rfl)
      · intro ξ S h1 h2 h3 h4
        have hN5_6 := closed_false h1 h3 (k := 6) rfl (by decide)
        have hN5_13 := closed_false h1 h3 (k := 13) rfl (by decide)
        try simp only [upd_same, updD_same, upd_ne, updD_ne, ne_eq, Nat.reduceEqDiff, not_false_eq_true, stg_t, stg_f, vAd_s, vCap_s, blk_p, List.cons_append, List.nil_append, b2n_t, b2n_f, hN5_6, hN5_13]
        exact goW
      · intro ξ v; rfl
      · intro ξ k v S h3 hn hk
        first
        | rfl
      apply YSeq.callI (next_gen 3 (by omega)) (fun _ => (Evs.cons rfl (Evs.cons rfl Evs.nil)))
      · intro ξ S h1 h3
        have hN6_13 := closed_false h1 h3 (k := 13) rfl (by decide)
        have hq6 := b2n_le (S 6)
        simp only [upd_same, updD_same, upd_ne, updD_ne, ne_eq, Nat.reduceEqDiff, not_false_eq_true, stg_t, stg_f, vAd_s, vCap_s, blk_p, List.cons_append, List.nil_append, b2n_t, b2n_f, h1, hN6_13]
        refine ⟨_, _, ?_, goXp, fun v => ?_⟩
        · omega
        · refine List.Perm.trans goXp (perm_strm ?_)
          omega
      apply YSeq.w (by intro _ _ _; rfl)
      · intro ξ S h1 h2 h3 h4
        have hY7_6 : S 6 = true := h2 6 (by decide)
        have hN7_13 := closed_false h1 h3 (k := 13) rfl (by decide)
        have hR39 := pf_int (next_gen 3 (by omega)) (h4 6 hY7_6)
        try simp only [InRange] at hR39
        have hRn39 := hR39
        try simp only [Nat.zero_add, Nat.reduceAdd] at hRn39
        try simp only [upd_same, updD_same, upd_ne, updD_ne, ne_eq, Nat.reduceEqDiff, not_false_eq_true, stg_t, stg_f, vAd_s, vCap_s, blk_p, List.cons_append, List.nil_append, b2n_t, b2n_f, hY7_6, hN7_13]
        exact goW
      · intro ξ v; rfl
      · intro ξ k v S h3 hn hk
        first
        | rfl
        | skip
          have hY7_6 : S 6 = true := h3 7 _ rfl hn 6 (by decide)
          simp only [upd_S hY7_6 hk]
      apply YSeq.w (by intro _ _ _; rfl)
      · intro ξ S h1 h2 h3 h4
        have hY8_7 : S 7 = true := h2 7 (by decide)
        have hY8_6 : S 6 = true := h3 7 _ rfl hY8_7 6 (by decide)
        have hN8_13 := closed_false h1 h3 (k := 13) rfl (by decide)
        have hR39 := pf_int (next_gen 3 (by omega)) (h4 6 hY8_6)
        try simp only [InRange] at hR39
        have hRn39 := hR39
        try simp only [Nat.zero_add, Nat.reduceAdd] at hRn39
        have hq : (l.map Wal.row)[(vInt (ξ 6)).toNat]? = some [.strs (wAt l (vInt (ξ 6))).sites, .sl 1 (intsR (wAt l (vInt (ξ 6))).rights), .ints (wAt l (vInt (ξ 6))).used] := wAt_row hl (by omega)
        try simp only [upd_same, updD_same, upd_ne, updD_ne, ne_eq, Nat.reduceEqDiff, not_false_eq_true, stg_t, stg_f, vAd_s, vCap_s, blk_p, List.cons_append, List.nil_append, b2n_t, b2n_f, hY8_6, hN8_13]
        exact goW
      · intro ξ v; rfl
      · intro ξ k v S h3 hn hk
        first
        | rfl
        | skip
          have hY8_7 : S 7 = true := h3 8 _ rfl hn 7 (by decide)
          have hY8_6 : S 6 = true := h3 7 _ rfl hY8_7 6 (by decide)
          simp only [upd_S hY8_6 hk]
      apply YSeq.callV (by intro _ _ _; rfl)
      · intro ξ S h1 h2 h3 h4
        have hY9_6 : S 6 = true := h2 6 (by decide)
        have hN9_13 := closed_false h1 h3 (k := 13) rfl (by decide)
        have hR39 := pf_int (next_gen 3 (by omega)) (h4 6 hY9_6)
        try simp only [InRange] at hR39
        have hRn39 := hR39
        try simp only [Nat.zero_add, Nat.reduceAdd] at hRn39
        try simp only [upd_same, updD_same, upd_ne, updD_ne, ne_eq, Nat.reduceEqDiff, not_false_eq_true, stg_t, stg_f, vAd_s, vCap_s, blk_p, List.cons_append, List.nil_append, b2n_t, b2n_f, hY9_6, hN9_13]
        exact ⟨_, (Evs.cons rfl (Evs.cons rfl Evs.nil)), (kG (vInt (ξ 6)) (by omega))⟩
      · intro ξ v; rfl
      · intro ξ k v S h3 hn hk
        first
        | rfl
        | skip
          have hY9_6 : S 6 = true := h3 9 _ rfl hn 6 (by decide)
          simp only [upd_S hY9_6 hk]
      apply YSeq.w (by intro _ _ _; rfl)
      · intro ξ S h1 h2 h3 h4
        have hY10_9 : S 9 = true := h2 9 (by decide)
        have hY10_6 : S 6 = true := h3 9 _ rfl hY10_9 6 (by decide)
        have hN10_13 := closed_false h1 h3 (k := 13) rfl (by decide)
        have hR39 := pf_int (next_gen 3 (by omega)) (h4 6 hY10_6)
        try simp only [InRange] at hR39
        have hRn39 := hR39
        try simp only [Nat.zero_add, Nat.reduceAdd] at hRn39
        try simp only [upd_same, updD_same, upd_ne, updD_ne, ne_eq, Nat.reduceEqDiff, not_false_eq_true, stg_t, stg_f, vAd_s, vCap_s, blk_p, List.cons_append, List.nil_append, b2n_t, b2n_f, hY10_6, hN10_13]
        exact goW
      · intro ξ v; rfl
      · intro ξ k v S h3 hn hk
        first
        | rfl
        | skip
          have hY10_9 : S 9 = true := h3 10 _ rfl hn 9 (by decide)
          have hY10_6 : S 6 = true := h3 9 _ rfl hY10_9 6 (by decide)
          simp only [upd_S hY10_6 hk]
      apply YSeq.w (by intro _ _ _; rfl)
      · intro ξ S h1 h2 h3 h4
        have hY11_10 : S 10 = true := h2 10 (by decide)
        have hY11_9 : S 9 = true := h3 10 _ rfl hY11_10 9 (by decide)
        have hY11_6 : S 6 = true := h3 9 _ rfl hY11_9 6 (by decide)
        have hN11_13 := closed_false h1 h3 (k := 13) rfl (by decide)
        have hR39 := pf_int (next_gen 3 (by omega)) (h4 6 hY11_6)
        try simp only [InRange] at hR39
        have hRn39 := hR39
        try simp only [Nat.zero_add, Nat.reduceAdd] at hRn39
        try simp only [upd_same, updD_same, upd_ne, updD_ne, ne_eq, Nat.reduceEqDiff, not_false_eq_true, stg_t, stg_f, vAd_s, vCap_s, blk_p, List.cons_append, List.nil_append, b2n_t, b2n_f, hY11_6, hN11_13]
        exact goW
      · intro ξ v; rfl
      · intro ξ k v S h3 hn hk
        first
        | rfl
        | skip
          have hY11_10 : S 10 = true := h3 11 _ rfl hn 10 (by decide)
          have hY11_9 : S 9 = true := h3 10 _ rfl hY11_10 9 (by decide)
          have hY11_6 : S 6 = true := h3 9 _ rfl hY11_9 6 (by decide)
          simp only [upd_S hY11_6 hk]
      apply YSeq.w (by intro _ _ _; rfl)
      · intro ξ S h1 h2 h3 h4
        have hY12_10 : S 10 = true := h2 10 (by decide)
        have hY12_9 : S 9 = true := h3 10 _ rfl hY12_10 9 (by decide)
        have hY12_6 : S 6 = true := h3 9 _ rfl hY12_9 6 (by decide)
        have hR39 := pf_int (next_gen 3 (by omega)) (h4 6 hY12_6)
        try simp only [InRange] at hR39
        have hRn39 := hR39
        try simp only [Nat.zero_add, Nat.reduceAdd] at hRn39
        try simp only [upd_same, updD_same, upd_ne, updD_ne, ne_eq, Nat.reduceEqDiff, not_false_eq_true, stg_t, stg_f, vAd_s, vCap_s, blk_p, List.cons_append, List.nil_append, b2n_t, b2n_f, hY12_6]
        exact goW
      · intro ξ v; rfl
      · intro ξ k v S h3 hn hk
        first
        | rfl
        | skip
          have hY12_10 : S 10 = true := h3 12 _ rfl hn 10 (by decide)
          have hY12_9 : S 9 = true := h3 10 _ rfl hY12_10 9 (by decide)
          have hY12_6 : S 6 = true := h3 9 _ rfl hY12_9 6 (by decide)
          simp only [upd_S hY12_6 hk]
      apply YSeq.store
      · intro ξ S h1 h2 h3 h4
        have hY13_6 : S 6 = true := h2 6 (by decide)
        have hR39 := pf_int (next_gen 3 (by omega)) (h4 6 hY13_6)
        try simp only [InRange] at hR39
        have hRn39 := hR39
        try simp only [Nat.zero_add, Nat.reduceAdd] at hRn39
        simp only [upd_same, updD_same, upd_ne, updD_ne, ne_eq, Nat.reduceEqDiff, not_false_eq_true, stg_t, stg_f, vAd_s, vCap_s, blk_p, List.cons_append, List.nil_append, b2n_t, b2n_f, hY13_6, h1]
        refine ⟨_, _, _, _, _, _, _, rfl, rfl, inferInstance, goXp, rfl, Nat.le_of_ble_eq_true rfl, ?_⟩
        exact goXm
      apply YSeq.w (by intro _ _ _; rfl)
      · intro ξ S h1 h2 h3 h4
        have hY14_6 : S 6 = true := h2 6 (by decide)
        have hY14_13 : S 13 = true := h2 13 (by decide)
        have hR39 := pf_int (next_gen 3 (by omega)) (h4 6 hY14_6)
        try simp only [InRange] at hR39
        have hRn39 := hR39
        try simp only [Nat.zero_add, Nat.reduceAdd] at hRn39
        try simp only [upd_same, updD_same, upd_ne, updD_ne, ne_eq, Nat.reduceEqDiff, not_false_eq_true, stg_t, stg_f, vAd_s, vCap_s, blk_p, List.cons_append, List.nil_append, b2n_t, b2n_f, hY14_6, hY14_13]
        exact goW
      · intro ξ v; rfl
      · intro ξ k v S h3 hn hk
        first
        | rfl
        | skip
          have hY14_6 : S 6 = true := h3 14 _ rfl hn 6 (by decide)
          simp only [upd_S hY14_6 hk]
      refine YSeq.nil fun ξ hf => ?_
      have hR39 := pf_int (next_gen 3 (by omega)) (hf 6)
      try simp only [InRange] at hR39
      refine ⟨[(0, _), (3, _), (6, _), (7, _), (9, _), (10, _), (22, _), (23, _)], _, Ent.trans (Ent.eqc rfl (by first | (simp only [upd_same, updD_same, upd_ne, updD_ne, ne_eq, Nat.reduceEqDiff, not_false_eq_true, stg_t, stg_f, vAd_s, vCap_s, blk_p, List.cons_append, List.nil_append, b2n_t, b2n_f, ownV, slV, ptV] <;> rfl) | rfl)) (Ent.sub goSub), ?_⟩
      clear hf
      generalize vInt (ξ 6) = x39 at hR39 ⊢
      replace hWG := hWG x39 (by omega)
      generalize W x39 = W at *
      generalize e x39 = e at *
      have hset : (l.map Wal.row).set x.toNat [.strs W.sites, .sl 1 (intsR W.rights), .ints W.used] = (l.set x.toNat W).map Wal.row := by rw [List.map_set]; rfl
      repeat' (first | refine goH ?_ | (refine Ops.k_store ?_; first | (refine Ops.store_own_all rfl rfl goPk (by first | rfl | assumption | (simp [*]; done)) rfl ?_; erw [hset])) | refine goV ?_ | refine goB (fun b => ?_) | refine goI ?_ | (refine Cw.k_cond ?_; first | (refine Cw.cond_dec rfl (fun hc => ?_) (fun hc => ?_) <;> try (exfalso; omega)) | refine Cw.cond_bool rfl (fun hc => ?_) (fun hc => ?_)) | refine goR ?_ | refine goP ?_ | apply PSeq.cons | apply PSeq.yes rfl rfl rfl | exact goW | fail)
      · exact ⟨_, _, _, (Ent.mk goSub goTk), ⟨k + 1, l.set x.toNat W, _, rfl, ⟨by omega, by simp [hl], wg_set hg (hWG (by assumption)), by omega⟩, rfl, rfl⟩, by omega⟩
      · exact ⟨_, _, _, (Ent.mk goSub goTk), ⟨k + 1, l, _, rfl, ⟨by omega, hl, hg, by omega⟩, rfl, rfl⟩, by omega⟩
  · repeat' (first | refine goH ?_ | refine goV ?_ | refine goB (fun b => ?_) | refine goI ?_ | (refine Cw.k_cond ?_; first | (refine Cw.cond_dec rfl (fun hc => ?_) (fun hc => ?_) <;> try (exfalso; omega)) | refine Cw.cond_bool rfl (fun hc => ?_) (fun hc => ?_)) | refine goR ?_ | refine goP ?_ | apply PSeq.cons | apply PSeq.yes rfl rfl rfl | exact goW | fail)
    rw [← hlr]
    refine Fin.ret (Ent.trans (Ent.settle (s := 2) rfl goPk rfl) (Ent.strm_only goPk (by omega))) (Outs.sole rfl goOe) ⟨rfl, l, rfl, by simp, hg⟩
end Lg
