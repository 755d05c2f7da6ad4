/- A part of the proof of a law of this seat: it adds no condition. By an AI agent. -/
import Derived.Test.YtjknjnkkpfeahaaGreatDoorLgNum
import Derived.Test.YtjknjnkkpfeahaaGreatDoorWal6
section
set_option linter.all false
set_option maxRecDepth 100000
set_option maxHeartbeats 4000000
namespace Lg
open Go Go.Proofs

/-! ### merged wallets, and what a wallet knows -/
def mxL (x y : List Int) : List Int := List.zipWith max x y
def mxR (A B : List (List Int)) : List (List Int) := List.zipWith mxL A B
def mrgW (a b : Wal) : Wal := ⟨a.sites, mxR a.rights b.rights, mxL a.used b.used⟩
theorem mxL_len {x y : List Int} (h : y.length = x.length) : (mxL x y).length = x.length := by unfold mxL; rw [List.length_zipWith]; omega
theorem mxR_len {x y : List (List Int)} (h : y.length = x.length) : (mxR x y).length = x.length := by unfold mxR; rw [List.length_zipWith]; omega
theorem mxL_at {x y : List Int} {k : Nat} {a b : Int} (h1 : x[k]? = some a) (h2 : y[k]? = some b) : (mxL x y)[k]? = some (max a b) := by unfold mxL; rw [List.getElem?_zipWith, h1, h2]
theorem mxR_at {x y : List (List Int)} {k : Nat} {a b : List Int} (h1 : x[k]? = some a) (h2 : y[k]? = some b) : (mxR x y)[k]? = some (mxL a b) := by unfold mxR; rw [List.getElem?_zipWith, h1, h2]
/-- a list that is replaced from the front on -/
def mixL {α : Type} (m l : List α) (k : Nat) : List α := m.take k ++ l.drop k
theorem mixL_zero {α : Type} (m l : List α) : mixL m l 0 = l := by simp [mixL]
theorem mixL_all {α : Type} {m l : List α} {k : Nat} (h : m.length = l.length) (hk : l.length ≤ k) : mixL m l k = m := by unfold mixL; rw [List.take_of_length_le (by omega), List.drop_of_length_le hk, List.append_nil]
theorem mixL_at {α : Type} {m l : List α} {k : Nat} (h : m.length = l.length) (hk : k < l.length) : (mixL m l k)[k]? = l[k]? := by
  unfold mixL
  rw [List.getElem?_append_right (by rw [List.length_take]; omega), List.length_take, List.getElem?_drop, Nat.min_eq_left (by omega)]
  congr 1
  omega
theorem mixL_set {α : Type} {m l : List α} {k : Nat} {x : α} (h : m.length = l.length) (hx : m[k]? = some x) : (mixL m l k).set k x = mixL m l (k + 1) := by
  have hk := (List.getElem?_eq_some_iff.1 hx).1
  unfold mixL
  rw [List.set_append_right _ _ (by rw [List.length_take]; omega), List.length_take, Nat.min_eq_left (by omega), Nat.sub_self]
  have e : l.drop k = l[k] :: l.drop (k + 1) := List.drop_eq_getElem_cons (by omega)
  rw [e, List.set_cons_zero]
  have e2 : m.take (k + 1) = m.take k ++ [x] := by
    rw [List.take_succ, hx]
    rfl
  rw [e2, List.append_assoc]
  rfl
theorem WOk.mrg {a b : Wal} (ha : WOk a) (hb : WOk b) (hs : b.sites = a.sites) : WOk (mrgW a b) := by
  have h1 := ha.r
  have h2 := hb.r
  have h3 := ha.u
  have h4 := hb.u
  rw [hs] at h2 h4
  have mem2 : ∀ {x y : List Int}, (∀ n ∈ x, 0 ≤ n ∧ n ≤ 1000000000) → (∀ n ∈ y, 0 ≤ n ∧ n ≤ 1000000000) → ∀ n ∈ mxL x y, 0 ≤ n ∧ n ≤ 1000000000 := by
    intro x y hx hy n hn
    obtain ⟨k, hk, rfl⟩ := List.getElem_of_mem hn
    unfold mxL at hk ⊢
    rw [List.length_zipWith] at hk
    rw [List.getElem_zipWith]
    have := hx _ (List.getElem_mem (show k < x.length by omega))
    have := hy _ (List.getElem_mem (show k < y.length by omega))
    omega
  have memR : ∀ l ∈ mxR a.rights b.rights, ∃ x y, x ∈ a.rights ∧ y ∈ b.rights ∧ l = mxL x y := by
    intro l hl
    obtain ⟨k, hk, rfl⟩ := List.getElem_of_mem hl
    unfold mxR at hk ⊢
    rw [List.length_zipWith] at hk
    exact ⟨_, _, List.getElem_mem (show k < a.rights.length by omega), List.getElem_mem (show k < b.rights.length by omega), by rw [List.getElem_zipWith]⟩
  refine ⟨ha.n1, by show (mxR a.rights b.rights).length = _; rw [mxR_len (by omega)]; exact h1, by show (mxL a.used b.used).length = _; rw [mxL_len (by omega)]; exact h3, ?_, mem2 ha.ru hb.ru, ?_⟩
  · intro l hl
    obtain ⟨x, y, hx, hy, rfl⟩ := memR l hl
    have e1 := ha.rr x hx
    have e2 := hb.rr y hy
    rw [hs] at e2
    rw [mxL_len (by omega)]
    exact e1
  · intro l hl
    obtain ⟨x, y, hx, hy, rfl⟩ := memR l hl
    exact mem2 (ha.rx x hx) (hb.rx y hy)

def geL (x y : List Int) : Prop := ∀ (k : Nat) (a b : Int), x[k]? = some a → y[k]? = some b → ¬ a < b
noncomputable instance (x y : List Int) : Decidable (geL x y) := Classical.propDecidable _
end Lg
end
section
set_option linter.all false
set_option maxRecDepth 100000
set_option maxHeartbeats 8000000
namespace Lg
open Go Go.Proofs

/-- a copy of its own -/
theorem clone_int (rows : List (List Tr)) (hk : ∀ r ∈ rows, r.length = 1) (hl : rows.length ≤ 1000000) : PFnO Tryz.prog 17 [.sl 1 rows] 1 3 (· = rows) := by
  unfold PFnO
  refine Spec.body Tryz.func17 rfl rfl (Tryz.ntmps17) rfl fun w0 own0 M => ?_
  repeat' (first | refine goH ?_ | ((fail_if_success refine Ops.k_b_eql ?_); (fail_if_success refine Ops.k_buildSlice ?_); refine goV ?_) | ((fail_if_success refine Ops.k_b_eql ?_); (fail_if_success refine Ops.k_buildSlice ?_); refine goC (fun ad cap => ?_)) | refine goI ?_ | (refine Cw.k_cond ?_; first | (refine Cw.cond_dec rfl (fun hc => ?_) (fun hc => ?_) <;> try (exfalso; omega)) | refine Cw.cond_bool rfl (fun hc => ?_) (fun hc => ?_)) | fail)
  refine Ops.eql_nilS rfl rfl (fun b hb => ?_)
  cases b
  · repeat' (first | refine goH ?_ | ((fail_if_success refine Ops.k_buildSlice ?_); refine goV ?_) | ((fail_if_success refine Ops.k_buildSlice ?_); refine goC (fun ad cap => ?_)) | refine goI ?_ | (refine Cw.k_cond ?_; first | (refine Cw.cond_dec rfl (fun hc => ?_) (fun hc => ?_) <;> try (exfalso; omega)) | refine Cw.cond_bool rfl (fun hc => ?_) (fun hc => ?_)) | fail)
    refine Ops.buildSlice_own (by exact Parts.nil) rfl rfl rfl (fun ad cap => ?_)
    repeat' (first | refine goH ?_ | refine goV ?_ | refine goC (fun ad cap => ?_) | refine goI ?_ | (refine Cw.k_cond ?_; first | (refine Cw.cond_dec rfl (fun hc => ?_) (fun hc => ?_) <;> try (exfalso; omega)) | refine Cw.cond_bool rfl (fun hc => ?_) (fun hc => ?_)) | fail)
    exact Fin.ret (Ent.take goTk) (Outs.one rfl rfl) ⟨_, _, _, rfl, rfl, rfl⟩
  · have hr := hb rfl
    subst hr
    repeat' (first | refine goH ?_ | refine goV ?_ | refine goC (fun ad cap => ?_) | refine goI ?_ | (refine Cw.k_cond ?_; first | (refine Cw.cond_dec rfl (fun hc => ?_) (fun hc => ?_) <;> try (exfalso; omega)) | refine Cw.cond_bool rfl (fun hc => ?_) (fun hc => ?_)) | fail)
    exact Fin.ret (Ent.trans (Ent.nil 1 3) (Ent.take goTk)) (Outs.one rfl rfl) ⟨none, 0, [], rfl, rfl, rfl⟩

/-- a copy of its own -/
theorem clone_str (rows : List (List Tr)) (hk : ∀ r ∈ rows, r.length = 1) (hl : rows.length ≤ 1000000) : PFnO Tryz.prog 16 [.sl 1 rows] 1 9 (· = rows) := by
  unfold PFnO
  refine Spec.body Tryz.func16 rfl rfl (Tryz.ntmps16) rfl fun w0 own0 M => ?_
  repeat' (first | refine goH ?_ | ((fail_if_success refine Ops.k_b_eql ?_); (fail_if_success refine Ops.k_buildSlice ?_); refine goV ?_) | ((fail_if_success refine Ops.k_b_eql ?_); (fail_if_success refine Ops.k_buildSlice ?_); refine goC (fun ad cap => ?_)) | refine goI ?_ | (refine Cw.k_cond ?_; first | (refine Cw.cond_dec rfl (fun hc => ?_) (fun hc => ?_) <;> try (exfalso; omega)) | refine Cw.cond_bool rfl (fun hc => ?_) (fun hc => ?_)) | fail)
  refine Ops.eql_nilS rfl rfl (fun b hb => ?_)
  cases b
  · repeat' (first | refine goH ?_ | ((fail_if_success refine Ops.k_buildSlice ?_); refine goV ?_) | ((fail_if_success refine Ops.k_buildSlice ?_); refine goC (fun ad cap => ?_)) | refine goI ?_ | (refine Cw.k_cond ?_; first | (refine Cw.cond_dec rfl (fun hc => ?_) (fun hc => ?_) <;> try (exfalso; omega)) | refine Cw.cond_bool rfl (fun hc => ?_) (fun hc => ?_)) | fail)
    refine Ops.buildSlice_own (by exact Parts.nil) rfl rfl rfl (fun ad cap => ?_)
    repeat' (first | refine goH ?_ | refine goV ?_ | refine goC (fun ad cap => ?_) | refine goI ?_ | (refine Cw.k_cond ?_; first | (refine Cw.cond_dec rfl (fun hc => ?_) (fun hc => ?_) <;> try (exfalso; omega)) | refine Cw.cond_bool rfl (fun hc => ?_) (fun hc => ?_)) | fail)
    exact Fin.ret (Ent.take goTk) (Outs.one rfl rfl) ⟨_, _, _, rfl, rfl, rfl⟩
  · have hr := hb rfl
    subst hr
    repeat' (first | refine goH ?_ | refine goV ?_ | refine goC (fun ad cap => ?_) | refine goI ?_ | (refine Cw.k_cond ?_; first | (refine Cw.cond_dec rfl (fun hc => ?_) (fun hc => ?_) <;> try (exfalso; omega)) | refine Cw.cond_bool rfl (fun hc => ?_) (fun hc => ?_)) | fail)
    exact Fin.ret (Ent.trans (Ent.nil 1 9) (Ent.take goTk)) (Outs.one rfl rfl) ⟨none, 0, [], rfl, rfl, rfl⟩

theorem intRows_k (l : List Int) : ∀ r ∈ intRows l, r.length = 1 := by
  intro r hr
  obtain ⟨x, _, rfl⟩ := List.mem_map.1 hr
  rfl
theorem strRows_k (l : List ByteArray) : ∀ r ∈ strRows l, r.length = 1 := by
  intro r hr
  obtain ⟨x, _, rfl⟩ := List.mem_map.1 hr
  rfl
/-- a wallet of one's own -/
abbrev walV (s : List ByteArray) (adR : Option Addr) (capR : Nat) (L : List IL) (adU : Option Addr) (capU : Nat) (u : List Int) : List Tr := [.strs s, Tr.raw (.slice adR (rowsW L).length capR), Tr.raw (.slice adU (intRows u).length capU)]
def walC (adR : Option Addr) (capR : Nat) (L : List IL) (adU : Option Addr) (capU : Nat) (u : List Int) (cs : List Chunk) : Prop := cs = [Chunk.own adU capU 1 3 (intRows u), Chunk.own adR capR 1 22 (rowsW L), Chunk.bun (ownsW 3 L)]
theorem walletCopy_fn (w : Wal) (hw : WBd w) : Spec Tryz.prog 65 [.wal w] [] (fun r cs => ∃ (adR : Option Addr) (capR : Nat) (L : List IL) (adU : Option Addr) (capU : Nat), r = .agg (walV w.sites adR capR L adU capU w.used) ∧ valsW L = w.rights ∧ walC adR capR L adU capU w.used cs) := by
  have n1 := hw.n1
  have nr := hw.r
  have nu := hw.u
  have hS := strRows_len w.sites
  have hR := intsR_len w.rights
  have hU := intRows_len w.used
  have k1 := (clone_str (strRows w.sites) (strRows_k _) (by omega)).val
  have k2 := clone_int (intRows w.used) (intRows_k _) (by omega)
  refine Spec.body Tryz.func65 rfl rfl (Tryz.ntmps65) rfl fun w0 own0 M => ?_
  repeat' (first | refine goH ?_ | refine goV ?_ | refine goB (fun b => ?_) | refine goC (fun ad cap => ?_) | refine goI ?_ | (refine Cw.k_cond ?_; first | (refine Cw.cond_dec rfl (fun hc => ?_) (fun hc => ?_) <;> try (exfalso; omega)) | refine Cw.cond_bool rfl (fun hc => ?_) (fun hc => ?_)) | fail)
  rename_i b1
  rename Nat => b2
  first | refine Cw.region_YP (fun ξ S => Chunk.box b1 29 [.strs w.sites, .sl 1 (intsR w.rights), .ints w.used] :: Chunk.box b2 29 (List.map Tr.raw [.slice none 0 0, .slice none 0 0, .slice none 0 0]) :: (stg (S 5) [] [ownV (ξ 5) 1 3 (intRows w.used)] ++ (stg (S 7) [] [Chunk.box (blk (ξ 7)) 29 (stg (S 8) [Tr.raw (.slice none 0 0), Tr.raw (.slice none 0 0), Tr.raw (.slice none 0 0)] [.strs w.sites, Tr.raw (.slice none 0 0), slV (ξ 5) (intRows w.used).length])] ++ []))) rfl (by decide +kernel) rfl ((fun (ξ : Nat → Value) (S : Nat → Bool) => Chunk.box b1 29 [.strs w.sites, .sl 1 (intsR w.rights), .ints w.used] :: Chunk.box b2 29 (List.map Tr.raw [.slice none 0 0, .slice none 0 0, .slice none 0 0]) :: (stg (S 5) [] [ownV (ξ 5) 1 3 (intRows w.used)] ++ (stg (S 7) [] [Chunk.box (blk (ξ 7)) 29 (stg (S 8) [Tr.raw (.slice none 0 0), Tr.raw (.slice none 0 0), Tr.raw (.slice none 0 0)] [.strs w.sites, Tr.raw (.slice none 0 0), slV (ξ 5) (intRows w.used).length])] ++ []))) (fun _ => undef) (fun _ => false)) (by simp only [upd_same, updD_same, upd_ne, updD_ne, ne_eq, Nat.reduceEqDiff, not_false_eq_true, stg_t, stg_f, vAd_s, vCap_s, blk_p, List.cons_append, List.nil_append, b2n_t, b2n_f]; exact goXm) (fun _ => rfl) ?_ | fail
  apply YSeq.w (by intro _ _ _; rfl)
  · intro ξ S h1 h2 h3 h4
    have hN0_1 := closed_false h1 h3 (k := 1) rfl (by decide)
    have hN0_2 := closed_false hN0_1 h3 (k := 2) rfl (by decide)
    have hN0_5 := closed_false hN0_2 h3 (k := 5) rfl (by decide)
    have hN0_8 := closed_false h1 h3 (k := 8) rfl (by decide)
    try simp only [upd_same, updD_same, upd_ne, updD_ne, ne_eq, Nat.reduceEqDiff, not_false_eq_true, stg_t, stg_f, vAd_s, vCap_s, blk_p, List.cons_append, List.nil_append, b2n_t, b2n_f, hN0_5, hN0_8]
    exact goW
  · intro ξ v; rfl
  · intro ξ k v S h3 hn hk
    first
    | rfl
  apply YSeq.w (by intro _ _ _; rfl)
  · intro ξ S h1 h2 h3 h4
    have hN1_2 := closed_false h1 h3 (k := 2) rfl (by decide)
    have hN1_5 := closed_false hN1_2 h3 (k := 5) rfl (by decide)
    have hN1_8 := closed_false h1 h3 (k := 8) rfl (by decide)
    try simp only [upd_same, updD_same, upd_ne, updD_ne, ne_eq, Nat.reduceEqDiff, not_false_eq_true, stg_t, stg_f, vAd_s, vCap_s, blk_p, List.cons_append, List.nil_append, b2n_t, b2n_f, hN1_5, hN1_8]
    exact goW
  · intro ξ v; rfl
  · intro ξ k v S h3 hn hk
    first
    | rfl
  apply YSeq.callV (by intro _ _ _; rfl)
  · intro ξ S h1 h2 h3 h4
    have hN2_5 := closed_false h1 h3 (k := 5) rfl (by decide)
    have hN2_8 := closed_false h1 h3 (k := 8) rfl (by decide)
    try simp only [upd_same, updD_same, upd_ne, updD_ne, ne_eq, Nat.reduceEqDiff, not_false_eq_true, stg_t, stg_f, vAd_s, vCap_s, blk_p, List.cons_append, List.nil_append, b2n_t, b2n_f, hN2_5, hN2_8]
    exact ⟨_, (Evs.cons rfl Evs.nil), k1⟩
  · intro ξ v; rfl
  · intro ξ k v S h3 hn hk
    first
    | rfl
  apply YSeq.w (by intro _ _ _; rfl)
  · intro ξ S h1 h2 h3 h4
    have hN3_4 := closed_false h1 h3 (k := 4) rfl (by decide)
    have hN3_5 := closed_false hN3_4 h3 (k := 5) rfl (by decide)
    have hN3_8 := closed_false h1 h3 (k := 8) rfl (by decide)
    try simp only [upd_same, updD_same, upd_ne, updD_ne, ne_eq, Nat.reduceEqDiff, not_false_eq_true, stg_t, stg_f, vAd_s, vCap_s, blk_p, List.cons_append, List.nil_append, b2n_t, b2n_f, hN3_5, hN3_8]
    exact goW
  · intro ξ v; rfl
  · intro ξ k v S h3 hn hk
    first
    | rfl
  apply YSeq.w (by intro _ _ _; rfl)
  · intro ξ S h1 h2 h3 h4
    have hN4_5 := closed_false h1 h3 (k := 5) rfl (by decide)
    have hN4_8 := closed_false h1 h3 (k := 8) rfl (by decide)
    try simp only [upd_same, updD_same, upd_ne, updD_ne, ne_eq, Nat.reduceEqDiff, not_false_eq_true, stg_t, stg_f, vAd_s, vCap_s, blk_p, List.cons_append, List.nil_append, b2n_t, b2n_f, hN4_5, hN4_8]
    exact goW
  · intro ξ v; rfl
  · intro ξ k v S h3 hn hk
    first
    | rfl
  apply YSeq.callO ((intRows w.used).length)
  · intro ξ S h1 h2 h3 h4
    have hN5_8 := closed_false h1 h3 (k := 8) rfl (by decide)
    refine ⟨_, _, k2, (Evs.cons rfl Evs.nil), (by first | rfl | simp | omega), fun ad cap => ?_⟩
    simp only [upd_same, updD_same, upd_ne, updD_ne, ne_eq, Nat.reduceEqDiff, not_false_eq_true, stg_t, stg_f, vAd_s, vCap_s, blk_p, List.cons_append, List.nil_append, b2n_t, b2n_f, h1, hN5_8]
    exact goXm
  apply YSeq.w (by intro _ _ _; rfl)
  · intro ξ S h1 h2 h3 h4
    have hY6_5 : S 5 = true := h2 5 (by decide)
    have hN6_8 := closed_false h1 h3 (k := 8) rfl (by decide)
    try simp only [upd_same, updD_same, upd_ne, updD_ne, ne_eq, Nat.reduceEqDiff, not_false_eq_true, stg_t, stg_f, vAd_s, vCap_s, blk_p, List.cons_append, List.nil_append, b2n_t, b2n_f, hY6_5, hN6_8]
    exact goW
  · intro ξ v; rfl
  · intro ξ k v S h3 hn hk
    first
    | rfl
    | skip
      have hY6_5 : S 5 = true := h3 6 _ rfl hn 5 (by decide)
      simp only [upd_S hY6_5 hk]
  apply YSeq.alloc
  · intro ξ S b h1 h3
    have hN7_8 := closed_false h1 h3 (k := 8) rfl (by decide)
    simp only [upd_same, updD_same, upd_ne, updD_ne, ne_eq, Nat.reduceEqDiff, not_false_eq_true, stg_t, stg_f, vAd_s, vCap_s, blk_p, List.cons_append, List.nil_append, b2n_t, b2n_f, h1, hN7_8]
    exact goXm
  apply YSeq.store
  · intro ξ S h1 h2 h3 h4
    have hY8_5 : S 5 = true := h2 5 (by decide)
    have hY8_7 : S 7 = true := h2 7 (by decide)
    simp only [upd_same, updD_same, upd_ne, updD_ne, ne_eq, Nat.reduceEqDiff, not_false_eq_true, stg_t, stg_f, vAd_s, vCap_s, blk_p, List.cons_append, List.nil_append, b2n_t, b2n_f, hY8_5, hY8_7, h1]
    refine ⟨_, _, _, _, _, _, _, rfl, rfl, inferInstance, goXp, rfl, Nat.le_of_ble_eq_true rfl, ?_⟩
    exact goXm
  refine YSeq.nil fun ξ hf => ?_
  refine ⟨[(1, _), (2, _), (3, _)], _, Ent.trans (Ent.eqc rfl (by first | (simp only [upd_same, updD_same, upd_ne, updD_ne, ne_eq, Nat.reduceEqDiff, not_false_eq_true, stg_t, stg_f, vAd_s, vCap_s, blk_p, List.cons_append, List.nil_append, b2n_t, b2n_f, ownV, slV, ptV] <;> rfl) | rfl)) (Ent.sub goSub), ?_⟩
  clear hf
  generalize vAd (ξ 5) = ad11
  generalize vCap (ξ 5) = cap11
  generalize blk (ξ 7) = b3
  repeat' (first | refine goH ?_ | refine goV ?_ | refine goB (fun b => ?_) | refine goC (fun ad cap => ?_) | refine goI ?_ | (refine Cw.k_cond ?_; first | (refine Cw.cond_dec rfl (fun hc => ?_) (fun hc => ?_) <;> try (exfalso; omega)) | refine Cw.cond_bool rfl (fun hc => ?_) (fun hc => ?_)) | refine goR ?_ | refine goP ?_ | apply PSeq.cons | apply PSeq.yes rfl rfl rfl | exact goW | fail)
  refine Cw.loopI [(2, _), (3, _), (14, _), (15, _)] _ (fun q e cc => ∃ (k : Nat) (ad : Option Addr) (cap : Nat) (L : List IL), q = w.rights.length - k ∧ (k ≤ w.rights.length ∧ L.length = k ∧ valsW L = w.rights.take k) ∧ e = [(16, .int k)] ∧ cc = [Chunk.box b3 29 [.strs w.sites, Tr.raw (.slice ad k cap), Tr.raw (.slice ad11 (intRows w.used).length cap11)], Chunk.own ad cap 1 22 (rowsW L), Chunk.bun (ownsW 3 L)])
    ⟨_, _, _, Ent.trans (Ent.nil 1 22) (Ent.trans Ent.bun0 (Ent.mkP goSub goPm)), 0, none, 0, [], rfl, ⟨by omega, rfl, rfl⟩, rfl, rfl⟩ ?_
  rintro _ _ _ ⟨k, ad, cap, L, rfl, ⟨hk, hL, hv⟩, rfl, rfl⟩
  have hVl : (rowsW L).length = k := by rw [rowsW_len, hL]
  by_cases hkl : k < w.rights.length
  · obtain ⟨l, hx⟩ := at_lt hkl
    have hrow := intsR_at hx
    have hlb := hw.rr l (List.mem_of_getElem? hx)
    have hlr := intRows_len l
    have k3 := clone_int (intRows l) (intRows_k _) (by omega)
    repeat' (first | refine goH ?_ | refine goV ?_ | refine goB (fun b => ?_) | refine goC (fun ad cap => ?_) | refine goI ?_ | (refine Cw.k_cond ?_; first | (refine Cw.cond_dec rfl (fun hc => ?_) (fun hc => ?_) <;> try (exfalso; omega)) | refine Cw.cond_bool rfl (fun hc => ?_) (fun hc => ?_)) | fail)
    first | refine Cw.region_YP (fun ξ S => Chunk.box b3 29 [.strs w.sites, stg (S 7) (Tr.raw (.slice ad k cap)) (slV (ξ 5) (k + 1)), Tr.raw (.slice ad11 (intRows w.used).length cap11)] :: Chunk.box b1 29 [.strs w.sites, .sl 1 (intsR w.rights), .ints w.used] :: Chunk.box b2 29 (List.map Tr.raw [.slice none 0 0, .slice none 0 0, .slice none 0 0]) :: Chunk.own ad11 cap11 1 3 (intRows w.used) :: Chunk.bun (ownsW 3 L) :: stg (S 5) (Chunk.own ad cap 1 22 (rowsW L)) (ownV (ξ 5) 1 22 (rowsW L ++ [[slV (ξ 3) (intRows l).length]])) :: (stg (S 3) [] [ownV (ξ 3) 1 3 (intRows l)] ++ (stg (S 4) [] (stg (S 5) [ownV (ξ 4) 1 22 [[slV (ξ 3) (intRows l).length]]] []) ++ []))) rfl (by decide +kernel) rfl ((fun (ξ : Nat → Value) (S : Nat → Bool) => Chunk.box b3 29 [.strs w.sites, stg (S 7) (Tr.raw (.slice ad k cap)) (slV (ξ 5) (k + 1)), Tr.raw (.slice ad11 (intRows w.used).length cap11)] :: Chunk.box b1 29 [.strs w.sites, .sl 1 (intsR w.rights), .ints w.used] :: Chunk.box b2 29 (List.map Tr.raw [.slice none 0 0, .slice none 0 0, .slice none 0 0]) :: Chunk.own ad11 cap11 1 3 (intRows w.used) :: Chunk.bun (ownsW 3 L) :: stg (S 5) (Chunk.own ad cap 1 22 (rowsW L)) (ownV (ξ 5) 1 22 (rowsW L ++ [[slV (ξ 3) (intRows l).length]])) :: (stg (S 3) [] [ownV (ξ 3) 1 3 (intRows l)] ++ (stg (S 4) [] (stg (S 5) [ownV (ξ 4) 1 22 [[slV (ξ 3) (intRows l).length]]] []) ++ []))) (fun _ => undef) (fun _ => false)) (by simp only [upd_same, updD_same, upd_ne, updD_ne, ne_eq, Nat.reduceEqDiff, not_false_eq_true, stg_t, stg_f, vAd_s, vCap_s, blk_p, List.cons_append, List.nil_append, b2n_t, b2n_f]; exact goXm) (fun _ => rfl) ?_ | fail
    apply YSeq.w (by intro _ _ _; rfl)
    · intro ξ S h1 h2 h3 h4
      have hN0_1 := closed_false h1 h3 (k := 1) rfl (by decide)
      have hN0_5 := closed_false hN0_1 h3 (k := 5) rfl (by decide)
      have hN0_7 := closed_false h1 h3 (k := 7) rfl (by decide)
      try simp only [upd_same, updD_same, upd_ne, updD_ne, ne_eq, Nat.reduceEqDiff, not_false_eq_true, stg_t, stg_f, vAd_s, vCap_s, blk_p, List.cons_append, List.nil_append, b2n_t, b2n_f, hN0_5, hN0_7]
      exact goW
    · intro ξ v; rfl
    · intro ξ k v S h3 hn hk
      first
      | rfl
    apply YSeq.w (by intro _ _ _; rfl)
    · intro ξ S h1 h2 h3 h4
      have hN1_5 := closed_false h1 h3 (k := 5) rfl (by decide)
      have hN1_7 := closed_false h1 h3 (k := 7) rfl (by decide)
      try simp only [upd_same, updD_same, upd_ne, updD_ne, ne_eq, Nat.reduceEqDiff, not_false_eq_true, stg_t, stg_f, vAd_s, vCap_s, blk_p, List.cons_append, List.nil_append, b2n_t, b2n_f, hN1_5, hN1_7]
      exact goW
    · intro ξ v; rfl
    · intro ξ k v S h3 hn hk
      first
      | rfl
    apply YSeq.w (by intro _ _ _; rfl)
    · intro ξ S h1 h2 h3 h4
      have hN2_3 := closed_false h1 h3 (k := 3) rfl (by decide)
      have hN2_4 := closed_false hN2_3 h3 (k := 4) rfl (by decide)
      have hN2_5 := closed_false hN2_3 h3 (k := 5) rfl (by decide)
      have hN2_7 := closed_false h1 h3 (k := 7) rfl (by decide)
      try simp only [upd_same, updD_same, upd_ne, updD_ne, ne_eq, Nat.reduceEqDiff, not_false_eq_true, stg_t, stg_f, vAd_s, vCap_s, blk_p, List.cons_append, List.nil_append, b2n_t, b2n_f, hN2_3, hN2_4, hN2_5, hN2_7]
      exact goW
    · intro ξ v; rfl
    · intro ξ k v S h3 hn hk
      first
      | rfl
    apply YSeq.callO ((intRows l).length)
    · intro ξ S h1 h2 h3 h4
      have hN3_4 := closed_false h1 h3 (k := 4) rfl (by decide)
      have hN3_5 := closed_false h1 h3 (k := 5) rfl (by decide)
      have hN3_7 := closed_false h1 h3 (k := 7) rfl (by decide)
      refine ⟨_, _, k3, (Evs.cons rfl Evs.nil), (by first | rfl | simp | omega), fun ad cap => ?_⟩
      simp only [upd_same, updD_same, upd_ne, updD_ne, ne_eq, Nat.reduceEqDiff, not_false_eq_true, stg_t, stg_f, vAd_s, vCap_s, blk_p, List.cons_append, List.nil_append, b2n_t, b2n_f, h1, hN3_4, hN3_5, hN3_7]
      exact goXm
    apply YSeq.lit
    · intro ξ S h1 h2 h3 h4
      have hY4_3 : S 3 = true := h2 3 (by decide)
      have hN4_5 := closed_false h1 h3 (k := 5) rfl (by decide)
      have hN4_7 := closed_false h1 h3 (k := 7) rfl (by decide)
      refine ⟨_, _, (by first | exact (by exact Parts.cons rfl rfl rfl (by exact Parts.nil)) | exact (by exact Parts.cons rfl rfl rfl (by exact Parts.cons rfl rfl rfl (by exact Parts.nil))) | exact (by exact Parts.cons rfl rfl rfl (by exact Parts.cons rfl rfl rfl (by exact Parts.cons rfl rfl rfl (by exact Parts.nil)))) | exact (by exact Parts.cons rfl rfl rfl (by exact Parts.cons rfl rfl rfl (by exact Parts.cons rfl rfl rfl (by exact Parts.cons rfl rfl rfl (by exact Parts.nil))))) | exact (by exact Parts.cons rfl rfl rfl (by exact Parts.cons rfl rfl rfl (by exact Parts.cons rfl rfl rfl (by exact Parts.cons rfl rfl rfl (by exact Parts.cons rfl rfl rfl (by exact Parts.nil))))))), goNt, rfl, fun ad cap => ?_⟩
      simp only [upd_same, updD_same, upd_ne, updD_ne, ne_eq, Nat.reduceEqDiff, not_false_eq_true, stg_t, stg_f, vAd_s, vCap_s, blk_p, List.cons_append, List.nil_append, b2n_t, b2n_f, hY4_3, h1, hN4_5, hN4_7]
      exact goXm
    apply YSeq.appendO (k + 1)
    · intro ξ S h1 h2 h3 h4
      have hY5_3 : S 3 = true := h2 3 (by decide)
      have hY5_4 : S 4 = true := h2 4 (by decide)
      have hN5_7 := closed_false h1 h3 (k := 7) rfl (by decide)
      simp only [upd_same, updD_same, upd_ne, updD_ne, ne_eq, Nat.reduceEqDiff, not_false_eq_true, stg_t, stg_f, vAd_s, vCap_s, blk_p, List.cons_append, List.nil_append, b2n_t, b2n_f, hY5_3, hY5_4, h1, hN5_7]
      refine ⟨_, _, _, _, _, _, _, _, _, _, rfl, rfl, goXp, goXp, (by first | rfl | (simp; done) | omega), (by first | rfl | (simp; done) | omega), (by first | rfl | omega | (simp; done) | (simp; omega)), (by first | omega | (simp; done) | (simp; omega)), (by first | omega | (simp; done) | (simp; omega)), fun ad' cap' => ?_⟩
      exact goXm
    apply YSeq.w (by intro _ _ _; rfl)
    · intro ξ S h1 h2 h3 h4
      have hY6_3 : S 3 = true := h2 3 (by decide)
      have hY6_4 : S 4 = true := h2 4 (by decide)
      have hY6_5 : S 5 = true := h2 5 (by decide)
      have hN6_7 := closed_false h1 h3 (k := 7) rfl (by decide)
      try simp only [upd_same, updD_same, upd_ne, updD_ne, ne_eq, Nat.reduceEqDiff, not_false_eq_true, stg_t, stg_f, vAd_s, vCap_s, blk_p, List.cons_append, List.nil_append, b2n_t, b2n_f, hY6_3, hY6_4, hY6_5, hN6_7]
      exact goW
    · intro ξ v; rfl
    · intro ξ k v S h3 hn hk
      first
      | rfl
      | skip
        have hY6_3 : S 3 = true := h3 6 _ rfl hn 3 (by decide)
        have hY6_4 : S 4 = true := h3 6 _ rfl hn 4 (by decide)
        have hY6_5 : S 5 = true := h3 6 _ rfl hn 5 (by decide)
        simp only [upd_S hY6_3 hk, upd_S hY6_4 hk, upd_S hY6_5 hk]
    apply YSeq.store
    · intro ξ S h1 h2 h3 h4
      have hY7_3 : S 3 = true := h2 3 (by decide)
      have hY7_4 : S 4 = true := h2 4 (by decide)
      have hY7_5 : S 5 = true := h2 5 (by decide)
      simp only [upd_same, updD_same, upd_ne, updD_ne, ne_eq, Nat.reduceEqDiff, not_false_eq_true, stg_t, stg_f, vAd_s, vCap_s, blk_p, List.cons_append, List.nil_append, b2n_t, b2n_f, hY7_3, hY7_4, hY7_5, h1]
      refine ⟨_, _, _, _, _, _, _, rfl, rfl, inferInstance, goXp, rfl, Nat.le_of_ble_eq_true rfl, ?_⟩
      exact goXm
    refine YSeq.nil fun ξ hf => ?_
    refine ⟨[(2, _), (3, _), (14, _), (15, _), (16, _)], _, Ent.trans (Ent.eqc rfl (by first | (simp only [upd_same, updD_same, upd_ne, updD_ne, ne_eq, Nat.reduceEqDiff, not_false_eq_true, stg_t, stg_f, vAd_s, vCap_s, blk_p, List.cons_append, List.nil_append, b2n_t, b2n_f, ownV, slV, ptV] <;> rfl) | rfl)) (Ent.sub goSub), ?_⟩
    clear hf
    generalize vAd (ξ 3) = ad23
    generalize vCap (ξ 3) = cap23
    generalize vAd (ξ 4) = ad24
    generalize vCap (ξ 4) = cap24
    generalize vAd (ξ 5) = ad25
    generalize vCap (ξ 5) = cap25
    rw [show ([[Tr.raw (.slice ad23 (intRows l).length cap23)]] : List (List Tr)) = [[Tr.raw (IL.val ⟨ad23, cap23, l⟩)]] from rfl, rowsW_snoc]
    refine InB.norm (Then.norm ?_)
    refine Cw.ent (Ent.push (c := (⟨ad23, cap23, l⟩ : IL).own 3) (L := ownsW 3 L) (by exact goPk) (by exact goPk)) ?_
    rw [ownsW_snoc]
    repeat' (first | refine goH ?_ | refine goV ?_ | refine goB (fun b => ?_) | refine goC (fun ad cap => ?_) | refine goI ?_ | (refine Cw.k_cond ?_; first | (refine Cw.cond_dec rfl (fun hc => ?_) (fun hc => ?_) <;> try (exfalso; omega)) | refine Cw.cond_bool rfl (fun hc => ?_) (fun hc => ?_)) | refine goR ?_ | refine goP ?_ | apply PSeq.cons | apply PSeq.yes rfl rfl rfl | exact goW | fail)
    exact ⟨_, _, _, (Ent.mk goSub goTk), ⟨k + 1, _, _, L ++ [⟨ad23, cap23, l⟩], rfl, ⟨by omega, by simp [hL], by rw [valsW_snoc, hv, take_at hx]⟩, rfl, rfl⟩, by omega⟩
  · have hkk : k = w.rights.length := by omega
    repeat' (first | refine goH ?_ | refine goV ?_ | refine goB (fun b => ?_) | refine goC (fun ad cap => ?_) | refine goI ?_ | (refine Cw.k_cond ?_; first | (refine Cw.cond_dec rfl (fun hc => ?_) (fun hc => ?_) <;> try (exfalso; omega)) | refine Cw.cond_bool rfl (fun hc => ?_) (fun hc => ?_)) | refine goR ?_ | refine goP ?_ | apply PSeq.cons | apply PSeq.yes rfl rfl rfl | exact goW | fail)
    rw [← hVl]
    refine Fin.ret (Ent.trans (Ent.setbox (s := 2) rfl goPk) (Ent.take goTk)) (Outs.sole rfl (by exact OutE.agg inferInstance rfl rfl)) ⟨ad, cap, L, ad11, cap11, rfl, ?_, rfl⟩
    rw [hv, hkk, List.take_length]
end Lg
end
section
set_option linter.all false
set_option maxRecDepth 100000
set_option maxHeartbeats 8000000
namespace Lg
open Go Go.Proofs

def wNil : Wal := ⟨[], [], []⟩
def resW (w : Wal) (e : Int) : Tr := .tup [.wal (if e = 0 then w else wNil), .int e]
theorem resW_ok {w : Wal} {e : Int} (h : e = 0) : resW w e = .tup [.wal w, .int 0] := by
  subst h
  rfl
theorem resW_bad {w : Wal} {e : Int} (h : e ≠ 0) : resW w e = .tup [.wal wNil, .int e] := by
  unfold resW
  rw [if_neg h]
theorem impW0 : ImpL (List.map Tr.raw [.slice none 0 0, .slice none 0 0, .slice none 0 0]) [.strs [], .sl 1 (intsR []), .ints []] := .cons Imp.nil (.cons Imp.nil (.cons Imp.nil .nil))
def mrgE (a b : Wal) : Int := if pairE a b ≠ 0 then pairE a b else walE (mrgW a b)
theorem rowsW_mix {L : List IL} {m x : List (List Int)} {i : Nat} (h : valsW L = mixL m x i) (hm : m.length = x.length) (hi : i < x.length) : ∃ p, L[i]? = some p ∧ some p.xs = x[i]? := by
  have e := congrArg (fun l => l[i]?) h
  simp only [mixL_at hm hi] at e
  unfold valsW at e
  rw [List.getElem?_map] at e
  cases hp : L[i]? with
  | none => rw [hp] at e; rw [List.getElem?_eq_getElem hi] at e; cases e
  | some p => rw [hp] at e; exact ⟨p, rfl, e⟩
end Lg
end
