/- A part of the proof of a law of this seat: it adds no condition. By an AI agent. -/
import Derived.Shelf.Strings.OnBuilder
import Derived.Shelf.Strings.Repeat
import Derived.KernelRfl
import Derived.Test.YtjknjnkkpfeahaaGreatDoorWw2
section
set_option linter.all false
set_option maxRecDepth 100000
set_option maxHeartbeats 4000000
namespace Lg
open Go Go.Proofs

/-! ### strings.Join, strings.Repeat -/
theorem extra156 : Builder.Extra Tryz.prog Tryz.lays156_ren := {
  sizeBuilder := by kernel_rfl
  liesBuilder := by kernel_rfl
  t5 := by kernel_rfl
  a5 := fun w => by first | rfl | exact run_isAgg_plain (by kernel_rfl) rfl w
  z5 := fun w => by first | rfl | kernel_rfl
  v5 := fun w => by first | rfl | kernel_rfl
  infoByte := by kernel_rfl
  cellsByte := by kernel_rfl
  sizeByte := by kernel_rfl
  neB5 := by decide
}
theorem joinL_snoc (l : List (List UInt8)) (x sep : List UInt8) : Lib.join (l ++ [x]) sep = if l = [] then x else Lib.join l sep ++ (sep ++ x) := by
  cases l with
  | nil => rw [if_pos rfl, List.nil_append, Lib.join_one]
  | cons a r =>
    rw [if_neg (by simp), List.cons_append, Lib.join_cons, Lib.join_cons]
    unfold Lib.joinTail
    rw [List.map_append, List.flatten_append, List.append_assoc]
    simp
theorem snoc_indJ {α : Type} {p : List α → Prop} (h0 : p []) (h1 : ∀ l x, p l → p (l ++ [x])) : ∀ l, p l := by
  intro l
  rw [← List.reverse_reverse l]
  induction l.reverse with
  | nil => exact h0
  | cons a r ih => rw [List.reverse_cons]; exact h1 _ _ ih
theorem joinL_size (sep : List UInt8) (B : Nat) : ∀ l : List (List UInt8), (∀ x ∈ l, x.length ≤ B) → (Lib.join l sep).length ≤ l.length * (B + sep.length) := by
  intro l
  refine snoc_indJ (p := fun l => (∀ x ∈ l, x.length ≤ B) → (Lib.join l sep).length ≤ l.length * (B + sep.length)) ?_ ?_ l
  · intro _; rw [Lib.join_nil]; simp
  · intro l x ih h
    have h1 := ih fun y hy => h y (by simp [hy])
    have h2 := h x (by simp)
    rw [joinL_snoc, List.length_append, List.length_singleton, Nat.add_mul, Nat.one_mul]
    split
    · omega
    · rw [List.length_append, List.length_append]; omega
theorem rdc_raws2 {w : World} {A : Nat → Prop} : ∀ (l : List Value) {vs : List Value}, RdC w A (l.map Tr.raw) vs → vs = l
  | [], vs, h => h
  | v :: l, vs, h => by
    obtain ⟨u, rest, rfl, h1, _, h2⟩ := h
    rw [rd_raw h1, rdc_raws2 l h2]
theorem strRows_flat (l : List ByteArray) : (strRows l).flatten = (l.map Value.string).map Tr.raw := by
  unfold strRows
  induction l with
  | nil => rfl
  | cons b l ih => rw [List.map_cons, List.flatten_cons, ih]; rfl
theorem join_fn (l : List ByteArray) (sep : ByteArray) (hl : l.length ≤ 1000000) (hsz : ∀ x ∈ l, x.size ≤ 1000000) (hsep : sep.size ≤ 1000) : PFn Tryz.prog 31 [.strs l, .str sep] (· = .str (mkB (Lib.join (l.map (·.data.toList)) sep.data.toList))) := by
  refine PFn.mk ?_
  unfold Spec
  refine ⟨fun vs w => rfl, fun M w vs hv _ _ _ hM => ?_⟩
  obtain ⟨v1, r1, rfl, h1, v2, r2, rfl, h2, rfl⟩ := hv
  have e2 := rd_raw h2
  subst e2
  have hlen := strRows_len l
  unfold Tr.strs Tr.sl at h1
  obtain ⟨_, _, ad, cap, rfl, h3, h4, h5, h6⟩ := h1
  rw [hlen] at h3 ⊢
  have fin : ∀ e w', (e = Ending.returned (.string (mkB (Lib.join (l.map (·.data.toList)) sep.data.toList))) ∧ Go.RowKit.Below w.heap.size w w') → ∃ v r cs', e = .returned v ∧ (cs' = [] ∧ r = Tr.str (mkB (Lib.join (l.map (·.data.toList)) sep.data.toList))) ∧ r.rd w' (av M cs') v ∧ (∀ c ∈ cs', c.holds w' (av M cs')) ∧ (fps cs').Nodup ∧ (∀ b ∈ fps cs', b < w'.heap.size ∧ ¬ M b ∧ (b ∈ fps ([] : List Chunk) ∨ w.heap.size ≤ b)) ∧ Frm (fps []) w w' := by
    rintro e w' ⟨rfl, hb⟩
    exact ⟨_, _, [], rfl, ⟨rfl, rfl⟩, raw_self _, by simp, by simp [fps], by simp [fps], hb.os, hb.tape, hb.output, hb.size, fun b hb2 _ => hb.block b hb2, fun hS => hS.elim⟩
  by_cases h0 : l = []
  · subst h0
    refine (Any.strings_Join_none Tryz.lays156 extra156 ad cap sep w).mono ?_
    rintro e w' ⟨rfl, rfl⟩
    exact fin _ _ ⟨rfl, Go.RowKit.Below.refl _ _⟩
  · have hne : strRows l ≠ [] := fun h => h0 (List.map_eq_nil_iff.1 h)
    obtain ⟨b, off, rfl, hA, c, e, fz, hb, hr⟩ := h6.resolve_left hne
    rw [strRows_flat] at hr
    have hvs := rdc_raws2 _ hr
    have hcell : ∀ (j : Nat) x, l[j]? = some x → w.cell? ⟨b, off + j, none⟩ = some (.string x) := fun j x hj => by
      have hlt := (List.getElem?_eq_some_iff.1 hj).1
      have h7 : ((c.toList.drop off).take (((l.map Value.string).map Tr.raw).length))[j]? = some (.string x) := by
        rw [hvs, List.getElem?_map, hj]
        rfl
      rw [List.getElem?_take_of_lt (by simpa using hlt), List.getElem?_drop] at h7
      unfold World.cell?
      simp only [hb]
      simpa using h7
    have hbl := (Array.getElem?_eq_some_iff.1 hb).1
    have hjl := joinL_size sep.data.toList 1000000 (l.map (·.data.toList)) (fun x hx => by obtain ⟨y, hy, rfl⟩ := List.mem_map.1 hx; exact hsz y hy)
    rw [List.length_map] at hjl
    have hm : l.length * (1000000 + sep.data.toList.length) ≤ 1000000 * 1001000 := Nat.mul_le_mul hl (by have := str_list sep; omega)
    exact (Any.strings_Join Tryz.lays156 extra156 b off cap l sep w hcell hbl (by omega) h3 (by omega)).mono fin
end Lg
end
section
set_option linter.all false
set_option maxRecDepth 100000
set_option maxHeartbeats 8000000
namespace Lg
open Go Go.Proofs

/-! ### coilref.WalletText -/
def walB7 : ByteArray := ⟨#[119, 97, 108, 108, 101, 116, 32]⟩
theorem walB7_eq : walB ++ spB = walB7 := by decide
theorem siT_join : ∀ l : List ByteArray, l ≠ [] → siT walB l = walB7 ++ mkB (Lib.join (l.map (·.data.toList)) [32]) := by
  intro l
  refine snoc_indJ (p := fun l => l ≠ [] → siT walB l = walB7 ++ mkB (Lib.join (l.map (·.data.toList)) [32])) ?_ ?_ l
  · intro h; exact absurd rfl h
  · intro l x ih _
    rw [siT_snoc, List.map_append, List.map_cons, List.map_nil, joinL_snoc]
    by_cases h : l = []
    · subst h
      rw [if_pos (by simp)]
      show walB ++ (spB ++ x) = walB7 ++ mkB x.data.toList
      rw [mkB_eta, ← ByteArray.append_assoc, walB7_eq]
    · rw [if_neg (by rw [List.map_eq_nil_iff]; exact h), ih h, ← mkB_app, ← mkB_app, mkB_eta, ByteArray.append_assoc]
      rfl
theorem print_bad (w : Wal) (hb : WBd w) (h0 : walE w ≠ 0) : PFn Tryz.prog 5 [.wal w] (· = .tup [.str ⟨#[]⟩, .int (walE w)]) := by
  have kC := checkWallet_fn w hb
  generalize walE w = e at *
  refine PFn.mk (Spec.body Tryz.func5 rfl rfl (Tryz.ntmps5) rfl fun w0 own0 M => ?_)
  repeat' (first | refine goH ?_ | refine goV ?_ | refine goB (fun b => ?_) | refine goC (fun ad cap => ?_) | refine goI ?_ | (refine Cw.k_cond ?_; first | (refine Cw.cond_dec rfl (fun hc => ?_) (fun hc => ?_) <;> try (exfalso; omega)) | refine Cw.cond_bool rfl (fun hc => ?_) (fun hc => ?_)) | (refine Ops.k_calla ?_; first | (refine Ops.k_callf 21 ?_; refine Ops.callV kC (Evs.cons rfl Evs.nil) rfl ?_)) | (apply OpW.k_call; first | (apply OpW.k_callf 21; exact OpW.callV kC (Evs.cons rfl Evs.nil))) | refine goR ?_ | refine goP ?_ | apply PSeq.cons | apply PSeq.yes rfl rfl rfl | exact goW | fail)
  exact Fin.ret (Ent.take goTk) (Outs.two rfl rfl rfl) ⟨rfl, rfl⟩
attribute [local irreducible] intRows intsR strRows
theorem walletText_fn (w : Wal) (hok : WOk w) (hsz : ∀ x ∈ w.sites, x.size ≤ 40) (hne : w.sites ≠ []) : Spec Tryz.prog 7 [.wal w] [numC] (fun r cs => r = .str (walT w) ∧ cs = [numC]) := by
  have hn1 := hok.n1
  have hS := strRows_len w.sites
  have hR := intsR_len w.rights
  have hU := intRows_len w.used
  have hru := hok.u
  have hrr := hok.r
  have z1 : ByteArray.size ⟨#[32]⟩ = 1 := rfl
  have z2 : ByteArray.size ⟨#[10]⟩ = 1 := rfl
  have z3 : ByteArray.size ⟨#[119, 97, 108, 108, 101, 116, 32]⟩ = 7 := rfl
  have kJ := join_fn w.sites ⟨#[32]⟩ (by omega) (fun x hx => by have := hsz x hx; omega) (by rw [z1]; omega)
  have eJ : siT walB w.sites = (⟨#[119, 97, 108, 108, 101, 116, 32]⟩ : ByteArray) ++ mkB (Lib.join (w.sites.map (·.data.toList)) (ByteArray.mk #[32]).data.toList) := siT_join w.sites hne
  have hJz : (mkB (Lib.join (w.sites.map (·.data.toList)) (ByteArray.mk #[32]).data.toList)).size ≤ 600 := by
    rw [mkB_size]
    refine Nat.le_trans (joinL_size _ 40 _ ?_) ?_
    · intro z hz
      obtain ⟨y, hy, rfl⟩ := List.mem_map.1 hz
      exact hsz y hy
    · rw [List.length_map]
      have e : (ByteArray.mk #[32]).data.toList.length = 1 := rfl
      rw [e]
      omega
  generalize mkB (Lib.join (w.sites.map (·.data.toList)) (ByteArray.mk #[32]).data.toList) = J at *
  have eJz : ((⟨#[119, 97, 108, 108, 101, 116, 32]⟩ : ByteArray) ++ J).size = 7 + J.size := ByteArray.size_append
  obtain ⟨t0, ht0⟩ : ∃ t0, t0 = ((⟨#[119, 97, 108, 108, 101, 116, 32]⟩ : ByteArray) ++ J) ++ ⟨#[10]⟩ := ⟨_, rfl⟩
  have hz0 : t0.size ≤ 700 := by rw [ht0, ByteArray.size_append, eJz, z2]; omega
  have hW3 : ∀ k, k ≤ w.sites.length → (boT w t0 k).size ≤ 700 + k * 330 := fun k hk => by
    have := boT_size hok hsz t0 k hk
    omega
  have hW : walT w = boT w t0 w.sites.length := by unfold walT; rw [eJ, ht0]; rfl
  rw [hW]
  clear hW eJ
  refine Spec.body Tryz.func7 rfl rfl (Tryz.ntmps7) rfl fun w0 own0 M => ?_
  repeat' (first | refine goH ?_ | (refine Ops.k_b_add ?_; first | (refine Ops.catB rfl rfl (by omega) rfl ?_)) | refine goV ?_ | refine goB (fun b => ?_) | refine goC (fun ad cap => ?_) | refine goI ?_ | (refine Cw.k_cond ?_; first | (refine Cw.cond_dec rfl (fun hc => ?_) (fun hc => ?_) <;> try (exfalso; omega)) | refine Cw.cond_bool rfl (fun hc => ?_) (fun hc => ?_)) | (refine Ops.k_calla ?_; first | (refine Ops.k_callf 31 ?_; refine Ops.callV kJ (Evs.cons rfl (Evs.cons rfl Evs.nil)) rfl ?_)) | (apply OpW.k_call; first | (apply OpW.k_callf 31; exact OpW.callV kJ (Evs.cons rfl (Evs.cons rfl Evs.nil)))) | refine goR ?_ | refine goP ?_ | apply PSeq.cons | apply PSeq.yes rfl rfl rfl | exact goW | fail)
  rw [← ht0]
  refine Cw.loopI [(1, _), (14, _), (15, _)] _ (fun q e c => ∃ (k : Nat) (t : ByteArray), q = w.sites.length - k ∧ (k ≤ w.sites.length ∧ t = boT w t0 k) ∧ e = [(3, .str t), (16, .int k)] ∧ c = []) ⟨_, _, _, (Ent.mkP goSub goPm), 0, _, rfl, ⟨by omega, rfl⟩, rfl, rfl⟩ ?_
  clear ht0
  rintro _ _ _ ⟨k, t, rfl, ⟨hk, ht⟩, rfl, rfl⟩
  have hts := hW3 k hk
  rw [← ht] at hts
  by_cases hkl : k < w.sites.length
  · obtain ⟨l, u, x, RI⟩ := hok.row' hkl
    have hxs : x.size ≤ 40 := hsz x (List.mem_of_getElem? RI.s)
    have hr1 : (strRows w.sites)[k]? = some [.str x] := strRows_at RI.s
    have hr2 : (intsR w.rights)[k]? = some [.ints l] := intsR_at RI.r
    have hr3 : (intRows w.used)[k]? = some [.int u] := intRows_at RI.hu
    have hln := RI.n
    have hll := intRows_len l
    have kcl := clone_int (intRows l) (intRows_k _) (by omega)
    have hnx : boT w t0 (k + 1) = ceT (t ++ x) (l ++ [u]) ++ nlB := by rw [ht, ← RI.e, ← RI.es]; rfl
    have hb := RI.b
    have hts2 := hW3 (k + 1) (by omega)
    have htx : (t ++ x).size = t.size + x.size := ByteArray.size_append
    have hrow : intRows l ++ [[Tr.int u]] = intRows (l ++ [u]) := intRows_snocW l u
    have hcs : ∀ j, j ≤ (l ++ [u]).length → (ceT (t ++ x) ((l ++ [u]).take j)).size ≤ 5000 + j * 22 := fun j hj => by
      have := ceT_size ((l ++ [u]).take j) (fun y hy => hb y (List.mem_of_mem_take hy)) (t ++ x)
      rw [List.length_take] at this
      have e : min j (l ++ [u]).length = j := by omega
      rw [e] at this
      omega
    have hLn : (intRows (l ++ [u])).length = l.length + 1 := by rw [intRows_len, List.length_append]; rfl
    have hLn2 : (l ++ [u]).length = l.length + 1 := by rw [List.length_append]; rfl
    clear RI ht hW3
    repeat' (first | refine goH ?_ | (refine Ops.k_b_add ?_; first | (refine Ops.catB rfl rfl (by omega) rfl ?_)) | refine goV ?_ | refine goB (fun b => ?_) | refine goC (fun ad cap => ?_) | refine goI ?_ | (refine Cw.k_cond ?_; first | (refine Cw.cond_dec rfl (fun hc => ?_) (fun hc => ?_) <;> try (exfalso; omega)) | refine Cw.cond_bool rfl (fun hc => ?_) (fun hc => ?_)) | fail)
    first | refine Cw.region_YP (fun ξ S => Chunk.box b 29 [.strs w.sites, .sl 1 (intsR w.rights), .ints w.used] :: numC :: (stg (S 5) [] (stg (S 12) [ownV (ξ 5) 1 3 (intRows l)] [ownV (ξ 12) 1 3 (intRows l ++ [[.int u]])]) ++ [])) rfl (by decide +kernel) rfl ((fun (ξ : Nat → Value) (S : Nat → Bool) => Chunk.box b 29 [.strs w.sites, .sl 1 (intsR w.rights), .ints w.used] :: numC :: (stg (S 5) [] (stg (S 12) [ownV (ξ 5) 1 3 (intRows l)] [ownV (ξ 12) 1 3 (intRows l ++ [[.int u]])]) ++ [])) (fun _ => undef) (fun _ => false)) (by simp only [upd_same, updD_same, upd_ne, updD_ne, ne_eq, Nat.reduceEqDiff, not_false_eq_true, stg_t, stg_f, vAd_s, vCap_s, blk_p, List.cons_append, List.nil_append, b2n_t, b2n_f]; exact goXm) (fun _ => rfl) ?_ | fail
    apply YSeq.w (by intro _ _ _; rfl)
    · intro ξ S h1 h2 h3 h4
      have hN0_1 := closed_false h1 h3 (k := 1) rfl (by decide)
      have hN0_3 := closed_false hN0_1 h3 (k := 3) rfl (by decide)
      have hN0_4 := closed_false hN0_3 h3 (k := 4) rfl (by decide)
      have hN0_5 := closed_false hN0_4 h3 (k := 5) rfl (by decide)
      have hN0_12 := closed_false hN0_5 h3 (k := 12) rfl (by decide)
      try simp only [upd_same, updD_same, upd_ne, updD_ne, ne_eq, Nat.reduceEqDiff, not_false_eq_true, stg_t, stg_f, vAd_s, vCap_s, blk_p, List.cons_append, List.nil_append, b2n_t, b2n_f, hN0_5, hN0_12]
      exact goW
    · intro ξ v; rfl
    · intro ξ k v S h3 hn hk
      first
      | rfl
    apply YSeq.w (by intro _ _ _; rfl)
    · intro ξ S h1 h2 h3 h4
      have hN1_3 := closed_false h1 h3 (k := 3) rfl (by decide)
      have hN1_4 := closed_false hN1_3 h3 (k := 4) rfl (by decide)
      have hN1_5 := closed_false hN1_4 h3 (k := 5) rfl (by decide)
      have hN1_12 := closed_false hN1_5 h3 (k := 12) rfl (by decide)
      try simp only [upd_same, updD_same, upd_ne, updD_ne, ne_eq, Nat.reduceEqDiff, not_false_eq_true, stg_t, stg_f, vAd_s, vCap_s, blk_p, List.cons_append, List.nil_append, b2n_t, b2n_f, hN1_5, hN1_12]
      exact goW
    · intro ξ v; rfl
    · intro ξ k v S h3 hn hk
      first
      | rfl
    apply YSeq.w (by intro _ _ _; rfl)
    · intro ξ S h1 h2 h3 h4
      have hN2_3 := closed_false h1 h3 (k := 3) rfl (by decide)
      have hN2_4 := closed_false hN2_3 h3 (k := 4) rfl (by decide)
      have hN2_5 := closed_false hN2_4 h3 (k := 5) rfl (by decide)
      have hN2_12 := closed_false hN2_5 h3 (k := 12) rfl (by decide)
      try simp only [upd_same, updD_same, upd_ne, updD_ne, ne_eq, Nat.reduceEqDiff, not_false_eq_true, stg_t, stg_f, vAd_s, vCap_s, blk_p, List.cons_append, List.nil_append, b2n_t, b2n_f, hN2_5, hN2_12]
      exact goW
    · intro ξ v; rfl
    · intro ξ k v S h3 hn hk
      first
      | rfl
    apply YSeq.w (by intro _ _ _; rfl)
    · intro ξ S h1 h2 h3 h4
      have hN3_4 := closed_false h1 h3 (k := 4) rfl (by decide)
      have hN3_5 := closed_false hN3_4 h3 (k := 5) rfl (by decide)
      have hN3_12 := closed_false hN3_5 h3 (k := 12) rfl (by decide)
      try simp only [upd_same, updD_same, upd_ne, updD_ne, ne_eq, Nat.reduceEqDiff, not_false_eq_true, stg_t, stg_f, vAd_s, vCap_s, blk_p, List.cons_append, List.nil_append, b2n_t, b2n_f, hN3_5, hN3_12]
      exact goW
    · intro ξ v; rfl
    · intro ξ k v S h3 hn hk
      first
      | rfl
    apply YSeq.w (by intro _ _ _; rfl)
    · intro ξ S h1 h2 h3 h4
      have hN4_5 := closed_false h1 h3 (k := 5) rfl (by decide)
      have hN4_12 := closed_false hN4_5 h3 (k := 12) rfl (by decide)
      try simp only [upd_same, updD_same, upd_ne, updD_ne, ne_eq, Nat.reduceEqDiff, not_false_eq_true, stg_t, stg_f, vAd_s, vCap_s, blk_p, List.cons_append, List.nil_append, b2n_t, b2n_f, hN4_5, hN4_12]
      exact goW
    · intro ξ v; rfl
    · intro ξ k v S h3 hn hk
      first
      | rfl
    apply YSeq.callO ((intRows l).length)
    · intro ξ S h1 h2 h3 h4
      have hN5_12 := closed_false h1 h3 (k := 12) rfl (by decide)
      refine ⟨_, _, kcl, (Evs.cons rfl Evs.nil), (by first | rfl | simp | omega), fun ad cap => ?_⟩
      simp only [upd_same, updD_same, upd_ne, updD_ne, ne_eq, Nat.reduceEqDiff, not_false_eq_true, stg_t, stg_f, vAd_s, vCap_s, blk_p, List.cons_append, List.nil_append, b2n_t, b2n_f, h1, hN5_12]
      exact goXm
    apply YSeq.w (by intro _ _ _; rfl)
    · intro ξ S h1 h2 h3 h4
      have hN6_7 := closed_false h1 h3 (k := 7) rfl (by decide)
      have hN6_9 := closed_false hN6_7 h3 (k := 9) rfl (by decide)
      have hN6_10 := closed_false hN6_9 h3 (k := 10) rfl (by decide)
      have hN6_11 := closed_false hN6_10 h3 (k := 11) rfl (by decide)
      have hN6_12 := closed_false hN6_11 h3 (k := 12) rfl (by decide)
      try simp only [upd_same, updD_same, upd_ne, updD_ne, ne_eq, Nat.reduceEqDiff, not_false_eq_true, stg_t, stg_f, vAd_s, vCap_s, blk_p, List.cons_append, List.nil_append, b2n_t, b2n_f, hN6_12]
      exact goW
    · intro ξ v; rfl
    · intro ξ k v S h3 hn hk
      first
      | rfl
    apply YSeq.w (by intro _ _ _; rfl)
    · intro ξ S h1 h2 h3 h4
      have hN7_9 := closed_false h1 h3 (k := 9) rfl (by decide)
      have hN7_10 := closed_false hN7_9 h3 (k := 10) rfl (by decide)
      have hN7_11 := closed_false hN7_10 h3 (k := 11) rfl (by decide)
      have hN7_12 := closed_false hN7_11 h3 (k := 12) rfl (by decide)
      try simp only [upd_same, updD_same, upd_ne, updD_ne, ne_eq, Nat.reduceEqDiff, not_false_eq_true, stg_t, stg_f, vAd_s, vCap_s, blk_p, List.cons_append, List.nil_append, b2n_t, b2n_f, hN7_12]
      exact goW
    · intro ξ v; rfl
    · intro ξ k v S h3 hn hk
      first
      | rfl
    apply YSeq.w (by intro _ _ _; rfl)
    · intro ξ S h1 h2 h3 h4
      have hN8_9 := closed_false h1 h3 (k := 9) rfl (by decide)
      have hN8_10 := closed_false hN8_9 h3 (k := 10) rfl (by decide)
      have hN8_11 := closed_false hN8_10 h3 (k := 11) rfl (by decide)
      have hN8_12 := closed_false hN8_11 h3 (k := 12) rfl (by decide)
      try simp only [upd_same, updD_same, upd_ne, updD_ne, ne_eq, Nat.reduceEqDiff, not_false_eq_true, stg_t, stg_f, vAd_s, vCap_s, blk_p, List.cons_append, List.nil_append, b2n_t, b2n_f, hN8_12]
      exact goW
    · intro ξ v; rfl
    · intro ξ k v S h3 hn hk
      first
      | rfl
    apply YSeq.w (by intro _ _ _; rfl)
    · intro ξ S h1 h2 h3 h4
      have hN9_10 := closed_false h1 h3 (k := 10) rfl (by decide)
      have hN9_11 := closed_false hN9_10 h3 (k := 11) rfl (by decide)
      have hN9_12 := closed_false hN9_11 h3 (k := 12) rfl (by decide)
      try simp only [upd_same, updD_same, upd_ne, updD_ne, ne_eq, Nat.reduceEqDiff, not_false_eq_true, stg_t, stg_f, vAd_s, vCap_s, blk_p, List.cons_append, List.nil_append, b2n_t, b2n_f, hN9_12]
      exact goW
    · intro ξ v; rfl
    · intro ξ k v S h3 hn hk
      first
      | rfl
    apply YSeq.w (by intro _ _ _; rfl)
    · intro ξ S h1 h2 h3 h4
      have hN10_11 := closed_false h1 h3 (k := 11) rfl (by decide)
      have hN10_12 := closed_false hN10_11 h3 (k := 12) rfl (by decide)
      try simp only [upd_same, updD_same, upd_ne, updD_ne, ne_eq, Nat.reduceEqDiff, not_false_eq_true, stg_t, stg_f, vAd_s, vCap_s, blk_p, List.cons_append, List.nil_append, b2n_t, b2n_f, hN10_12]
      exact goW
    · intro ξ v; rfl
    · intro ξ k v S h3 hn hk
      first
      | rfl
    apply YSeq.w (by intro _ _ _; rfl)
    · intro ξ S h1 h2 h3 h4
      have hN11_12 := closed_false h1 h3 (k := 12) rfl (by decide)
      try simp only [upd_same, updD_same, upd_ne, updD_ne, ne_eq, Nat.reduceEqDiff, not_false_eq_true, stg_t, stg_f, vAd_s, vCap_s, blk_p, List.cons_append, List.nil_append, b2n_t, b2n_f, hN11_12]
      exact goW
    · intro ξ v; rfl
    · intro ξ k v S h3 hn hk
      first
      | rfl
    apply YSeq.append ((intRows l).length + 1)
    · intro ξ S h1 h2 h3 h4
      have hY12_5 : S 5 = true := h2 5 (by decide)
      simp only [upd_same, updD_same, upd_ne, updD_ne, ne_eq, Nat.reduceEqDiff, not_false_eq_true, stg_t, stg_f, vAd_s, vCap_s, blk_p, List.cons_append, List.nil_append, b2n_t, b2n_f, hY12_5, h1]
      refine ⟨_, _, _, _, _, _, rfl, rfl, goXp, (by first | rfl | (simp; done) | omega), (by first | rfl | omega | (simp; done) | (simp; omega)), (by first | omega | (simp; done) | (simp; omega)), (by first | omega | (simp; done) | (simp; omega)), fun ad' cap' => ?_⟩
      exact goXm
    apply YSeq.w (by intro _ _ _; rfl)
    · intro ξ S h1 h2 h3 h4
      have hY13_12 : S 12 = true := h2 12 (by decide)
      have hY13_5 : S 5 = true := h3 12 _ rfl hY13_12 5 (by decide)
      try simp only [upd_same, updD_same, upd_ne, updD_ne, ne_eq, Nat.reduceEqDiff, not_false_eq_true, stg_t, stg_f, vAd_s, vCap_s, blk_p, List.cons_append, List.nil_append, b2n_t, b2n_f, hY13_5, hY13_12]
      exact goW
    · intro ξ v; rfl
    · intro ξ k v S h3 hn hk
      first
      | rfl
      | skip
        have hY13_12 : S 12 = true := h3 13 _ rfl hn 12 (by decide)
        have hY13_5 : S 5 = true := h3 12 _ rfl hY13_12 5 (by decide)
        simp only [upd_S hY13_5 hk, upd_S hY13_12 hk]
    apply YSeq.w (by intro _ _ _; rfl)
    · intro ξ S h1 h2 h3 h4
      try simp only [upd_same, updD_same, upd_ne, updD_ne, ne_eq, Nat.reduceEqDiff, not_false_eq_true, stg_t, stg_f, vAd_s, vCap_s, blk_p, List.cons_append, List.nil_append, b2n_t, b2n_f]
      exact goW
    · intro ξ v; rfl
    · intro ξ k v S h3 hn hk
      first
      | rfl
    refine YSeq.nil fun ξ hf => ?_
    refine ⟨[(1, _), (3, _), (14, _), (15, _), (16, _), (36, _), (37, _), (38, _)], _, Ent.trans (Ent.eqc rfl (by first | (simp only [upd_same, updD_same, upd_ne, updD_ne, ne_eq, Nat.reduceEqDiff, not_false_eq_true, stg_t, stg_f, vAd_s, vCap_s, blk_p, List.cons_append, List.nil_append, b2n_t, b2n_f, ownV, slV, ptV] <;> rfl) | rfl)) (Ent.sub goSub), ?_⟩
    clear hf
    generalize vAd (ξ 5) = ad29
    generalize vCap (ξ 5) = cap29
    generalize vAd (ξ 12) = ad36
    generalize vCap (ξ 12) = cap36
    rw [hrow, hll]
    refine Then.norm ?_
    refine Cw.ent (Ent.settle (s := 36) rfl goPk hLn.symm) ?_
    have hLi := hLn2
    obtain ⟨m, hm⟩ : ∃ m, m = l ++ [u] := ⟨_, rfl⟩
    rw [← hm] at hnx hcs hb hLn hLn2 hrow ⊢
    obtain ⟨t1, ht1⟩ : ∃ t1, t1 = t ++ x := ⟨_, rfl⟩
    rw [← ht1] at hnx hcs ⊢
    clear kcl hLi hrow
    repeat' (first | refine goH ?_ | refine goV ?_ | refine goB (fun b => ?_) | refine goC (fun ad cap => ?_) | refine goI ?_ | (refine Cw.k_cond ?_; first | (refine Cw.cond_dec rfl (fun hc => ?_) (fun hc => ?_) <;> try (exfalso; omega)) | refine Cw.cond_bool rfl (fun hc => ?_) (fun hc => ?_)) | refine goR ?_ | refine goP ?_ | apply PSeq.cons | apply PSeq.yes rfl rfl rfl | exact goW | fail)
    refine Cw.loopI [(1, _), (14, _), (15, _), (16, _), (36, _), (37, _)] _ (fun q e c => ∃ (j : Nat) (t : ByteArray), q = m.length - j ∧ (j ≤ m.length ∧ t = ceT t1 (m.take j)) ∧ e = [(3, .str t), (38, .int j)] ∧ c = []) ⟨_, _, _, (Ent.mkP goSub goPm), 0, _, rfl, ⟨by omega, rfl⟩, rfl, rfl⟩ ?_
    clear hm ht1
    rintro _ _ _ ⟨j, t2, rfl, ⟨hj, ht2⟩, rfl, rfl⟩
    have hz := hcs j hj
    rw [← ht2] at hz
    by_cases hjl : j < m.length
    · obtain ⟨y, hy⟩ := at_lt hjl
      have hyb := hb y (List.mem_of_getElem? hy)
      have hr4 : (intRows m)[j]? = some [.int y] := intRows_at hy
      have kI := itoa_fn y (by omega) (by omega)
      have hX := itoaS_sz (x := y) (by omega) (by omega)
      have hny : t2 ++ (⟨#[32]⟩ ++ itoaS y) = ceT t1 (m.take (j + 1)) := by rw [List.take_add_one, hy]; show _ = ceT t1 (m.take j ++ [y]); rw [ceT_snoc, ht2]; rfl
      generalize itoaS y = Y at *
      have e1 : (⟨#[32]⟩ ++ Y : ByteArray).size = Y.size + 1 := by rw [ByteArray.size_append]; show 1 + Y.size = _; omega
      clear ht2 hcs hnx hts2
      repeat' (first | refine goH ?_ | (refine Ops.k_b_add ?_; first | (first | refine Ops.catB rfl rfl (by omega) rfl ?_ | refine Ops.add (by omega) rfl rfl rfl ?_)) | refine goV ?_ | refine goB (fun b => ?_) | refine goC (fun ad cap => ?_) | refine goI ?_ | (refine Cw.k_cond ?_; first | (refine Cw.cond_dec rfl (fun hc => ?_) (fun hc => ?_) <;> try (exfalso; omega)) | refine Cw.cond_bool rfl (fun hc => ?_) (fun hc => ?_)) | (refine Ops.k_calla ?_; first | (refine Ops.k_callf 23 ?_; (refine Ops.call kI (Evs.cons rfl Evs.nil) goPm rfl ?_; rintro r cs' ⟨rfl, rfl⟩))) | refine goR ?_ | refine goP ?_ | apply PSeq.cons | apply PSeq.yes rfl rfl rfl | exact goW | fail)
      exact ⟨_, _, _, (Ent.mk goSub goTk), ⟨j + 1, _, rfl, ⟨by omega, hny⟩, rfl, rfl⟩, by omega⟩
    · have hjn : j = m.length := by omega
      rw [hjn, List.take_length] at ht2
      have hn2 : t2 ++ (⟨#[10]⟩ : ByteArray) = boT w t0 (k + 1) := by rw [hnx, ht2]; rfl
      clear ht2 hcs hnx
      repeat' (first | refine goH ?_ | (refine Ops.k_b_add ?_; first | (first | refine Ops.catB rfl rfl (by omega) rfl ?_ | refine Ops.add (by omega) rfl rfl rfl ?_)) | refine goV ?_ | refine goB (fun b => ?_) | refine goC (fun ad cap => ?_) | refine goI ?_ | (refine Cw.k_cond ?_; first | (refine Cw.cond_dec rfl (fun hc => ?_) (fun hc => ?_) <;> try (exfalso; omega)) | refine Cw.cond_bool rfl (fun hc => ?_) (fun hc => ?_)) | refine goR ?_ | refine goP ?_ | apply PSeq.cons | apply PSeq.yes rfl rfl rfl | exact goW | fail)
      exact ⟨_, _, _, (Ent.mk goSub goTk), ⟨k + 1, _, rfl, ⟨by omega, hn2⟩, rfl, rfl⟩, by omega⟩
  · have hkn2 : k = w.sites.length := by omega
    subst hkn2
    rw [← ht]
    clear ht
    repeat' (first | refine goH ?_ | refine goV ?_ | refine goB (fun b => ?_) | refine goC (fun ad cap => ?_) | refine goI ?_ | (refine Cw.k_cond ?_; first | (refine Cw.cond_dec rfl (fun hc => ?_) (fun hc => ?_) <;> try (exfalso; omega)) | refine Cw.cond_bool rfl (fun hc => ?_) (fun hc => ?_)) | refine goR ?_ | refine goP ?_ | apply PSeq.cons | apply PSeq.yes rfl rfl rfl | exact goW | fail)
    all_goals first | (exfalso; omega) | exact Fin.ret (Ent.take goTk) (Outs.one rfl rfl) ⟨rfl, rfl⟩
end Lg
end
section
set_option linter.all false
set_option maxRecDepth 100000
set_option maxHeartbeats 4000000
namespace Lg
open Go Go.Proofs

/-! ### base.Number -/
theorem trimS_size (s : ByteArray) : (trimS s).size = (trimM s.data.toList).length := rfl
theorem trimS_by (s : ByteArray) (j : Nat) : sby (trimS s) j = (((trimM s.data.toList).getD j 0).toNat : Int) := by unfold sby; rfl
def numDV (n : Nat) (l : List UInt8) : Int := if okNum n l = true then valNum l else 0
theorem numDV_f {n : Nat} {l : List UInt8} (h : okNum n l = false) : numDV n l = 0 := by unfold numDV; rw [h, if_neg (by simp)]
theorem okNum_f {n : Nat} {l : List UInt8} (h : ¬ okNum n l = true) : okNum n l = false := by cases h2 : okNum n l; rfl; exact absurd h2 h
theorem all_dig_at {l : List UInt8} : l.all isDig = true ↔ ∀ j, j < l.length → isDig (l.getD j 0) = true := by
  rw [List.all_eq_true]
  constructor
  · intro h j hj
    rw [List.getD_eq_getElem?_getD, List.getElem?_eq_getElem hj]
    exact h _ (List.getElem_mem hj)
  · intro h x hx
    obtain ⟨j, hj, rfl⟩ := List.getElem_of_mem hx
    have := h j hj
    rw [List.getD_eq_getElem?_getD, List.getElem?_eq_getElem hj] at this
    exact this
theorem numberD_fn (s : ByteArray) (hs : s.size ≤ 1000000000) (n : Nat) (hn : n ≤ 18) : Spec Tryz.prog 37 [.str s, .int n] [numC] (fun r cs => r = .tup [.int (numDV n s.data.toList), .bool (okNum n s.data.toList)] ∧ cs = [numC]) := by
  have k1 := atoi_fn s hs
  have k3 := trimP_fn s
  have hd := trimS_size s
  have hb := trimS_by s
  have hsl := str_list s
  have hle := trimM_le s.data.toList
  have hok := okNum_iff (n := n) (l := s.data.toList)
  have hat := fun h => ok_atoiB hn (l := s.data.toList) h
  have hV : okNum n s.data.toList = true → numDV n s.data.toList = valNum s.data.toList := fun h => by unfold numDV; rw [if_pos h]
  have hF : ¬ okNum n s.data.toList = true → numDV n s.data.toList = 0 ∧ okNum n s.data.toList = false := fun h => ⟨numDV_f (okNum_f h), okNum_f h⟩
  have hhd : (trimM s.data.toList).head? = some 48 ↔ ((trimM s.data.toList) ≠ [] ∧ sby (trimS s) 0 = 48) := by
    rw [hb]
    cases trimM s.data.toList with
    | nil => simp
    | cons c r =>
      simp only [List.head?_cons, Option.some.injEq, List.getD_cons_zero, ne_eq, reduceCtorEq, not_false_eq_true, true_and]
      constructor
      · rintro rfl; rfl
      · intro h
        have : c.toNat = 48 := by omega
        exact UInt8.toNat_inj.1 this
  have hne : (trimM s.data.toList) ≠ [] ↔ trimS s ≠ ⟨#[]⟩ := by
    rw [ne_eq, ne_eq, str_empty, hd, List.length_eq_zero_iff]
  have hdl : ∀ j, j < (trimS s).size → (isDig ((trimM s.data.toList).getD j 0) = true ↔ ¬ sby (trimS s) j < 48 ∧ ¬ 57 < sby (trimS s) j) := fun j hj => by
    rw [hb]
    unfold isDig
    rw [decide_eq_true_iff]
    omega
  have hal := all_dig_at (l := trimM s.data.toList)
  rw [← hd] at hal hok hle
  rw [hhd, hne] at hok
  generalize numDV n s.data.toList = V at *
  generalize okNum n s.data.toList = o at *
  generalize valNum s.data.toList = W at *
  generalize atoiB s.data.toList = ab at *
  generalize atoiV s.data.toList = av at *
  generalize (trimM s.data.toList).all isDig = al at *
  have hal2 : al = true ↔ ∀ j, j < (trimS s).size → (¬ sby (trimS s) j < 48 ∧ ¬ 57 < sby (trimS s) j) := by
    rw [hal]
    exact ⟨fun h j hj => (hdl j hj).1 (h j hj), fun h j hj => (hdl j hj).2 (h j hj)⟩
  clear hal hdl hb hd hhd hne
  rw [← hsl] at hle hok
  clear hsl
  generalize hD : trimS s = D at *
  refine Spec.body Tryz.func37 rfl rfl (Tryz.ntmps37) rfl fun w0 own0 M => ?_
  have bad : ¬ o = true → V = 0 ∧ o = false := hF
  by_cases h1 : D = ⟨#[]⟩
  · obtain ⟨b1, b2⟩ := bad (fun h => (hok.1 h).1.1 h1)
    rw [b1, b2]
    repeat' (first | refine goH ?_ | refine goV ?_ | refine goG ?_ | (refine Ops.k_guard ?_; first | (refine Ops.guard_dec rfl rfl (fun hc => ?_) (fun hc => ?_) <;> try (exfalso; omega)) | refine Ops.guard_split rfl rfl (fun hc => ?_) (fun hc => ?_)) | refine goI ?_ | (refine Cw.k_cond ?_; first | (refine Cw.cond_dec rfl (fun hc => ?_) (fun hc => ?_) <;> try (exfalso; omega)) | refine Cw.cond_bool rfl (fun hc => ?_) (fun hc => ?_)) | (refine Ops.k_calla ?_; first | (refine Ops.k_callf 63 ?_; refine Ops.callV k3 (Evs.cons rfl (Evs.cons rfl Evs.nil)) rfl ?_)) | (apply OpW.k_call; first | (apply OpW.k_callf 63; exact OpW.callV k3 (Evs.cons rfl (Evs.cons rfl Evs.nil)))) | refine goR ?_ | refine goP ?_ | apply PSeq.cons | apply PSeq.yes rfl rfl rfl | exact goW | fail)
    all_goals first | (exfalso; contradiction) | exact Fin.ret (Ent.take goTk) (Outs.two rfl rfl rfl) ⟨rfl, rfl⟩
  have hD0 : D.size ≠ 0 := fun h => h1 ((str_empty D).2 h)
  by_cases h2 : n < D.size
  · obtain ⟨b1, b2⟩ := bad (fun h => by have := (hok.1 h).1.2.1; omega)
    rw [b1, b2]
    repeat' (first | refine goH ?_ | refine goV ?_ | refine goG ?_ | (refine Ops.k_guard ?_; first | (refine Ops.guard_dec rfl rfl (fun hc => ?_) (fun hc => ?_) <;> try (exfalso; omega)) | refine Ops.guard_split rfl rfl (fun hc => ?_) (fun hc => ?_)) | refine goI ?_ | (refine Cw.k_cond ?_; first | (refine Cw.cond_dec rfl (fun hc => ?_) (fun hc => ?_) <;> try (exfalso; omega)) | refine Cw.cond_bool rfl (fun hc => ?_) (fun hc => ?_)) | (refine Ops.k_calla ?_; first | (refine Ops.k_callf 63 ?_; refine Ops.callV k3 (Evs.cons rfl (Evs.cons rfl Evs.nil)) rfl ?_)) | (apply OpW.k_call; first | (apply OpW.k_callf 63; exact OpW.callV k3 (Evs.cons rfl (Evs.cons rfl Evs.nil)))) | refine goR ?_ | refine goP ?_ | apply PSeq.cons | apply PSeq.yes rfl rfl rfl | exact goW | fail)
    all_goals first | (exfalso; contradiction) | (exfalso; omega) | exact Fin.ret (Ent.take goTk) (Outs.two rfl rfl rfl) ⟨rfl, rfl⟩
  by_cases h3 : sby D 0 = 48 ∧ (1 < D.size ∨ D.size < s.size)
  · obtain ⟨b1, b2⟩ := bad (fun h => (hok.1 h).1.2.2 ⟨⟨h1, h3.1⟩, h3.2⟩)
    rw [b1, b2]
    obtain ⟨h4, h5⟩ := h3
    repeat' (first | refine goH ?_ | refine goV ?_ | refine goG ?_ | (refine Ops.k_guard ?_; first | (refine Ops.guard_dec rfl rfl (fun hc => ?_) (fun hc => ?_) <;> try (exfalso; omega)) | refine Ops.guard_split rfl rfl (fun hc => ?_) (fun hc => ?_)) | refine goI ?_ | (refine Cw.k_cond ?_; first | (refine Cw.cond_dec rfl (fun hc => ?_) (fun hc => ?_) <;> try (exfalso; omega)) | refine Cw.cond_bool rfl (fun hc => ?_) (fun hc => ?_)) | (refine Ops.k_calla ?_; first | (refine Ops.k_callf 63 ?_; refine Ops.callV k3 (Evs.cons rfl (Evs.cons rfl Evs.nil)) rfl ?_)) | (apply OpW.k_call; first | (apply OpW.k_callf 63; exact OpW.callV k3 (Evs.cons rfl (Evs.cons rfl Evs.nil)))) | refine goR ?_ | refine goP ?_ | apply PSeq.cons | apply PSeq.yes rfl rfl rfl | exact goW | fail)
    all_goals first | (exfalso; contradiction) | (exfalso; omega) | exact Fin.ret (Ent.take goTk) (Outs.two rfl rfl rfl) ⟨rfl, rfl⟩
  have hsz : D.size ≤ 1000000000 := by omega
  by_cases h4 : sby D 0 = 48
  all_goals
    repeat' (first | refine goH ?_ | refine goV ?_ | refine goG ?_ | (refine Ops.k_guard ?_; first | (refine Ops.guard_dec rfl rfl (fun hc => ?_) (fun hc => ?_) <;> try (exfalso; omega)) | refine Ops.guard_split rfl rfl (fun hc => ?_) (fun hc => ?_)) | refine goI ?_ | (refine Cw.k_cond ?_; first | (refine Cw.cond_dec rfl (fun hc => ?_) (fun hc => ?_) <;> try (exfalso; omega)) | refine Cw.cond_bool rfl (fun hc => ?_) (fun hc => ?_)) | (refine Ops.k_calla ?_; first | (refine Ops.k_callf 63 ?_; refine Ops.callV k3 (Evs.cons rfl (Evs.cons rfl Evs.nil)) rfl ?_)) | (apply OpW.k_call; first | (apply OpW.k_callf 63; exact OpW.callV k3 (Evs.cons rfl (Evs.cons rfl Evs.nil)))) | refine goR ?_ | refine goP ?_ | apply PSeq.cons | apply PSeq.yes rfl rfl rfl | exact goW | fail)
    all_goals try first | (exfalso; contradiction) | (exfalso; omega)
    refine Cw.loopI [(0, _), (1, _), (6, _), (38, _)] _ (fun q e c => ∃ i : Nat, q = D.size - i ∧ (i ≤ D.size ∧ ∀ j, j < i → (¬ sby D j < 48 ∧ ¬ 57 < sby D j)) ∧ e = [(39, .int i)] ∧ c = []) ⟨_, _, _, (Ent.mkP goSub goPm), 0, rfl, ⟨by omega, fun j h => by omega⟩, rfl, rfl⟩ ?_
    rintro _ _ _ ⟨i, rfl, ⟨hi, hpre⟩, rfl, rfl⟩
    by_cases hil : i < D.size
    · by_cases g1 : sby D i < 48 ∨ 57 < sby D i
      · obtain ⟨b1, b2⟩ := bad (fun h => by have := hal2.1 (hok.1 h).2 i hil; omega)
        rw [b1, b2]
        repeat' (first | refine goH ?_ | refine goV ?_ | refine goG ?_ | (refine Ops.k_guard ?_; first | (refine Ops.guard_dec rfl rfl (fun hc => ?_) (fun hc => ?_) <;> try (exfalso; omega)) | refine Ops.guard_split rfl rfl (fun hc => ?_) (fun hc => ?_)) | refine goI ?_ | (refine Cw.k_cond ?_; first | (refine Cw.cond_dec rfl (fun hc => ?_) (fun hc => ?_) <;> try (exfalso; omega)) | refine Cw.cond_bool rfl (fun hc => ?_) (fun hc => ?_)) | refine goR ?_ | refine goP ?_ | apply PSeq.cons | apply PSeq.yes rfl rfl rfl | exact goW | fail)
        all_goals first | (exfalso; omega) | exact Fin.ret (Ent.take goTk) (Outs.two rfl rfl rfl) ⟨rfl, rfl⟩
      · have hnx : ∀ j, j < i + 1 → (¬ sby D j < 48 ∧ ¬ 57 < sby D j) := fun j hj => by
          by_cases e : j = i
          · subst e; omega
          · exact hpre j (by omega)
        clear hpre
        repeat' (first | refine goH ?_ | refine goV ?_ | refine goG ?_ | (refine Ops.k_guard ?_; first | (refine Ops.guard_dec rfl rfl (fun hc => ?_) (fun hc => ?_) <;> try (exfalso; omega)) | refine Ops.guard_split rfl rfl (fun hc => ?_) (fun hc => ?_)) | refine goI ?_ | (refine Cw.k_cond ?_; first | (refine Cw.cond_dec rfl (fun hc => ?_) (fun hc => ?_) <;> try (exfalso; omega)) | refine Cw.cond_bool rfl (fun hc => ?_) (fun hc => ?_)) | refine goR ?_ | refine goP ?_ | apply PSeq.cons | apply PSeq.yes rfl rfl rfl | exact goW | fail)
        all_goals first | (exfalso; omega) | exact ⟨_, _, _, (Ent.mk goSub goTk), ⟨i + 1, rfl, ⟨by omega, hnx⟩, rfl, rfl⟩, by omega⟩
    · have hiD : i = D.size := by omega
      have ho : o = true := hok.2 ⟨⟨h1, by omega, fun h => h3 ⟨h.1.2, h.2⟩⟩, hal2.2 fun j hj => hpre j (by omega)⟩
      obtain ⟨a1, a2⟩ := hat ho
      have a3 := hV ho
      rw [a1, a2] at k1
      rw [ho, a3]
      clear hpre
      repeat' (first | refine goH ?_ | refine goV ?_ | refine goG ?_ | (refine Ops.k_guard ?_; first | (refine Ops.guard_dec rfl rfl (fun hc => ?_) (fun hc => ?_) <;> try (exfalso; omega)) | refine Ops.guard_split rfl rfl (fun hc => ?_) (fun hc => ?_)) | refine goI ?_ | (refine Cw.k_cond ?_; first | (refine Cw.cond_dec rfl (fun hc => ?_) (fun hc => ?_) <;> try (exfalso; omega)) | refine Cw.cond_bool rfl (fun hc => ?_) (fun hc => ?_)) | exact OpV.w (OpV.eqlNil rfl) | (refine Ops.k_calla ?_; first | (refine Ops.k_callf 64 ?_; (refine Ops.call k1 (Evs.cons rfl Evs.nil) goPm rfl ?_; rintro r cs' ⟨rfl, rfl⟩))) | refine goR ?_ | refine goP ?_ | apply PSeq.cons | apply PSeq.yes rfl rfl rfl | exact goW | fail)
      exact Fin.ret (Ent.take goTk) (Outs.two rfl rfl rfl) ⟨rfl, rfl⟩
end Lg
end
