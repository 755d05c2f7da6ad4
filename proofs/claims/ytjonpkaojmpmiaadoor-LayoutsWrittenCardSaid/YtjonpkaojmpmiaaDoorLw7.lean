/- A part of the proof of a law of this seat: it adds no condition. By an AI agent. -/
import Derived.ChangeKeysEq
import Derived.KernelRfl
import Derived.Test.YtjonpkaojmpmiaaDoorLw5
import Derived.Test.YtjonpkaojmpmiaaDoorLw6
import Derived.Test.YtjonpkaojmpmiaaDoorLaw
set_option linter.all false
set_option maxRecDepth 100000
set_option maxHeartbeats 8000000
namespace Lg
open Go Go.Proofs

theorem tke_eq0 (n : Nat) (r : Int) (p q : ByteArray) (w : World) : (Op.equalIn (n + 1 + 1) 40 (.agg #[.int .i64 r, .string p, .string q]) (.agg #[.int .i64 r, .string p, .string q])).run Tryd.prog w = .ok true w := by
  have hs : Tryd.prog.stoodInHeld 40 = false := by kernel_rfl
  simp [Op.equalIn, run_underlying Tryd.underlying40, run_underlying Tryd.underlying9, run_underlying Tryd.underlying3, ba_self, hs, part, Go.sizeOf, typeInfo]
theorem tke_ne1 (r : Int) (p q : ByteArray) (w : World) : (binOp .neq 40 (.agg #[.int .i64 r, .string p, .string q]) (.agg #[.int .i64 r, .string p, .string q])).run Tryd.prog w = .ok (.bool false) w := by
  show (do let r ← Op.equalIn (9998 + 1 + 1) 40 _ _; pure (Value.bool !r) : Sem Value).run Tryd.prog w = _
  have := tke_eq0 9998 r p q w
  generalize Op.equalIn (9998 + 1 + 1) 40 (.agg #[.int .i64 r, .string p, .string q]) (.agg #[.int .i64 r, .string p, .string q]) = s at *
  simp [this]
section
variable {Γ : Ctx} {env : Env} {cs : List Chunk} {x y : Operand} {T2 ty : TypeId}
theorem OpV.tke_ne_f {r : Int} {p q : ByteArray} (hx : ev env x = some (.agg ([.int .i64 r, .string p, .string q].map Tr.raw))) (hy : ev env y = some (.agg ([.int .i64 r, .string p, .string q].map Tr.raw))) : OpV Tryd.prog Γ (.binOp .neq 40 x y T2) ty env cs (.bool false) := by
  unfold OpV
  intro ac w d
  have h1 := agg_raw (l := [.int .i64 r, .string p, .string q]) (d.ev hx)
  have h2 := agg_raw (l := [.int .i64 r, .string p, .string q]) (d.ev hy)
  have h3 := tke_ne1 r p q w
  have h4 : (eqGuard .neq 40 x y (.agg #[.int .i64 r, .string p, .string q]) (.agg #[.int .i64 r, .string p, .string q])).run Tryd.prog w = .ok () w := by simp [eqGuard]
  exact ⟨.bool false, by simp [execOp, h1, h2, h3, h4], by unfold Tr.bool Tr.raw; rfl⟩
end
theorem equal_tke (xs : List Tk) (h : xs.length ≤ 1000000000) : PFn Tryd.prog 9 [.sl 3 (xs.map Tk.row), .sl 3 (xs.map Tk.row)] (· = .bool true) := by
  refine PFn.mk (Spec.body Tryd.func9 rfl rfl (Tryd.ntmps9) rfl fun w0 own0 M => ?_)
  have hL : (xs.map Tk.row).length = xs.length := List.length_map _
  repeat' (first | refine goH ?_ | refine goV ?_ | refine goI ?_ | (refine Cw.k_cond ?_; first | (refine Cw.cond_dec rfl (fun hc => ?_) (fun hc => ?_) <;> try (exfalso; omega)) | refine Cw.cond_bool rfl (fun hc => ?_) (fun hc => ?_)) | refine goR ?_ | refine goP ?_ | apply PSeq.cons | apply PSeq.yes rfl rfl rfl | exact goW | fail)
  refine Cw.loop (ι := Nat) (fun k => k ≤ xs.length) (fun k => [(0, .sl 3 (xs.map Tk.row)), (1, .sl 3 (xs.map Tk.row)), (11, .sl 3 (xs.map Tk.row)), (12, .int (xs.map Tk.row).length), (13, .int k)]) (fun _ => []) (fun k => xs.length - k) ⟨0, by omega, (Ent.mk goSub goTk)⟩ ?_
  intro k hk
  by_cases hkl : k < xs.length
  · obtain ⟨d, hd⟩ : ∃ x, xs[k]? = some x := ⟨_, List.getElem?_eq_getElem hkl⟩
    have hrow : (xs.map Tk.row)[k]? = some [.int d.slot, .str d.fr, .str d.to] := rows_at hd
    repeat' (first | refine goH ?_ | refine goV ?_ | refine goI ?_ | (refine Cw.k_cond ?_; first | (refine Cw.cond_dec rfl (fun hc => ?_) (fun hc => ?_) <;> try (exfalso; omega)) | refine Cw.cond_bool rfl (fun hc => ?_) (fun hc => ?_)) | (apply OpV.w; apply OpV.tke_ne_f; exact rfl; exact rfl) | refine goR ?_ | refine goP ?_ | apply PSeq.cons | apply PSeq.yes rfl rfl rfl | exact goW | fail)
    exact ⟨k + 1, by omega, by omega, (Ent.mk goSub goTk)⟩
  · repeat' (first | refine goH ?_ | refine goV ?_ | refine goI ?_ | (refine Cw.k_cond ?_; first | (refine Cw.cond_dec rfl (fun hc => ?_) (fun hc => ?_) <;> try (exfalso; omega)) | refine Cw.cond_bool rfl (fun hc => ?_) (fun hc => ?_)) | refine goR ?_ | refine goP ?_ | apply PSeq.cons | apply PSeq.yes rfl rfl rfl | exact goW | fail)
    exact Fin.ret Ent.refl (Outs.one rfl rfl) ⟨rfl, rfl⟩

def doL (x : List ByteArray) (t : List Tk) : List ByteArray := if doC x t = 0 then doF x t else []
theorem doL_len (x : List ByteArray) (t : List Tk) : (doL x t).length ≤ x.length := by
  unfold doL
  split
  · rw [doF_len]; exact Nat.le_refl _
  · simp
theorem do2_fn (x : List ByteArray) (hx : x.length ≤ 1000) (t : List Tk) (ht : t.length ≤ 1000) : PFn Tryd.prog 12 [.strs x, .tks t] (· = .tup [.strs (doL x t), .int (doC x t)]) := do_fn x hx t ht
theorem doneOf2_fn (x : List ByteArray) (hx : x.length ≤ 1000) (t : List Tk) (ht : t.length ≤ 1000) : PFn Tryd.prog 13 [.strs x, .tks t] (· = .tup [.strs (doL x t), .int (doC x t)]) := doneOf_fn x hx t ht
def psX (r c : Int) (s : ByteArray) : List ByteArray × Int × Int := if lpE r c s ≠ 0 then ([], 0, lpE r c s) else lpF r.toNat c.toNat (splS 10 s) 0 []
theorem lpF_len (R C : Nat) : ∀ (L : List ByteArray) (n : Nat) (out : List ByteArray), (lpF R C L n out).1.length ≤ out.length + C * L.length
  | [], n, out => by rw [lpF]; simp
  | [s], n, out => by
    rw [lpF_one]
    split
    · split
      · simp only; omega
      · simp
    · simp
  | w :: s :: l, n, out => by
    rw [lpF_cons R C w (by simp)]
    split
    · simp
    · rename_i h
      have hC : (splS 32 w).length = C := by
        unfold badP at h
        rw [Bool.or_eq_true, not_or] at h
        have := h.1
        simpa using this
      have ih := lpF_len R C (s :: l) (n + 1) (out ++ (splS 32 w).map undot)
      rw [List.length_append, List.length_map, hC] at ih
      rw [List.length_cons (a := w), Nat.mul_add]
      omega
theorem psX_len (r c : Int) (s : ByteArray) (hs : s.size ≤ 150000) (hc : c ≤ 1000) : (psX r c s).1.length ≤ 1000000000 := by
  unfold psX
  split
  · simp
  · have h1 := lpF_len r.toNat c.toNat (splS 10 s) 0 []
    have h2 := splS_len 10 s
    have h3 := countByte_le s.data.toList 10
    have h4 := str_list s
    have h5 : c.toNat * (splS 10 s).length ≤ 1000 * 150001 := Nat.mul_le_mul (by omega) (by omega)
    simp only [List.length_nil] at h1
    omega
theorem lpE_ok {r c : Int} {s : ByteArray} (h : lpE r c s = 0) : rackE r c = 0 ∧ s.size ≤ 200000 := by
  unfold lpE at h
  by_cases h1 : rackE r c ≠ 0
  · rw [if_pos h1] at h; exact absurd h h1
  rw [if_neg h1] at h
  by_cases h2 : s.size > 200000
  · rw [if_pos h2] at h; cases h
  exact ⟨by omega, by omega⟩
theorem parse2_fn (r c : Int) (s : ByteArray) (hs : s.size ≤ 150000) : PFn Tryd.prog 19 [.agg [.int r, .int c], .str s] (· = .tup [.strs (psX r c s).1, .int (psX r c s).2.1, .int (psX r c s).2.2]) := by
  show PFn Tryd.prog 19 [.agg [.int r, .int c], .str s] (· = lpT (psX r c s))
  unfold psX
  by_cases h : lpE r c s ≠ 0
  · rw [if_pos h]
    exact parse_bad r c s (by omega) h
  · rw [if_neg h]
    obtain ⟨h1, h2⟩ := lpE_ok (show lpE r c s = 0 by omega)
    have h3 := rackE_bd h1
    obtain ⟨R, rfl⟩ : ∃ R : Nat, r = R := ⟨r.toNat, by omega⟩
    obtain ⟨C, rfl⟩ : ∃ C : Nat, c = C := ⟨c.toNat, by omega⟩
    exact parse_ok R C (by omega) (by omega) h1 s h2
theorem from2_fn (r c : Int) (s : ByteArray) (hs : s.size ≤ 150000) : PFn Tryd.prog 20 [.agg [.int r, .int c], .str s] (· = .tup [.strs (psX r c s).1, .int (psX r c s).2.1, .int (psX r c s).2.2]) := by
  show PFn Tryd.prog 20 [.agg [.int r, .int c], .str s] (· = lpT (psX r c s))
  unfold psX
  by_cases h : lpE r c s ≠ 0
  · rw [if_pos h]
    exact layoutFrom_bad r c s (by omega) h
  · rw [if_neg h]
    obtain ⟨h1, h2⟩ := lpE_ok (show lpE r c s = 0 by omega)
    have h3 := rackE_bd h1
    obtain ⟨R, rfl⟩ : ∃ R : Nat, r = R := ⟨r.toNat, by omega⟩
    obtain ⟨C, rfl⟩ : ∃ C : Nat, c = C := ⟨c.toNat, by omega⟩
    exact layoutFrom_ok R C (by omega) (by omega) h1 s h2
theorem tasks_both (x y : List ByteArray) (hx : x.length ≤ 100) (hy : y.length ≤ 100) : ∃ A : List Tk, A.length ≤ 1000 ∧ PFn Tryd.prog 7 [.strs x, .strs y] (· = .tup [.tks A, .int (tskE x y)]) ∧ (tskE x y = 0 → PFn Tryd.prog 10 [.strs x, .strs y] (· = .tks A)) := by
  have k := tasks_fn x y (by omega) (by omega)
  by_cases hE : tskE x y = 0
  · have q2 : x.length = y.length := by
      have hE := hE
      unfold tskE at hE
      have hc : chgE x y = 0 := Classical.byContradiction fun h => by rw [if_pos h] at hE; exact h hE
      unfold chgE at hc
      split at hc
      · omega
      · split at hc
        · omega
        · omega
    rw [if_neg (by omega)] at k
    exact ⟨_, by rw [tkL_len]; have := difN_len x y x.length; omega, k, fun _ => tasksOf_fn x y (by omega) q2⟩
  · rw [if_pos hE] at k
    exact ⟨_, by simp, k, fun h => absurd h hE⟩
theorem print_both (r c : Int) (hr : -1000 ≤ r ∧ r ≤ 1000) (hc : -1000 ≤ c ∧ c ≤ 1000) (x : List ByteArray) (hx : x.length ≤ 100) : ∃ T : ByteArray, PFn Tryd.prog 15 [.agg [.int r, .int c], .strs x] (· = .tup [.str T, .int (prtE r c x)]) ∧ (prtE r c x = 0 → PFn Tryd.prog 17 [.agg [.int r, .int c], .strs x] (· = .str T)) := by
  by_cases hE : prtE r c x = 0
  · obtain ⟨h1, h2, h3⟩ := prtE_ok hE
    have h4 := rackE_bd h1
    obtain ⟨R, rfl⟩ : ∃ R : Nat, r = R := ⟨r.toNat, by omega⟩
    obtain ⟨C, rfl⟩ : ∃ C : Nat, c = C := ⟨c.toNat, by omega⟩
    have h5 : x.length = R * C := by
      have : (x.length : Int) = ((R * C : Nat) : Int) := by rw [h2]; push_cast; rfl
      exact Int.ofNat.inj this
    refine ⟨layT C x x.length, ?_, fun _ => layoutText_fn R C (by omega) (by omega) x (by omega) (odd_size h3)⟩
    rw [hE]
    exact print_ok R C (by omega) (by omega) h1 x h5 (by omega) h3 (odd_size h3)
  · exact ⟨_, print_bad r c hr hc x (by omega) hE, fun h => absurd h hE⟩
attribute [local irreducible] psX doL doC tskE prtE splS layT
theorem layoutsWritten_law (xs : List Int) : Spec Tryd.prog 3 [Tr.ints xs] [] (fun r _ => r = Tr.bool true) := by
  refine Spec.body Tryd.func3 rfl rfl (Tryd.ntmps3) rfl fun w0 own0 M => ?_
  repeat' (first | refine goH ?_ | refine goV ?_ | refine goB (fun b => ?_) | refine goG ?_ | (refine Ops.k_guard ?_; first | (refine Ops.guard_dec rfl rfl (fun hc => ?_) (fun hc => ?_) <;> try (exfalso; omega)) | refine Ops.guard_split rfl rfl (fun hc => ?_) (fun hc => ?_)) | refine goI ?_ | (refine Cw.k_cond ?_; first | (refine Cw.cond_dec rfl (fun hc => ?_) (fun hc => ?_) <;> try (exfalso; omega)) | refine Cw.cond_bool rfl (fun hc => ?_) (fun hc => ?_)) | refine Ops.shut0 (ty := 25) rfl ?_ | (refine Ops.k_calla ?_; first | (refine Ops.k_callf 4 ?_; (refine Ops.callG rack_gen (Evs.cons rfl Evs.nil) goPk (by omega) rfl ?_; rintro x ⟨r, c, rfl, hr, hc⟩)) | (refine Ops.k_callf 5 ?_; (refine Ops.callG (rightOffersV_gen 4 (by omega)) (Evs.cons rfl (Evs.cons rfl Evs.nil)) goPk (by omega) rfl ?_; rintro x ⟨l, rfl, hl⟩))) | fail)
  rename_i bs
  have hrc : 0 ≤ r * c ∧ r * c ≤ 110 := by
    refine ⟨Int.mul_nonneg hr.1 hc.1, ?_⟩
    have := Int.mul_le_mul hr.2 hc.2 hc.1 (by omega : (0 : Int) ≤ 11)
    omega
  have hm64 : -9223372036854775808 ≤ r * c ∧ r * c ≤ 9223372036854775807 := by omega
  first | refine Cw.region_YP (fun ξ S => [Chunk.box b 27 [.int r, .int c], Chunk.strm 25 bs (intRows xs) (406 + 150 * (b2n (S 7) + b2n (S 15)))]) rfl (by decide +kernel) rfl ((fun (ξ : Nat → Value) (S : Nat → Bool) => [Chunk.box b 27 [.int r, .int c], Chunk.strm 25 bs (intRows xs) (406 + 150 * (b2n (S 7) + b2n (S 15)))]) (fun _ => undef) (fun _ => false)) (by simp only [upd_same, updD_same, upd_ne, updD_ne, ne_eq, Nat.reduceEqDiff, not_false_eq_true, stg_t, stg_f, vAd_s, vCap_s, blk_p, List.cons_append, List.nil_append, b2n_t, b2n_f]; exact goXm) (fun _ => rfl) ?_ | fail
  apply YSeq.w (by intro _ _ _; rfl)
  · intro ξ S h1 h2 h3 h4
    have hN0_7 := closed_false h1 h3 (k := 7) rfl (by decide)
    have hN0_15 := closed_false hN0_7 h3 (k := 15) rfl (by decide)
    try simp only [upd_same, updD_same, upd_ne, updD_ne, ne_eq, Nat.reduceEqDiff, not_false_eq_true, stg_t, stg_f, vAd_s, vCap_s, blk_p, List.cons_append, List.nil_append, b2n_t, b2n_f, hN0_7, hN0_15]
    exact goW
  · intro ξ v; rfl
  · intro ξ k v S h3 hn hk
    first
    | rfl
  apply YSeq.w (by intro _ _ _; rfl)
  · intro ξ S h1 h2 h3 h4
    have hN1_2 := closed_false h1 h3 (k := 2) rfl (by decide)
    have hN1_5 := closed_false hN1_2 h3 (k := 5) rfl (by decide)
    have hN1_7 := closed_false hN1_5 h3 (k := 7) rfl (by decide)
    have hN1_15 := closed_false hN1_7 h3 (k := 15) rfl (by decide)
    try simp only [upd_same, updD_same, upd_ne, updD_ne, ne_eq, Nat.reduceEqDiff, not_false_eq_true, stg_t, stg_f, vAd_s, vCap_s, blk_p, List.cons_append, List.nil_append, b2n_t, b2n_f, hN1_7, hN1_15]
    exact goW
  · intro ξ v; rfl
  · intro ξ k v S h3 hn hk
    first
    | rfl
  apply YSeq.w (by intro _ _ _; rfl)
  · intro ξ S h1 h2 h3 h4
    have hN2_5 := closed_false h1 h3 (k := 5) rfl (by decide)
    have hN2_7 := closed_false hN2_5 h3 (k := 7) rfl (by decide)
    have hN2_15 := closed_false hN2_7 h3 (k := 15) rfl (by decide)
    try simp only [upd_same, updD_same, upd_ne, updD_ne, ne_eq, Nat.reduceEqDiff, not_false_eq_true, stg_t, stg_f, vAd_s, vCap_s, blk_p, List.cons_append, List.nil_append, b2n_t, b2n_f, hN2_7, hN2_15]
    exact goW
  · intro ξ v; rfl
  · intro ξ k v S h3 hn hk
    first
    | rfl
  apply YSeq.w (by intro _ _ _; rfl)
  · intro ξ S h1 h2 h3 h4
    have hN3_4 := closed_false h1 h3 (k := 4) rfl (by decide)
    have hN3_5 := closed_false hN3_4 h3 (k := 5) rfl (by decide)
    have hN3_7 := closed_false hN3_5 h3 (k := 7) rfl (by decide)
    have hN3_15 := closed_false hN3_7 h3 (k := 15) rfl (by decide)
    try simp only [upd_same, updD_same, upd_ne, updD_ne, ne_eq, Nat.reduceEqDiff, not_false_eq_true, stg_t, stg_f, vAd_s, vCap_s, blk_p, List.cons_append, List.nil_append, b2n_t, b2n_f, hN3_7, hN3_15]
    exact goW
  · intro ξ v; rfl
  · intro ξ k v S h3 hn hk
    first
    | rfl
  apply YSeq.w (by intro _ _ _; rfl)
  · intro ξ S h1 h2 h3 h4
    have hN4_5 := closed_false h1 h3 (k := 5) rfl (by decide)
    have hN4_7 := closed_false hN4_5 h3 (k := 7) rfl (by decide)
    have hN4_15 := closed_false hN4_7 h3 (k := 15) rfl (by decide)
    try simp only [upd_same, updD_same, upd_ne, updD_ne, ne_eq, Nat.reduceEqDiff, not_false_eq_true, stg_t, stg_f, vAd_s, vCap_s, blk_p, List.cons_append, List.nil_append, b2n_t, b2n_f, hN4_7, hN4_15]
    exact goW
  · intro ξ v; rfl
  · intro ξ k v S h3 hn hk
    first
    | rfl
  apply YSeq.w (by intro _ _ _; rfl)
  · intro ξ S h1 h2 h3 h4
    have hN5_7 := closed_false h1 h3 (k := 7) rfl (by decide)
    have hN5_15 := closed_false hN5_7 h3 (k := 15) rfl (by decide)
    try simp only [upd_same, updD_same, upd_ne, updD_ne, ne_eq, Nat.reduceEqDiff, not_false_eq_true, stg_t, stg_f, vAd_s, vCap_s, blk_p, List.cons_append, List.nil_append, b2n_t, b2n_f, hN5_7, hN5_15]
    exact goW
  · intro ξ v; rfl
  · intro ξ k v S h3 hn hk
    first
    | rfl
  apply YSeq.w (by intro _ _ _; rfl)
  · intro ξ S h1 h2 h3 h4
    have hN6_7 := closed_false h1 h3 (k := 7) rfl (by decide)
    have hN6_15 := closed_false hN6_7 h3 (k := 15) rfl (by decide)
    try simp only [upd_same, updD_same, upd_ne, updD_ne, ne_eq, Nat.reduceEqDiff, not_false_eq_true, stg_t, stg_f, vAd_s, vCap_s, blk_p, List.cons_append, List.nil_append, b2n_t, b2n_f, hN6_7, hN6_15]
    exact goW
  · intro ξ v; rfl
  · intro ξ k v S h3 hn hk
    first
    | rfl
  apply YSeq.callT (Tr.exS (fun l : List ByteArray => l.length ≤ 71) Tr.strs) (layout_gen (r * c) (by omega) l (by omega)) (by (rintro x ⟨v, rfl, h⟩; exact Imp.exS h)) (fun _ => (Evs.cons rfl (Evs.cons rfl (Evs.cons rfl Evs.nil))))
  · intro ξ S h1 h3
    have hN7_15 := closed_false h1 h3 (k := 15) rfl (by decide)
    have hq7 := b2n_le (S 7)
    have hq15 := b2n_le (S 15)
    simp only [upd_same, updD_same, upd_ne, updD_ne, ne_eq, Nat.reduceEqDiff, not_false_eq_true, stg_t, stg_f, vAd_s, vCap_s, blk_p, List.cons_append, List.nil_append, b2n_t, b2n_f, h1, hN7_15]
    refine ⟨_, _, ?_, goXp, fun v => ?_⟩
    · omega
    · refine List.Perm.trans goXp (perm_strm ?_)
      omega
  apply YSeq.w (by intro _ _ _; rfl)
  · intro ξ S h1 h2 h3 h4
    have hN8_15 := closed_false h1 h3 (k := 15) rfl (by decide)
    try simp only [upd_same, updD_same, upd_ne, updD_ne, ne_eq, Nat.reduceEqDiff, not_false_eq_true, stg_t, stg_f, vAd_s, vCap_s, blk_p, List.cons_append, List.nil_append, b2n_t, b2n_f, hN8_15]
    exact goW
  · intro ξ v; rfl
  · intro ξ k v S h3 hn hk
    first
    | rfl
  apply YSeq.w (by intro _ _ _; rfl)
  · intro ξ S h1 h2 h3 h4
    have hN9_10 := closed_false h1 h3 (k := 10) rfl (by decide)
    have hN9_13 := closed_false hN9_10 h3 (k := 13) rfl (by decide)
    have hN9_15 := closed_false hN9_13 h3 (k := 15) rfl (by decide)
    try simp only [upd_same, updD_same, upd_ne, updD_ne, ne_eq, Nat.reduceEqDiff, not_false_eq_true, stg_t, stg_f, vAd_s, vCap_s, blk_p, List.cons_append, List.nil_append, b2n_t, b2n_f, hN9_15]
    exact goW
  · intro ξ v; rfl
  · intro ξ k v S h3 hn hk
    first
    | rfl
  apply YSeq.w (by intro _ _ _; rfl)
  · intro ξ S h1 h2 h3 h4
    have hN10_13 := closed_false h1 h3 (k := 13) rfl (by decide)
    have hN10_15 := closed_false hN10_13 h3 (k := 15) rfl (by decide)
    try simp only [upd_same, updD_same, upd_ne, updD_ne, ne_eq, Nat.reduceEqDiff, not_false_eq_true, stg_t, stg_f, vAd_s, vCap_s, blk_p, List.cons_append, List.nil_append, b2n_t, b2n_f, hN10_15]
    exact goW
  · intro ξ v; rfl
  · intro ξ k v S h3 hn hk
    first
    | rfl
  apply YSeq.w (by intro _ _ _; rfl)
  · intro ξ S h1 h2 h3 h4
    have hN11_12 := closed_false h1 h3 (k := 12) rfl (by decide)
    have hN11_13 := closed_false hN11_12 h3 (k := 13) rfl (by decide)
    have hN11_15 := closed_false hN11_13 h3 (k := 15) rfl (by decide)
    try simp only [upd_same, updD_same, upd_ne, updD_ne, ne_eq, Nat.reduceEqDiff, not_false_eq_true, stg_t, stg_f, vAd_s, vCap_s, blk_p, List.cons_append, List.nil_append, b2n_t, b2n_f, hN11_15]
    exact goW
  · intro ξ v; rfl
  · intro ξ k v S h3 hn hk
    first
    | rfl
  apply YSeq.w (by intro _ _ _; rfl)
  · intro ξ S h1 h2 h3 h4
    have hN12_13 := closed_false h1 h3 (k := 13) rfl (by decide)
    have hN12_15 := closed_false hN12_13 h3 (k := 15) rfl (by decide)
    try simp only [upd_same, updD_same, upd_ne, updD_ne, ne_eq, Nat.reduceEqDiff, not_false_eq_true, stg_t, stg_f, vAd_s, vCap_s, blk_p, List.cons_append, List.nil_append, b2n_t, b2n_f, hN12_15]
    exact goW
  · intro ξ v; rfl
  · intro ξ k v S h3 hn hk
    first
    | rfl
  apply YSeq.w (by intro _ _ _; rfl)
  · intro ξ S h1 h2 h3 h4
    have hN13_15 := closed_false h1 h3 (k := 15) rfl (by decide)
    try simp only [upd_same, updD_same, upd_ne, updD_ne, ne_eq, Nat.reduceEqDiff, not_false_eq_true, stg_t, stg_f, vAd_s, vCap_s, blk_p, List.cons_append, List.nil_append, b2n_t, b2n_f, hN13_15]
    exact goW
  · intro ξ v; rfl
  · intro ξ k v S h3 hn hk
    first
    | rfl
  apply YSeq.w (by intro _ _ _; rfl)
  · intro ξ S h1 h2 h3 h4
    have hN14_15 := closed_false h1 h3 (k := 15) rfl (by decide)
    try simp only [upd_same, updD_same, upd_ne, updD_ne, ne_eq, Nat.reduceEqDiff, not_false_eq_true, stg_t, stg_f, vAd_s, vCap_s, blk_p, List.cons_append, List.nil_append, b2n_t, b2n_f, hN14_15]
    exact goW
  · intro ξ v; rfl
  · intro ξ k v S h3 hn hk
    first
    | rfl
  apply YSeq.callT (Tr.exS (fun l : List ByteArray => l.length ≤ 71) Tr.strs) (layout_gen (r * c) (by omega) l (by omega)) (by (rintro x ⟨v, rfl, h⟩; exact Imp.exS h)) (fun _ => (Evs.cons rfl (Evs.cons rfl (Evs.cons rfl Evs.nil))))
  · intro ξ S h1 h3
    have hq7 := b2n_le (S 7)
    have hq15 := b2n_le (S 15)
    simp only [upd_same, updD_same, upd_ne, updD_ne, ne_eq, Nat.reduceEqDiff, not_false_eq_true, stg_t, stg_f, vAd_s, vCap_s, blk_p, List.cons_append, List.nil_append, b2n_t, b2n_f, h1]
    refine ⟨_, _, ?_, goXp, fun v => ?_⟩
    · omega
    · refine List.Perm.trans goXp (perm_strm ?_)
      omega
  apply YSeq.w (by intro _ _ _; rfl)
  · intro ξ S h1 h2 h3 h4
    have hY16_7 : S 7 = true := h2 7 (by decide)
    have hY16_15 : S 15 = true := h2 15 (by decide)
    try simp only [upd_same, updD_same, upd_ne, updD_ne, ne_eq, Nat.reduceEqDiff, not_false_eq_true, stg_t, stg_f, vAd_s, vCap_s, blk_p, List.cons_append, List.nil_append, b2n_t, b2n_f, hY16_7, hY16_15]
    exact goW
  · intro ξ v; rfl
  · intro ξ k v S h3 hn hk
    first
    | rfl
  apply YSeq.w (by intro _ _ _; rfl)
  · intro ξ S h1 h2 h3 h4
    have hY17_7 : S 7 = true := h2 7 (by decide)
    have hY17_15 : S 15 = true := h2 15 (by decide)
    try simp only [upd_same, updD_same, upd_ne, updD_ne, ne_eq, Nat.reduceEqDiff, not_false_eq_true, stg_t, stg_f, vAd_s, vCap_s, blk_p, List.cons_append, List.nil_append, b2n_t, b2n_f, hY17_7, hY17_15]
    exact goW
  · intro ξ v; rfl
  · intro ξ k v S h3 hn hk
    first
    | rfl
  refine YSeq.nil fun ξ hf => ?_
  refine ⟨[(0, _), (3, _), (4, _), (6, _), (7, _)], _, Ent.trans (Ent.eqc rfl (by first | (simp only [upd_same, updD_same, upd_ne, updD_ne, ne_eq, Nat.reduceEqDiff, not_false_eq_true, stg_t, stg_f, vAd_s, vCap_s, blk_p, List.cons_append, List.nil_append, b2n_t, b2n_f, ownV, slV, ptV] <;> rfl) | rfl)) (Ent.sub goSub), ?_⟩
  clear hf
  repeat (first | refine InB.norm ?_ | refine Then.norm ?_)
  refine Cw.open_slot (i := 6) rfl open_exS ?_
  rintro x hx
  refine Cw.open_slot (i := 7) rfl open_exS ?_
  rintro y hy
  obtain ⟨A, hAl, kT, hT⟩ := tasks_both x y (by omega) (by omega)
  obtain ⟨T, kP, hP⟩ := print_both r c (by omega) (by omega) x (by omega)
  have kTF := tasksFault_fn x y (by omega) (by omega)
  have kPF := printFault_fn r c (by omega) (by omega) x (by omega)
  have qA := equal_tke A (by omega)
  have kSh := shelves_fn
  have hrB := hr
  have hcB := hc
  have hc1k : c ≤ 1000 := by omega
  clear hrc hm64 hl
  generalize hte : tskE x y = te at *
  generalize hpe : prtE r c x = pe at *
  clear hte hpe
  by_cases ht : te = 0
  · have kTO := hT ht
    subst ht
    clear hT
    by_cases hp : pe = 0
    · have kPT := hP hp
      subst hp
      clear hP
      repeat' (first | refine goH ?_ | (refine Ops.k_b_neq ?_; first | (first | refine Ops.val' rfl (OpV.neq_f rfl rfl rfl) ?_ | refine Ops.val' rfl (OpV.neq_t rfl rfl (by omega)) ?_ | refine Ops.val' rfl (OpV.neqS_f rfl rfl rfl) ?_)) | (refine Ops.k_b_eql ?_; first | (first | refine Ops.val' rfl (OpV.eql_t rfl rfl rfl) ?_ | refine Ops.val' rfl (OpV.eql_f rfl rfl (by omega)) ?_)) | refine goV ?_ | refine goB (fun b => ?_) | refine goG ?_ | (refine Ops.k_guard ?_; first | (refine Ops.guard_dec rfl rfl (fun hc => ?_) (fun hc => ?_) <;> try (exfalso; omega)) | refine Ops.guard_split rfl rfl (fun hc => ?_) (fun hc => ?_)) | refine goI ?_ | (refine Cw.k_cond ?_; first | (refine Cw.cond_dec rfl (fun hc => ?_) (fun hc => ?_) <;> try (exfalso; omega)) | refine Cw.cond_bool rfl (fun hc => ?_) (fun hc => ?_)) | (refine Ops.k_calla ?_; first | refine Ops.callV kT (Evs.cons rfl (Evs.cons rfl Evs.nil)) rfl ?_ | refine Ops.callV kP (Evs.cons rfl (Evs.cons rfl Evs.nil)) rfl ?_ | (refine Ops.k_callf 8 ?_; refine Ops.callV kTF (Evs.cons rfl (Evs.cons rfl Evs.nil)) rfl ?_) | (refine Ops.k_callf 16 ?_; refine Ops.callV kPF (Evs.cons rfl (Evs.cons rfl Evs.nil)) rfl ?_) | (refine Ops.k_callf 21 ?_; refine Ops.callV kSh Evs.nil rfl ?_) | refine Ops.callV kTO (Evs.cons rfl (Evs.cons rfl Evs.nil)) rfl ?_ | (refine Ops.k_callf 9 ?_; refine Ops.callV qA (Evs.cons rfl (Evs.cons rfl Evs.nil)) rfl ?_) | refine Ops.callV kPT (Evs.cons rfl (Evs.cons rfl Evs.nil)) rfl ?_ | (refine Ops.k_callf 11 ?_; (refine Ops.callG (tasks_gen x y (by omega) (by omega)) (Evs.cons rfl (Evs.cons rfl (Evs.cons rfl Evs.nil))) goPk (by omega) rfl ?_; rintro q ⟨tk, rfl, htk⟩)) | (refine Ops.k_callf 12 ?_; refine Ops.callV (do2_fn x (by omega) tk (by omega)) (Evs.cons rfl (Evs.cons rfl Evs.nil)) rfl ?_) | (refine Ops.k_callf 13 ?_; refine Ops.callV (doneOf2_fn x (by omega) tk (by omega)) (Evs.cons rfl (Evs.cons rfl Evs.nil)) rfl ?_) | (refine Ops.k_callf 14 ?_; refine Ops.callV (equalStrs_same (doL x tk) (by have := doL_len x tk; omega)) (Evs.cons rfl (Evs.cons rfl Evs.nil)) rfl ?_) | (refine Ops.k_callf 18 ?_; (refine Ops.callG (layoutText_gen r c hrB hcB) (Evs.cons rfl (Evs.cons rfl Evs.nil)) goPk (by omega) rfl ?_; rintro q ⟨t, rfl, ht2⟩)) | (refine Ops.k_callf 19 ?_; refine Ops.callV (parse2_fn r c t ht2) (Evs.cons rfl (Evs.cons rfl Evs.nil)) rfl ?_) | (refine Ops.k_callf 20 ?_; refine Ops.callV (from2_fn r c t ht2) (Evs.cons rfl (Evs.cons rfl Evs.nil)) rfl ?_) | (refine Ops.k_callf 14 ?_; refine Ops.callV (equalStrs_same (psX r c t).1 (psX_len r c t ht2 hc1k)) (Evs.cons rfl (Evs.cons rfl Evs.nil)) rfl ?_)) | (apply OpW.k_call; first | exact OpW.callV kT (Evs.cons rfl (Evs.cons rfl Evs.nil)) | exact OpW.callV kP (Evs.cons rfl (Evs.cons rfl Evs.nil)) | (apply OpW.k_callf 8; exact OpW.callV kTF (Evs.cons rfl (Evs.cons rfl Evs.nil))) | (apply OpW.k_callf 16; exact OpW.callV kPF (Evs.cons rfl (Evs.cons rfl Evs.nil))) | (apply OpW.k_callf 21; exact OpW.callV kSh Evs.nil) | exact OpW.callV kTO (Evs.cons rfl (Evs.cons rfl Evs.nil)) | (apply OpW.k_callf 9; exact OpW.callV qA (Evs.cons rfl (Evs.cons rfl Evs.nil))) | exact OpW.callV kPT (Evs.cons rfl (Evs.cons rfl Evs.nil)) | (apply OpW.k_callf 12; exact OpW.callV (do2_fn x (by omega) tk (by omega)) (Evs.cons rfl (Evs.cons rfl Evs.nil))) | (apply OpW.k_callf 13; exact OpW.callV (doneOf2_fn x (by omega) tk (by omega)) (Evs.cons rfl (Evs.cons rfl Evs.nil))) | (apply OpW.k_callf 14; exact OpW.callV (equalStrs_same (doL x tk) (by have := doL_len x tk; omega)) (Evs.cons rfl (Evs.cons rfl Evs.nil))) | (apply OpW.k_callf 19; exact OpW.callV (parse2_fn r c t ht2) (Evs.cons rfl (Evs.cons rfl Evs.nil))) | (apply OpW.k_callf 20; exact OpW.callV (from2_fn r c t ht2) (Evs.cons rfl (Evs.cons rfl Evs.nil))) | (apply OpW.k_callf 14; exact OpW.callV (equalStrs_same (psX r c t).1 (psX_len r c t ht2 hc1k)) (Evs.cons rfl (Evs.cons rfl Evs.nil)))) | refine goR ?_ | refine goP ?_ | apply PSeq.cons | apply PSeq.yes rfl rfl rfl | exact goW | fail)
      all_goals exact Fin.ret Ent.refl (Outs.one rfl rfl) rfl
    · clear hP
      repeat' (first | refine goH ?_ | (refine Ops.k_b_neq ?_; first | (first | refine Ops.val' rfl (OpV.neq_f rfl rfl rfl) ?_ | refine Ops.val' rfl (OpV.neq_t rfl rfl (by omega)) ?_ | refine Ops.val' rfl (OpV.neqS_f rfl rfl rfl) ?_)) | (refine Ops.k_b_eql ?_; first | (first | refine Ops.val' rfl (OpV.eql_t rfl rfl rfl) ?_ | refine Ops.val' rfl (OpV.eql_f rfl rfl (by omega)) ?_)) | refine goV ?_ | refine goB (fun b => ?_) | refine goG ?_ | (refine Ops.k_guard ?_; first | (refine Ops.guard_dec rfl rfl (fun hc => ?_) (fun hc => ?_) <;> try (exfalso; omega)) | refine Ops.guard_split rfl rfl (fun hc => ?_) (fun hc => ?_)) | refine goI ?_ | (refine Cw.k_cond ?_; first | (refine Cw.cond_dec rfl (fun hc => ?_) (fun hc => ?_) <;> try (exfalso; omega)) | refine Cw.cond_bool rfl (fun hc => ?_) (fun hc => ?_)) | (refine Ops.k_calla ?_; first | refine Ops.callV kT (Evs.cons rfl (Evs.cons rfl Evs.nil)) rfl ?_ | refine Ops.callV kP (Evs.cons rfl (Evs.cons rfl Evs.nil)) rfl ?_ | (refine Ops.k_callf 8 ?_; refine Ops.callV kTF (Evs.cons rfl (Evs.cons rfl Evs.nil)) rfl ?_) | (refine Ops.k_callf 16 ?_; refine Ops.callV kPF (Evs.cons rfl (Evs.cons rfl Evs.nil)) rfl ?_) | (refine Ops.k_callf 21 ?_; refine Ops.callV kSh Evs.nil rfl ?_) | refine Ops.callV kTO (Evs.cons rfl (Evs.cons rfl Evs.nil)) rfl ?_ | (refine Ops.k_callf 9 ?_; refine Ops.callV qA (Evs.cons rfl (Evs.cons rfl Evs.nil)) rfl ?_) | (refine Ops.k_callf 11 ?_; (refine Ops.callG (tasks_gen x y (by omega) (by omega)) (Evs.cons rfl (Evs.cons rfl (Evs.cons rfl Evs.nil))) goPk (by omega) rfl ?_; rintro q ⟨tk, rfl, htk⟩)) | (refine Ops.k_callf 12 ?_; refine Ops.callV (do2_fn x (by omega) tk (by omega)) (Evs.cons rfl (Evs.cons rfl Evs.nil)) rfl ?_) | (refine Ops.k_callf 13 ?_; refine Ops.callV (doneOf2_fn x (by omega) tk (by omega)) (Evs.cons rfl (Evs.cons rfl Evs.nil)) rfl ?_) | (refine Ops.k_callf 14 ?_; refine Ops.callV (equalStrs_same (doL x tk) (by have := doL_len x tk; omega)) (Evs.cons rfl (Evs.cons rfl Evs.nil)) rfl ?_) | (refine Ops.k_callf 18 ?_; (refine Ops.callG (layoutText_gen r c hrB hcB) (Evs.cons rfl (Evs.cons rfl Evs.nil)) goPk (by omega) rfl ?_; rintro q ⟨t, rfl, ht2⟩)) | (refine Ops.k_callf 19 ?_; refine Ops.callV (parse2_fn r c t ht2) (Evs.cons rfl (Evs.cons rfl Evs.nil)) rfl ?_) | (refine Ops.k_callf 20 ?_; refine Ops.callV (from2_fn r c t ht2) (Evs.cons rfl (Evs.cons rfl Evs.nil)) rfl ?_) | (refine Ops.k_callf 14 ?_; refine Ops.callV (equalStrs_same (psX r c t).1 (psX_len r c t ht2 hc1k)) (Evs.cons rfl (Evs.cons rfl Evs.nil)) rfl ?_)) | (apply OpW.k_call; first | exact OpW.callV kT (Evs.cons rfl (Evs.cons rfl Evs.nil)) | exact OpW.callV kP (Evs.cons rfl (Evs.cons rfl Evs.nil)) | (apply OpW.k_callf 8; exact OpW.callV kTF (Evs.cons rfl (Evs.cons rfl Evs.nil))) | (apply OpW.k_callf 16; exact OpW.callV kPF (Evs.cons rfl (Evs.cons rfl Evs.nil))) | (apply OpW.k_callf 21; exact OpW.callV kSh Evs.nil) | exact OpW.callV kTO (Evs.cons rfl (Evs.cons rfl Evs.nil)) | (apply OpW.k_callf 9; exact OpW.callV qA (Evs.cons rfl (Evs.cons rfl Evs.nil))) | (apply OpW.k_callf 12; exact OpW.callV (do2_fn x (by omega) tk (by omega)) (Evs.cons rfl (Evs.cons rfl Evs.nil))) | (apply OpW.k_callf 13; exact OpW.callV (doneOf2_fn x (by omega) tk (by omega)) (Evs.cons rfl (Evs.cons rfl Evs.nil))) | (apply OpW.k_callf 14; exact OpW.callV (equalStrs_same (doL x tk) (by have := doL_len x tk; omega)) (Evs.cons rfl (Evs.cons rfl Evs.nil))) | (apply OpW.k_callf 19; exact OpW.callV (parse2_fn r c t ht2) (Evs.cons rfl (Evs.cons rfl Evs.nil))) | (apply OpW.k_callf 20; exact OpW.callV (from2_fn r c t ht2) (Evs.cons rfl (Evs.cons rfl Evs.nil))) | (apply OpW.k_callf 14; exact OpW.callV (equalStrs_same (psX r c t).1 (psX_len r c t ht2 hc1k)) (Evs.cons rfl (Evs.cons rfl Evs.nil)))) | refine goR ?_ | refine goP ?_ | apply PSeq.cons | apply PSeq.yes rfl rfl rfl | exact goW | fail)
      all_goals exact Fin.ret Ent.refl (Outs.one rfl rfl) rfl
  · clear hT
    by_cases hp : pe = 0
    · have kPT := hP hp
      subst hp
      clear hP
      repeat' (first | refine goH ?_ | (refine Ops.k_b_neq ?_; first | (first | refine Ops.val' rfl (OpV.neq_f rfl rfl rfl) ?_ | refine Ops.val' rfl (OpV.neq_t rfl rfl (by omega)) ?_ | refine Ops.val' rfl (OpV.neqS_f rfl rfl rfl) ?_)) | (refine Ops.k_b_eql ?_; first | (first | refine Ops.val' rfl (OpV.eql_t rfl rfl rfl) ?_ | refine Ops.val' rfl (OpV.eql_f rfl rfl (by omega)) ?_)) | refine goV ?_ | refine goB (fun b => ?_) | refine goG ?_ | (refine Ops.k_guard ?_; first | (refine Ops.guard_dec rfl rfl (fun hc => ?_) (fun hc => ?_) <;> try (exfalso; omega)) | refine Ops.guard_split rfl rfl (fun hc => ?_) (fun hc => ?_)) | refine goI ?_ | (refine Cw.k_cond ?_; first | (refine Cw.cond_dec rfl (fun hc => ?_) (fun hc => ?_) <;> try (exfalso; omega)) | refine Cw.cond_bool rfl (fun hc => ?_) (fun hc => ?_)) | (refine Ops.k_calla ?_; first | refine Ops.callV kT (Evs.cons rfl (Evs.cons rfl Evs.nil)) rfl ?_ | refine Ops.callV kP (Evs.cons rfl (Evs.cons rfl Evs.nil)) rfl ?_ | (refine Ops.k_callf 8 ?_; refine Ops.callV kTF (Evs.cons rfl (Evs.cons rfl Evs.nil)) rfl ?_) | (refine Ops.k_callf 16 ?_; refine Ops.callV kPF (Evs.cons rfl (Evs.cons rfl Evs.nil)) rfl ?_) | (refine Ops.k_callf 21 ?_; refine Ops.callV kSh Evs.nil rfl ?_) | refine Ops.callV kPT (Evs.cons rfl (Evs.cons rfl Evs.nil)) rfl ?_ | (refine Ops.k_callf 11 ?_; (refine Ops.callG (tasks_gen x y (by omega) (by omega)) (Evs.cons rfl (Evs.cons rfl (Evs.cons rfl Evs.nil))) goPk (by omega) rfl ?_; rintro q ⟨tk, rfl, htk⟩)) | (refine Ops.k_callf 12 ?_; refine Ops.callV (do2_fn x (by omega) tk (by omega)) (Evs.cons rfl (Evs.cons rfl Evs.nil)) rfl ?_) | (refine Ops.k_callf 13 ?_; refine Ops.callV (doneOf2_fn x (by omega) tk (by omega)) (Evs.cons rfl (Evs.cons rfl Evs.nil)) rfl ?_) | (refine Ops.k_callf 14 ?_; refine Ops.callV (equalStrs_same (doL x tk) (by have := doL_len x tk; omega)) (Evs.cons rfl (Evs.cons rfl Evs.nil)) rfl ?_) | (refine Ops.k_callf 18 ?_; (refine Ops.callG (layoutText_gen r c hrB hcB) (Evs.cons rfl (Evs.cons rfl Evs.nil)) goPk (by omega) rfl ?_; rintro q ⟨t, rfl, ht2⟩)) | (refine Ops.k_callf 19 ?_; refine Ops.callV (parse2_fn r c t ht2) (Evs.cons rfl (Evs.cons rfl Evs.nil)) rfl ?_) | (refine Ops.k_callf 20 ?_; refine Ops.callV (from2_fn r c t ht2) (Evs.cons rfl (Evs.cons rfl Evs.nil)) rfl ?_) | (refine Ops.k_callf 14 ?_; refine Ops.callV (equalStrs_same (psX r c t).1 (psX_len r c t ht2 hc1k)) (Evs.cons rfl (Evs.cons rfl Evs.nil)) rfl ?_)) | (apply OpW.k_call; first | exact OpW.callV kT (Evs.cons rfl (Evs.cons rfl Evs.nil)) | exact OpW.callV kP (Evs.cons rfl (Evs.cons rfl Evs.nil)) | (apply OpW.k_callf 8; exact OpW.callV kTF (Evs.cons rfl (Evs.cons rfl Evs.nil))) | (apply OpW.k_callf 16; exact OpW.callV kPF (Evs.cons rfl (Evs.cons rfl Evs.nil))) | (apply OpW.k_callf 21; exact OpW.callV kSh Evs.nil) | exact OpW.callV kPT (Evs.cons rfl (Evs.cons rfl Evs.nil)) | (apply OpW.k_callf 12; exact OpW.callV (do2_fn x (by omega) tk (by omega)) (Evs.cons rfl (Evs.cons rfl Evs.nil))) | (apply OpW.k_callf 13; exact OpW.callV (doneOf2_fn x (by omega) tk (by omega)) (Evs.cons rfl (Evs.cons rfl Evs.nil))) | (apply OpW.k_callf 14; exact OpW.callV (equalStrs_same (doL x tk) (by have := doL_len x tk; omega)) (Evs.cons rfl (Evs.cons rfl Evs.nil))) | (apply OpW.k_callf 19; exact OpW.callV (parse2_fn r c t ht2) (Evs.cons rfl (Evs.cons rfl Evs.nil))) | (apply OpW.k_callf 20; exact OpW.callV (from2_fn r c t ht2) (Evs.cons rfl (Evs.cons rfl Evs.nil))) | (apply OpW.k_callf 14; exact OpW.callV (equalStrs_same (psX r c t).1 (psX_len r c t ht2 hc1k)) (Evs.cons rfl (Evs.cons rfl Evs.nil)))) | refine goR ?_ | refine goP ?_ | apply PSeq.cons | apply PSeq.yes rfl rfl rfl | exact goW | fail)
      all_goals exact Fin.ret Ent.refl (Outs.one rfl rfl) rfl
    · clear hP
      repeat' (first | refine goH ?_ | (refine Ops.k_b_neq ?_; first | (first | refine Ops.val' rfl (OpV.neq_f rfl rfl rfl) ?_ | refine Ops.val' rfl (OpV.neq_t rfl rfl (by omega)) ?_ | refine Ops.val' rfl (OpV.neqS_f rfl rfl rfl) ?_)) | (refine Ops.k_b_eql ?_; first | (first | refine Ops.val' rfl (OpV.eql_t rfl rfl rfl) ?_ | refine Ops.val' rfl (OpV.eql_f rfl rfl (by omega)) ?_)) | refine goV ?_ | refine goB (fun b => ?_) | refine goG ?_ | (refine Ops.k_guard ?_; first | (refine Ops.guard_dec rfl rfl (fun hc => ?_) (fun hc => ?_) <;> try (exfalso; omega)) | refine Ops.guard_split rfl rfl (fun hc => ?_) (fun hc => ?_)) | refine goI ?_ | (refine Cw.k_cond ?_; first | (refine Cw.cond_dec rfl (fun hc => ?_) (fun hc => ?_) <;> try (exfalso; omega)) | refine Cw.cond_bool rfl (fun hc => ?_) (fun hc => ?_)) | (refine Ops.k_calla ?_; first | refine Ops.callV kT (Evs.cons rfl (Evs.cons rfl Evs.nil)) rfl ?_ | refine Ops.callV kP (Evs.cons rfl (Evs.cons rfl Evs.nil)) rfl ?_ | (refine Ops.k_callf 8 ?_; refine Ops.callV kTF (Evs.cons rfl (Evs.cons rfl Evs.nil)) rfl ?_) | (refine Ops.k_callf 16 ?_; refine Ops.callV kPF (Evs.cons rfl (Evs.cons rfl Evs.nil)) rfl ?_) | (refine Ops.k_callf 21 ?_; refine Ops.callV kSh Evs.nil rfl ?_) | (refine Ops.k_callf 11 ?_; (refine Ops.callG (tasks_gen x y (by omega) (by omega)) (Evs.cons rfl (Evs.cons rfl (Evs.cons rfl Evs.nil))) goPk (by omega) rfl ?_; rintro q ⟨tk, rfl, htk⟩)) | (refine Ops.k_callf 12 ?_; refine Ops.callV (do2_fn x (by omega) tk (by omega)) (Evs.cons rfl (Evs.cons rfl Evs.nil)) rfl ?_) | (refine Ops.k_callf 13 ?_; refine Ops.callV (doneOf2_fn x (by omega) tk (by omega)) (Evs.cons rfl (Evs.cons rfl Evs.nil)) rfl ?_) | (refine Ops.k_callf 14 ?_; refine Ops.callV (equalStrs_same (doL x tk) (by have := doL_len x tk; omega)) (Evs.cons rfl (Evs.cons rfl Evs.nil)) rfl ?_) | (refine Ops.k_callf 18 ?_; (refine Ops.callG (layoutText_gen r c hrB hcB) (Evs.cons rfl (Evs.cons rfl Evs.nil)) goPk (by omega) rfl ?_; rintro q ⟨t, rfl, ht2⟩)) | (refine Ops.k_callf 19 ?_; refine Ops.callV (parse2_fn r c t ht2) (Evs.cons rfl (Evs.cons rfl Evs.nil)) rfl ?_) | (refine Ops.k_callf 20 ?_; refine Ops.callV (from2_fn r c t ht2) (Evs.cons rfl (Evs.cons rfl Evs.nil)) rfl ?_) | (refine Ops.k_callf 14 ?_; refine Ops.callV (equalStrs_same (psX r c t).1 (psX_len r c t ht2 hc1k)) (Evs.cons rfl (Evs.cons rfl Evs.nil)) rfl ?_)) | (apply OpW.k_call; first | exact OpW.callV kT (Evs.cons rfl (Evs.cons rfl Evs.nil)) | exact OpW.callV kP (Evs.cons rfl (Evs.cons rfl Evs.nil)) | (apply OpW.k_callf 8; exact OpW.callV kTF (Evs.cons rfl (Evs.cons rfl Evs.nil))) | (apply OpW.k_callf 16; exact OpW.callV kPF (Evs.cons rfl (Evs.cons rfl Evs.nil))) | (apply OpW.k_callf 21; exact OpW.callV kSh Evs.nil) | (apply OpW.k_callf 12; exact OpW.callV (do2_fn x (by omega) tk (by omega)) (Evs.cons rfl (Evs.cons rfl Evs.nil))) | (apply OpW.k_callf 13; exact OpW.callV (doneOf2_fn x (by omega) tk (by omega)) (Evs.cons rfl (Evs.cons rfl Evs.nil))) | (apply OpW.k_callf 14; exact OpW.callV (equalStrs_same (doL x tk) (by have := doL_len x tk; omega)) (Evs.cons rfl (Evs.cons rfl Evs.nil))) | (apply OpW.k_callf 19; exact OpW.callV (parse2_fn r c t ht2) (Evs.cons rfl (Evs.cons rfl Evs.nil))) | (apply OpW.k_callf 20; exact OpW.callV (from2_fn r c t ht2) (Evs.cons rfl (Evs.cons rfl Evs.nil))) | (apply OpW.k_callf 14; exact OpW.callV (equalStrs_same (psX r c t).1 (psX_len r c t ht2 hc1k)) (Evs.cons rfl (Evs.cons rfl Evs.nil)))) | refine goR ?_ | refine goP ?_ | apply PSeq.cons | apply PSeq.yes rfl rfl rfl | exact goW | fail)
      all_goals exact Fin.ret Ent.refl (Outs.one rfl rfl) rfl
end Lg
