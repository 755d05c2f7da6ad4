/- A part of the proof of a law of this seat: it adds no condition. By an AI agent. -/
import Derived.Shelf.SlSortCmp.WholeK
import Derived.Test.YtkmelphaecmfmaaGreatProg
import Derived.Test.YtkmelphaecmfmaaGreatLgSort
import Derived.Test.YtkmelphaecmfmaaGreatSS6
import Derived.Test.YtkmelphaecmfmaaGreatRd10
section
set_option linter.all false
set_option maxRecDepth 100000
set_option maxHeartbeats 2000000
namespace Lg
open Go Go.Proofs

/-! ### days in plain terms -/
def mnT (a b d : Int) : Int := max 0 (min b ((d + 1) * 1440) - max a (d * 1440))
/-- the minutes of the first k days -/
def minsK (a b : Int) (k : Nat) : List Int := (List.range k).map fun i : Nat => mnT a b (a / 1440 + i)
abbrev nDays (a b : Int) : Nat := (b / 1440 - a / 1440 + 1).toNat
abbrev mins (a b : Int) : List Int := minsK a b (nDays a b)
theorem minsK_len (a b : Int) (k : Nat) : (minsK a b k).length = k := by simp [minsK]
theorem minsK_snoc (a b : Int) (k : Nat) : minsK a b (k + 1) = minsK a b k ++ [mnT a b (a / 1440 + k)] := by
  unfold minsK
  rw [List.range_succ, List.map_append]
  rfl
theorem mnT_bd (a b d : Int) (h : 0 ≤ a ∧ a ≤ b) : 0 ≤ mnT a b d ∧ mnT a b d ≤ 1440 := by unfold mnT; omega
theorem minsK_bd (a b : Int) (k : Nat) (h : 0 ≤ a ∧ a ≤ b) : ∀ w ∈ minsK a b k, 0 ≤ w ∧ w ≤ 1440 := by
  intro w hw
  obtain ⟨i, _, rfl⟩ := List.mem_map.1 hw
  exact mnT_bd a b _ h
theorem minsK_sum (a b : Int) (h : 0 ≤ a ∧ a ≤ b) : ∀ k : Nat, 1 ≤ k → a / 1440 + k ≤ b / 1440 + 1 → sumL (minsK a b k) = min b ((a / 1440 + k) * 1440) - a
  | 0, h1, _ => by omega
  | k + 1, _, h2 => by
    rw [minsK_snoc, sumL_app, sumL_cons, sumL_nil, Int.add_zero]
    by_cases hk : k = 0
    · subst hk
      rw [show minsK a b 0 = [] from rfl, sumL_nil]
      unfold mnT
      omega
    · rw [minsK_sum a b h k (by omega) (by omega)]
      unfold mnT
      omega
theorem nDays_eq {a b : Int} (h : 0 ≤ a ∧ a ≤ b) : (nDays a b : Int) = b / 1440 - a / 1440 + 1 := by unfold nDays; omega
theorem mins_sum (a b : Int) (h : 0 ≤ a ∧ a ≤ b) : sumL (mins a b) = b - a := by
  have e := nDays_eq h
  rw [minsK_sum a b h _ (by omega) (by omega)]
  omega
abbrev PI := List (Int × Int)
/-- what a step gives to the days -/
def dyF (first : Int) : Nat → List Int → PI → PI
  | _, [], m => m
  | i, n :: l, m => dyF first (i + 1) l (mAdd (first + i) n m)
noncomputable def dyS (k : Nat) (s : Stp) (m : PI) : PI := dyF (s.a / 1440) 0 (shG (s.s.getD k 0) (mins s.a s.b)) m
noncomputable def dyL (k : Nat) : List Stp → PI → PI
  | [], m => m
  | s :: S, m => dyL k S (dyS k s m)
def pz (p : Int × Int) : Bool := decide (0 < p.2)
def ltP (a b : Int × Int) : Bool := decide (a.1 < b.1)
/-- the days with a number, sorted -/
def dyV (m : PI) : PI := isort ltP (m.filter pz)
theorem dyV_perm {g m : PI} (hp : m.Perm g) (hn : (m.map Prod.fst).Nodup) : isort ltP (g.filter pz) = dyV m := by
  refine isortI_uniq (key := Prod.fst) (hp.symm.filter pz) ?_
  exact List.Nodup.sublist ((List.filter_sublist).map Prod.fst) ((hp.map Prod.fst).nodup_iff.1 hn)
/-- what holds of the map on the way -/
structure DyOk (B : Int) (n : Nat) (m : PI) : Prop where
  nd : (m.map Prod.fst).Nodup
  bd : ∀ q ∈ m, 0 ≤ q.2 ∧ q.2 ≤ B
  len : m.length ≤ n
theorem DyOk.val {B : Int} {n : Nat} {m : PI} (h : DyOk B n m) (hB : 0 ≤ B) (a : Int) : 0 ≤ mI a m ∧ mI a m ≤ B :=
  mI_all (p := fun v => 0 ≤ v ∧ v ≤ B) ⟨by omega, by omega⟩ (fun q hq => h.bd q hq)
theorem DyOk.add {B c : Int} {n : Nat} {m : PI} (h : DyOk B n m) (hB : 0 ≤ B) (a : Int) {v : Int} (hv : 0 ≤ v ∧ v ≤ c) : DyOk (B + c) (n + 1) (mUp a (mI a m + v) m) := by
  have h1 := h.val hB a
  refine ⟨mUp_nodup h.nd, mAll_up (p := fun q => 0 ≤ q.2 ∧ q.2 ≤ B + c) (by simp only; omega) (fun q hq => by have := h.bd q hq; omega), ?_⟩
  have := mUp_len a (mI a m + v) m
  have := h.len
  omega
theorem shF_bd : ∀ (l out : List Int) {B : Int}, (∀ x ∈ out, 0 ≤ x ∧ x ≤ B) → 0 ≤ B → ∀ x ∈ shF out l, 0 ≤ x ∧ x ≤ B + l.length
  | [], out, B, h, _ => fun x hx => by have := h x hx; simp; omega
  | i :: l, out, B, h, h0 => fun x hx => by
    have h2 : ∀ y ∈ addOne out i, 0 ≤ y ∧ y ≤ B + 1 := fun y hy => by
      unfold addOne at hy
      rcases List.mem_or_eq_of_mem_set hy with h3 | h3
      · have := h y h3; omega
      · have h4 : 0 ≤ out.getD i.toNat 0 ∧ out.getD i.toNat 0 ≤ B := by
          rw [List.getD_eq_getElem?_getD]
          cases hg : out[i.toNat]? with
          | none => exact ⟨by simp, by simpa using h0⟩
          | some z => exact h z (List.mem_of_getElem? hg)
        omega
    have := shF_bd l (addOne out i) h2 (by omega) x hx
    rw [List.length_cons]
    omega
theorem shG_bd {t : Int} {ws : List Int} (ht : 0 ≤ t ∧ t ≤ 1000000) (hw : ∀ w ∈ ws, 0 ≤ w ∧ w ≤ 1440) (hs : 1 ≤ sumL ws) (hn : ws.length ≤ 5000) : ∀ x ∈ shG t ws, 0 ≤ x ∧ x ≤ 1440005000 := by
  intro x hx
  unfold shG at hx
  have hB : ∀ y ∈ shBase t (sumL ws) ws, 0 ≤ y ∧ y ≤ 1440000000 := by
    intro y hy
    unfold shBase at hy
    obtain ⟨w, hwm, rfl⟩ := List.mem_map.1 hy
    have hwb := hw w hwm
    have m1 : 0 ≤ t * w ∧ t * w ≤ 1440000000 := ⟨Int.mul_nonneg ht.1 hwb.1, by have := Int.mul_le_mul ht.2 hwb.2 hwb.1 (by omega); omega⟩
    have d1 := Int.ediv_le_self (sumL ws) m1.1
    have d2 := Int.ediv_nonneg m1.1 (show 0 ≤ sumL ws by omega)
    omega
  have h2 := shF_bd _ _ hB (by omega) x hx
  have h3 : (List.take (shLeft t (sumL ws) ws).toNat (shOrdN t (sumL ws) ws)).length ≤ ws.length := by
    rw [List.length_take, (shOrdN_ok t (sumL ws) ws).len]
    omega
  omega
/-! ### readings in order are not at one moment -/
theorem dedA_asc : ∀ {l acc D : List Rdg}, dedA acc l = some D → (acc.Pairwise fun a b => a.t < b.t) → (∀ x, acc.getLast? = some x → ∀ r ∈ l, x.t ≤ r.t) → (l.Pairwise fun a b => a.t ≤ b.t) → D.Pairwise fun a b => a.t < b.t
  | [], acc, D, h, h1, _, _ => by unfold dedA at h; cases h; exact h1
  | r :: l, acc, D, h, h1, h2, h3 => by
    have hh := List.pairwise_cons.1 h3
    have hsn : ∀ hx : (∀ x, acc.getLast? = some x → x.t < r.t), (acc ++ [r]).Pairwise fun a b => a.t < b.t := fun hx => by
      rw [List.pairwise_append]
      refine ⟨h1, List.pairwise_singleton _ _, fun a ha b hb => ?_⟩
      rw [List.mem_singleton] at hb
      subst hb
      rcases List.eq_nil_or_concat acc with rfl | ⟨acc', y, rfl⟩
      · cases ha
      · rw [List.concat_eq_append] at *
        have hy := hx y (by simp)
        rcases List.mem_append.1 ha with h4 | h4
        · have := (List.pairwise_append.1 h1).2.2 a h4 y (by simp)
          omega
        · rw [List.mem_singleton] at h4
          subst h4
          exact hy
    have hlast : ∀ x, (acc ++ [r]).getLast? = some x → ∀ r' ∈ l, x.t ≤ r'.t := fun x hx r' hr' => by
      rw [List.getLast?_concat] at hx
      cases hx
      exact hh.1 r' hr'
    unfold dedA at h
    split at h
    · rename_i hn
      exact dedA_asc h (hsn fun x hx => by rw [hn] at hx; cases hx) hlast hh.2
    · rename_i x hx
      split at h
      · split at h
        · exact dedA_asc h h1 (fun y hy r' hr' => h2 y hy r' (List.mem_cons_of_mem _ hr')) hh.2
        · cases h
      · rename_i hne
        refine dedA_asc h (hsn fun y hy => ?_) hlast hh.2
        have := h2 y hy r (by simp)
        rw [hx] at hy
        cases hy
        omega
theorem srt_asc {l D : List Rdg} (h : dedA [] (isort rlt l) = some D) : D.Pairwise fun a b => a.t < b.t :=
  dedA_asc h List.Pairwise.nil (fun x hx => by cases hx) (isort_key_sorted (key := Rdg.t) l)
theorem stps_asc {t f : Int} : ∀ {D : List Rdg}, (D.Pairwise fun a b => a.t < b.t) → ∀ s ∈ stpsOf t f D, s.a < s.b
  | [], _, s, hs => by cases hs
  | [a], _, s, hs => by cases hs
  | a :: b :: D, h, s, hs => by
    have hh := List.pairwise_cons.1 h
    unfold stpsOf at hs
    rcases List.mem_cons.1 hs with rfl | h1
    · unfold stpOf
      split
      · exact hh.1 b (by simp)
      · exact hh.1 b (by simp)
    · exact stps_asc hh.2 s h1
end Lg
end
section
/-
  DERIVED: THE SHELF's CONTRACTS AT THIS DUMP, IN PLAIN WORDS (tools/lay-plain.mjs out of 'YtkmelphaecmfmaaGreatShelf2Raw.lean', which tools/lay-shelf.mjs wrote): THE SAME DECLARATIONS UNDER THE SAME NAMES: 'import', 'namespace', 'open', 'def', 'theorem' AND NOTHING ELSE: no command of the shelf's: FOR A HAND-IN. Each laying: the table of numbers ('.._ren') and one theorem, a field a fact of the dump's own or the kernel's comparison; each contract: ONE APPLICATION.
-/
namespace Go.Proofs
open Go.Shelf
def Tryz.sortDay_ren : Go.Shelf.Ren := ⟨fun | 6 => 47 | 15 => 67 | 14 => 70 | 28 => 82 | 29 => 83 | 20 => 89 | 21 => 90 | 22 => 91 | 23 => 92 | 24 => 93 | 25 => 94 | 26 => 95 | 27 => 96 | 46 => 114 | 47 => 108 | 48 => 109 | 49 => 115 | 50 => 116 | 57 => 123 | n => n, fun | 22 => 41 | 24 => 46 | 25 => 93 | 3 => 3 | 39 => 103 | 0 => 0 | 53 => 118 | 55 => 120 | 4 => 4 | 46 => 111 | 45 => 110 | 50 => 115 | 5 => 5 | 9 => 9 | 66 => 133 | 70 => 137 | 76 => 144 | 77 => 145 | n => n, fun | n => n⟩
theorem Tryz.sortDay : Go.Proofs.SlLaysF0.n6 Tryz.prog Tryz.sortDay_ren := {
  mixed := by kernel_rfl
  f6 := ⟨Tryz.f47.name, by decide, Tryz.func47.trans (congrArg some (by kernel_rfl))⟩
  f14 := ⟨Tryz.f70.name, by decide, Tryz.func70.trans (congrArg some (by kernel_rfl))⟩
  f15 := Tryz.func67.trans (congrArg some (by kernel_rfl))
  f20 := ⟨Tryz.f89.name, by decide, Tryz.func89.trans (congrArg some (by kernel_rfl))⟩
  f21 := ⟨Tryz.f90.name, by decide, Tryz.func90.trans (congrArg some (by kernel_rfl))⟩
  f22 := ⟨Tryz.f91.name, by decide, Tryz.func91.trans (congrArg some (by kernel_rfl))⟩
  f23 := ⟨Tryz.f92.name, by decide, Tryz.func92.trans (congrArg some (by kernel_rfl))⟩
  f24 := ⟨Tryz.f93.name, by decide, Tryz.func93.trans (congrArg some (by kernel_rfl))⟩
  f25 := ⟨Tryz.f94.name, by decide, Tryz.func94.trans (congrArg some (by kernel_rfl))⟩
  f26 := ⟨Tryz.f95.name, by decide, Tryz.func95.trans (congrArg some (by kernel_rfl))⟩
  f27 := ⟨Tryz.f96.name, by decide, Tryz.func96.trans (congrArg some (by kernel_rfl))⟩
  f28 := Tryz.func82.trans (congrArg some (by kernel_rfl))
  f29 := Tryz.func83.trans (congrArg some (by kernel_rfl))
  f46 := ⟨Tryz.f114.name, by decide, Tryz.func114.trans (congrArg some (by kernel_rfl))⟩
  f47 := Tryz.func108.trans (congrArg some (by kernel_rfl))
  f48 := Tryz.func109.trans (congrArg some (by kernel_rfl))
  f49 := ⟨Tryz.f115.name, by decide, Tryz.func115.trans (congrArg some (by kernel_rfl))⟩
  f50 := ⟨Tryz.f116.name, by decide, Tryz.func116.trans (congrArg some (by kernel_rfl))⟩
  f57 := ⟨Tryz.f123.name, by decide, Tryz.func123.trans (congrArg some (by kernel_rfl))⟩
  t0 := Tryz.underlying0
  a0 := Tryz.isAgg0
  z0 := Tryz.sizeOf0
  v0 := Tryz.zeroValue0
  t3 := Tryz.underlying3
  a3 := Tryz.isAgg3
  z3 := Tryz.sizeOf3
  v3 := Tryz.zeroValue3
  t4 := Tryz.underlying4
  a4 := Tryz.isAgg4
  z4 := Tryz.sizeOf4
  v4 := Tryz.zeroValue4
  t5 := Tryz.underlying5
  a5 := Tryz.isAgg5
  z5 := Tryz.sizeOf5
  v5 := Tryz.zeroValue5
  t9 := Tryz.underlying9
  a9 := Tryz.isAgg9
  z9 := Tryz.sizeOf9
  v9 := Tryz.zeroValue9
  t22 := Tryz.underlying41
  a22 := Tryz.isAgg41
  z22 := Tryz.sizeOf41
  v22 := Tryz.zeroValue41
  t25 := Tryz.underlying93
  a25 := Tryz.isAgg93
  z25 := Tryz.sizeOf93
  v25 := Tryz.zeroValue93
  t39 := Tryz.underlying103
  a39 := Tryz.isAgg103
  z39 := Tryz.sizeOf103
  v39 := Tryz.zeroValue103
  t45 := Tryz.underlying110
  a45 := Tryz.isAgg110
  z45 := Tryz.sizeOf110
  v45 := Tryz.zeroValue110
  t46 := Tryz.underlying111
  a46 := Tryz.isAgg111
  z46 := Tryz.sizeOf111
  v46 := Tryz.zeroValue111
  t50 := Tryz.underlying115
  a50 := Tryz.isAgg115
  z50 := Tryz.sizeOf115
  v50 := Tryz.zeroValue115
  t53 := Tryz.underlying118
  a53 := Tryz.isAgg118
  z53 := Tryz.sizeOf118
  v53 := Tryz.zeroValue118
  t55 := Tryz.underlying120
  a55 := Tryz.isAgg120
  z55 := Tryz.sizeOf120
  v55 := Tryz.zeroValue120
  t66 := Tryz.underlying133
  a66 := Tryz.isAgg133
  z66 := Tryz.sizeOf133
  v66 := Tryz.zeroValue133
  t70 := Tryz.underlying137
  a70 := Tryz.isAgg137
  z70 := Tryz.sizeOf137
  v70 := Tryz.zeroValue137
  t76 := Tryz.underlying144
  a76 := Tryz.isAgg144
  z76 := Tryz.sizeOf144
  v76 := Tryz.zeroValue144
  t77 := Tryz.underlying145
  a77 := Tryz.isAgg145
  z77 := Tryz.sizeOf145
  v77 := Tryz.zeroValue145 }
end Go.Proofs
end
section
set_option linter.all false
set_option maxRecDepth 100000
set_option maxHeartbeats 8000000
namespace Lg
open Go Go.Proofs Go.Sort Go.Shelf

/-! ### days sorted -/
abbrev prD (p : Int × Int) : List Tr := [.int p.1, .int p.2]
instance : TyMap Tryz.prog 89 3 3 (.int .i64 0) := ⟨Tryz.underlying89, ⟨_, rfl, rfl⟩⟩
instance : KeyTy Tryz.prog 3 (Value.int .i64) := KeyTy.int Tryz.underlying3
/-- insertion sort, of a slice of one's own, by a function that only reads -/
theorem insSort_day {n : Nat} {xs : List (Int × Int)} {ad : Option Addr} {cap : Nat} {g : Nat} {caps : List Value} {cin : List Chunk} {lt : (Int × Int) → (Int × Int) → Bool} {cf : (Int × Int) → (Int × Int) → Int} (hlt : ∀ a b, lt a b = decide (cf a b < 0)) (hl : xs.length ≤ 1000000) (hn : n = xs.length)
    (hs : ∀ a b, a ∈ xs → b ∈ xs → Spec Tryz.prog g ([(fun x : Int × Int => Tr.agg (prD x)) a, (fun x : Int × Int => Tr.agg (prD x)) b] ++ caps.map Tr.raw) cin (fun r cs => r = Tr.int (cf a b) ∧ cs = cin)) :
    Spec Tryz.prog 89 [Tr.raw (.slice ad n cap), .int 0, .int n, Tr.raw (.func (.func g) #[] caps.toArray)] (Chunk.own ad cap 2 46 (xs.map prD) :: cin) (fun r cs => r = Tr.tup [] ∧ cs = Chunk.own ad cap 2 46 ((isort lt xs).map prD) :: cin) := by
  refine Spec.body Tryz.func89 rfl rfl (Tryz.ntmps89) rfl fun w0 own0 M => ?_
  repeat' (first | refine goH ?_ | refine goV ?_ | refine goG ?_ | (refine Ops.k_guard ?_; first | (refine Ops.guard_dec rfl rfl (fun hc => ?_) (fun hc => ?_) <;> try (exfalso; omega)) | refine Ops.guard_split rfl rfl (fun hc => ?_) (fun hc => ?_)) | refine goI ?_ | (refine Cw.k_cond ?_; first | (refine Cw.cond_dec rfl (fun hc => ?_) (fun hc => ?_) <;> try (exfalso; omega)) | refine Cw.cond_bool rfl (fun hc => ?_) (fun hc => ?_)) | refine goR ?_ | refine goP ?_ | apply PSeq.cons | apply PSeq.yes rfl rfl rfl | exact goW | fail)
  refine Cw.loopI [(0, _), (1, _), (2, _), (3, _)] cin (fun q e c => ∃ (i : Nat) (rows : List (List Tr)), q = n - i ∧ (1 ≤ i ∧ i ≤ max 1 n ∧ rows = (isort lt (xs.take i) ++ xs.drop i).map prD ∧ rows.length = n) ∧ e = [(8, .int i)] ∧ c = [Chunk.own ad cap 2 46 rows])
    ⟨_, _, _, (Ent.mkP goSub goPm), 1, xs.map prD, rfl, ⟨by omega, by omega, by rw [isort_take1, List.take_append_drop], by rw [List.length_map, hn]⟩, rfl, rfl⟩ ?_
  rintro _ _ _ ⟨i, rows, rfl, ⟨hi1, hi2, hrows, hrl⟩, rfl, rfl⟩
  by_cases hil : i < n
  · obtain ⟨x, hx⟩ : ∃ x, xs[i]? = some x := at_lt (by omega)
    obtain ⟨S, hS⟩ : ∃ S, S = isort lt (xs.take i) := ⟨_, rfl⟩
    have hSl : S.length = i := by rw [hS, isort_len, List.length_take]; omega
    have hSm : ∀ y ∈ S, y ∈ xs := fun y hy => List.mem_of_mem_take ((isort_perm lt (xs.take i)).mem_iff.1 (by rw [← hS]; exact hy))
    have hxm : x ∈ xs := List.mem_of_getElem? hx
    have hnext : isort lt (xs.take (i + 1)) = insB lt x S := by rw [take_at hx, isort_snoc, ← hS]
    rw [← hS, drop_at hx] at hrows
    repeat' (first | refine goH ?_ | refine goV ?_ | refine goG ?_ | (refine Ops.k_guard ?_; first | (refine Ops.guard_dec rfl rfl (fun hc => ?_) (fun hc => ?_) <;> try (exfalso; omega)) | refine Ops.guard_split rfl rfl (fun hc => ?_) (fun hc => ?_)) | refine goI ?_ | (refine Cw.k_cond ?_; first | (refine Cw.cond_dec rfl (fun hc => ?_) (fun hc => ?_) <;> try (exfalso; omega)) | refine Cw.cond_bool rfl (fun hc => ?_) (fun hc => ?_)) | refine goR ?_ | refine goP ?_ | apply PSeq.cons | apply PSeq.yes rfl rfl rfl | exact goW | fail)
    refine Cw.loopI [(0, _), (1, _), (2, _), (3, _), (8, _)] cin (fun q e c => ∃ (f m : List (Int × Int)) (rows : List (List Tr)) (j : Nat), q = f.length ∧ (f.length = j ∧ S = f ++ m ∧ insB lt x S = insB lt x f ++ m ∧ rows = (f ++ x :: (m ++ xs.drop (i + 1))).map prD ∧ rows.length = n) ∧ e = [(9, .int j)] ∧ c = [Chunk.own ad cap 2 46 rows])
      ⟨_, _, _, (Ent.mkP goSub goPm), S, [], rows, i, rfl, ⟨hSl, by simp, by simp, by rw [hrows]; simp, hrl⟩, rfl, rfl⟩ ?_
    clear hrows hrl
    rintro _ _ _ ⟨f, m, rows, j, rfl, ⟨hj, hfm, hins, hrows, hrl⟩, rfl, rfl⟩
    have hfl : j ≤ i := by rw [← hSl, hfm, List.length_append]; omega
    have hx0 : rows[((j : Nat) : Int).toNat]? = some [.int x.1, .int x.2] := by rw [hrows]; exact rows_at (by simp [← hj])
    have fin : ∀ rows' : List (List Tr), rows' = (f ++ x :: (m ++ xs.drop (i + 1))).map prD → insB lt x f = f ++ [x] → rows' = (isort lt (xs.take (i + 1)) ++ xs.drop (i + 1)).map prD := by
      intro rows' h1 h2
      rw [h1, hnext, hins, h2]
      simp
    rcases List.eq_nil_or_concat f with rfl | ⟨f', y, rfl⟩
    · rw [List.length_nil] at hj
      subst hj
      have h0 := fin rows hrows (insB_nil lt x)
      repeat' (first | refine goH ?_ | refine goV ?_ | refine goG ?_ | (refine Ops.k_guard ?_; first | (refine Ops.guard_dec rfl rfl (fun hc => ?_) (fun hc => ?_) <;> try (exfalso; omega)) | refine Ops.guard_split rfl rfl (fun hc => ?_) (fun hc => ?_)) | refine goI ?_ | (refine Cw.k_cond ?_; first | (refine Cw.cond_dec rfl (fun hc => ?_) (fun hc => ?_) <;> try (exfalso; omega)) | refine Cw.cond_bool rfl (fun hc => ?_) (fun hc => ?_)) | refine goR ?_ | refine goP ?_ | apply PSeq.cons | apply PSeq.yes rfl rfl rfl | exact goW | fail)
      exact ⟨_, _, _, (Ent.mkP goSub goPm), ⟨i + 1, rows, rfl, ⟨by omega, by omega, h0, hrl⟩, rfl, rfl⟩, by omega⟩
    · rw [List.concat_eq_append] at *
      have hym : y ∈ xs := hSm y (by rw [hfm]; simp)
      have hspec := hs x y hxm hym
      have hjl : (f' ++ [y]).length = f'.length + 1 := by simp
      rw [hjl] at hj
      subst hj
      have hy0 : rows[(((f'.length + 1 : Nat) : Int) - 1).toNat]? = some [.int y.1, .int y.2] := by
        rw [hrows, show (((f'.length + 1 : Nat) : Int) - 1).toNat = f'.length by omega]
        exact rows_at (by simp)
      cases hc0 : lt x y
      · have hcf : ¬ cf x y < 0 := by rw [hlt] at hc0; simpa using hc0
        have h0 := fin rows hrows (insB_ge lt hc0)
        repeat' (first | refine goH ?_ | refine goV ?_ | refine goG ?_ | (refine Ops.k_guard ?_; first | (refine Ops.guard_dec rfl rfl (fun hc => ?_) (fun hc => ?_) <;> try (exfalso; omega)) | refine Ops.guard_split rfl rfl (fun hc => ?_) (fun hc => ?_)) | refine goI ?_ | (refine Cw.k_cond ?_; first | (refine Cw.cond_dec rfl (fun hc => ?_) (fun hc => ?_) <;> try (exfalso; omega)) | refine Cw.cond_bool rfl (fun hc => ?_) (fun hc => ?_)) | exact OpW.callS_fn rfl hspec (Evs.cons rfl (Evs.cons rfl Evs.nil)) List.perm_append_comm | refine goR ?_ | refine goP ?_ | apply PSeq.cons | apply PSeq.yes rfl rfl rfl | exact goW | fail)
        exact ⟨_, _, _, (Ent.mkP goSub goPm), ⟨i + 1, rows, rfl, ⟨by omega, by omega, h0, hrl⟩, rfl, rfl⟩, by omega⟩
      · have hcf : cf x y < 0 := by rw [hlt] at hc0; simpa using hc0
        have hset : (rows.set ((f'.length + 1 : Nat) : Int).toNat [.int y.1, .int y.2])[(((f'.length + 1 : Nat) : Int) - 1).toNat]? = some [.int y.1, .int y.2] := by
          rw [List.getElem?_set_ne (by omega)]
          exact hy0
        have hlen2 : (rows.set ((f'.length + 1 : Nat) : Int).toNat [.int y.1, .int y.2]).length = n := by rw [List.length_set]; exact hrl
        have hres : (rows.set ((f'.length + 1 : Nat) : Int).toNat [.int y.1, .int y.2]).set (((f'.length + 1 : Nat) : Int) - 1).toNat [.int x.1, .int x.2] = (f' ++ x :: (y :: m ++ xs.drop (i + 1))).map prD := by
          rw [hrows, show (((f'.length + 1 : Nat) : Int) - 1).toNat = f'.length by omega, show ((f'.length + 1 : Nat) : Int).toNat = f'.length + 1 by omega]
          simp [List.set_append]
          all_goals (try exact ⟨rfl, rfl⟩)
        have hm : S = f' ++ (y :: m) := by rw [hfm]; simp
        have hins2 : insB lt x S = insB lt x f' ++ (y :: m) := by rw [hins, insB_lt lt hc0]; simp
        clear fin hnext hS hSl hSm hfm hins hrows
        repeat' (first | refine goH ?_ | refine goV ?_ | refine goG ?_ | (refine Ops.k_guard ?_; first | (refine Ops.guard_dec rfl rfl (fun hc => ?_) (fun hc => ?_) <;> try (exfalso; omega)) | refine Ops.guard_split rfl rfl (fun hc => ?_) (fun hc => ?_)) | refine goI ?_ | (refine Cw.k_cond ?_; first | (refine Cw.cond_dec rfl (fun hc => ?_) (fun hc => ?_) <;> try (exfalso; omega)) | refine Cw.cond_bool rfl (fun hc => ?_) (fun hc => ?_)) | exact OpW.callS_fn rfl hspec (Evs.cons rfl (Evs.cons rfl Evs.nil)) List.perm_append_comm | refine goR ?_ | refine goP ?_ | apply PSeq.cons | apply PSeq.yes rfl rfl rfl | exact goW | fail)
        refine Cw.region_seqF (m := 15) [2, 3, 4] rfl (by decide +kernel) rfl (fun a w d => ?_) ?_
        · have h9 := rd_raw (d.env 9 _ rfl)
          have hs : a.tmps.size = 53 := d.tmps
          have h9' : a.tmps[9]'(by omega) = .int .i64 ((f'.length + 1 : Nat) : Int) := by simpa [hs] using h9
          exact FlRun.move rfl rfl rfl rfl (FlRun.move rfl rfl rfl rfl (FlRun.sub1 (p := ((f'.length + 1 : Nat) : Int)) rfl rfl rfl rfl (by simp [Act.put, Act.eval, hs, h9']) FlRun.nil))
        repeat' (first | refine goH ?_ | refine goV ?_ | refine goG ?_ | (refine Ops.k_guard ?_; first | (refine Ops.guard_dec rfl rfl (fun hc => ?_) (fun hc => ?_) <;> try (exfalso; omega)) | refine Ops.guard_split rfl rfl (fun hc => ?_) (fun hc => ?_)) | refine goI ?_ | (refine Cw.k_cond ?_; first | (refine Cw.cond_dec rfl (fun hc => ?_) (fun hc => ?_) <;> try (exfalso; omega)) | refine Cw.cond_bool rfl (fun hc => ?_) (fun hc => ?_)) | refine NoP.norm ?_ | refine goR ?_ | refine goP ?_ | apply PSeq.cons | apply PSeq.yes rfl rfl rfl | exact goW | fail)
        refine ⟨_, _, _, ?_, ⟨f', y :: m, _, f'.length, rfl, ⟨rfl, hm, hins2, hres, by rw [List.length_set]; exact hlen2⟩, rfl, rfl⟩, by simp⟩
        rw [show ((f'.length + 1 : Nat) : Int) - 1 = (f'.length : Int) by omega]
        exact (Ent.mkP goSub goPm)
  · have hin : xs.take i = xs := List.take_of_length_le (by omega)
    rw [hin, List.drop_eq_nil_of_le (by omega), List.append_nil] at hrows
    subst hrows
    repeat' (first | refine goH ?_ | refine goV ?_ | refine goG ?_ | (refine Ops.k_guard ?_; first | (refine Ops.guard_dec rfl rfl (fun hc => ?_) (fun hc => ?_) <;> try (exfalso; omega)) | refine Ops.guard_split rfl rfl (fun hc => ?_) (fun hc => ?_)) | refine goI ?_ | (refine Cw.k_cond ?_; first | (refine Cw.cond_dec rfl (fun hc => ?_) (fun hc => ?_) <;> try (exfalso; omega)) | refine Cw.cond_bool rfl (fun hc => ?_) (fun hc => ?_)) | refine goR ?_ | refine goP ?_ | apply PSeq.cons | apply PSeq.yes rfl rfl rfl | exact goW | fail)
    exact Fin.norm (Ent.mkP goSub goPm) (Outs.zero rfl) ⟨rfl, rfl⟩

/-- slices.SortFunc on at most 12 elements -/
theorem pdq_day {n : Nat} {d : Int} {xs : List (Int × Int)} {ad : Option Addr} {cap : Nat} {g : Nat} {caps : List Value} {cin : List Chunk} {lt : (Int × Int) → (Int × Int) → Bool} {cf : (Int × Int) → (Int × Int) → Int} (hlt : ∀ a b, lt a b = decide (cf a b < 0)) (hl : xs.length ≤ 12) (hn : n = xs.length)
    (hs : ∀ a b, a ∈ xs → b ∈ xs → Spec Tryz.prog g ([(fun x : Int × Int => Tr.agg (prD x)) a, (fun x : Int × Int => Tr.agg (prD x)) b] ++ caps.map Tr.raw) cin (fun r cs => r = Tr.int (cf a b) ∧ cs = cin)) :
    Spec Tryz.prog 70 [Tr.raw (.slice ad n cap), .int 0, .int n, .int d, Tr.raw (.func (.func g) #[] caps.toArray)] (Chunk.own ad cap 2 46 (xs.map prD) :: cin) (fun r cs => r = Tr.tup [] ∧ cs = Chunk.own ad cap 2 46 ((isort lt xs).map prD) :: cin) := by
  have hi := insSort_day (ad := ad) (cap := cap) hlt (show xs.length ≤ 1000000 by omega) hn hs
  refine Spec.body Tryz.func70 rfl rfl (Tryz.ntmps70) rfl fun w0 own0 M => ?_
  repeat' (first | refine goH ?_ | refine goV ?_ | refine goG ?_ | (refine Ops.k_guard ?_; first | (refine Ops.guard_dec rfl rfl (fun hc => ?_) (fun hc => ?_) <;> try (exfalso; omega)) | refine Ops.guard_split rfl rfl (fun hc => ?_) (fun hc => ?_)) | refine goI ?_ | (refine Cw.k_cond ?_; first | (refine Cw.cond_dec rfl (fun hc => ?_) (fun hc => ?_) <;> try (exfalso; omega)) | refine Cw.cond_bool rfl (fun hc => ?_) (fun hc => ?_)) | refine goR ?_ | refine goP ?_ | apply PSeq.cons | apply PSeq.yes rfl rfl rfl | exact goW | fail)
  refine Cw.loopI [(0, _), (4, _)] _ (fun q e c => q = 0 ∧ e = [(1, .int 0), (2, .int n), (3, .int d), (10, .bool true), (11, .bool true)] ∧ c = []) ⟨_, _, _, (Ent.mkP goSub goPm), rfl, rfl, rfl⟩ ?_
  rintro _ _ _ ⟨rfl, rfl, rfl⟩
  repeat' (first | refine goH ?_ | refine goV ?_ | refine goG ?_ | (refine Ops.k_guard ?_; first | (refine Ops.guard_dec rfl rfl (fun hc => ?_) (fun hc => ?_) <;> try (exfalso; omega)) | refine Ops.guard_split rfl rfl (fun hc => ?_) (fun hc => ?_)) | refine goI ?_ | (refine Cw.k_cond ?_; first | (refine Cw.cond_dec rfl (fun hc => ?_) (fun hc => ?_) <;> try (exfalso; omega)) | refine Cw.cond_bool rfl (fun hc => ?_) (fun hc => ?_)) | (refine Ops.k_calla ?_; first | (refine Ops.call (cf := []) hi (Evs.cons rfl (Evs.cons rfl (Evs.cons rfl (Evs.cons rfl Evs.nil)))) (by simp) rfl ?_; rintro r cs' ⟨rfl, rfl⟩)) | refine goR ?_ | refine goP ?_ | apply PSeq.cons | apply PSeq.yes rfl rfl rfl | exact goW | fail)
  first | exact Fin.norm (Ent.mkP goSub (by simp)) (Outs.zero rfl) ⟨rfl, rfl⟩ | exact Fin.ret (Ent.mkP goSub (by simp)) (Outs.zero rfl) ⟨rfl, rfl⟩
theorem sortFunc_day {n : Nat} {xs : List (Int × Int)} {ad : Option Addr} {cap : Nat} {g : Nat} {caps : List Value} {cin : List Chunk} {lt : (Int × Int) → (Int × Int) → Bool} {cf : (Int × Int) → (Int × Int) → Int} (hlt : ∀ a b, lt a b = decide (cf a b < 0)) (hl : xs.length ≤ 12) (hn : n = xs.length)
    (hs : ∀ a b, a ∈ xs → b ∈ xs → Spec Tryz.prog g ([(fun x : Int × Int => Tr.agg (prD x)) a, (fun x : Int × Int => Tr.agg (prD x)) b] ++ caps.map Tr.raw) cin (fun r cs => r = Tr.int (cf a b) ∧ cs = cin)) :
    Spec Tryz.prog 47 [Tr.raw (.slice ad n cap), Tr.raw (.func (.func g) #[] caps.toArray)] (Chunk.own ad cap 2 46 (xs.map prD) :: cin) (fun r cs => r = Tr.tup [] ∧ cs = Chunk.own ad cap 2 46 ((isort lt xs).map prD) :: cin) := by
  have hi := fun d => pdq_day (d := d) (ad := ad) (cap := cap) hlt hl hn hs
  have hb := bitsLen_fn n (by omega)
  unfold PFn at hb
  refine Spec.body Tryz.func47 rfl rfl (Tryz.ntmps47) rfl fun w0 own0 M => ?_
  repeat' (first | refine goH ?_ | (refine Ops.k_convert ?_; first | (refine Ops.convN Tryz.underlying3 Tryz.underlying103 rfl (wrap_u64 (by omega)) rfl ?_)) | refine goV ?_ | refine goI ?_ | (refine Cw.k_cond ?_; first | (refine Cw.cond_dec rfl (fun hc => ?_) (fun hc => ?_) <;> try (exfalso; omega)) | refine Cw.cond_bool rfl (fun hc => ?_) (fun hc => ?_)) | (refine Ops.k_calla ?_; first | (refine Ops.k_callf 67 ?_; (refine Ops.call hb (Evs.cons rfl Evs.nil) (by rw [List.nil_append]) rfl ?_; rintro r cs' ⟨rfl, v, rfl⟩; rw [List.nil_append])) | (refine Ops.call (cf := []) (hi _) (Evs.cons rfl (Evs.cons rfl (Evs.cons rfl (Evs.cons rfl (Evs.cons rfl Evs.nil))))) (by simp) rfl ?_; rintro r cs' ⟨rfl, rfl⟩)) | fail)
  first | exact Fin.norm (Ent.mkP goSub (by simp)) (Outs.zero rfl) ⟨rfl, rfl⟩ | exact Fin.ret (Ent.mkP goSub (by simp)) (Outs.zero rfl) ⟨rfl, rfl⟩

theorem PFn.impA {P : Program} {f : FuncId} {ts ts' : List Tr} {R : Tr → Prop} (hi : ImpL ts ts') (h : PFn P f ts' R) : PFn P f ts R := by
  unfold PFn Spec at h ⊢
  exact ⟨h.1, fun M w vs hv => h.2 M w vs (hi.rdl hv)⟩
theorem Imp.aggV {vs : List Value} (h : ∀ v ∈ vs, v.oneCell' = true) : Imp (Tr.raw (.agg vs.toArray)) (.agg (vs.map Tr.raw)) := by
  intro w A v hv
  have := rd_raw hv
  subst this
  unfold Tr.agg
  exact ⟨vs, rfl, rdc_raw h⟩
def cfP (a b : Int × Int) : Int := cmpI a.1 b.1
theorem ltP_c (a b : Int × Int) : ltP a b = decide (cfP a b < 0) := by
  unfold ltP cfP
  rw [Bool.eq_iff_iff, decide_eq_true_iff, decide_eq_true_iff, cmpI_lt]
theorem ltPf (a b : Int × Int) : ltOf cfP a b = decide (a.1 < b.1) := by
  unfold ltOf cfP
  rw [Bool.eq_iff_iff, decide_eq_true_iff, decide_eq_true_iff, cmpI_lt]
theorem swo_P : SWO (ltOf cfP) := by
  refine ⟨fun x => ?_, fun x y z h1 h2 => ?_, fun x y z h1 h2 => ?_⟩
  · rw [ltPf]; simp
  · rw [ltPf] at *; simp only [decide_eq_true_eq] at *; omega
  · rw [ltPf] at *; simp only [decide_eq_false_iff_not] at *; omega
abbrev encP (x : Int × Int) : List Value := [.int .i64 x.1, .int .i64 x.2]
theorem encP_one (x : Int × Int) : ∀ v ∈ encP x, v.oneCell' = true := by
  intro v hv
  rcases List.mem_cons.1 hv with rfl | hv
  · rfl
  · rcases List.mem_cons.1 hv with rfl | hv
    · rfl
    · cases hv
theorem sortDayK {g : Nat} (hg : ∀ x y : Int × Int, PFn Tryz.prog g [.agg (prD x), .agg (prD y)] (· = .int (cfP x y))) (us : List (Int × Int)) (hu : us.length ≤ 1000000) (hn : (us.map Prod.fst).Nodup) (ad : Option Addr) (cap : Nat) : Spec Tryz.prog 47 [Tr.raw (.slice ad us.length cap), Tr.raw (.func (.func g) #[] #[])] [Chunk.own ad cap 2 46 (us.map prD)]
    (fun r cs => r = Tr.tup [] ∧ cs = [Chunk.own ad cap 2 46 ((isort ltP us).map prD)]) := by
  by_cases h0 : us = []
  · subst h0
    exact sortFunc_day (ad := ad) (cap := cap) (n := 0) (xs := []) (g := g) (caps := []) (cin := []) (lt := ltP) (cf := cfP) ltP_c (by simp) rfl (fun a b ha hb => by cases ha)
  · have hp : 1 ≤ us.length := by
      cases us with
      | nil => exact absurd rfl h0
      | cons a rest => simp
    have h := sortFuncK Tryz.sortDay (k := 2) (by omega) Tryz.isAgg46 Tryz.sizeOf46 encP (fun _ => rfl) encP_one cfP swo_P (g := g) (bx := []) (fun x y => (hg x y).impA (.cons (Imp.aggV (encP_one x)) (.cons (Imp.aggV (encP_one y)) .nil))) (ad := ad) (cap := cap) (E := 46) (xs := us) (n := us.length) rfl hp (by omega)
    refine Spec.mono h ?_
    rintro r cs ⟨ys, rfl, rfl, hperm, hsort⟩
    have hny : (ys.map Prod.fst).Nodup := (hperm.map Prod.fst).nodup_iff.2 hn
    have e : ys = isort ltP us := by
      have e1 : isort ltP ys = isort ltP us := isortI_uniq (key := Prod.fst) hperm hny
      rw [← e1]
      refine sorted_uniq (le := fun a b : Int × Int => a.1 ≤ b.1) (isort_perm ltP ys).symm ?_ (hsort.imp fun {a b} h => ?_) (isort_key_sorted (key := Prod.fst) ys)
      · intro a ha b hb h1 h2
        exact key_inj hny a ha b hb (by omega)
      · rw [ltPf] at h
        simp only [decide_eq_false_iff_not] at h
        omega
    subst e
    exact ⟨rfl, rfl⟩
theorem dayLtD_fn (x y : Int × Int) : PFn Tryz.prog 48 [.agg (prD x), .agg (prD y)] (· = .int (cfP x y)) := by
  obtain ⟨x1, x2⟩ := x
  obtain ⟨y1, y2⟩ := y
  have k1 := compare_fn x1 y1
  unfold cfP prD
  simp only
  generalize cmpI x1 y1 = o at *
  refine PFn.mk (Spec.body Tryz.func48 rfl rfl (Tryz.ntmps48) rfl fun w0 own0 M => ?_)
  repeat' (first | refine goH ?_ | refine goV ?_ | refine goB (fun b => ?_) | refine goI ?_ | (refine Cw.k_cond ?_; first | (refine Cw.cond_dec rfl (fun hc => ?_) (fun hc => ?_) <;> try (exfalso; omega)) | refine Cw.cond_bool rfl (fun hc => ?_) (fun hc => ?_)) | (refine Ops.k_calla ?_; first | (refine Ops.k_callf 35 ?_; refine Ops.callV k1 (Evs.cons rfl (Evs.cons rfl Evs.nil)) rfl ?_)) | fail)
  exact Fin.ret (Ent.take goTk) (Outs.one rfl rfl) ⟨rfl, rfl⟩
theorem dayLtR_fn (x y : Int × Int) : PFn Tryz.prog 50 [.agg (prD x), .agg (prD y)] (· = .int (cfP x y)) := by
  obtain ⟨x1, x2⟩ := x
  obtain ⟨y1, y2⟩ := y
  have k1 := compare_fn x1 y1
  unfold cfP prD
  simp only
  generalize cmpI x1 y1 = o at *
  refine PFn.mk (Spec.body Tryz.func50 rfl rfl (Tryz.ntmps50) rfl fun w0 own0 M => ?_)
  repeat' (first | refine goH ?_ | refine goV ?_ | refine goB (fun b => ?_) | refine goI ?_ | (refine Cw.k_cond ?_; first | (refine Cw.cond_dec rfl (fun hc => ?_) (fun hc => ?_) <;> try (exfalso; omega)) | refine Cw.cond_bool rfl (fun hc => ?_) (fun hc => ?_)) | (refine Ops.k_calla ?_; first | (refine Ops.k_callf 35 ?_; refine Ops.callV k1 (Evs.cons rfl (Evs.cons rfl Evs.nil)) rfl ?_)) | fail)
  exact Fin.ret (Ent.take goTk) (Outs.one rfl rfl) ⟨rfl, rfl⟩
theorem snocP (g : PI) (p : Int × Int) (h : 0 < p.2) : (g.filter pz).map prD ++ [prD p] = ((g ++ [p]).filter pz).map prD := by
  rw [List.filter_append, List.map_append]
  simp [pz, h]
theorem skipP (g : PI) (p : Int × Int) (h : ¬ 0 < p.2) : (g.filter pz).map prD = ((g ++ [p]).filter pz).map prD := by
  rw [List.filter_append, List.map_append]
  simp [pz, h]
end Lg
end
