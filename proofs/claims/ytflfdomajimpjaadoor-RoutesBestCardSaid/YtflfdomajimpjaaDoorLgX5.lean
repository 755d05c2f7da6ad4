/- A part of the proof of a law of this seat: it adds no condition. By an AI agent. -/
import Derived.Lib.AppendZeros
import Derived.Test.YtflfdomajimpjaaDoorLgX2
section
set_option linter.all false
namespace Lg

/-! ### insertion sort, as slices.SortStableFunc does it on short slices: from the left, each new one is moved down past those that are greater -/
section isort
variable {α : Type} (lt : α → α → Bool)

def insRev (x : α) : List α → List α
  | [] => [x]
  | y :: r => if lt x y then y :: insRev x r else x :: y :: r
/-- x is put into l, from the right -/
def insB (x : α) (l : List α) : List α := (insRev lt x l.reverse).reverse
theorem insB_nil (x : α) : insB lt x [] = [x] := rfl
theorem insB_lt {x y : α} {l : List α} (h : lt x y = true) : insB lt x (l ++ [y]) = insB lt x l ++ [y] := by
  unfold insB
  rw [List.reverse_append, List.reverse_singleton, List.singleton_append, insRev, if_pos h, List.reverse_cons]
theorem insB_ge {x y : α} {l : List α} (h : lt x y = false) : insB lt x (l ++ [y]) = l ++ [y] ++ [x] := by
  unfold insB
  rw [List.reverse_append, List.reverse_singleton, List.singleton_append, insRev, if_neg (by simp [h])]
  simp
/-- all of a list, one after the other -/
def isortB : List α → List α → List α
  | acc, [] => acc
  | acc, x :: l => isortB (insB lt x acc) l
def isort (l : List α) : List α := isortB lt [] l

theorem insRev_perm (x : α) : ∀ l : List α, (insRev lt x l).Perm (x :: l)
  | [] => List.Perm.refl _
  | y :: r => by
    unfold insRev
    split
    · exact (List.Perm.cons y (insRev_perm x r)).trans (List.Perm.swap x y r)
    · exact List.Perm.refl _
theorem insB_perm (x : α) (l : List α) : (insB lt x l).Perm (x :: l) :=
  (List.reverse_perm _).trans ((insRev_perm lt x _).trans (List.Perm.cons x (List.reverse_perm l)))
theorem insB_len (x : α) (l : List α) : (insB lt x l).length = l.length + 1 := by
  have := (insB_perm lt x l).length_eq
  simpa using this
theorem isortB_perm : ∀ (l acc : List α), (isortB lt acc l).Perm (acc ++ l)
  | [], acc => by simp [isortB]
  | x :: l, acc => by
    rw [isortB]
    refine (isortB_perm l _).trans ?_
    refine (List.Perm.append_right l (insB_perm lt x acc)).trans ?_
    exact (List.perm_middle (a := x) (l₁ := acc) (l₂ := l)).symm
theorem isort_perm (l : List α) : (isort lt l).Perm l := by
  have := isortB_perm lt l []
  simpa [isort] using this
theorem isort_len (l : List α) : (isort lt l).length = l.length := (isort_perm lt l).length_eq
end isort

section keyed
variable {α : Type} (key : α → Int)

theorem insRev_key_sorted (x : α) : ∀ {l : List α}, l.Pairwise (fun a b => key b ≤ key a) → (insRev (fun a b => decide (key a < key b)) x l).Pairwise (fun a b => key b ≤ key a)
  | [], _ => by simp [insRev]
  | y :: r, h => by
    obtain ⟨h1, h2⟩ := List.pairwise_cons.1 h
    unfold insRev
    split
    · rename_i hc
      have hc : key x < key y := by simpa using hc
      refine List.pairwise_cons.2 ⟨?_, insRev_key_sorted x h2⟩
      intro z hz
      rcases List.mem_cons.1 ((insRev_perm _ x r).mem_iff.1 hz) with rfl | hz
      · omega
      · exact h1 z hz
    · rename_i hc
      have hc : ¬ key x < key y := by simpa using hc
      refine List.pairwise_cons.2 ⟨?_, h⟩
      intro z hz
      rcases List.mem_cons.1 hz with rfl | hz
      · omega
      · have := h1 z hz; omega
theorem insB_key_sorted (x : α) {l : List α} (h : l.Pairwise (fun a b => key a ≤ key b)) : (insB (fun a b => decide (key a < key b)) x l).Pairwise (fun a b => key a ≤ key b) := by
  unfold insB
  rw [List.pairwise_reverse]
  exact insRev_key_sorted key x (by rw [List.pairwise_reverse]; exact h)
theorem isortB_key_sorted : ∀ (l : List α) {acc : List α}, acc.Pairwise (fun a b => key a ≤ key b) → (isortB (fun a b => decide (key a < key b)) acc l).Pairwise (fun a b => key a ≤ key b)
  | [], _, h => h
  | x :: l, _, h => isortB_key_sorted l (insB_key_sorted key x h)
theorem isort_key_sorted (l : List α) : (isort (fun a b => decide (key a < key b)) l).Pairwise (fun a b => key a ≤ key b) := isortB_key_sorted key l List.Pairwise.nil

theorem insRev_key_filter (x : α) (d : Int) : ∀ {l : List α}, l.Pairwise (fun a b => key b ≤ key a) → (insRev (fun a b => decide (key a < key b)) x l).filter (fun a => decide (key a = d)) = ([x] ++ l).filter (fun a => decide (key a = d))
  | [], _ => by simp [insRev]
  | y :: r, h => by
    obtain ⟨h1, h2⟩ := List.pairwise_cons.1 h
    unfold insRev
    split
    · rename_i hc
      have hc : key x < key y := by simpa using hc
      rw [List.filter_cons, insRev_key_filter x d h2]
      by_cases hx : key x = d
      · have : key y ≠ d := by omega
        simp [hx, this]
      · simp [hx, List.filter_cons]
    · rfl
theorem insB_key_filter (x : α) (d : Int) {l : List α} (h : l.Pairwise (fun a b => key a ≤ key b)) : (insB (fun a b => decide (key a < key b)) x l).filter (fun a => decide (key a = d)) = (l ++ [x]).filter (fun a => decide (key a = d)) := by
  unfold insB
  rw [List.filter_reverse, insRev_key_filter key x d (by rw [List.pairwise_reverse]; exact h), ← List.filter_reverse]
  simp
theorem isortB_key_filter (d : Int) : ∀ (l : List α) {acc : List α}, acc.Pairwise (fun a b => key a ≤ key b) → (isortB (fun a b => decide (key a < key b)) acc l).filter (fun a => decide (key a = d)) = (acc ++ l).filter (fun a => decide (key a = d))
  | [], acc, _ => by simp [isortB]
  | x :: l, acc, h => by
    rw [isortB, isortB_key_filter d l (insB_key_sorted key x h), List.filter_append, insB_key_filter key x d h, ← List.filter_append]
    simp
theorem isort_key_filter (l : List α) (d : Int) : (isort (fun a b => decide (key a < key b)) l).filter (fun a => decide (key a = d)) = l.filter (fun a => decide (key a = d)) := by
  have := isortB_key_filter key d l (acc := []) List.Pairwise.nil
  simpa [isort] using this

/-- two lists in order that hold the same of each key are one -/
theorem eq_of_key_filters : ∀ {l1 l2 : List α}, l1.Pairwise (fun a b => key a ≤ key b) → l2.Pairwise (fun a b => key a ≤ key b) → (∀ d, l1.filter (fun a => decide (key a = d)) = l2.filter (fun a => decide (key a = d))) → l1 = l2
  | [], l2, _, _, h => by
    cases l2 with
    | nil => rfl
    | cons y l2 => have := h (key y); simp at this
  | x :: l1, l2, h1, h2, h => by
    obtain ⟨p1, p2⟩ := List.pairwise_cons.1 h1
    cases l2 with
    | nil => have := h (key x); simp at this
    | cons y l2 =>
      obtain ⟨q1, q2⟩ := List.pairwise_cons.1 h2
      have hxy : key x = key y := by
        have hx : x ∈ (y :: l2).filter (fun a => decide (key a = key x)) := by rw [← h]; simp
        have hy : y ∈ (x :: l1).filter (fun a => decide (key a = key y)) := by rw [h]; simp
        have a1 : key y ≤ key x := by
          rcases List.mem_cons.1 (List.mem_filter.1 hx).1 with e | e
          · rw [e]; omega
          · exact q1 _ e
        have a2 : key x ≤ key y := by
          rcases List.mem_cons.1 (List.mem_filter.1 hy).1 with e | e
          · rw [e]; omega
          · exact p1 _ e
        omega
      have he : x = y := by
        have := h (key x)
        rw [List.filter_cons, List.filter_cons] at this
        simp [hxy] at this
        exact this.1
      subst he
      congr 1
      refine eq_of_key_filters p2 q2 fun d => ?_
      have := h d
      rw [List.filter_cons, List.filter_cons] at this
      split at this
      · simpa using this
      · exact this
end keyed
end Lg
namespace Lg
/-! ### the first error of a row of tests -/
def firstE (e : Nat → Int) : Nat → Nat → Int
  | _, 0 => 0
  | k, n + 1 => if e k ≠ 0 then e k else firstE e (k + 1) n
theorem firstE_end {e : Nat → Int} {k n : Nat} (h : ¬ k < n) : firstE e k (n - k) = 0 := by
  rw [show n - k = 0 by omega]
  rfl
theorem firstE_step {e : Nat → Int} {k n : Nat} (h : k < n) : firstE e k (n - k) = if e k ≠ 0 then e k else firstE e (k + 1) (n - (k + 1)) := by
  obtain ⟨m, hm⟩ : ∃ m, n - k = m + 1 := ⟨n - k - 1, by omega⟩
  rw [hm, show n - (k + 1) = m by omega]
  rfl
theorem firstE_bad {e : Nat → Int} {k n : Nat} {c : Int} (h : k < n) (he : e k = c) (hc : c ≠ 0) : firstE e k (n - k) = c := by
  rw [firstE_step h, he, if_pos hc]
theorem firstE_ok {e : Nat → Int} {k n : Nat} (h : k < n) (he : e k = 0) : firstE e k (n - k) = firstE e (k + 1) (n - (k + 1)) := by
  rw [firstE_step h, if_neg (by simp [he])]
theorem firstE_zero {e : Nat → Int} : ∀ {n k : Nat}, firstE e k n = 0 → ∀ j, k ≤ j → j < k + n → e j = 0
  | 0, k, _, j, h1, h2 => by omega
  | n + 1, k, h, j, h1, h2 => by
    unfold firstE at h
    split at h
    · rename_i hc; exact absurd h hc
    · rename_i hc
      by_cases hj : j = k
      · subst hj; simpa using hc
      · exact firstE_zero h j (by omega) (by omega)
theorem firstE_ext {e f : Nat → Int} : ∀ {n k : Nat}, (∀ j, k ≤ j → j < k + n → e j = f j) → firstE e k n = firstE f k n
  | 0, _, _ => rfl
  | n + 1, k, h => by
    unfold firstE
    rw [h k (by omega) (by omega), firstE_ext fun j h1 h2 => h j (by omega) (by omega)]
end Lg
namespace Lg
/-! ### sums -/
def sumF {α : Type} (f : α → Int) : List α → Int
  | [] => 0
  | x :: l => f x + sumF f l
theorem sumF_cons {α : Type} (f : α → Int) (x : α) (l : List α) : sumF f (x :: l) = f x + sumF f l := rfl
theorem sumF_app {α : Type} (f : α → Int) : ∀ (a b : List α), sumF f (a ++ b) = sumF f a + sumF f b
  | [], b => by simp [sumF]
  | x :: a, b => by rw [List.cons_append, sumF_cons, sumF_cons, sumF_app f a b]; omega
theorem sumF_ext {α : Type} {f g : α → Int} : ∀ {l : List α}, (∀ x ∈ l, f x = g x) → sumF f l = sumF g l
  | [], _ => rfl
  | x :: l, h => by rw [sumF_cons, sumF_cons, h x (by simp), sumF_ext fun y hy => h y (by simp [hy])]
theorem sumF_ge {α : Type} {f : α → Int} : ∀ {l : List α}, (∀ x ∈ l, 0 ≤ f x) → 0 ≤ sumF f l
  | [], _ => Int.le_refl _
  | x :: l, h => by rw [sumF_cons]; have := h x (by simp); have := sumF_ge fun y hy => h y (List.mem_cons_of_mem x hy); omega
theorem firstE_drop {e : Nat → Int} : ∀ {n k : Nat}, (∀ j, k ≤ j → j < k + n → e j = 0) → firstE e k n = 0
  | 0, _, _ => rfl
  | n + 1, k, h => by
    unfold firstE
    rw [if_neg (by simp [h k (by omega) (by omega)])]
    exact firstE_drop fun j h1 h2 => h j (by omega) (by omega)
end Lg
namespace Lg
section isort2
variable {α : Type} (lt : α → α → Bool)
theorem isortB_snoc (x : α) : ∀ (l acc : List α), isortB lt acc (l ++ [x]) = insB lt x (isortB lt acc l)
  | [], acc => rfl
  | y :: l, acc => by rw [List.cons_append, isortB, isortB_snoc x l, isortB]
theorem isort_snoc (x : α) (l : List α) : isort lt (l ++ [x]) = insB lt x (isort lt l) := isortB_snoc lt x l []
theorem isort_take1 (xs : List α) : isort lt (xs.take 1) = xs.take 1 := by
  cases xs with
  | nil => rfl
  | cons x l => rfl
end isort2
end Lg
namespace Lg
section lexi
variable (key : Int → Int)
/-- by key, and among equals by what came first -/
def lexi (a b : Int) : Prop := key a < key b ∨ (key a = key b ∧ a < b)
theorem insRev_lexi (x : Int) : ∀ {l : List Int}, l.Pairwise (fun a b => lexi key b a) → (∀ y ∈ l, y < x) → (insRev (fun a b => decide (key a < key b)) x l).Pairwise (fun a b => lexi key b a)
  | [], _, _ => by simp [insRev]
  | y :: r, h, hx => by
    obtain ⟨h1, h2⟩ := List.pairwise_cons.1 h
    unfold insRev
    split
    · rename_i hc
      have hc : key x < key y := by simpa using hc
      refine List.pairwise_cons.2 ⟨?_, insRev_lexi x h2 fun z hz => hx z (by simp [hz])⟩
      intro z hz
      rcases List.mem_cons.1 ((insRev_perm _ x r).mem_iff.1 hz) with rfl | hz
      · exact .inl hc
      · exact h1 z hz
    · rename_i hc
      have hc : ¬ key x < key y := by simpa using hc
      refine List.pairwise_cons.2 ⟨?_, h⟩
      intro z hz
      have hzx := hx z hz
      have hzy : key z ≤ key y := by
        rcases List.mem_cons.1 hz with rfl | hz
        · omega
        · rcases h1 z hz with h | h <;> omega
      unfold lexi
      omega
theorem isortB_lexi : ∀ (l : List Int) {acc : List Int}, acc.Pairwise (lexi key) → l.Pairwise (· < ·) → (∀ y ∈ acc, ∀ x ∈ l, y < x) → (isortB (fun a b => decide (key a < key b)) acc l).Pairwise (lexi key)
  | [], _, h, _, _ => h
  | x :: l, acc, h, hl, hx => by
    obtain ⟨h1, h2⟩ := List.pairwise_cons.1 hl
    rw [isortB]
    refine isortB_lexi l ?_ h2 ?_
    · unfold insB
      rw [List.pairwise_reverse]
      exact insRev_lexi key x (by rw [List.pairwise_reverse]; exact h) (fun y hy => hx y (List.mem_reverse.1 hy) x (by simp))
    · intro y hy z hz
      rcases List.mem_cons.1 ((insB_perm _ x acc).mem_iff.1 hy) with rfl | hy
      · exact h1 z hz
      · exact hx y hy z (by simp [hz])
theorem isort_lexi {l : List Int} (h : l.Pairwise (· < ·)) : (isort (fun a b => decide (key a < key b)) l).Pairwise (lexi key) :=
  isortB_lexi key l List.Pairwise.nil h (by simp)
end lexi
end Lg
end
section
set_option linter.all false
namespace Lg
open Go
section cat
variable {P : Program} {Γ : Ctx} {env : Env} {cs cf : List Chunk} {Q : Post} {R : Array Oper} {rest : List Oper} {i : Tmp} {ty T T2 : TypeId} {pos : String} {af : Array Edge} {x y : Operand}
theorem OpV.cap {E : TypeId} {a : Option Addr} {n c : Nat} (hT : P.underlying T = some (.slice E)) (hx : ev env x = some (.raw (.slice a n c))) : OpV P Γ (.call ⟨.builtin .cap, #[x], #[T]⟩) ty env cs (.int c) := by
  unfold OpV
  intro ac w d
  have hv := rd_raw (d.ev hx)
  refine ⟨.int .i64 c, ?_, raw_self _⟩
  simp [execOp, resolve, invoke, builtin, hv, Builtin.cap_, run_underlying hT, goInt]
theorem zero_made (z : Array Value) (n : Nat) : Builtin.zeroCells z n = madeCells z (n * z.size) := by
  unfold Builtin.zeroCells madeCells
  apply Array.ext
  · simp
  · intro j h1 h2
    simp
/-- append(nil, make(..)...) -/
theorem Ops.append_zeros {E kk bb : Nat} {zs : List Value} [hS : TySl P T E kk bb zs] {kn : IntKind} {n : Nat} (hT2 : P.underlying T2 = some (.int kn)) (hx : ev env x = some (.raw (.slice none 0 0))) (hy : ev env y = some (.int n)) (h0 : 0 < n) (hb : n * bb ≤ 281474976710656) (hm : n ≤ 100000000000) (hi : Nat.blt i Γ.n = true)
    (kont : ∀ ad cap, Ops P Γ R rest ((i, .raw (.slice ad n cap)) :: env) (Chunk.own ad cap kk E (List.replicate n (zs.map Tr.raw)) :: cs) Q) : Ops P Γ R (⟨some i, .call ⟨.builtin .append, #[x, y], #[T, T2]⟩, ty, pos, af, none⟩ :: rest) env cs Q :=
  Ops.of fun a w d => by
    have hv := rd_raw (d.ev hx)
    have hv2 := rd_raw (d.ev hy)
    obtain ⟨ti, zv, h1, h2, h3, h4, h5, h6⟩ := hS.hE
    have hr := Lib.run_append_nil_zeros (P := P) w T T2 ty E ti zv .i64 kn hS.hT hT2 h1 h2 n h0 (by omega) (by omega) (by rw [h5]; exact hb)
    have hzs : zv.cells.size = kk := hS.hz _ _ h1 h2
    have hge := grownCap_ge w n 0 E
    have hle := grownCap_le_maxLen w n 0 E (by unfold maxLen; omega)
    generalize hcap : grownCap w n 0 E = cap at hr hge hle
    generalize hZ : Builtin.zeroCells zv.cells n ++ Builtin.zeroCells zv.cells (cap - n) = Z at hr
    refine ⟨_, _, .value (.slice (some ⟨w.heap.size, 0, none⟩) n cap), _, by simp [execOp, resolve, invoke, builtin, hv, hv2, hr] <;> rfl, .inl ⟨_, rfl, Den.put ?_ hi (raw_self _)⟩, kont (some ⟨w.heap.size, 0, none⟩) cap⟩
    have hZs : Z.size = cap * kk := by
      rw [← hZ]
      simp only [Array.size_append, size_zeroCells, hzs]
      rw [← Nat.add_mul]
      congr 1
      omega
    have hZt : Z.toList.take (n * kk) = (madeCells zv.cells (n * zv.cells.size)).toList := by
      rw [← hZ, Array.toList_append, List.take_append_of_le_length (by rw [Array.length_toList, size_zeroCells, hzs]; exact Nat.le_refl _), List.take_of_length_le (by rw [Array.length_toList, size_zeroCells, hzs]; exact Nat.le_refl _), zero_made]
    have hrd : ∀ A w', RdC w' A (zeroRow zv.cells.toList n) (madeCells zv.cells (n * zv.cells.size)).toList := fun A w' => madeCells_rd (by rw [h3]; exact hS.one) n
    refine (d.drew.push (w' := w.drew.alloc (.cells Z E)) _ (by simp) (by unfold Chunk.own; simp [Value.ownBlock]) (by unfold Chunk.own; simp [Value.ownBlock]) (fun b hb => heap_alloc_old w.drew _ b hb) rfl rfl rfl ?_)
    intro hs
    generalize av Γ.M (_ :: cs) = A at *
    unfold Chunk.own
    refine ⟨fun r hr => by rw [List.eq_of_mem_replicate hr]; simp [hS.hk], (madeCells zv.cells (n * zv.cells.size)).toList, ?_, ?_⟩
    · refine ⟨by rw [List.length_replicate, ← hZt, List.length_take, Array.length_toList, hZs]; exact Nat.min_eq_left (Nat.mul_le_mul_right kk hge), .inr ⟨w.heap.size, cap, Z, by rw [List.length_replicate], Nat.zero_le _, heap_alloc_new w.drew _, by rw [List.length_replicate]; exact hge, hle, hZs, by rw [List.length_replicate]; exact hZt⟩⟩
    · have e := zeroRow_flat zs n
      rw [e, ← h3]
      exact hrd _ _

variable {H : (Nat → Value) → (Nat → Bool) → List Chunk} {L : List Oper} {K : Env → List Chunk → Prop} {n d : Nat} {l : List Oper} {Pf : Nat → (Nat → Value) → Prop} {acc : (Nat → Value) → Env}
/-- a slice of zeros of one's own is made -/
theorem XSeq.mkOwn {E kk bb : Nat} {zs : List Value} [hS : TySl P T E kk bb zs] (m : Nat) (hx : ∀ ξ, ev (rst (slotsOf (.makeSlice T x y)) (acc ξ)) x = some (.int m)) (hy : ∀ ξ, ev (rst (slotsOf (.makeSlice T x y)) (acc ξ)) y = some (.int m)) (hb : bb * m ≤ 281474976710656) (hmx : m ≤ 1000000000)
    (hH : ∀ (ξ : Nat → Value) (S : Nat → Bool), S n = false → (∀ k ok, L[k]? = some ok → S k = true → ∀ j ∈ preds ok.after, S j = true) → ∀ ad cap, (H (upd ξ n (.slice ad m cap)) (updD S n)).Perm (Chunk.own ad cap kk E (List.replicate m (zs.map Tr.raw)) :: H ξ S))
    (k : XSeq P Γ H L K (n + 1) (fun ξ => (d, Tr.raw (ξ n)) :: acc ξ) (pfX n (fun ξ => ∃ ad cap, ξ n = .slice ad m cap) Pf) l) : XSeq P Γ H L K n acc Pf (⟨some d, .makeSlice T x y, ty, pos, af, none⟩ :: l) := by
  refine XSeq.cons (T := Tr.raw) (Pv := fun ξ => ∃ ad cap, ξ n = .slice ad m cap) (PvOk.own (p := fun v => ∃ ad cap, v = .slice ad m cap)) ?_ k
  unfold XStep
  intro ξ S h1 h2 h3 h4 a w dd next F hk
  have hv := rd_raw (dd.ev (hx ξ))
  have hv2 := rd_raw (dd.ev (hy ξ))
  obtain ⟨ti, zv, i1, i2, i3, i4, i5, i6⟩ := hS.hE
  have hr := run_make (P := P) w T E ti zv hS.hT i1 i2 .i64 .i64 m m (by omega) (Int.le_refl _) (by rw [i5, ← Int.natCast_mul]; omega) (by omega)
  have hzs : zv.cells.size = kk := hS.hz _ _ i1 i2
  simp only [Int.toNat_natCast, i4] at hr
  have hx2 : (execOp a.eval ⟨some d, .makeSlice T x y, ty, pos, af, none⟩).run P w = .ok (.value (.slice (some ⟨w.heap.size, 0, none⟩) m m)) (w.alloc (.cells (madeCells zv.cells (m * kk)) E)) := by simp [execOp, hv, hv2, hr] <;> rfl
  unfold Oper.wp
  rw [hx2]
  refine hk _ _ ⟨some ⟨w.heap.size, 0, none⟩, m, upd_same _ _ _⟩ (raw_self _) fun env2 d2 => Den.perm ?_ (hH ξ S h1 h3 _ _).symm
  refine d2.push _ (by simp) (by unfold Chunk.own; simp [Value.ownBlock]) (by unfold Chunk.own; simp [Value.ownBlock]) (fun b hb => heap_alloc_old w _ b hb) rfl rfl rfl ?_
  intro hs
  have hmd := madeCells_rd (w := w) (A := av Γ.M (H ξ S)) (zs := zv.cells) (by rw [i3]; exact hS.one) m
  rw [hzs, i3] at hmd
  generalize av Γ.M (_ :: H ξ S) = A at *
  unfold Chunk.own
  refine ⟨fun r hr => by rw [List.eq_of_mem_replicate hr]; simp [hS.hk], (madeCells zv.cells (m * kk)).toList, ?_, ?_⟩
  · simp only [List.length_replicate]
    exact World.ownsRow_lit w (madeCells zv.cells (m * kk)) m (Nat.zero_le _) (by simp only [maxLen]; omega) (size_madeCells _ _)
  · have e := zeroRow_flat zs m
    rw [e]
    exact hmd.mono hs
end cat
end Lg
end
section
set_option linter.all false
namespace Lg
open Go

section x3
variable {P : Program} {Γ : Ctx} {env env' : Env} {cs cs' cf : List Chunk}

/-- what an owned slice holds is told in less -/
theorem Ent.imp_own {ad : Option Addr} {cap kk : Nat} {e : TypeId} {rows rows' : List (List Tr)} (hp : cs.Perm (Chunk.own ad cap kk e rows :: cf)) (hl : rows'.length = rows.length)
    (hk : (∀ r ∈ rows, r.length = kk) → ∀ r ∈ rows', r.length = kk) (hi : ImpL rows.flatten rows'.flatten) : Ent Γ env cs env (Chunk.own ad cap kk e rows' :: cf) := by
  unfold Ent
  intro a w d
  have d := d.perm hp
  refine d.swapc (by simp only [fps, List.flatMap_cons]; unfold Chunk.own; simp only [hl]) ?_
  intro c hc
  rcases List.mem_cons.1 hc with rfl | hc
  · have hb := d.chunks (Chunk.own ad cap kk e rows) (by simp)
    generalize av Γ.M (Chunk.own ad cap kk e rows :: cf) = A at *
    unfold Chunk.own at hb ⊢
    obtain ⟨h0, xs, h1, h2⟩ := hb
    exact ⟨hk h0, xs, by rw [hl]; exact h1, hi.rd h2⟩
  · exact d.chunks c (List.mem_cons_of_mem _ hc)

theorem impL_repI : ∀ xs : List Int, ImpL (intRows xs).flatten (repI xs.length).flatten
  | [] => .nil
  | x :: xs => by
    have h := impL_repI xs
    have e1 : (intRows (x :: xs)).flatten = Tr.int x :: (intRows xs).flatten := by simp [intRows]
    have e2 : (repI (x :: xs).length).flatten = Tr.intS (fun _ => True) :: (repI xs.length).flatten := by simp [repI, List.replicate_succ]
    rw [e1, e2]
    exact .cons (Imp.intS trivial) h
theorem impL_refl : ∀ ts : List Tr, ImpL ts ts
  | [] => .nil
  | _ :: ts => .cons Imp.refl (impL_refl ts)
theorem impL_repI_set (v : Int) : ∀ (n j : Nat), ImpL ((repI n).set j [Tr.int v]).flatten (repI n).flatten
  | 0, j => by simpa [repI] using ImpL.nil
  | n + 1, 0 => by
    have e2 : repI (n + 1) = [Tr.intS (fun _ => True)] :: repI n := by simp [repI, List.replicate_succ]
    rw [e2]
    exact .cons (Imp.intS trivial) (impL_refl _)
  | n + 1, j + 1 => by
    have e2 : repI (n + 1) = [Tr.intS (fun _ => True)] :: repI n := by simp [repI, List.replicate_succ]
    rw [e2]
    exact .cons Imp.refl (impL_repI_set v n j)
theorem repI_k {n : Nat} : ∀ r ∈ repI n, r.length = 1 := by
  intro r hr
  rw [(List.mem_replicate.1 hr).2]
  rfl
theorem repI_get {n j : Nat} (h : j < n) : (repI n)[j]? = some [Tr.intS fun _ => True] := by
  unfold repI
  simp [h]
theorem Ent.own_repI {ad : Option Addr} {cap : Nat} {e : TypeId} {xs : List Int} (hp : cs.Perm (Chunk.own ad cap 1 e (intRows xs) :: cf)) : Ent Γ env cs env (Chunk.own ad cap 1 e (repI xs.length) :: cf) :=
  Ent.imp_own hp (by rw [repI_len, intRows_len]) (fun _ => repI_k) (impL_repI xs)
theorem Ent.own_repI_set {ad : Option Addr} {cap n j : Nat} {v : Int} {e : TypeId} (hp : cs.Perm (Chunk.own ad cap 1 e ((repI n).set j [Tr.int v]) :: cf)) : Ent Γ env cs env (Chunk.own ad cap 1 e (repI n) :: cf) :=
  Ent.imp_own hp (by rw [List.length_set]) (fun _ => repI_k) (impL_repI_set v n j)

/-- a tree that is a list of numbers -/
def OpnI (m : Nat) (t : Tr) : Prop := ∀ w A v, t.rd w A v → ∃ xs : List Int, xs.length ≤ m ∧ (Tr.ints xs).rd w A v
theorem opnI_rep {m n : Nat} (h : n ≤ m) : OpnI m (Tr.sl 1 (repI n)) := fun w A v hr => by
  obtain ⟨xs, h1, h2⟩ := open_repI w A v hr
  exact ⟨xs, by omega, h2⟩
theorem opnI_ints {m : Nat} {xs : List Int} (h : xs.length ≤ m) : OpnI m (Tr.ints xs) := fun w A v hr => ⟨xs, h, hr⟩
theorem opnI_nil {m : Nat} : OpnI m (Tr.raw (.slice none 0 0)) := fun w A v hr => ⟨[], by simp, by
  have := Imp.nil (k := 1) w A v hr
  exact this⟩
def rowsT (ts : List Tr) : List (List Tr) := ts.map fun t => [t]
def rowsI (L : List (List Int)) : List (List Tr) := L.map fun l => [Tr.ints l]
theorem rdc_rowsT {m : Nat} {w : World} {A : Nat → Prop} : ∀ {ts : List Tr} {vs : List Value}, (∀ t ∈ ts, OpnI m t) → RdC w A (rowsT ts).flatten vs → ∃ L : List (List Int), L.length = ts.length ∧ (∀ l ∈ L, l.length ≤ m) ∧ RdC w A (rowsI L).flatten vs
  | [], vs, _, h => ⟨[], rfl, by simp, by simpa [rowsT, rowsI] using h⟩
  | t :: ts, vs, ht, h => by
    have h : RdC w A (t :: (rowsT ts).flatten) vs := by simpa [rowsT] using h
    obtain ⟨v, rest, rfl, h1, h2, h3⟩ := h
    obtain ⟨xs, hx, h4⟩ := ht t (List.mem_cons_self ..) w A v h1
    obtain ⟨L, hl, hm, h5⟩ := rdc_rowsT (fun t h => ht t (List.mem_cons_of_mem _ h)) h3
    refine ⟨xs :: L, by simp [hl], ?_, ?_⟩
    · intro l hl
      rcases List.mem_cons.1 hl with rfl | h
      · exact hx
      · exact hm l h
    · have e : (rowsI (xs :: L)).flatten = Tr.ints xs :: (rowsI L).flatten := by simp [rowsI]
      rw [e]
      exact ⟨v, rest, rfl, h4, h2, h5⟩
theorem rowsT_len (ts : List Tr) : (rowsT ts).length = ts.length := by simp [rowsT]
theorem rowsI_len (L : List (List Int)) : (rowsI L).length = L.length := by simp [rowsI]
theorem rowsI_k {L : List (List Int)} : ∀ r ∈ rowsI L, r.length = 1 := by
  intro r hr
  obtain ⟨l, _, rfl⟩ := List.mem_map.1 hr
  rfl
theorem rowsT_k {L : List Tr} : ∀ r ∈ rowsT L, r.length = 1 := by
  intro r hr
  obtain ⟨l, _, rfl⟩ := List.mem_map.1 hr
  rfl
theorem open_rowsT {m : Nat} {ts : List Tr} (ht : ∀ t ∈ ts, OpnI m t) : ∀ w A v, (Tr.sl 1 (rowsT ts)).rd w A v → ∃ L : List (List Int), (L.length = ts.length ∧ ∀ l ∈ L, l.length ≤ m) ∧ (Tr.sl 1 (rowsI L)).rd w A v := by
  intro w A v h
  unfold Tr.sl at h
  obtain ⟨hk, hl, a, cap, hv, h1, h2, h3, h4⟩ := h
  rw [rowsT_len] at hl hv h1
  rcases h4 with h4 | ⟨b, off, ha, hA, c, e, fz, hb, hr⟩
  · have hn : ts = [] := by cases ts with
      | nil => rfl
      | cons t ts => simp [rowsT] at h4
    subst hn
    refine ⟨[], ⟨rfl, by simp⟩, ?_⟩
    unfold Tr.sl
    exact ⟨by simp [rowsI], by simp [rowsI], a, cap, by rw [hv]; simp [rowsI], by simp [rowsI], h2, fun h => ⟨rfl, (h3 h).2⟩, .inl rfl⟩
  · have hlen : (rowsT ts).flatten.length = ts.length := by rw [flat_len (kk := 1) rowsT_k, rowsT_len]; omega
    rw [hlen] at hr
    obtain ⟨L, hL, hm, h5⟩ := rdc_rowsT ht hr
    have hfl : (rowsI L).flatten.length = ts.length := by rw [flat_len (kk := 1) rowsI_k, rowsI_len, hL]; omega
    refine ⟨L, ⟨hL, hm⟩, ?_⟩
    unfold Tr.sl
    refine ⟨rowsI_k, by rw [rowsI_len, hL]; exact hl, a, cap, by rw [rowsI_len, hL]; exact hv, by rw [rowsI_len, hL]; exact h1, h2, ?_, .inr ⟨b, off, ha, hA, c, e, fz, hb, by rw [hfl]; exact h5⟩⟩
    intro h
    rw [ha] at h
    cases h
theorem rdc_one_rowsT {m : Nat} {ts : List Tr} (ht : ∀ t ∈ ts, OpnI m t) : ∀ w A vs, RdC w A [Tr.sl 1 (rowsT ts)] vs → ∃ L : List (List Int), (L.length = ts.length ∧ ∀ l ∈ L, l.length ≤ m) ∧ RdC w A [Tr.sl 1 (rowsI L)] vs :=
  fun w A vs h => rdc_open h (open_rowsT ht)

section x3b
variable {env : Env} {H : (Nat → Value) → (Nat → Bool) → List Chunk} {L : List Oper} {K : Env → List Chunk → Prop} {n : Nat} {l : List Oper}
variable {Pf : Nat → (Nat → Value) → Prop} {d : Nat} {op : Op} {ty : TypeId} {pos : String} {af : Array Edge} {acc : (Nat → Value) → Env}
/-- a store into an owned slice of which it is only known that it is one of some -/
theorem XSeq.storeE {T : TypeId} {x y : Operand} [hT : TyOne P T]
    (h : ∀ (ξ : Nat → Value) (S : Nat → Bool), S n = false → (∀ j ∈ preds af, S j = true) → (∀ k ok, L[k]? = some ok → S k = true → ∀ j ∈ preds ok.after, S j = true) → (∀ k, S k = true → Pf k ξ) →
      ∃ (u t : Tr), ev (rst (slotsOf (.store T x y)) (acc ξ)) x = some u ∧ ev (rst (slotsOf (.store T x y)) (acc ξ)) y = some t ∧ OneT t ∧ ∀ w A v, u.rd w A v → ∃ (ad : Option Addr) (cap kk m j : Nat) (e : TypeId) (rows : List (List Tr)) (r : List Tr) (cf : List Chunk),
        (Tr.eptr ad kk m j).rd w A v ∧ (∀ env2, Ent Γ env2 (H ξ S) env2 (Chunk.own ad cap kk e rows :: cf)) ∧ rows[m]? = some r ∧ j < kk ∧ (∀ env2, Ent Γ env2 (Chunk.own ad cap kk e (rows.set m (r.set j t)) :: cf) env2 (H (upd ξ n undef) (updD S n))))
    (k : XSeq P Γ H L K (n + 1) acc (pfX n (fun _ => True) Pf) l) : XSeq P Γ H L K n acc Pf (⟨none, .store T x y, ty, pos, af, none⟩ :: l) := by
  refine XSeq.cons (T := fun _ => Tr.any) (Pv := fun _ => True) PvOk.triv ?_ k
  unfold XStep
  intro ξ S h1 h2 h3 h4 a w dd next F hk
  obtain ⟨u, t, hx, hy, ho, hh⟩ := h ξ S h1 h2 h3 h4
  obtain ⟨ad, cap, kk, m, j, e, rows, r, cf, hptr, hE, hr, hj, hE2⟩ := hh w _ _ (dd.ev hx)
  unfold Tr.eptr at hptr
  obtain ⟨g, ha, hv⟩ := hptr
  have toD : ∀ env2, Den Γ env2 (H ξ S) a w → Den Γ env2 (Chunk.own ad cap kk e rows :: cf) a w := fun env2 d2 => by
    have := hE env2
    unfold Ent at this
    exact this a w d2
  have d1 := toD _ dd
  have hrow : RdC w (av Γ.M (Chunk.own ad cap kk e rows :: cf)) [t] (a.eval y).cells.toList := (inferInstance : RowT t [t]).h _ _ _ (d1.ev hy)
  have hlr : r.length = kk := by
    have := d1.has (List.Perm.refl _)
    generalize av Γ.M (Chunk.own ad cap kk e rows :: cf) = A at this
    unfold Chunk.own at this
    obtain ⟨hk0, _⟩ := this
    exact hk0 r (List.mem_of_getElem? hr)
  have hset : r.take j ++ [t] ++ r.drop (j + 1) = r.set j t := by rw [List.set_eq_take_append_cons_drop, if_pos (by omega)]; simp
  have step : ∀ env2, Den Γ env2 (Chunk.own ad cap kk e rows :: cf) a w → ∃ w', (Instr.storeAt T (.pointer (some ⟨g, m * kk + j, none⟩)) (a.eval y)).run P w = .ok () w' ∧ Den Γ env2 (Chunk.own ad cap kk e (rows.set m (r.set j t)) :: cf) a w' := by
    intro env2 d2
    rw [← hset]
    exact own_store (P := P) d2 ha hr (r' := r.take j ++ [t] ++ r.drop (j + 1)) (vs := (a.eval y).cells.toList) (m := 1) (j := j) (by rw [hrow.length]; rfl) (by omega)
      (fun A w' hs xs hx => (((hx.take j).mono hs).app (hrow.mono hs)).app ((hx.drop (j + 1)).mono hs)) (by simp [hlr]; omega) T (a.eval y) hT.size rfl hrow.one
  obtain ⟨w', hrun, hd⟩ := step _ d1
  have hx2 : (execOp a.eval ⟨none, .store T x y, ty, pos, af, none⟩).run P w = .ok .skip w' := by simp [execOp, hv, hrun] <;> rfl
  unfold Oper.wp
  rw [hx2]
  refine hk _ _ trivial tr_any_self fun env2 d2 => ?_
  obtain ⟨w2, hrun2, hd2⟩ := step env2 (toD env2 d2)
  rw [hrun] at hrun2
  cases hrun2
  have := hE2 env2
  unfold Ent at this
  exact this a w' hd2
end x3b
end x3
end Lg
end
section
set_option linter.all false
namespace Lg
open Go
section x4
variable {P : Program} {Γ : Ctx} {env : Env} {cs cf : List Chunk} {H : (Nat → Value) → (Nat → Bool) → List Chunk} {L : List Oper} {K : Env → List Chunk → Prop} {n : Nat} {l : List Oper}
variable {Pf : Nat → (Nat → Value) → Prop} {d : Nat} {op : Op} {ty : TypeId} {pos : String} {af : Array Edge} {acc : (Nat → Value) → Env} {t t' : Tr}

/-- a call that hands out a slice, in a drawn region -/
theorem XSeq.callO {f : FuncId} {args : List Tr} {ol : List Operand} {ts : Array TypeId} {kk E : Nat} {rows : List (List Tr)} (hs : PFnO P f args kk E (· = rows))
    (ha : ∀ ξ, Evs (rst (slotsOf (.call ⟨.value (.func f), ol.toArray, ts⟩)) (acc ξ)) ol args)
    (hH : ∀ (ξ : Nat → Value) (S : Nat → Bool), S n = false → (∀ k ok, L[k]? = some ok → S k = true → ∀ j ∈ preds ok.after, S j = true) → ∀ ad cap, (H (upd ξ n (.slice ad rows.length cap)) (updD S n)).Perm (Chunk.own ad cap kk E rows :: H ξ S))
    (k : XSeq P Γ H L K (n + 1) (fun ξ => (d, Tr.raw (ξ n)) :: acc ξ) (pfX n (fun ξ => ∃ ad cap, ξ n = .slice ad rows.length cap) Pf) l) : XSeq P Γ H L K n acc Pf (⟨some d, .call ⟨.value (.func f), ol.toArray, ts⟩, ty, pos, af, none⟩ :: l) := by
  refine XSeq.cons (T := Tr.raw) (Pv := fun ξ => ∃ ad cap, ξ n = .slice ad rows.length cap) (PvOk.own (p := fun v => ∃ ad cap, v = .slice ad rows.length cap)) ?_ k
  unfold XStep
  intro ξ S h1 h2 h3 h4 a w dd next F hk
  unfold PFnO at hs
  have hcc := call_core2 (cf := H ξ S) hs dd (List.Perm.refl _) ((ha ξ).rd dd)
  have hrun : (execOp a.eval ⟨some d, .call ⟨.value (.func f), ol.toArray, ts⟩, ty, pos, af, none⟩).run P w = .ok (.enter f (ol.map a.eval).toArray) w := by
    unfold Spec at hs
    have := hs.1 (ol.map a.eval).toArray w
    simp [execOp, resolve, invoke, Deferred.ofValue, Act.eval, this]
  unfold Oper.wp
  rw [hrun]
  refine hcc.mono ?_
  rintro e w' ⟨v, r, cs', rfl, ⟨ad, cap, rows', rfl, rfl, rfl⟩, hrd, hd⟩
  have hv := rd_raw hrd
  subst hv
  have hq := (hH ξ S h1 h3 ad cap).symm
  exact hk _ _ ⟨ad, cap, upd_same _ _ _⟩ (raw_self _) fun env2 h2 => (hd env2 h2).perm hq
end x4
end Lg
end
section
set_option linter.all false
namespace Lg
open Go

/-- what stands before an operation, and after it -/
def stg {α : Type} (s : Bool) (a b : α) : α := match s with
  | false => a
  | true => b
theorem stg_t {α : Type} {a b : α} : stg true a b = b := rfl
theorem stg_f {α : Type} {a b : α} : stg false a b = a := rfl
def vAd : Value → Option Addr
  | .slice a _ _ => a
  | _ => none
def vCap : Value → Nat
  | .slice _ _ c => c
  | _ => 0
theorem vAd_s {a : Option Addr} {n c : Nat} : vAd (.slice a n c) = a := rfl
theorem vCap_s {a : Option Addr} {n c : Nat} : vCap (.slice a n c) = c := rfl
theorem blk_p {b o : Nat} {k : Option Nat} : blk (.pointer (some ⟨b, o, none⟩)) = b := rfl
/-- an owned slice that an operation makes -/
abbrev ownV (v : Value) (k : Nat) (E : TypeId) (rows : List (List Tr)) : Chunk := Chunk.own (vAd v) (vCap v) k E rows
theorem pickA {c : Chunk} {L l cf : List Chunk} (h : l.Perm (c :: cf)) : (L ++ l).Perm (c :: (L ++ cf)) := (List.Perm.append_left L h).trans List.perm_middle
theorem pickL0 {L l : List Chunk} : (L ++ l).Perm (L ++ l) := List.Perm.refl _
theorem pickLS {c : Chunk} {L l cf : List Chunk} (h : l.Perm (L ++ cf)) : (c :: l).Perm (L ++ c :: cf) := (List.Perm.cons c h).trans List.perm_middle.symm
theorem pickLA {L M l cf : List Chunk} (h : l.Perm (L ++ cf)) : (M ++ l).Perm (L ++ (M ++ cf)) := by
  refine (List.Perm.append_left M h).trans ?_
  rw [← List.append_assoc, ← List.append_assoc]
  exact List.Perm.append_right _ List.perm_append_comm
theorem Perm.app' {cs cf L l : List Chunk} (h : cs.Perm (L ++ cf)) (r : cf.Perm l) : cs.Perm (L ++ l) := h.trans (List.Perm.append_left L r)
theorem b2n_t : b2n true = 1 := rfl
theorem b2n_f : b2n false = 0 := rfl
theorem pickStrm {st b a c : Nat} {rows : List (List Tr)} {l : List Chunk} (h : a = c) : (Chunk.strm st b rows a :: l).Perm (Chunk.strm st b rows c :: l) := by rw [h]
section x5
variable {P : Program} {Γ : Ctx} {env : Env} {cs cf : List Chunk} {H : (Nat → Value) → (Nat → Bool) → List Chunk} {L : List Oper} {K : Env → List Chunk → Prop} {n : Nat} {l : List Oper} {Q : Post}
variable {Pf : Nat → (Nat → Value) → Prop} {d : Nat} {op : Op} {ty : TypeId} {pos : String} {af : Array Edge} {acc : (Nat → Value) → Env} {t t' : Tr}
theorem Ent.eqc {env' : Env} {cs' : List Chunk} (h1 : env = env') (h2 : cs = cs') : Ent Γ env cs env' cs' := by
  subst h1
  subst h2
  exact Ent.perm (List.Perm.refl _)
theorem Cw.region_XP {id : Nat} {l : List Oper} (H : (Nat → Value) → (Nat → Bool) → List Chunk) (hm : P.follows .mixedOrders = true) (hb : (backOk l && (nodupB (dsts l) && (ssaFrom l 0 l && noGuards l))) = true) (hlt : (dsts l).all (Nat.blt · Γ.n) = true)
    (cs' : List Chunk) (hp : cs.Perm cs') (hs : ∀ ξ, H ξ (fun j => Nat.ble l.length j) = cs') (h : XSeq P Γ H l (fun acc cs => ∃ env' cs', Ent Γ acc cs env' cs' ∧ Q .normal env' cs') 0 (fun _ => env) (fun _ _ => True) l) : Cw P Γ (.region id l.toArray true) env cs Q :=
  Cw.ent (Ent.perm hp) (Cw.region_X H hm hb hlt hs h)
/-- a store of one cell into an owned slice, in a drawn region -/
theorem XSeq.storeO {T : TypeId} {x y : Operand} [hT : TyOne P T]
    (h : ∀ (ξ : Nat → Value) (S : Nat → Bool), S n = false → (∀ j ∈ preds af, S j = true) → (∀ k ok, L[k]? = some ok → S k = true → ∀ j ∈ preds ok.after, S j = true) → (∀ k, S k = true → Pf k ξ) →
      ∃ (ad : Option Addr) (cap kk m j : Nat) (e : TypeId) (rows : List (List Tr)) (r : List Tr) (t : Tr) (cf : List Chunk), ev (rst (slotsOf (.store T x y)) (acc ξ)) x = some (Tr.eptr ad kk m j) ∧ ev (rst (slotsOf (.store T x y)) (acc ξ)) y = some t ∧ OneT t ∧
        (H ξ S).Perm (Chunk.own ad cap kk e rows :: cf) ∧ rows[m]? = some r ∧ j < kk ∧ (H (upd ξ n undef) (updD S n)).Perm (Chunk.own ad cap kk e (rows.set m (r.set j t)) :: cf))
    (k : XSeq P Γ H L K (n + 1) acc (pfX n (fun _ => True) Pf) l) : XSeq P Γ H L K n acc Pf (⟨none, .store T x y, ty, pos, af, none⟩ :: l) := by
  refine XSeq.storeE ?_ k
  intro ξ S h1 h2 h3 h4
  obtain ⟨ad, cap, kk, m, j, e, rows, r, t, cf, g1, g2, g3, g4, g5, g6, g7⟩ := h ξ S h1 h2 h3 h4
  exact ⟨_, t, g1, g2, g3, fun w A v hr => ⟨ad, cap, kk, m, j, e, rows, r, cf, hr, fun _ => Ent.perm g4, g5, g6, fun _ => Ent.perm g7.symm⟩⟩
end x5
theorem goXp {p : Prop} (h : p := by repeat' (first | exact pick0 | apply pickS | apply pickA)) : p := h
theorem goXm {p : Prop} (h : p := by repeat' (first | exact List.Perm.refl _ | refine Perm.cons' (by repeat' (first | exact pick0 | apply pickS | apply pickA)) ?_ | refine Perm.app' (by repeat' (first | exact pickL0 | apply pickLS | apply pickLA)) ?_)) : p := h
end Lg
end
