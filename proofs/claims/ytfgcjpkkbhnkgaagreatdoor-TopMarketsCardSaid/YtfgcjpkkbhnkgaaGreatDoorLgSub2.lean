/- A part of the proof of a law of this seat: it adds no condition. By an AI agent. -/
import Derived.Lib.Bytealg
import Derived.Laws.Externs
import Derived.Shelf.SlSortCmp.Whole1
import Derived.Shelf.SlSortCmp.WholeK
import Derived.Test.YtfgcjpkkbhnkgaaGreatDoorLgMap2
section
set_option linter.all false
namespace Lg
open Go

/-! ### strings in order -/
theorem bl_nil (a : List UInt8) : Op.bytesLess a [] = false := by cases a <;> rfl
theorem bl_cons (a b : UInt8) (x y : List UInt8) : Op.bytesLess (a :: x) (b :: y) = (decide (a < b) || (a == b && Op.bytesLess x y)) := rfl
theorem bl_irrefl : ∀ a : List UInt8, Op.bytesLess a a = false
 |[] => rfl
 |a :: x => by rw [bl_cons, bl_irrefl x]; simp
theorem bl_trans : ∀ {a b c : List UInt8}, Op.bytesLess a b = true → Op.bytesLess b c = true → Op.bytesLess a c = true
 |a, [], c, h, _ => by rw [bl_nil] at h; cases h
 |a, b :: y, [], _, h => by rw [bl_nil] at h; cases h
 |[], b :: y, c :: z, _, _ => rfl
 |a :: x, b :: y, c :: z, h1, h2 => by
  rw [bl_cons] at h1 h2 ⊢
  simp only [Bool.or_eq_true, decide_eq_true_eq, Bool.and_eq_true, beq_iff_eq] at *
  rcases h1 with h1 | ⟨rfl, h1⟩
  ·rcases h2 with h2 | ⟨rfl, h2⟩
   ·exact .inl (UInt8.lt_trans h1 h2)
   ·exact .inl h1
  ·rcases h2 with h2 | ⟨rfl, h2⟩
   ·exact .inl h2
   ·exact .inr ⟨rfl, bl_trans h1 h2⟩
theorem bl_tri : ∀ {a b : List UInt8}, Op.bytesLess a b = false → Op.bytesLess b a = false → a = b
 |[], [], _, _ => rfl
 |[], _ :: _, h, _ => by cases h
 |_ :: _, [], _, h => by cases h
 |a :: x, b :: y, h1, h2 => by
  rw [bl_cons] at h1 h2
  simp only [Bool.or_eq_false_iff, decide_eq_false_iff_not, Bool.and_eq_false_iff] at h1 h2
  have hab : a = b := UInt8.le_antisymm (UInt8.not_lt.1 h2.1) (UInt8.not_lt.1 h1.1)
  subst hab
  rw [bl_tri (a := x) (b := y) (by simpa using h1.2) (by simpa using h2.2)]
theorem strLt_irrefl (a : ByteArray) : strLt a a = false := by unfold strLt; exact bl_irrefl _
theorem strLt_trans {a b c : ByteArray} (h1 : strLt a b = true) (h2 : strLt b c = true) : strLt a c = true := by unfold strLt at *; exact bl_trans h1 h2
theorem strLt_tri {a b : ByteArray} (h1 : strLt a b = false) (h2 : strLt b a = false) : a = b := by
 unfold strLt at *
 have := str_beq a b
 rw [bl_tri h1 h2] at this
 simpa using this
theorem strLt_asymm {a b : ByteArray} (h : strLt a b = true) : strLt b a = false := by
 cases h2 : strLt b a with
 |false => rfl
 |true => have := strLt_trans h h2; rw [strLt_irrefl] at this; cases this
/-- strings.Compare -/
def cmpS (a b : ByteArray) : Int := if strLt a b then -1 else if strLt b a then 1 else 0
theorem cmpS_lt (a b : ByteArray) : (cmpS a b < 0) ↔ strLt a b = true := by
 unfold cmpS
 cases h : strLt a b
 ·cases h2 : strLt b a <;> simp
 ·simp
theorem cmpS_eq (a b : ByteArray) : cmpS a b = 0 ↔ a = b := by
 unfold cmpS
 constructor
 ·intro h
  cases h1 : strLt a b
  ·cases h2 : strLt b a
   ·exact strLt_tri h1 h2
   ·rw [h1, h2] at h; simp at h
  ·rw [h1] at h; simp at h
 ·rintro rfl
  rw [strLt_irrefl]
  rfl
theorem cb_eq : ∀ (a b : List UInt8), Lib.compareBytes a b = if Op.bytesLess a b then -1 else if Op.bytesLess b a then 1 else 0
 |[], [] => rfl
 |[], _ :: _ => rfl
 |_ :: _, [] => rfl
 |a :: x, b :: y => by
  rw [Lib.compareBytes, bl_cons, bl_cons, cb_eq x y]
  by_cases h1 : a < b
  ·simp [h1]
  ·by_cases h2 : b < a
   ·have : a ≠ b := fun e => by subst e; exact h1 h2
    simp [h1, h2, this, this.symm]
   ·have : a = b := UInt8.le_antisymm (UInt8.not_lt.1 h2) (UInt8.not_lt.1 h1)
    subst this
    simp
theorem cmpS_cb (a b : ByteArray) : Lib.compareBytes a.data.toList b.data.toList = cmpS a b := by
 rw [cb_eq]
 unfold cmpS strLt
 rw [ByteArray.toList_eq, ByteArray.toList_eq]

/-- a call of one of Go's own functions that is carried out in one step -/
theorem OpV.ext2 {P : Program} {Γ : Ctx} {env : Env} {cs : List Chunk} {ty : TypeId} {f : FuncId} {x y : Operand} {ts : Array TypeId} {a b r : Value} (hx : ev env x = some (.raw a)) (hy : ev env y = some (.raw b))
  (h : ∀ w, (callFunc f #[a, b]).run P w = .ok (.value r) w) : OpV P Γ (.call ⟨.value (.func f), #[x, y], ts⟩) ty env cs (.raw r) := by
 unfold OpV
 intro ac w d
 have h1 := rd_raw (d.ev hx)
 have h2 := rd_raw (d.ev hy)
 exact ⟨r, by have hf : ac.eval (.func f) = .func (.func f) #[] #[] := rfl; simp [execOp, resolve, invoke, Deferred.ofValue, hf, h1, h2, h w], raw_self _⟩
theorem Ops.ext2 {P : Program} {Γ : Ctx} {env : Env} {cs : List Chunk} {Q : Post} {R : Array Oper} {i : Tmp} {ty : TypeId} {pos : String} {af : Array Edge} {rest : List Oper} {f : FuncId} {x y : Operand} {ts : Array TypeId} {a b r : Value} (h : ∀ w, (callFunc f #[a, b]).run P w = .ok (.value r) w)
  (hx : ev env x = some (.raw a)) (hy : ev env y = some (.raw b)) (hi : Nat.blt i Γ.n = true) (kk : Ops P Γ R rest ((i, .raw r) :: env) cs Q) : Ops P Γ R (⟨some i, .call ⟨.value (.func f), #[x, y], ts⟩, ty, pos, af, none⟩ :: rest) env cs Q :=
 Ops.val' hi (OpV.ext2 hx hy h) kk

/-! ### a sorted list of keys that differ is determined by its elements -/
section uniq
variable {α : Type} (lt : α → α → Bool)
theorem insRev_sorted (h1 : ∀ a b, lt a b = true → lt b a = false) (h2 : ∀ a b c, lt b a = false → lt c b = false → lt c a = false) (x : α) : ∀ {l : List α}, l.Pairwise (fun a b => lt a b = false) → (insRev lt x l).Pairwise (fun a b => lt a b = false)
 |[], _ => by simp [insRev]
 |y :: r, h => by
  unfold insRev
  rw [List.pairwise_cons] at h
  cases hxy : lt x y with
  |true =>
   simp only [if_true]
   rw [List.pairwise_cons]
   refine ⟨fun z hz => ?_, insRev_sorted h1 h2 x h.2⟩
   rcases List.mem_cons.1 ((insRev_perm lt x r).mem_iff.1 hz) with rfl | hz
   ·exact h1 _ _ hxy
   ·exact h.1 z hz
  |false =>
   simp only [Bool.false_eq_true, if_false]
   rw [List.pairwise_cons]
   refine ⟨fun z hz => ?_, List.pairwise_cons.2 h⟩
   rcases List.mem_cons.1 hz with rfl | hz
   ·exact hxy
   ·exact h2 z y x (h.1 z hz) hxy
theorem isortB_sorted (h1 : ∀ a b, lt a b = true → lt b a = false) (h2 : ∀ a b c, lt b a = false → lt c b = false → lt c a = false) : ∀ (l : List α) {acc : List α}, acc.Pairwise (fun a b => lt b a = false) → (isortB lt acc l).Pairwise (fun a b => lt b a = false)
 |[], acc, h => h
 |x :: l, acc, h => by
  rw [isortB]
  refine isortB_sorted h1 h2 l ?_
  unfold insB
  rw [List.pairwise_reverse]
  exact insRev_sorted lt h1 h2 x (by rw [List.pairwise_reverse]; exact h)
theorem isort_sorted (h1 : ∀ a b, lt a b = true → lt b a = false) (h2 : ∀ a b c, lt b a = false → lt c b = false → lt c a = false) (l : List α) : (isort lt l).Pairwise (fun a b => lt b a = false) := isortB_sorted lt h1 h2 l List.Pairwise.nil
theorem sorted_uniq {le : α → α → Prop} : ∀ {l1 l2 : List α}, l1.Perm l2 → (∀ a ∈ l1, ∀ b ∈ l1, le a b → le b a → a = b) → l1.Pairwise le → l2.Pairwise le → l1 = l2
 |[], l2, hp, _, _, _ => (List.nil_perm.1 hp).symm
 |a :: l1, l2, hp, ha, h1, h2 => by
  cases l2 with
  |nil => exact absurd (List.perm_nil.1 hp) (by simp)
  |cons b l2 =>
   have hab : a = b := by
    rw [List.pairwise_cons] at h1 h2
    have hb : b ∈ a :: l1 := hp.mem_iff.2 (by simp)
    have ham : a ∈ b :: l2 := hp.mem_iff.1 (by simp)
    rcases List.mem_cons.1 hb with e | hb2
    ·exact e.symm
    ·rcases List.mem_cons.1 ham with e | ham2
     ·exact e
     ·exact ha a (by simp) b hb (h1.1 b hb2) (h2.1 a ham2)
   subst hab
   rw [List.pairwise_cons] at h1 h2
   rw [sorted_uniq (List.perm_cons a |>.1 hp) (fun x hx y hy => ha x (by simp [hx]) y (by simp [hy])) h1.2 h2.2]
end uniq
/-! ### maps of numbers -/
section mapI
variable {α : Type} [DecidableEq α]
def mI (a : α) : List (α × Int) → Int
 |[] => 0
 |p :: m => if a = p.1 then p.2 else mI a m
def mUp (a : α) (v : Int) : List (α × Int) → List (α × Int)
 |[] => [(a, v)]
 |p :: m => if a = p.1 then (a, v) :: m else p :: mUp a v m
def mAdd (a : α) (v : Int) (m : List (α × Int)) : List (α × Int) := mUp a (mI a m + v) m
def tkv (m : List (α × Int)) : List (α × Tr) := m.map fun p => (p.1, Tr.int p.2)
theorem tkv_read (a : α) (m : List (α × Int)) : mread a (.int .i64 0) (tkv m) = Tr.int (mI a m) := by
 unfold mread
 induction m with
 |nil => rfl
 |cons p m ih =>
  simp only [tkv, List.map_cons, mget, mI]
  split
  ·rfl
  ·exact ih
theorem tkv_set (a : α) (v : Int) (m : List (α × Int)) : mset a (Tr.int v) (tkv m) = tkv (mUp a v m) := by
 induction m with
 |nil => rfl
 |cons p m ih =>
  simp only [tkv, List.map_cons, mset, mUp]
  split
  ·rfl
  ·simp only [List.map_cons]
   exact congrArg _ ih
theorem tkv_at {m : List (α × Int)} {j : Nat} {a : α} {t : Tr} (h : (tkv m)[j]? = some (a, t)) : ∃ v, m[j]? = some (a, v) ∧ t = Tr.int v := by
 unfold tkv at h
 rw [List.getElem?_map] at h
 cases hm : m[j]? with
 |none => rw [hm] at h; simp at h
 |some p => rw [hm] at h; simp at h; exact ⟨p.2, by rw [← h.1], h.2.symm⟩
theorem tkv_erase (m : List (α × Int)) (j : Nat) : (tkv m).eraseIdx j = tkv (m.eraseIdx j) := by
 unfold tkv
 induction m generalizing j with
 |nil => rfl
 |cons p m ih =>
  cases j with
  |zero => rfl
  |succ j => simp only [List.map_cons, List.eraseIdx_cons_succ]; rw [ih]
theorem tkv_nil {m : List (α × Int)} (h : tkv m = []) : m = [] := by
 cases m with
 |nil => rfl
 |cons p m => cases h
theorem mUp_keys (a : α) (v : Int) : ∀ (m : List (α × Int)), (mUp a v m).map Prod.fst = if a ∈ m.map Prod.fst then m.map Prod.fst else m.map Prod.fst ++ [a]
 |[] => by simp [mUp]
 |p :: m => by
  simp only [mUp]
  by_cases h : a = p.1
  ·simp [h]
  ·rw [if_neg h, List.map_cons, mUp_keys a v m, List.map_cons]
   by_cases h2 : a ∈ m.map Prod.fst
   ·rw [if_pos h2, if_pos (by simp [h2])]
   ·rw [if_neg h2, if_neg (by simp only [List.mem_cons, not_or]; exact ⟨h, h2⟩)]
    rfl
theorem mUp_nodup {a : α} {v : Int} {m : List (α × Int)} (h : (m.map Prod.fst).Nodup) : ((mUp a v m).map Prod.fst).Nodup := by
 rw [mUp_keys]
 split
 ·exact h
 ·rename_i h2
  rw [List.nodup_append]
  exact ⟨h, by simp, fun x hx y hy e => by simp at hy; subst hy; subst e; exact h2 hx⟩
theorem mUp_len (a : α) (v : Int) : ∀ m : List (α × Int), (mUp a v m).length ≤ m.length + 1
 |[] => by simp [mUp]
 |p :: m => by
  simp only [mUp]
  split
  ·simp
  ·have := mUp_len a v m
   simp
   omega
theorem mI_up (a b : α) (v : Int) : ∀ m : List (α × Int), mI b (mUp a v m) = if b = a then v else mI b m
 |[] => by simp [mUp, mI]
 |p :: m => by
  simp only [mUp]
  by_cases h : a = p.1
  ·rw [if_pos h]
   simp only [mI]
   split
   ·rfl
   ·rename_i h2
    rw [if_neg (by rw [← h]; exact h2)]
  ·rw [if_neg h]
   simp only [mI, mI_up a b v m]
   by_cases h2 : b = p.1
   ·rw [if_pos h2, if_pos h2, if_neg (by intro e; exact h (e ▸ h2))]
   ·rw [if_neg h2, if_neg h2]
theorem mI_mem {m : List (α × Int)} (hn : (m.map Prod.fst).Nodup) {a : α} {v : Int} (h : (a, v) ∈ m) : mI a m = v := by
 induction m with
 |nil => cases h
 |cons p m ih =>
  rw [List.map_cons, List.nodup_cons] at hn
  rcases List.mem_cons.1 h with rfl | h
  ·simp [mI]
  ·have : a ≠ p.1 := fun e => hn.1 (List.mem_map.2 ⟨_, h, e⟩)
   simp only [mI, if_neg this]
   exact ih hn.2 h
theorem mI_not {m : List (α × Int)} {a : α} (h : a ∉ m.map Prod.fst) : mI a m = 0 := by
 induction m with
 |nil => rfl
 |cons p m ih =>
  simp only [List.map_cons, List.mem_cons, not_or] at h
  simp only [mI, if_neg h.1]
  exact ih h.2
theorem mAll_up {p : α × Int → Prop} {a : α} {v : Int} (h : p (a, v)) : ∀ {m : List (α × Int)}, (∀ q ∈ m, p q) → ∀ q ∈ mUp a v m, p q
 |[], _, q, hq => by simp [mUp] at hq; rw [hq]; exact h
 |r :: m, hm, q, hq => by
  simp only [mUp] at hq
  split at hq
  ·rcases List.mem_cons.1 hq with rfl | hq
   ·exact h
   ·exact hm q (by simp [hq])
  ·rcases List.mem_cons.1 hq with rfl | hq
   ·exact hm q (by simp)
   ·exact mAll_up h (fun x hx => hm x (by simp [hx])) q hq
theorem mI_all {p : Int → Prop} {a : α} (h0 : p 0) : ∀ {m : List (α × Int)}, (∀ q ∈ m, p q.2) → p (mI a m)
 |[], _ => h0
 |r :: m, hm => by
  simp only [mI]
  split
  ·exact hm r (by simp)
  ·exact mI_all h0 (fun x hx => hm x (by simp [hx]))
end mapI
end Lg
end
section
set_option linter.all false
namespace Lg
open Go Go.Proofs Go.Sort Go.Shelf

/-! ### Go's own sorts, out of the shelf's contracts -/
theorem grow_of_frm {w w' : World} (h : Frm [] w w') : ∃ q os, w' = grow (w.drewN q) os := by
 have hd := h.drawn trivial
 refine ⟨w'.drawn - w.drawn, w'.heap.extract w.heap.size w'.heap.size, ?_⟩
 have e1 : w'.heap = w.heap ++ w'.heap.extract w.heap.size w'.heap.size := by
  apply Array.ext_getElem?
  intro i
  rw [Array.getElem?_append]
  by_cases hi : i < w.heap.size
  ·rw [if_pos hi]
   exact h.block i hi (by simp)
  ·rw [if_neg hi]
   have := h.size
   rw [Array.getElem?_extract]
   by_cases h2 : i < w'.heap.size
   ·rw [if_pos (by omega), show w.heap.size + (i - w.heap.size) = i by omega]
   ·rw [if_neg (by omega), Array.getElem?_eq_none (by omega)]
 have e2 : w.drawn + (w'.drawn - w.drawn) = w'.drawn := by omega
 obtain ⟨hp, tp, dr, os, ou⟩ := w'
 have h1 := h.os
 have h2 := h.tape
 have h3 := h.output
 simp only at h1 h2 h3 e1 e2
 unfold grow World.drewN
 rw [h1, h2, h3, e2, ← e1]
theorem heap_row {w : World} {F : Array Value} {g m : Nat} {os : Array Obj} {cur : Array Value} {E : TypeId} (hg : w.heap[g]? = some (.cells cur E (0, 0))) :
  (grow (putRow id (Sort.ahead w m) g 0 F) os).heap[g]? = some (.cells (putCells id 0 F cur) E (0, 0)) := by
 have hlt := (Array.getElem?_eq_some_iff.1 hg).1
 unfold grow putRow mapBlock
 simp only [heap_ahead]
 rw [Array.getElem?_append, if_pos (by simpa using hlt), Array.getElem?_modify, if_pos rfl, hg]
 rfl
theorem heap_other {w : World} {F : Array Value} {g m : Nat} {os : Array Obj} {b : Nat} (hb : b < w.heap.size) (hne : b ≠ g) : (grow (putRow id (Sort.ahead w m) g 0 F) os).heap[b]? = w.heap[b]? := by
 unfold grow putRow mapBlock
 simp only [heap_ahead]
 rw [Array.getElem?_append, if_pos (by simpa using hb), Array.getElem?_modify, if_neg (by omega)]
theorem putCells_list {F cur : Array Value} (h : F.size ≤ cur.size) : (putCells id 0 F cur).toList = F.toList ++ cur.toList.drop F.size := by
 apply List.ext_getElem?
 intro i
 unfold putCells
 rw [Array.toList_mapIdx, List.getElem?_mapIdx, List.getElem?_append]
 by_cases hi : i < F.size
 ·rw [if_pos (by simpa using hi)]
  have : i < cur.toList.length := by rw [Array.length_toList]; omega
  rw [List.getElem?_eq_getElem this, Option.map_some, if_pos ⟨Nat.zero_le _, by omega⟩]
  simp [hi]
 ·rw [if_neg (by simpa using hi), List.getElem?_drop, Array.length_toList, show F.size + (i - F.size) = i by omega]
  cases cur.toList[i]? with
  |none => rfl
  |some v => simp; omega
/-- a function's captured variables: boxes that it only reads -/
abbrev Bx := Nat × TypeId × List Tr
def bxC (l : List Bx) : List Chunk := l.map fun b => Chunk.box b.1 b.2.1 b.2.2
def bxV (l : List Bx) : List Value := l.map fun b => Value.pointer (some ⟨b.1, 0, none⟩)
def bxT (l : List Bx) : List Tr := l.map fun b => Tr.ref b.2.2
theorem bx_rd {w w1 : World} {A A1 : Nat → Prop} {g : Nat} (hs : SameOn w w1 A A1) : ∀ {l : List Bx}, (∀ c ∈ bxC l, c.holds w A) → (∀ b ∈ l, A1 b.1 ∧ w1.heap[b.1]? = w.heap[b.1]?) → RdL w1 A1 (bxT l) (bxV l)
 |[], _, _ => rfl
 |b :: l, h, h2 => by
  refine ⟨_, _, rfl, ?_, bx_rd (g := g) hs (fun c hc => h c (List.mem_cons_of_mem _ hc)) (fun c hc => h2 c (List.mem_cons_of_mem _ hc))⟩
  have hb := h (Chunk.box b.1 b.2.1 b.2.2) (by simp [bxC])
  unfold Chunk.box at hb
  obtain ⟨c, e, hr⟩ := hb
  unfold Tr.ref
  refine ⟨b.1, 0, rfl, (h2 b (by simp)).1, c, b.2.1, (0, 0), (h2 b (by simp)).2.trans e, ?_⟩
  have hl := hr.length
  rw [List.drop_zero, List.take_of_length_le (by rw [hl]; exact Nat.le_refl _)]
  exact hr.mono hs

theorem flat_at {k : Nat} (hk : 0 < k) : ∀ (L : List (List Value)) (t : Nat), (∀ l ∈ L, l.length = k) → t < L.length * k → L.flatten[t]? = (L[t / k]?.getD [])[t % k]?
 |[], t, _, h => by simp at h
 |l :: L, t, h, ht => by
  have hl := h l (by simp)
  rw [List.flatten_cons, List.getElem?_append]
  by_cases htk : t < k
  ·rw [if_pos (by omega), Nat.div_eq_of_lt htk, Nat.mod_eq_of_lt htk]
   rfl
  ·rw [if_neg (by omega), hl, flat_at hk L (t - k) (fun x hx => h x (by simp [hx])) (by rw [List.length_cons, Nat.add_mul] at ht; omega)]
   obtain ⟨s, rfl⟩ : ∃ s, t = s + k := ⟨t - k, by omega⟩
   rw [Nat.add_sub_cancel, Nat.add_div_right _ hk, Nat.add_mod_right]
   rfl
theorem flatK_list {α : Type} [Inhabited α] {enc : α → List Value} {k : Nat} (hk : 0 < k) (he : ∀ x, (enc x).length = k) (d : Array α) : (flatK enc k d).toList = (d.toList.map enc).flatten := by
 have hl : ∀ l ∈ d.toList.map enc, l.length = k := by
  intro l hl
  obtain ⟨x, _, rfl⟩ := List.mem_map.1 hl
  exact he x
 have hlen : (d.toList.map enc).length = d.size := by simp
 have hfl : (d.toList.map enc).flatten.length = d.size * k := by
  have : ∀ L : List (List Value), (∀ l ∈ L, l.length = k) → L.flatten.length = L.length * k := by
   intro L
   induction L with
   |nil => intro _; simp
   |cons l L ih => intro h; rw [List.flatten_cons, List.length_append, ih (fun x hx => h x (by simp [hx])), h l (by simp), List.length_cons, Nat.add_mul]; omega
  rw [this _ hl, hlen]
 apply List.ext_getElem?
 intro t
 by_cases ht : t < d.size * k
 ·have hq : t / k < d.size := Nat.div_lt_of_lt_mul (by rw [Nat.mul_comm]; exact ht)
  have hr : t % k < k := Nat.mod_lt _ hk
  rw [flat_at hk _ t hl (by rw [hlen]; exact ht)]
  have h1 := get_flatK enc k d t ht
  have hs : t < (flatK enc k d).size := by rw [size_flatK]; exact ht
  rw [getElem!_pos _ t hs, getElem!_pos _ (t / k) hq, getElem!_pos _ (t % k) (by rw [he]; exact hr)] at h1
  rw [Array.getElem?_toList (xs := flatK enc k d), Array.getElem?_eq_getElem hs, h1, List.getElem?_map, Array.getElem?_toList (xs := d), Array.getElem?_eq_getElem hq]
  simp only [Option.map_some, Option.getD_some]
  rw [List.getElem?_eq_getElem (by rw [he]; exact hr)]
 ·rw [List.getElem?_eq_none (by rw [Array.length_toList, size_flatK]; omega), List.getElem?_eq_none (by omega)]
theorem rdc_eq {w : World} {A : Nat → Prop} : ∀ {vs xs : List Value}, RdC w A (vs.map Tr.raw) xs → xs = vs
 |[], _, h => h
 |v :: vs, _, ⟨u, rest, e, h1, _, h2⟩ => by rw [e, rd_raw h1, rdc_eq h2]
theorem rdc_back {w : World} {A : Nat → Prop} : ∀ {vs : List Value}, (∀ v ∈ vs, v.oneCell' = true) → RdC w A (vs.map Tr.raw) vs
 |[], _ => rfl
 |v :: vs, h => ⟨v, vs, rfl, raw_self v, h v (by simp), rdc_back (fun u hu => h u (by simp [hu]))⟩
section sort
variable {P : Program} {α : Type} [Inhabited α]
/-- an owned slice that is not empty: its block -/
theorem own_block {w : World} {A : Nat → Prop} {ad : Option Addr} {cap n k : Nat} {E : TypeId} {rows : List (List Tr)} (hn : n = rows.length) (h1 : 1 ≤ n) (h : (Chunk.own ad cap k E rows).holds w A) :
  ∃ g cur, ad = some ⟨g, 0, none⟩ ∧ (Chunk.own ad cap k E rows).fp = [g] ∧ w.heap[g]? = some (.cells cur E (0, 0)) ∧ n ≤ cap ∧ cap ≤ maxLen ∧ cur.size = cap * k ∧ (∀ r ∈ rows, r.length = k) ∧ RdC w A rows.flatten (cur.toList.take (n * k)) := by
 subst hn
 unfold Chunk.own at h
 obtain ⟨hk, xs, ⟨hl, ho⟩, hr⟩ := h
 rcases ho with ⟨_, h0⟩ | ⟨g, c, cur, hv, _, hg, h3, h4, h5, h6⟩
 ·omega
 ·injection hv with e1 e2 e3
  subst e1
  subst e3
  refine ⟨g, cur, rfl, ?_, hg, h3, h4, h5, hk, by rw [h6]; exact hr⟩
  unfold Chunk.own
  simp [Value.ownBlock]
/-- the sort's world, as the logic says it -/
theorem sort_end {w w' : World} {M : Nat → Prop} {g cap n k : Nat} {E : TypeId} {cur F : Array Value} {rows rows' : List (List Tr)} {C : List Chunk} {m : Nat} {os : Array Obj}
  (hfp : (Chunk.own (some ⟨g, 0, none⟩) cap k E rows).fp = [g]) (hg : w.heap[g]? = some (.cells cur E (0, 0))) (h3 : n ≤ cap) (h4 : cap ≤ maxLen) (h5 : cur.size = cap * k) (hF : F.size = n * k)
  (hr1 : rows'.length = n) (hr0 : rows.length = n) (hr2 : ∀ r ∈ rows', r.length = k) (hr3 : ∀ (w : World) (A : Nat → Prop), RdC w A rows'.flatten F.toList)
  (hw : w' = grow (putRow id (Sort.ahead w m) g 0 F) os) (hch : ∀ c ∈ Chunk.own (some ⟨g, 0, none⟩) cap k E rows :: C, c.holds w (av M (Chunk.own (some ⟨g, 0, none⟩) cap k E rows :: C))) (hnd : (fps (Chunk.own (some ⟨g, 0, none⟩) cap k E rows :: C)).Nodup)
  (hlt : ∀ b ∈ fps (Chunk.own (some ⟨g, 0, none⟩) cap k E rows :: C), b < w.heap.size ∧ ¬ M b) :
  (∀ c ∈ Chunk.own (some ⟨g, 0, none⟩) cap k E rows' :: C, c.holds w' (av M (Chunk.own (some ⟨g, 0, none⟩) cap k E rows' :: C))) ∧ (fps (Chunk.own (some ⟨g, 0, none⟩) cap k E rows' :: C)).Nodup ∧
   (∀ b ∈ fps (Chunk.own (some ⟨g, 0, none⟩) cap k E rows' :: C), b < w'.heap.size ∧ ¬ M b ∧ (b ∈ fps (Chunk.own (some ⟨g, 0, none⟩) cap k E rows :: C) ∨ w.heap.size ≤ b)) ∧ Frm (fps (Chunk.own (some ⟨g, 0, none⟩) cap k E rows :: C)) w w' := by
 have hfp' : (Chunk.own (some ⟨g, 0, none⟩) cap k E rows').fp = [g] := by unfold Chunk.own; simp [Value.ownBlock]
 have hfps : fps (Chunk.own (some ⟨g, 0, none⟩) cap k E rows' :: C) = fps (Chunk.own (some ⟨g, 0, none⟩) cap k E rows :: C) := by simp only [fps, List.flatMap_cons, hfp, hfp']
 have hav : av M (Chunk.own (some ⟨g, 0, none⟩) cap k E rows' :: C) = av M (Chunk.own (some ⟨g, 0, none⟩) cap k E rows :: C) := by unfold av; rw [hfps]
 have hgm : g ∈ fps (Chunk.own (some ⟨g, 0, none⟩) cap k E rows :: C) := by simp only [fps, List.flatMap_cons, hfp]; simp
 have hsz : w.heap.size ≤ w'.heap.size := by rw [hw]; unfold grow; simp
 have hother : ∀ b, b < w.heap.size → b ≠ g → w'.heap[b]? = w.heap[b]? := fun b hb hne => by rw [hw]; exact heap_other hb hne
 have hs : SameOn w w' (av M (Chunk.own (some ⟨g, 0, none⟩) cap k E rows :: C)) (av M (Chunk.own (some ⟨g, 0, none⟩) cap k E rows :: C)) := by
  intro b hb ⟨m1, m2⟩
  exact ⟨⟨m1, m2⟩, hother b hb (fun e => m2 (e ▸ hgm))⟩
 rw [hfps, hav]
 have hsame : w'.heap[g]? = some (.cells (putCells id 0 F cur) E (0, 0)) := by rw [hw]; exact heap_row hg
 have hFc : F.size ≤ cur.size := by rw [hF, h5]; exact Nat.mul_le_mul_right _ h3
 have hlist := putCells_list hFc
 refine ⟨?_, hnd, fun b hb => ⟨Nat.lt_of_lt_of_le (hlt b hb).1 hsz, (hlt b hb).2, .inl hb⟩, ?_⟩
 ·intro c hc
  rcases List.mem_cons.1 hc with rfl | hc2
  ·unfold Chunk.own
   refine ⟨hr2, F.toList, ⟨by rw [Array.length_toList, hF, hr1], .inr ⟨g, cap, putCells id 0 F cur, rfl, Nat.zero_le _, hsame, by omega, h4, ?_, ?_⟩⟩, hr3 _ _⟩
   ·have : (putCells id 0 F cur).toList.length = cur.toList.length := by rw [hlist, List.length_append, List.length_drop, Array.length_toList, Array.length_toList]; omega
    rw [Array.length_toList, Array.length_toList] at this
    omega
   ·rw [hlist, hr1, List.take_append_of_le_length (by rw [Array.length_toList]; omega), List.take_of_length_le (by rw [Array.length_toList]; omega)]
  ·refine Chunk.mono c (fun b hb hl => hother b hl ?_) hs (hch c (List.mem_cons_of_mem _ hc2))
   intro e
   subst e
   simp only [fps, List.flatMap_cons, hfp] at hnd
   exact (List.nodup_append.1 hnd).2.2 _ (by simp) _ (List.mem_flatMap.2 ⟨c, hc2, hb⟩) rfl
 ·rw [hw]
  refine ⟨rfl, rfl, rfl, by unfold grow; simp, fun b hb hn => heap_other hb (fun e => hn (e ▸ hgm)), fun _ => ?_⟩
  exact Nat.le_add_right _ _

theorem putCells_map {α : Type} [Inhabited α] (enc : α → Value) (d : Array α) (c : Array Value) : putCells enc 0 d c = putCells id 0 (d.map enc) c := by
 unfold putCells
 apply Array.ext_getElem?
 intro i
 rw [Array.getElem?_mapIdx, Array.getElem?_mapIdx]
 cases c[i]? with
 |none => rfl
 |some v =>
  simp only [Option.map_some, Array.size_map, Option.some.injEq]
  by_cases h : 0 ≤ i ∧ i < 0 + d.size
  ·rw [if_pos h, if_pos h]
   have hi : i - 0 < d.size := by omega
   have hi2 : i - 0 < (d.map enc).size := by rw [Array.size_map]; omega
   rw [getElem!_pos d _ hi, getElem!_pos (d.map enc) _ hi2]
   simp
  ·rw [if_neg h, if_neg h]
theorem putRow_map {α : Type} [Inhabited α] (enc : α → Value) (w : World) (blk : Nat) (d : Array α) : putRow enc w blk 0 d = putRow id w blk 0 (d.map enc) := by
 unfold putRow
 congr 1
 funext c
 exact putCells_map enc d c
theorem permIn_list {α : Type} [Inhabited α] {d d' : Array α} (h : PermIn 0 d.size d d') : d'.toList.Perm d.toList := by
 have h2 := h.2.2
 rw [show d.size = d'.size from h.1.symm] at h2
 rw [Array.extract_size] at h2
 rw [h.1, Array.extract_size] at h2
 exact h2
theorem sortedIn_list {α : Type} [Inhabited α] {lt : α → α → Bool} {d' : Array α} {n : Nat} (hn : d'.size = n) (h : SortedIn lt 0 n d') : d'.toList.Pairwise fun a b => lt b a = false := by
 rw [List.pairwise_iff_getElem]
 intro i j hi hj hij
 rw [Array.length_toList] at hi hj
 have := h i j (Nat.zero_le _) hij (by omega)
 rw [getElem!_pos d' i hi, getElem!_pos d' j hj] at this
 simpa using this
/-- cmp, called in a sort's own world -/
theorem cmp_calls {g : FuncId} {args : List Value} {bx : List Bx} {res : Value} (hg : PFn P g (args.map Tr.raw ++ bxT bx) (· = .raw res)) {w : World} {M : Nat → Prop} {own : Chunk} {blk m : Nat} {F : Array Value} {os : Array Obj}
  (hfp : own.fp = [blk]) (hblk : blk < w.heap.size) (hch : ∀ c ∈ bxC bx, c.holds w (av M (own :: bxC bx))) (hnd : (fps (own :: bxC bx)).Nodup) (hlt : ∀ b ∈ fps (own :: bxC bx), b < w.heap.size ∧ ¬ M b) (hM : ∀ b, M b → b < w.heap.size) :
  Calls P g (args.toArray ++ (bxV bx).toArray) (grow (putRow id (Sort.ahead w m) blk 0 F) os) fun e w' => e = .returned res ∧ ∃ q os', w' = grow ((grow (putRow id (Sort.ahead w m) blk 0 F) os).drewN q) os' := by
 have hsz : w.heap.size ≤ (grow (putRow id (Sort.ahead w m) blk 0 F) os).heap.size := by unfold grow; simp
 have hmem : blk ∈ fps (own :: bxC bx) := by simp only [fps, List.flatMap_cons, hfp]; simp
 have hs : SameOn w (grow (putRow id (Sort.ahead w m) blk 0 F) os) (av M (own :: bxC bx)) (av (fun b => M b ∨ b = blk) []) := by
  intro b hb ⟨m1, m2⟩
  have hne : b ≠ blk := fun e => m2 (e ▸ hmem)
  exact ⟨⟨fun h => h.elim m1 hne, by simp [fps]⟩, heap_other hb hne⟩
 have hbx : ∀ b ∈ bx, b.1 ∈ fps (bxC bx) := by
  intro b hb
  unfold fps
  refine List.mem_flatMap.2 ⟨Chunk.box b.1 b.2.1 b.2.2, List.mem_map.2 ⟨b, hb, rfl⟩, by simp [Chunk.box]⟩
 have hnd2 := hnd
 simp only [fps, List.flatMap_cons, hfp] at hnd2
 have hne : ∀ b ∈ bx, b.1 ≠ blk := fun b hb e => (List.nodup_append.1 hnd2).2.2 blk (by simp) b.1 (hbx b hb) e.symm
 have hfull : ∀ b ∈ bx, b.1 ∈ fps (own :: bxC bx) := fun b hb => by
  simp only [fps, List.flatMap_cons]
  exact List.mem_append.2 (.inr (hbx b hb))
 have hr : RdL (grow (putRow id (Sort.ahead w m) blk 0 F) os) (av (fun b => M b ∨ b = blk) []) (args.map Tr.raw ++ bxT bx) (args ++ bxV bx) := by
  have h2 : RdL (grow (putRow id (Sort.ahead w m) blk 0 F) os) (av (fun b => M b ∨ b = blk) []) (bxT bx) (bxV bx) := bx_rd (g := blk) hs hch fun b hb => by
   have hl := hlt b.1 (hfull b hb)
   exact ⟨⟨fun h => h.elim hl.2 (hne b hb), by simp [fps]⟩, heap_other hl.1 (hne b hb)⟩
  clear hg
  induction args with
  |nil => exact h2
  |cons a args ih => exact ⟨a, _, rfl, raw_self _, ih⟩
 have hsp := hg.spec
 unfold Spec at hsp
 have hh := hsp.2 (fun b => M b ∨ b = blk) _ (args ++ bxV bx) hr (fun c hc => by cases hc) (by simp [fps]) (fun b hb => by simp [fps] at hb) (fun b hb => by
  rcases hb with hb | rfl
  ·exact Nat.lt_of_lt_of_le (hM b hb) hsz
  ·exact Nat.lt_of_lt_of_le hblk hsz)
 rw [show args.toArray ++ (bxV bx).toArray = (args ++ bxV bx).toArray by simp]
 refine hh.mono ?_
 rintro e w' ⟨v, r, cs', rfl, ⟨rfl, rfl⟩, hrd, _, _, _, hf⟩
 exact ⟨by rw [rd_raw hrd], grow_of_frm hf⟩
theorem rdL_two {w : World} {A : Nat → Prop} {a b : Value} {vs : List Value} (h : RdL w A [Tr.raw a, Tr.raw b] vs) : vs = [a, b] := by
 obtain ⟨u, rest, rfl, h1, u2, rest2, rfl, h2, h3⟩ := h
 rw [rd_raw h1, rd_raw h2, show rest2 = [] from h3]
theorem holds_id {w : World} {blk : Nat} {cur : Array Value} {E : TypeId} {F : Array Value} (hg : w.heap[blk]? = some (.cells cur E (0, 0))) (hF : cur.toList.take F.size = F.toList) : Holds id w blk 0 F := by
 intro j hj
 have hl : F.size ≤ cur.size := by
  have := congrArg List.length hF
  rw [List.length_take, Array.length_toList, Array.length_toList] at this
  omega
 refine ⟨?_, ?_⟩
 ·unfold World.cell?
  simp only [hg, Nat.zero_add]
  have h1 : cur.toList[j]? = F.toList[j]? := by
   rw [← hF, List.getElem?_take, if_pos hj]
  rw [getElem!_pos F j hj]
  simp only [Option.isSome_none, Bool.false_eq_true, if_false]
  rw [Array.getElem?_toList (xs := cur), Array.getElem?_toList (xs := F), Array.getElem?_eq_getElem hj] at h1
  exact h1
 ·unfold World.frozen?
  simp only [hg]
  simp
theorem holds_map {w : World} {blk : Nat} {enc : α → Value} {d : Array α} (h : Holds id w blk 0 (d.map enc)) : Holds enc w blk 0 d := by
 intro j hj
 have := h j (by rw [Array.size_map]; exact hj)
 rw [getElem!_pos (d.map enc) j (by rw [Array.size_map]; exact hj)] at this
 rw [getElem!_pos d j hj]
 simpa using this
/-- slices.SortFunc of elements of one cell, at whatever length -/
theorem sortFunc1 {ρ : Ren} (L : SlLaysF.n6 P ρ) (enc : α → Value) (h1 : ∀ x, (enc x).oneCell' = true) (cf : α → α → Int) (hO : SWO (ltOf cf)) {g : FuncId} {bx : List Bx} (hg : ∀ a b, PFn P g ([enc a, enc b].map Tr.raw ++ bxT bx) (· = .raw (.int .i64 (cf a b))))
  {ad : Option Addr} {cap n : Nat} {E : TypeId} {xs : List α} (hn : n = xs.length) (hp : 1 ≤ n) (hmx : n < 4611686018427387904) :
  Spec P (ρ.f 6) [Tr.raw (.slice ad n cap), Tr.raw (.func (.func g) #[] (bxV bx).toArray)] (Chunk.own ad cap 1 E (xs.map fun a => [Tr.raw (enc a)]) :: bxC bx)
   (fun r cs => ∃ ys : List α, r = Tr.tup [] ∧ cs = Chunk.own ad cap 1 E (ys.map fun a => [Tr.raw (enc a)]) :: bxC bx ∧ ys.Perm xs ∧ ys.Pairwise fun a b => ltOf cf b a = false) := by
 have eg := (hg default default).spec
 unfold Spec at eg ⊢
 have eg := eg.1
 refine ⟨L.f6.enters rfl, ?_⟩
 intro M w vs hv hch hnd hlt hM
 rw [rdL_two hv]
 obtain ⟨blk, cur, rfl, hfp, hgb, hnc, hcm, hcs, hrk, hrd⟩ := own_block (ad := ad) (cap := cap) (k := 1) (E := E) (rows := xs.map fun a => [Tr.raw (enc a)]) (n := n) (by rw [List.length_map]; exact hn) hp (hch _ List.mem_cons_self)
 have hblk : blk < w.heap.size := (Array.getElem?_eq_some_iff.1 hgb).1
 have hfl : ∀ ys : List α, (ys.map fun a => [Tr.raw (enc a)]).flatten = (ys.map enc).map Tr.raw := by
  intro ys
  induction ys with
  |nil => rfl
  |cons y ys ih => rw [List.map_cons, List.flatten_cons, ih]; rfl
 rw [hfl] at hrd
 have hcur := rdc_eq hrd
 have hds : xs.toArray.size = n := by simp [hn]
 have hH : Holds enc w blk 0 xs.toArray := holds_map (holds_id hgb (by rw [Array.size_map, hds]; rw [Nat.mul_one] at hcur; rw [hcur]; simp))
 have hcmp : CmpLays1 P g (bxV bx).toArray enc cf blk 0 xs.toArray.size w := by
  intro m os dk _ x y
  have := cmp_calls (hg x y) (F := dk.map enc) (m := m) (os := os) hfp hblk (fun c hc => hch c (List.mem_cons_of_mem _ hc)) hnd hlt hM
  unfold sortWorld
  rw [putRow_map]
  exact this
 have hh := Any.slices_SortFunc L enc h1 cf hO g (bxV bx).toArray blk 0 cap xs.toArray w eg hcmp hH hblk (by rw [hds]; exact hmx)
 rw [hds] at hh
 refine hh.mono ?_
 rintro e w' ⟨rfl, d', m, os, hp1, hs1, hw⟩
 have hd' : d'.size = n := by have := hp1.1; rw [hds] at this; exact this
 unfold sortWorld at hw
 rw [putRow_map] at hw
 obtain ⟨e1, e2, e3, e4⟩ := sort_end (rows := xs.map fun a => [Tr.raw (enc a)]) (rows' := d'.toList.map fun a => [Tr.raw (enc a)]) (C := bxC bx) (F := d'.map enc) (k := 1) (n := n) hfp hgb hnc hcm hcs (by simp [hd']) (by simp [hd']) (by simp [hn]) (fun r hr => by
  obtain ⟨a, _, rfl⟩ := List.mem_map.1 hr
  rfl) (fun w A => by
  rw [hfl, Array.toList_map]
  refine rdc_back ?_
  intro v hv
  obtain ⟨a, _, rfl⟩ := List.mem_map.1 hv
  exact h1 a) hw hch hnd hlt
 have hpl := permIn_list (d := xs.toArray) (d' := d') (by rw [hds]; exact hp1)
 exact ⟨_, Tr.tup [], _, rfl, ⟨d'.toList, rfl, rfl, by simpa using hpl, sortedIn_list hd' hs1⟩, by unfold Tr.tup; exact ⟨[], rfl, rfl⟩, e1, e2, e3, e4⟩
/-- slices.SortFunc of structs of k cells, at whatever length -/
theorem sortFuncK {ρ : Ren} (L : SlLaysF0.n6 P ρ) {k : Nat} (hk0 : 0 < k) (aE : ∀ w, (isAgg (ρ.t 24)).run P w = .ok true w) (zE : ∀ w, (Go.sizeOf (ρ.t 24)).run P w = .ok k w) (enc : α → List Value) (hk : ∀ x, (enc x).length = k) (h1 : ∀ x, ∀ v ∈ enc x, v.oneCell' = true) (cf : α → α → Int) (hO : SWO (ltOf cf)) {g : FuncId} {bx : List Bx}
  (hg : ∀ a b, PFn P g ([Value.agg (enc a).toArray, Value.agg (enc b).toArray].map Tr.raw ++ bxT bx) (· = .raw (.int .i64 (cf a b))))
  {ad : Option Addr} {cap n : Nat} {E : TypeId} {xs : List α} (hn : n = xs.length) (hp : 1 ≤ n) (hmx : n < 4611686018427387904) :
  Spec P (ρ.f 6) [Tr.raw (.slice ad n cap), Tr.raw (.func (.func g) #[] (bxV bx).toArray)] (Chunk.own ad cap k E (xs.map fun a => (enc a).map Tr.raw) :: bxC bx)
   (fun r cs => ∃ ys : List α, r = Tr.tup [] ∧ cs = Chunk.own ad cap k E (ys.map fun a => (enc a).map Tr.raw) :: bxC bx ∧ ys.Perm xs ∧ ys.Pairwise fun a b => ltOf cf b a = false) := by
 have eg := (hg default default).spec
 unfold Spec at eg ⊢
 have eg := eg.1
 refine ⟨L.f6.enters rfl, ?_⟩
 intro M w vs hv hch hnd hlt hM
 rw [rdL_two hv]
 obtain ⟨blk, cur, rfl, hfp, hgb, hnc, hcm, hcs, hrk, hrd⟩ := own_block (ad := ad) (cap := cap) (k := k) (E := E) (rows := xs.map fun a => (enc a).map Tr.raw) (n := n) (by rw [List.length_map]; exact hn) hp (hch _ List.mem_cons_self)
 have hblk : blk < w.heap.size := (Array.getElem?_eq_some_iff.1 hgb).1
 have hfl : ∀ ys : List α, (ys.map fun a => (enc a).map Tr.raw).flatten = (ys.map enc).flatten.map Tr.raw := by
  intro ys
  induction ys with
  |nil => rfl
  |cons y ys ih => rw [List.map_cons, List.flatten_cons, ih, List.map_cons, List.flatten_cons, List.map_append]
 rw [hfl] at hrd
 have hcur := rdc_eq hrd
 have hds : xs.toArray.size = n := by simp [hn]
 have hH : HoldsK enc k w blk 0 xs.toArray := by
  unfold HoldsK
  refine holds_id hgb ?_
  rw [size_flatK, hds, hcur, flatK_list hk0 hk]
 have hcmp : CmpLays P g (bxV bx).toArray enc k cf blk 0 xs.toArray.size w := by
  intro m os dk _ x y
  exact cmp_calls (hg x y) (F := flatK enc k dk) (m := m) (os := os) hfp hblk (fun c hc => hch c (List.mem_cons_of_mem _ hc)) hnd hlt hM
 have hh := AnyQ.slices_SortFunc L k aE zE enc hk h1 cf hO g (bxV bx).toArray blk 0 cap xs.toArray w eg hcmp hH hblk (by rw [hds]; exact hmx)
 rw [hds] at hh
 refine hh.mono ?_
 rintro e w' ⟨rfl, d', m, os, hp1, hs1, hw⟩
 have hd' : d'.size = n := by have := hp1.1; rw [hds] at this; exact this
 obtain ⟨e1, e2, e3, e4⟩ := sort_end (rows := xs.map fun a => (enc a).map Tr.raw) (rows' := d'.toList.map fun a => (enc a).map Tr.raw) (C := bxC bx) (F := flatK enc k d') (k := k) (n := n) hfp hgb hnc hcm hcs (by simp [hd']) (by simp [hd']) (by simp [hn]) (fun r hr => by
  obtain ⟨a, _, rfl⟩ := List.mem_map.1 hr
  rw [List.length_map, hk]) (fun w A => by
  rw [hfl, flatK_list hk0 hk]
  refine rdc_back ?_
  intro v hv
  obtain ⟨l, hl, hvl⟩ := List.mem_flatten.1 hv
  obtain ⟨a, _, rfl⟩ := List.mem_map.1 hl
  exact h1 a v hvl) hw hch hnd hlt
 have hpl := permIn_list (d := xs.toArray) (d' := d') (by rw [hds]; exact hp1)
 exact ⟨_, Tr.tup [], _, rfl, ⟨d'.toList, rfl, rfl, by simpa using hpl, sortedIn_list hd' hs1⟩, by unfold Tr.tup; exact ⟨[], rfl, rfl⟩, e1, e2, e3, e4⟩
end sort
end Lg
end
section
set_option linter.all false
namespace Lg
open Go

/-! ### the tail of an owned slice: read and written through the whole one, settled at the end -/
section sub2
variable {P : Program} {Γ : Ctx} {env env' : Env} {cs cs' cf : List Chunk} {Q : Post} {R : Array Oper}
variable {i : Tmp} {ty : TypeId} {pos : String} {af : Array Edge} {rest : List Oper}
variable {x y z : Operand} {T : TypeId} {k : IntKind} {p q : Int}

end sub2
end Lg
end
