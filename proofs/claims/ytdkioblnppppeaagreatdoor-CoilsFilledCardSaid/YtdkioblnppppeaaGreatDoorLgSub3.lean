/- A part of the proof of a law of this seat: it adds no condition. By an AI agent. -/
import Derived.Lib.Bytealg
import Derived.Laws.Externs
import Derived.Test.YtdkioblnppppeaaGreatDoorLgLend
section
set_option linter.all false
namespace Lg
open Go

/-! ### strings in order -/
theorem bl_nil (a : List UInt8) : Op.bytesLess a [] = false := by cases a <;> rfl
theorem bl_cons (a b : UInt8) (x y : List UInt8) : Op.bytesLess (a :: x) (b :: y) = (decide (a < b) || (a == b && Op.bytesLess x y)) := rfl
theorem bl_irrefl : ∀ a : List UInt8, Op.bytesLess a a = false
  | [] => rfl
  | a :: x => by rw [bl_cons, bl_irrefl x]; simp
theorem bl_trans : ∀ {a b c : List UInt8}, Op.bytesLess a b = true → Op.bytesLess b c = true → Op.bytesLess a c = true
  | a, [], c, h, _ => by rw [bl_nil] at h; cases h
  | a, b :: y, [], _, h => by rw [bl_nil] at h; cases h
  | [], b :: y, c :: z, _, _ => rfl
  | a :: x, b :: y, c :: z, h1, h2 => by
    rw [bl_cons] at h1 h2 ⊢
    simp only [Bool.or_eq_true, decide_eq_true_eq, Bool.and_eq_true, beq_iff_eq] at *
    rcases h1 with h1 | ⟨rfl, h1⟩
    · rcases h2 with h2 | ⟨rfl, h2⟩
      · exact .inl (UInt8.lt_trans h1 h2)
      · exact .inl h1
    · rcases h2 with h2 | ⟨rfl, h2⟩
      · exact .inl h2
      · exact .inr ⟨rfl, bl_trans h1 h2⟩
theorem bl_tri : ∀ {a b : List UInt8}, Op.bytesLess a b = false → Op.bytesLess b a = false → a = b
  | [], [], _, _ => rfl
  | [], _ :: _, h, _ => by cases h
  | _ :: _, [], _, h => by cases h
  | a :: x, b :: y, h1, h2 => by
    rw [bl_cons] at h1 h2
    simp only [Bool.or_eq_false_iff, decide_eq_false_iff_not, Bool.and_eq_false_iff] at h1 h2
    have hab : a = b := UInt8.le_antisymm (UInt8.not_lt.1 h2.1) (UInt8.not_lt.1 h1.1)
    subst hab
    rw [bl_tri (a := x) (b := y) (by simpa using h1.2) (by simpa using h2.2)]
theorem strLt_irrefl (a : ByteArray) : strLt a a = false := by unfold strLt; exact bl_irrefl _
theorem strLt_trans {a b c : ByteArray} (h1 : strLt a b = true) (h2 : strLt b c = true) : strLt a c = true := by unfold strLt at *; exact bl_trans h1 h2
theorem strLt_tri {a b : ByteArray} (h1 : strLt a b = false) (h2 : strLt b a = false) : a = b := by
  unfold strLt at *
  have := str_beq a b
  rw [bl_tri h1 h2] at this
  simpa using this
theorem strLt_asymm {a b : ByteArray} (h : strLt a b = true) : strLt b a = false := by
  cases h2 : strLt b a with
  | false => rfl
  | true => have := strLt_trans h h2; rw [strLt_irrefl] at this; cases this
/-- strings.Compare -/
def cmpS (a b : ByteArray) : Int := if strLt a b then -1 else if strLt b a then 1 else 0
theorem cmpS_lt (a b : ByteArray) : (cmpS a b < 0) ↔ strLt a b = true := by
  unfold cmpS
  cases h : strLt a b
  · cases h2 : strLt b a <;> simp
  · simp
theorem cmpS_eq (a b : ByteArray) : cmpS a b = 0 ↔ a = b := by
  unfold cmpS
  constructor
  · intro h
    cases h1 : strLt a b
    · cases h2 : strLt b a
      · exact strLt_tri h1 h2
      · rw [h1, h2] at h; simp at h
    · rw [h1] at h; simp at h
  · rintro rfl
    rw [strLt_irrefl]
    rfl
theorem cb_eq : ∀ (a b : List UInt8), Lib.compareBytes a b = if Op.bytesLess a b then -1 else if Op.bytesLess b a then 1 else 0
  | [], [] => rfl
  | [], _ :: _ => rfl
  | _ :: _, [] => rfl
  | a :: x, b :: y => by
    rw [Lib.compareBytes, bl_cons, bl_cons, cb_eq x y]
    by_cases h1 : a < b
    · simp [h1]
    · by_cases h2 : b < a
      · have : a ≠ b := fun e => by subst e; exact h1 h2
        simp [h1, h2, this, this.symm]
      · have : a = b := UInt8.le_antisymm (UInt8.not_lt.1 h2) (UInt8.not_lt.1 h1)
        subst this
        simp
theorem cmpS_cb (a b : ByteArray) : Lib.compareBytes a.data.toList b.data.toList = cmpS a b := by
  rw [cb_eq]
  unfold cmpS strLt
  rw [ByteArray.toList_eq, ByteArray.toList_eq]

/-- a call of one of Go's own functions that is carried out in one step -/
theorem OpV.ext2 {P : Program} {Γ : Ctx} {env : Env} {cs : List Chunk} {ty : TypeId} {f : FuncId} {x y : Operand} {ts : Array TypeId} {a b r : Value} (hx : ev env x = some (.raw a)) (hy : ev env y = some (.raw b))
    (h : ∀ w, (callFunc f #[a, b]).run P w = .ok (.value r) w) : OpV P Γ (.call ⟨.value (.func f), #[x, y], ts⟩) ty env cs (.raw r) := by
  unfold OpV
  intro ac w d
  have h1 := rd_raw (d.ev hx)
  have h2 := rd_raw (d.ev hy)
  exact ⟨r, by have hf : ac.eval (.func f) = .func (.func f) #[] #[] := rfl; simp [execOp, resolve, invoke, Deferred.ofValue, hf, h1, h2, h w], raw_self _⟩
theorem Ops.ext2 {P : Program} {Γ : Ctx} {env : Env} {cs : List Chunk} {Q : Post} {R : Array Oper} {i : Tmp} {ty : TypeId} {pos : String} {af : Array Edge} {rest : List Oper} {f : FuncId} {x y : Operand} {ts : Array TypeId} {a b r : Value} (h : ∀ w, (callFunc f #[a, b]).run P w = .ok (.value r) w)
    (hx : ev env x = some (.raw a)) (hy : ev env y = some (.raw b)) (hi : Nat.blt i Γ.n = true) (kk : Ops P Γ R rest ((i, .raw r) :: env) cs Q) : Ops P Γ R (⟨some i, .call ⟨.value (.func f), #[x, y], ts⟩, ty, pos, af, none⟩ :: rest) env cs Q :=
  Ops.val' hi (OpV.ext2 hx hy h) kk

/-! ### a sorted list of keys that differ is determined by its elements -/
section uniq
variable {α : Type} (lt : α → α → Bool)
theorem insRev_sorted (h1 : ∀ a b, lt a b = true → lt b a = false) (h2 : ∀ a b c, lt b a = false → lt c b = false → lt c a = false) (x : α) : ∀ {l : List α}, l.Pairwise (fun a b => lt a b = false) → (insRev lt x l).Pairwise (fun a b => lt a b = false)
  | [], _ => by simp [insRev]
  | y :: r, h => by
    unfold insRev
    rw [List.pairwise_cons] at h
    cases hxy : lt x y with
    | true =>
      simp only [if_true]
      rw [List.pairwise_cons]
      refine ⟨fun z hz => ?_, insRev_sorted h1 h2 x h.2⟩
      rcases List.mem_cons.1 ((insRev_perm lt x r).mem_iff.1 hz) with rfl | hz
      · exact h1 _ _ hxy
      · exact h.1 z hz
    | false =>
      simp only [Bool.false_eq_true, if_false]
      rw [List.pairwise_cons]
      refine ⟨fun z hz => ?_, List.pairwise_cons.2 h⟩
      rcases List.mem_cons.1 hz with rfl | hz
      · exact hxy
      · exact h2 z y x (h.1 z hz) hxy
theorem isortB_sorted (h1 : ∀ a b, lt a b = true → lt b a = false) (h2 : ∀ a b c, lt b a = false → lt c b = false → lt c a = false) : ∀ (l : List α) {acc : List α}, acc.Pairwise (fun a b => lt b a = false) → (isortB lt acc l).Pairwise (fun a b => lt b a = false)
  | [], acc, h => h
  | x :: l, acc, h => by
    rw [isortB]
    refine isortB_sorted h1 h2 l ?_
    unfold insB
    rw [List.pairwise_reverse]
    exact insRev_sorted lt h1 h2 x (by rw [List.pairwise_reverse]; exact h)
theorem isort_sorted (h1 : ∀ a b, lt a b = true → lt b a = false) (h2 : ∀ a b c, lt b a = false → lt c b = false → lt c a = false) (l : List α) : (isort lt l).Pairwise (fun a b => lt b a = false) := isortB_sorted lt h1 h2 l List.Pairwise.nil
theorem sorted_uniq {le : α → α → Prop} : ∀ {l1 l2 : List α}, l1.Perm l2 → (∀ a ∈ l1, ∀ b ∈ l1, le a b → le b a → a = b) → l1.Pairwise le → l2.Pairwise le → l1 = l2
  | [], l2, hp, _, _, _ => (List.nil_perm.1 hp).symm
  | a :: l1, l2, hp, ha, h1, h2 => by
    cases l2 with
    | nil => exact absurd (List.perm_nil.1 hp) (by simp)
    | cons b l2 =>
      have hab : a = b := by
        rw [List.pairwise_cons] at h1 h2
        have hb : b ∈ a :: l1 := hp.mem_iff.2 (by simp)
        have ham : a ∈ b :: l2 := hp.mem_iff.1 (by simp)
        rcases List.mem_cons.1 hb with e | hb2
        · exact e.symm
        · rcases List.mem_cons.1 ham with e | ham2
          · exact e
          · exact ha a (by simp) b hb (h1.1 b hb2) (h2.1 a ham2)
      subst hab
      rw [List.pairwise_cons] at h1 h2
      rw [sorted_uniq (List.perm_cons a |>.1 hp) (fun x hx y hy => ha x (by simp [hx]) y (by simp [hy])) h1.2 h2.2]
theorem key_inj {κ : Type} {key : α → κ} : ∀ {l : List α}, (l.map key).Nodup → ∀ a ∈ l, ∀ b ∈ l, key a = key b → a = b
  | [], _, a, ha, _, _, _ => by cases ha
  | c :: l, h, a, ha, b, hb, e => by
    rw [List.map_cons, List.nodup_cons] at h
    rcases List.mem_cons.1 ha with ea | ha2
    · rcases List.mem_cons.1 hb with eb | hb2
      · rw [ea, eb]
      · exact absurd (List.mem_map.2 ⟨b, hb2, by rw [← e, ea]⟩) h.1
    · rcases List.mem_cons.1 hb with eb | hb2
      · exact absurd (List.mem_map.2 ⟨a, ha2, by rw [e, eb]⟩) h.1
      · exact key_inj h.2 a ha2 b hb2 e
end uniq
/-- sorted by a number -/
theorem isortI_uniq {α : Type} {key : α → Int} {l1 l2 : List α} (hp : l1.Perm l2) (hn : (l1.map key).Nodup) : isort (fun a b => decide (key a < key b)) l1 = isort (fun a b => decide (key a < key b)) l2 := by
  have H1 : ∀ a b : α, decide (key a < key b) = true → decide (key b < key a) = false := by simp; intro a b h; omega
  have H2 : ∀ a b c : α, decide (key b < key a) = false → decide (key c < key b) = false → decide (key c < key a) = false := by simp; intro a b c h1 h2; omega
  refine sorted_uniq (le := fun a b => decide (key b < key a) = false) ((isort_perm _ l1).trans (hp.trans (isort_perm _ l2).symm)) ?_ (isort_sorted _ H1 H2 l1) (isort_sorted _ H1 H2 l2)
  intro a ha b hb h1 h2
  simp only [decide_eq_false_iff_not] at h1 h2
  exact key_inj hn a ((isort_perm _ l1).mem_iff.1 ha) b ((isort_perm _ l1).mem_iff.1 hb) (by omega)
/-- sorted by a string -/
theorem isortS_uniq {α : Type} {key : α → ByteArray} {l1 l2 : List α} (hp : l1.Perm l2) (hn : (l1.map key).Nodup) : isort (fun a b => strLt (key a) (key b)) l1 = isort (fun a b => strLt (key a) (key b)) l2 := by
  have H1 : ∀ a b : α, strLt (key a) (key b) = true → strLt (key b) (key a) = false := fun a b h => strLt_asymm h
  have H2 : ∀ a b c : α, strLt (key b) (key a) = false → strLt (key c) (key b) = false → strLt (key c) (key a) = false := by
    intro a b c h1 h2
    cases h : strLt (key c) (key a) with
    | false => rfl
    | true =>
      cases h3 : strLt (key a) (key b) with
      | true => have := strLt_trans h h3; rw [h2] at this; cases this
      | false => rw [strLt_tri h3 h1] at h; rw [h2] at h; cases h
  refine sorted_uniq (le := fun a b => strLt (key b) (key a) = false) ((isort_perm _ l1).trans (hp.trans (isort_perm _ l2).symm)) ?_ (isort_sorted _ H1 H2 l1) (isort_sorted _ H1 H2 l2)
  intro a ha b hb h1 h2
  exact key_inj hn a ((isort_perm _ l1).mem_iff.1 ha) b ((isort_perm _ l1).mem_iff.1 hb) (strLt_tri h2 h1)
theorem isort_map {α β : Type} {lt : α → α → Bool} {lt2 : β → β → Bool} {f : α → β} (h : ∀ a b, lt2 (f a) (f b) = lt a b) : ∀ l : List α, isort lt2 (l.map f) = (isort lt l).map f := by
  have h1 : ∀ (x : α) (l : List α), insRev lt2 (f x) (l.map f) = (insRev lt x l).map f := by
    intro x l
    induction l with
    | nil => rfl
    | cons y l ih =>
      simp only [List.map_cons, insRev, h]
      split
      · rw [ih]; rfl
      · rfl
  have h2 : ∀ (l acc : List α), isortB lt2 (acc.map f) (l.map f) = (isortB lt acc l).map f := by
    intro l
    induction l with
    | nil => intro acc; rfl
    | cons x l ih =>
      intro acc
      simp only [List.map_cons, isortB]
      rw [← ih (insB lt x acc)]
      congr 1
      unfold insB
      rw [← List.map_reverse, h1, List.map_reverse]
  exact fun l => h2 l []

/-! ### maps of numbers -/
section mapI
variable {α : Type} [DecidableEq α]
def mI (a : α) : List (α × Int) → Int
  | [] => 0
  | p :: m => if a = p.1 then p.2 else mI a m
def mHas (a : α) (m : List (α × Int)) : Bool := m.any fun p => decide (a = p.1)
def mUp (a : α) (v : Int) : List (α × Int) → List (α × Int)
  | [] => [(a, v)]
  | p :: m => if a = p.1 then (a, v) :: m else p :: mUp a v m
def mAdd (a : α) (v : Int) (m : List (α × Int)) : List (α × Int) := mUp a (mI a m + v) m
def tkv (m : List (α × Int)) : List (α × Tr) := m.map fun p => (p.1, Tr.int p.2)
theorem tkv_read (a : α) (m : List (α × Int)) : mread a (.int .i64 0) (tkv m) = Tr.int (mI a m) := by
  unfold mread
  induction m with
  | nil => rfl
  | cons p m ih =>
    simp only [tkv, List.map_cons, mget, mI]
    split
    · rfl
    · exact ih
theorem tkv_has (a : α) (m : List (α × Int)) : (mget a (tkv m)).isSome = mHas a m := by
  unfold mHas
  induction m with
  | nil => rfl
  | cons p m ih =>
    simp only [tkv, List.map_cons, mget, List.any_cons]
    split
    · rename_i h; simp [h]
    · rename_i h
      simp only [h, decide_false, Bool.false_or]
      exact ih
theorem tkv_set (a : α) (v : Int) (m : List (α × Int)) : mset a (Tr.int v) (tkv m) = tkv (mUp a v m) := by
  induction m with
  | nil => rfl
  | cons p m ih =>
    simp only [tkv, List.map_cons, mset, mUp]
    split
    · rfl
    · simp only [List.map_cons]
      exact congrArg _ ih
theorem tkv_at {m : List (α × Int)} {j : Nat} {a : α} {t : Tr} (h : (tkv m)[j]? = some (a, t)) : ∃ v, m[j]? = some (a, v) ∧ t = Tr.int v := by
  unfold tkv at h
  rw [List.getElem?_map] at h
  cases hm : m[j]? with
  | none => rw [hm] at h; simp at h
  | some p => rw [hm] at h; simp at h; exact ⟨p.2, by rw [← h.1], h.2.symm⟩
theorem tkv_erase (m : List (α × Int)) (j : Nat) : (tkv m).eraseIdx j = tkv (m.eraseIdx j) := by
  unfold tkv
  induction m generalizing j with
  | nil => rfl
  | cons p m ih =>
    cases j with
    | zero => rfl
    | succ j => simp only [List.map_cons, List.eraseIdx_cons_succ]; rw [ih]
theorem tkv_nil {m : List (α × Int)} (h : tkv m = []) : m = [] := by
  cases m with
  | nil => rfl
  | cons p m => cases h
theorem mUp_keys (a : α) (v : Int) : ∀ (m : List (α × Int)), (mUp a v m).map Prod.fst = if a ∈ m.map Prod.fst then m.map Prod.fst else m.map Prod.fst ++ [a]
  | [] => by simp [mUp]
  | p :: m => by
    simp only [mUp]
    by_cases h : a = p.1
    · simp [h]
    · rw [if_neg h, List.map_cons, mUp_keys a v m, List.map_cons]
      by_cases h2 : a ∈ m.map Prod.fst
      · rw [if_pos h2, if_pos (by simp [h2])]
      · rw [if_neg h2, if_neg (by simp only [List.mem_cons, not_or]; exact ⟨h, h2⟩)]
        rfl
theorem mUp_nodup {a : α} {v : Int} {m : List (α × Int)} (h : (m.map Prod.fst).Nodup) : ((mUp a v m).map Prod.fst).Nodup := by
  rw [mUp_keys]
  split
  · exact h
  · rename_i h2
    rw [List.nodup_append]
    exact ⟨h, by simp, fun x hx y hy e => by simp at hy; subst hy; subst e; exact h2 hx⟩
theorem mUp_len (a : α) (v : Int) : ∀ m : List (α × Int), (mUp a v m).length ≤ m.length + 1
  | [] => by simp [mUp]
  | p :: m => by
    simp only [mUp]
    split
    · simp
    · have := mUp_len a v m
      simp
      omega
theorem mI_up (a b : α) (v : Int) : ∀ m : List (α × Int), mI b (mUp a v m) = if b = a then v else mI b m
  | [] => by simp [mUp, mI]
  | p :: m => by
    simp only [mUp]
    by_cases h : a = p.1
    · rw [if_pos h]
      simp only [mI]
      split
      · rfl
      · rename_i h2
        rw [if_neg (by rw [← h]; exact h2)]
    · rw [if_neg h]
      simp only [mI, mI_up a b v m]
      by_cases h2 : b = p.1
      · rw [if_pos h2, if_pos h2, if_neg (by intro e; exact h (e ▸ h2))]
      · rw [if_neg h2, if_neg h2]
theorem mI_mem {m : List (α × Int)} (hn : (m.map Prod.fst).Nodup) {a : α} {v : Int} (h : (a, v) ∈ m) : mI a m = v := by
  induction m with
  | nil => cases h
  | cons p m ih =>
    rw [List.map_cons, List.nodup_cons] at hn
    rcases List.mem_cons.1 h with rfl | h
    · simp [mI]
    · have : a ≠ p.1 := fun e => hn.1 (List.mem_map.2 ⟨_, h, e⟩)
      simp only [mI, if_neg this]
      exact ih hn.2 h
theorem mI_not {m : List (α × Int)} {a : α} (h : a ∉ m.map Prod.fst) : mI a m = 0 := by
  induction m with
  | nil => rfl
  | cons p m ih =>
    simp only [List.map_cons, List.mem_cons, not_or] at h
    simp only [mI, if_neg h.1]
    exact ih h.2
theorem mAll_up {p : α × Int → Prop} {a : α} {v : Int} (h : p (a, v)) : ∀ {m : List (α × Int)}, (∀ q ∈ m, p q) → ∀ q ∈ mUp a v m, p q
  | [], _, q, hq => by simp [mUp] at hq; rw [hq]; exact h
  | r :: m, hm, q, hq => by
    simp only [mUp] at hq
    split at hq
    · rcases List.mem_cons.1 hq with rfl | hq
      · exact h
      · exact hm q (by simp [hq])
    · rcases List.mem_cons.1 hq with rfl | hq
      · exact hm q (by simp)
      · exact mAll_up h (fun x hx => hm x (by simp [hx])) q hq
theorem mI_all {p : Int → Prop} {a : α} (h0 : p 0) : ∀ {m : List (α × Int)}, (∀ q ∈ m, p q.2) → p (mI a m)
  | [], _ => h0
  | r :: m, hm => by
    simp only [mI]
    split
    · exact hm r (by simp)
    · exact mI_all h0 (fun x hx => hm x (by simp [hx]))
end mapI
end Lg
end
section
set_option linter.all false
namespace Lg
open Go

/-! ### the tail of an owned slice: read and written through the whole one, settled at the end -/
section sub2
variable {P : Program} {Γ : Ctx} {env env' : Env} {cs cs' cf : List Chunk} {Q : Post} {R : Array Oper}
variable {i : Tmp} {ty : TypeId} {pos : String} {af : Array Edge} {rest : List Oper}
variable {x y z : Operand} {T : TypeId} {k : IntKind} {p q : Int}

/-- s[p:] of a part: where nothing is left, its place may be any -/
theorem Ops.slice_part {E kk bb zs} [hS : TySl P T E kk bb zs] {ad : Option Addr} {o n cap2 : Nat} (hx : ev env x = some (.qsl ad o kk n cap2)) (hy : ev env y = some (.raw (.int k p))) (h0 : 0 ≤ p ∧ p ≤ n) (hi : Nat.blt i Γ.n = true)
    (kont : ∀ v : Option Addr, (p < n → n ≤ cap2 → v = ad.map fun a => ⟨a.block, (o + p.toNat) * kk, none⟩) → v.isSome = ad.isSome → Ops P Γ R rest ((i, .raw (.slice v (n - p.toNat) (cap2 - p.toNat))) :: env) cs Q) : Ops P Γ R (⟨some i, .slice T x (some y) none none, ty, pos, af, none⟩ :: rest) env cs Q :=
  Ops.of fun a w d => by
    unfold Tr.qsl at hx
    have hv := rd_raw (d.ev hx)
    have hp' := rd_raw (d.ev hy)
    have hrun := run_slice_parts (P := P) (t := T) (kk := kk) (a := ad.map fun a => ⟨a.block, o * kk, none⟩) (bounds_l (P := P) (k := k) (w := w) (len := n) (cap := cap2) h0.1 (by omega))
    by_cases hc : cap2 = p.toNat
    · rw [if_pos hc] at hrun
      refine ⟨_, _, .value _, w, by simp [execOp, hv, hp', hrun] <;> rfl, .inl ⟨_, rfl, Den.put d hi (raw_self _)⟩, kont _ (fun h1 h2 => by omega) (by cases ad <;> rfl)⟩
    · rw [if_neg hc] at hrun
      refine ⟨_, _, .value _, w, by simp [execOp, hv, hp', hrun] <;> rfl, .inl ⟨_, rfl, Den.put d hi (raw_self _)⟩, kont _ (fun _ _ => ?_) (by cases ad <;> rfl)⟩
      cases ad <;> simp [Addr.add, add_plain, Nat.add_mul]

/-- the whole is a part that starts at 0 -/
theorem Ent.part0 {s : Nat} {ad : Option Addr} {n cap kk : Nat} {e : TypeId} {rows : List (List Tr)} (hl : Lg.look env s = some (.raw (.slice ad n cap))) (hp : cs.Perm (Chunk.own ad cap kk e rows :: cf)) (hr : rows ≠ []) :
    Ent Γ env cs ((s, .qsl ad 0 kk n cap) :: env) cs := by
  unfold Ent
  intro a w d
  have hch := (d.perm hp).has (List.Perm.refl _)
  obtain ⟨g, cur, rfl, _⟩ := own_some hch hr
  refine ⟨d.nodefer, d.tmps, ?_, d.chunks, d.nodup, d.fresh, d.below, d.frame⟩
  intro j u hj
  by_cases es : s = j
  · subst es
    rw [look_cons_same] at hj
    cases hj
    have := d.env s _ hl
    unfold Tr.qsl
    simpa using this
  · rw [look_cons_ne _ _ es] at hj
    exact d.env j u hj
/-- a part is written no more -/
theorem Ent.settle_part {s : Nat} {ad v : Option Addr} {o n cap cap2 kk : Nat} {e : TypeId} {rows : List (List Tr)} (hl : Lg.look env s = some (.raw (.slice v n cap2))) (hp : cs.Perm (Chunk.own ad cap kk e rows :: cf)) (hn : o + n = rows.length) (hr : rows ≠ []) (hc : n ≤ cap2 ∧ cap2 ≤ cap)
    (hv : 0 < n → v = ad.map fun a => ⟨a.block, o * kk, none⟩) (hz : v.isSome = ad.isSome) : Ent Γ env cs ((s, .sl kk (rows.drop o)) :: env) cf := by
  unfold Ent
  intro a w d
  have d' := d.perm hp
  have d2 := d'.dropc
  have hst := d'.settled (rfl : rows.length = rows.length)
  have hch := d'.has (List.Perm.refl _)
  obtain ⟨g, cur, rfl, _, hcp, hcm, _⟩ := own_some hch hr
  refine ⟨d2.nodefer, d2.tmps, ?_, d2.chunks, d2.nodup, d2.fresh, d2.below, d2.frame⟩
  intro j u hj
  by_cases es : s = j
  · subst es
    rw [look_cons_same] at hj
    cases hj
    rw [rd_raw (d.env s _ hl)]
    unfold Tr.sl at hst ⊢
    obtain ⟨hk, hm, ad2, cap3, he, h1, h2, h3, h4⟩ := hst
    simp only [Value.slice.injEq] at he
    obtain ⟨rfl, _, rfl⟩ := he
    have hlen : (rows.drop o).length = n := by rw [List.length_drop]; omega
    refine ⟨fun r hr => hk r (List.mem_of_mem_drop hr), by omega, v, cap2, by rw [hlen], by omega, by omega, fun h => by rw [h] at hz; simp at hz, ?_⟩
    by_cases h0 : n = 0
    · exact .inl (List.eq_nil_of_length_eq_zero (by omega))
    · rcases h4 with h4 | ⟨b, off, h5, h6⟩
      · exact absurd h4 hr
      · simp only [Option.some.injEq, Addr.mk.injEq] at h5
        obtain ⟨rfl, rfl, _⟩ := h5
        refine .inr ⟨g, o * kk, by rw [hv (by omega)]; rfl, ?_⟩
        have := h6.drop (o * kk)
        rw [Nat.zero_add] at this
        rwa [flatten_drop hk]
  · rw [look_cons_ne _ _ es] at hj
    exact d2.env j u hj
end sub2
end Lg
end
section
set_option linter.all false
namespace Lg
open Go

/-! ### a part of an owned slice, empty ones too; slices.Clip -/
section sub3
variable {P : Program} {Γ : Ctx} {env env' : Env} {cs cs' cf : List Chunk} {Q : Post} {R : Array Oper}
variable {i : Tmp} {ty : TypeId} {pos : String} {af : Array Edge} {rest : List Oper}
variable {x y z : Operand} {T : TypeId} {k : IntKind} {p q : Int}

theorem bounds_hm {len cap : Nat} {k : IntKind} {h : Int} {w : World} (h0 : 0 ≤ h) (h2 : h ≤ cap) :
    (Instr.sliceBounds true len cap none (some (.int k h)) (some (.int k h))).run P w = .ok (0, h.toNat, h.toNat) w := by
  have e : h ≤ (h.toNat : Int) := by omega
  simp [Instr.sliceBounds, run_sliceBound (P := P) w k h cap .slice3Acap h0 h2, run_sliceBound (P := P) w k h h.toNat .slice3B h0 e]
/-- s[:n:n] of a slice of n elements -/
theorem OpV.slice_clip {E kk bb zs} [hS : TySl P T E kk bb zs] {rows : List (List Tr)} {z2 : Operand} (hx : ev env x = some (.sl kk rows)) (hz : ev env z = some (.raw (.int k q))) (hz2 : ev env z2 = some (.raw (.int k q))) (h0 : q = rows.length) : OpV P Γ (.slice T x none (some z) (some z2)) ty env cs (.sl kk rows) := by
  unfold OpV
  intro a w d
  have hv := d.ev hx
  have hq := rd_raw (d.ev hz)
  have hq2 := rd_raw (d.ev hz2)
  unfold Tr.sl at hv
  obtain ⟨hk, hm, ad, cap, he, h1, h2, h3, h4⟩ := hv
  obtain ⟨ti, zv, e1, e2, e3, e4, _⟩ := hS.hE
  have hb := bounds_hm (P := P) (k := k) (len := rows.length) (cap := cap) (h := q) (w := w) (by omega) (by omega)
  have hrun : (Instr.sliceAt T (.slice ad rows.length cap) none (some (.int k q)) (some (.int k q))).run P w = .ok (.slice (if rows = [] then ad else ad.map (·.add 0)) rows.length rows.length) w := by
    simp [Instr.sliceAt, Instr.slice, run_underlying hS.hT, hb, Go.sizeOf, typeInfo, e1, e4]
    simp [h0]
  refine ⟨_, by simp [execOp, he, hq, hq2, hrun] <;> rfl, ?_⟩
  unfold Tr.sl
  refine ⟨hk, hm, _, _, rfl, Nat.le_refl _, by omega, fun hn => ?_, ?_⟩
  · by_cases h0 : rows = []
    · exact ⟨h0, by rw [h0]; rfl⟩
    · rw [if_neg h0] at hn
      cases ad with
      | none => exact absurd (h3 rfl).1 h0
      | some a => simp at hn
  · rcases h4 with h4 | ⟨b, off, e5, hc⟩
    · exact .inl h4
    · subst e5
      refine .inr ⟨b, off, ?_, hc⟩
      split <;> simp [Addr.add, add_plain]
theorem Ops.slice_clip {E kk bb zs} [hS : TySl P T E kk bb zs] {rows : List (List Tr)} {z2 : Operand} (hx : ev env x = some (.sl kk rows)) (hz : ev env z = some (.raw (.int k q))) (hz2 : ev env z2 = some (.raw (.int k q))) (h0 : q = rows.length) (hi : Nat.blt i Γ.n = true)
    (kont : Ops P Γ R rest ((i, .sl kk rows) :: env) cs Q) : Ops P Γ R (⟨some i, .slice T x none (some z) (some z2), ty, pos, af, none⟩ :: rest) env cs Q :=
  Ops.val' hi (OpV.slice_clip hx hz hz2 h0) kont

/-- an owned slice as a part of itself -/
theorem Cw.part0 {c : Code} {s : Nat} {ad : Option Addr} {n cap kk : Nat} {e : TypeId} {rows : List (List Tr)} (hl : Lg.look env s = some (.raw (.slice ad n cap))) (hp : cs.Perm (Chunk.own ad cap kk e rows :: cf)) (hn : n = rows.length)
    (kont : ∀ v : Option Addr, (0 < n → v = ad.map fun a => ⟨a.block, 0 * kk, none⟩) → v.isSome = ad.isSome → n ≤ cap → Cw P Γ c ((s, .raw (.slice v n cap)) :: env) cs Q) : Cw P Γ c env cs Q := by
  by_cases hr : rows = []
  · refine Cw.ent (env' := (s, .raw (.slice ad n cap)) :: env) (cs' := cs) ?_ (kont ad (fun h => by subst hr; subst hn; simp at h) rfl (by subst hr; subst hn; simp))
    unfold Ent
    intro a w d
    refine ⟨d.nodefer, d.tmps, ?_, d.chunks, d.nodup, d.fresh, d.below, d.frame⟩
    intro j u hj
    by_cases es : s = j
    · subst es
      rw [look_cons_same] at hj
      cases hj
      exact d.env s _ hl
    · rw [look_cons_ne _ _ es] at hj
      exact d.env j u hj
  · have h2 := Ent.part0 (Γ := Γ) (s := s) hl hp hr
    unfold Tr.qsl at h2
    unfold Cw
    intro a w d
    have hch := (d.perm hp).has (List.Perm.refl _)
    obtain ⟨g, cur, _, _, hcp, _⟩ := own_some hch hr
    have k2 := kont (ad.map fun a => ⟨a.block, 0 * kk, none⟩) (fun _ => rfl) (by cases ad <;> rfl) (by omega)
    have k3 := Cw.ent h2 k2
    unfold Cw at k3
    exact k3 a w d
/-- a part is written no more -/
theorem Ent.settle_part2 {s : Nat} {ad v : Option Addr} {o n cap cap2 kk : Nat} {e : TypeId} {rows : List (List Tr)} (hl : Lg.look env s = some (.raw (.slice v n cap2))) (hp : cs.Perm (Chunk.own ad cap kk e rows :: cf)) (hn : o + n = rows.length) (hc : n ≤ cap2 ∧ cap2 ≤ cap)
    (hv : 0 < n → v = ad.map fun a => ⟨a.block, o * kk, none⟩) (hz : v.isSome = ad.isSome) : Ent Γ env cs ((s, .sl kk (rows.drop o)) :: env) cf := by
  by_cases hr : rows = []
  · subst hr
    unfold Ent
    intro a w d
    have d' := d.perm hp
    have d2 := d'.dropc
    have hst := d'.settled (rfl : ([] : List (List Tr)).length = ([] : List (List Tr)).length)
    simp only [List.length_nil] at hn
    refine ⟨d2.nodefer, d2.tmps, ?_, d2.chunks, d2.nodup, d2.fresh, d2.below, d2.frame⟩
    intro j u hj
    by_cases es : s = j
    · subst es
      rw [look_cons_same] at hj
      cases hj
      rw [rd_raw (d.env s _ hl)]
      unfold Tr.sl at hst ⊢
      obtain ⟨hk, hm, ad2, cap3, he, h1, h2, h3, h4⟩ := hst
      simp only [Value.slice.injEq] at he
      obtain ⟨rfl, _, rfl⟩ := he
      rw [List.drop_nil]
      refine ⟨fun r hr => (by cases hr), by simp, v, cap2, (by rw [show n = 0 by omega]; rfl), by simp, by omega, fun h => ?_, .inl rfl⟩
      rw [h] at hz
      cases ad with
      | none => have := (h3 rfl).2; exact ⟨rfl, by omega⟩
      | some a => simp at hz
    · rw [look_cons_ne _ _ es] at hj
      exact d2.env j u hj
  · exact Ent.settle_part hl hp hn hr hc hv hz
end sub3
end Lg
end
