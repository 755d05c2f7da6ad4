/- A part of the proof of a law of this seat: it adds no condition. By an AI agent. -/
import Derived.Shelf.Strings.SlTrimAscii
import Derived.Test.YtmncgklajohcbaaGreatDoorProg
import Derived.Test.YtmncgklajohcbaaGreatDoorLgGo
import Derived.Test.YtmncgklajohcbaaGreatDoorLst
import Derived.Test.YtmncgklajohcbaaGreatDoorSumQ
section
set_option linter.all false
set_option maxRecDepth 100000
set_option maxHeartbeats 1000000
namespace Lg
open Go Go.Proofs

theorem both_ok : ∀ (n : Nat) (a b : List Wn), a.length + b.length ≤ n → Can a → Can b → Can (bothW a b) ∧ (∀ t, memW (bothW a b) t ↔ (memW a t ∧ memW b t)) ∧ (bothW a b).length ≤ a.length + b.length
  | n, [], b, _, _, _ => by
    rw [bothW_nil_l]
    exact ⟨Can.nil, fun t => ⟨fun h => absurd h (memW_nil t), fun h => absurd h.1 (memW_nil t)⟩, Nat.zero_le _⟩
  | n, a :: A, [], _, _, _ => by
    rw [bothW_nil_r]
    exact ⟨Can.nil, fun t => ⟨fun h => absurd h (memW_nil t), fun h => absurd h.2 (memW_nil t)⟩, Nat.zero_le _⟩
  | 0, a :: A, b :: B, h, _, _ => by simp at h
  | n + 1, a :: A, b :: B, h, ha, hb => by
    simp only [List.length_cons] at h
    have na := ha.ne a (by simp)
    have nb := hb.ne b (by simp)
    rw [bothW_cons]
    obtain ⟨R, hR⟩ : ∃ R, R = if a.to < b.to then bothW A (b :: B) else bothW (a :: A) B := ⟨_, rfl⟩
    rw [← hR]
    have key : Can R ∧ (∀ x ∈ R, min a.to b.to < x.fr) ∧ (∀ t, (inW a t ∧ inW b t) ∨ memW R t ↔ memW (a :: A) t ∧ memW (b :: B) t) ∧ R.length + 1 ≤ (A.length + 1) + (B.length + 1) := by
      by_cases hab : a.to < b.to
      · rw [if_pos hab] at hR
        obtain ⟨I1, I2, I3⟩ := both_ok n A (b :: B) (by simp only [List.length_cons]; omega) ha.tail hb
        rw [← hR] at I1 I2 I3
        refine ⟨I1, fun x hx => ?_, fun t => ?_, by simp only [List.length_cons] at I3; omega⟩
        · have h1 := ((I2 x.fr).1 ⟨x, hx, Int.le_refl _, I1.ne x hx⟩).1
          have := ha.lt h1
          omega
        · rw [I2, memW_cons (w := a), memW_cons (w := b)]
          constructor
          · rintro (⟨h1, h2⟩ | ⟨h1, h2⟩)
            · exact ⟨.inl h1, .inl h2⟩
            · exact ⟨.inr h1, h2⟩
          · rintro ⟨h1 | h1, h2⟩
            · rcases h2 with h2 | h2
              · exact .inl ⟨h1, h2⟩
              · have h3 := hb.lt h2
                have h4 := h1.2
                omega
            · exact .inr ⟨h1, h2⟩
      · rw [if_neg hab] at hR
        obtain ⟨I1, I2, I3⟩ := both_ok n (a :: A) B (by simp only [List.length_cons]; omega) ha hb.tail
        rw [← hR] at I1 I2 I3
        refine ⟨I1, fun x hx => ?_, fun t => ?_, by simp only [List.length_cons] at I3; omega⟩
        · have h1 := ((I2 x.fr).1 ⟨x, hx, Int.le_refl _, I1.ne x hx⟩).2
          have := hb.lt h1
          omega
        · rw [I2, memW_cons (w := a), memW_cons (w := b)]
          constructor
          · rintro (⟨h1, h2⟩ | ⟨h1, h2⟩)
            · exact ⟨.inl h1, .inl h2⟩
            · exact ⟨h1, .inr h2⟩
          · rintro ⟨h1, h2 | h2⟩
            · rcases h1 with h1 | h1
              · exact .inl ⟨h1, h2⟩
              · have h3 := ha.lt h1
                have h4 := h2.2
                omega
            · exact .inr ⟨h1, h2⟩
    clear hR
    obtain ⟨K1, K2, K3, K4⟩ := key
    by_cases hm : max a.fr b.fr < min a.to b.to
    · rw [if_pos hm]
      refine ⟨⟨fun x hx => ?_, ?_⟩, fun t => ?_, by simp only [List.length_append, List.length_cons, List.length_nil]; omega⟩
      · rcases List.mem_append.1 hx with h1 | h1
        · rw [List.mem_singleton.1 h1]; exact hm
        · exact K1.ne x h1
      · refine List.pairwise_append.2 ⟨List.pairwise_singleton _ _, K1.ap, fun x hx y hy => ?_⟩
        rw [List.mem_singleton.1 hx]
        exact K2 y hy
      · rw [memW_app, memW_one, ← K3]
        have e : inW ⟨max a.fr b.fr, min a.to b.to⟩ t ↔ inW a t ∧ inW b t := by unfold inW; simp only; omega
        rw [e]
    · rw [if_neg hm, List.nil_append]
      refine ⟨K1, fun t => ?_, by simp only [List.length_cons]; omega⟩
      rw [← K3]
      constructor
      · exact .inr
      · rintro (⟨h1, h2⟩ | h1)
        · unfold inW at h1 h2; omega
        · exact h1
theorem bothW_ok {a b : List Wn} (ha : Can a) (hb : Can b) : Can (bothW a b) ∧ (∀ t, memW (bothW a b) t ↔ (memW a t ∧ memW b t)) ∧ (bothW a b).length ≤ a.length + b.length := both_ok _ a b (Nat.le_refl _) ha hb
/-! ### how long -/
def lenW (ws : List Wn) : List Int := ws.map fun w => w.to - w.fr
def ovW (w : Wn) (x : Wn) : Int := max (min x.to w.to - max x.fr w.fr) 0
theorem both_len {w : Wn} : ∀ {A : List Wn}, Can A → sumQ (lenW (bothW A [w])) = sumQ (A.map (ovW w))
  | [], _ => by rw [bothW_nil_l]; rfl
  | a :: A, h => by
    have ih := both_len (w := w) h.tail
    have hap := (List.pairwise_cons.1 h.ap).1
    rw [bothW_cons, List.map_cons, sumQ]
    unfold lenW at ih ⊢
    rw [List.map_append, sumQ_app]
    have e1 : sumQ ((if max a.fr w.fr < min a.to w.to then [(⟨max a.fr w.fr, min a.to w.to⟩ : Wn)] else []).map fun w => w.to - w.fr) = ovW w a := by
      unfold ovW
      split
      · simp only [List.map_cons, List.map_nil, sumQ]; omega
      · simp only [List.map_nil, sumQ]; omega
    rw [e1]
    by_cases h2 : a.to < w.to
    · rw [if_pos h2, ih]
    · rw [if_neg h2, bothW_nil_r]
      have e2 : ∀ L : List Wn, (∀ x ∈ L, a.to < x.fr) → sumQ (L.map (ovW w)) = 0 := by
        intro L
        induction L with
        | nil => intro _; rfl
        | cons x L ihL =>
          intro hL
          rw [List.map_cons, sumQ, ihL fun y hy => hL y (by simp [hy])]
          have := hL x (by simp)
          unfold ovW
          omega
      rw [e2 A hap]
      rfl
/-! ### when something is so -/
def wsK (at_ : List Int) (is : Int → Bool) : Nat → List Wn
  | 0 => []
  | k + 1 => match at_[k]?, at_[k + 1]? with
    | some a, some b => if is a = true then putW (wsK at_ is k) a b else wsK at_ is k
    | _, _ => wsK at_ is k
def whenW (at_ : List Int) (is : Int → Bool) : List Wn := wsK at_ is (at_.length - 1)
theorem wsK_next {at_ : List Int} {is : Int → Bool} {k : Nat} {a b : Int} (ha : at_[k]? = some a) (hb : at_[k + 1]? = some b) : wsK at_ is (k + 1) = if is a = true then putW (wsK at_ is k) a b else wsK at_ is k := by
  conv => lhs; unfold wsK
  rw [ha, hb]
structure Mom (at_ : List Int) (is : Int → Bool) : Prop where
  inc : ∀ (i : Nat) (a b : Int), at_[i]? = some a → at_[i + 1]? = some b → a < b
  fst : at_[0]? = some 0
  lst : at_[at_.length - 1]? = some tEnd
  two : 2 ≤ at_.length
  cst : ∀ (i : Nat) (a b t : Int), at_[i]? = some a → at_[i + 1]? = some b → a ≤ t → t < b → is t = is a
theorem wsK_ok {at_ : List Int} {is : Int → Bool} (h : Mom at_ is) : ∀ (k : Nat) (a : Int), at_[k]? = some a → Can (wsK at_ is k) ∧ toLe (wsK at_ is k) a ∧ (∀ t, memW (wsK at_ is k) t ↔ (0 ≤ t ∧ t < a ∧ is t = true)) ∧ (wsK at_ is k).length ≤ k
  | 0, a, ha => by
    have e : a = 0 := by have := h.fst; rw [ha] at this; exact Option.some.inj this
    subst e
    exact ⟨Can.nil, fun w hw => (by cases hw), fun t => ⟨fun h => absurd h (memW_nil t), fun h => by omega⟩, Nat.le_refl _⟩
  | k + 1, b, hb => by
    obtain ⟨a, ha⟩ := at_lt (l := at_) (k := k) (by have := (List.getElem?_eq_some_iff.1 hb).1; omega)
    have hab := h.inc k a b ha hb
    obtain ⟨I1, I2, I3, I4⟩ := wsK_ok h k a ha
    obtain ⟨P1, P2, P3⟩ := putW_ok I1 I2 (show a ≤ b by omega)
    have hpl := putW_len (wsK at_ is k) a b
    rw [wsK_next ha hb]
    by_cases hs : is a = true
    · rw [if_pos hs]
      refine ⟨P1, P2, fun t => ?_, by omega⟩
      rw [P3, I3]
      constructor
      · rintro (⟨h1, h2, h3⟩ | ⟨h1, h2⟩)
        · exact ⟨h1, by omega, h3⟩
        · refine ⟨?_, h2, by rw [h.cst k a b t ha hb h1 h2]; exact hs⟩
          have : 0 ≤ a := by
            cases k with
            | zero => have := h.fst; rw [ha] at this; have := Option.some.inj this; omega
            | succ j =>
              refine Classical.byContradiction fun h4 => ?_
              have hmono : ∀ (i : Nat) (c : Int), at_[i]? = some c → 0 ≤ c := by
                intro i
                induction i with
                | zero => intro c hc; have := h.fst; rw [hc] at this; have := Option.some.inj this; omega
                | succ i ih =>
                  intro c hc
                  obtain ⟨d, hd⟩ := at_lt (l := at_) (k := i) (by have := (List.getElem?_eq_some_iff.1 hc).1; omega)
                  have := ih d hd
                  have := h.inc i d c hd hc
                  omega
              exact h4 (hmono _ _ ha)
          omega
      · rintro ⟨h1, h2, h3⟩
        by_cases h4 : t < a
        · exact .inl ⟨h1, h4, h3⟩
        · exact .inr ⟨by omega, h2⟩
    · rw [if_neg hs]
      refine ⟨I1, fun w hw => by have := I2 w hw; omega, fun t => ?_, by omega⟩
      rw [I3]
      constructor
      · rintro ⟨h1, h2, h3⟩
        exact ⟨h1, by omega, h3⟩
      · rintro ⟨h1, h2, h3⟩
        by_cases h4 : t < a
        · exact ⟨h1, h4, h3⟩
        · rw [h.cst k a b t ha hb (by omega) h2] at h3
          exact absurd h3 hs
theorem whenW_ok {at_ : List Int} {is : Int → Bool} (h : Mom at_ is) : Can (whenW at_ is) ∧ (∀ t, memW (whenW at_ is) t ↔ (0 ≤ t ∧ t < tEnd ∧ is t = true)) ∧ (whenW at_ is).length ≤ at_.length := by
  obtain ⟨h1, _, h2, h3⟩ := wsK_ok h (at_.length - 1) tEnd h.lst
  exact ⟨h1, h2, by unfold whenW; omega⟩
/-! ### all moments -/
theorem onAt_congr {l : List Cd} {key : ByteArray} {t u : Int} (h : ∀ c ∈ l, c.at_ ≤ t ↔ c.at_ ≤ u) : onAt l key t = onAt l key u := by
  unfold onAt
  have H : ∀ (L : List Cd) (b : Bool), (∀ c ∈ L, c.at_ ≤ t ↔ c.at_ ≤ u) → L.foldl (onStep key t) b = L.foldl (onStep key u) b := by
    intro L
    induction L with
    | nil => intro b _; rfl
    | cons c L ih =>
      intro b hL
      rw [List.foldl_cons, List.foldl_cons]
      have e : onStep key t b c = onStep key u b c := by
        unfold onStep
        have := hL c (by simp)
        by_cases hk : c.key = key
        · simp only [hk, true_and, this]
        · simp only [hk, false_and]
      rw [e]
      exact ih _ fun c hc => hL c (by simp [hc])
  exact H l false h
theorem sorted_get {l : List Int} (h : l.Pairwise (· < ·)) {i j : Nat} {a b : Int} (hi : l[i]? = some a) (hj : l[j]? = some b) (hij : i < j) : a < b := by
  have h1 := (List.getElem?_eq_some_iff.1 hi)
  have h2 := (List.getElem?_eq_some_iff.1 hj)
  obtain ⟨p1, rfl⟩ := h1
  obtain ⟨p2, rfl⟩ := h2
  exact List.pairwise_iff_getElem.1 h i j p1 p2 hij
theorem mom_ok {l : List Cd} (hl : CdOk l) {M : List Int} (hM : M.Pairwise (· < ·)) (hm : ∀ x, x ∈ M ↔ (x = 0 ∨ x = tEnd ∨ ∃ c ∈ l, c.at_ = x)) (f : (ByteArray → Bool) → Bool) : Mom M (fun t => f fun key => onAt l key t) := by
  have hb : ∀ x ∈ M, 0 ≤ x ∧ x ≤ tEnd := fun x hx => by
    rcases (hm x).1 hx with rfl | rfl | ⟨c, hc, rfl⟩
    · show (0 : Int) ≤ 0 ∧ (0 : Int) ≤ 5761440; omega
    · show (0 : Int) ≤ 5761440 ∧ (5761440 : Int) ≤ 5761440; omega
    · have := hl.2 c hc; omega
  obtain ⟨i0, h0⟩ := List.getElem?_of_mem ((hm 0).2 (.inl rfl))
  obtain ⟨iE, hE⟩ := List.getElem?_of_mem ((hm tEnd).2 (.inr (.inl rfl)))
  have hlt := (List.getElem?_eq_some_iff.1 hE).1
  have e0 : i0 = 0 := by
    refine Classical.byContradiction fun h => ?_
    obtain ⟨a, ha⟩ := at_lt (l := M) (k := 0) (by omega)
    have h1 := sorted_get hM ha h0 (by omega)
    have h2 := hb a (List.mem_of_getElem? ha)
    omega
  have eE : iE = M.length - 1 := by
    refine Classical.byContradiction fun h => ?_
    obtain ⟨a, ha⟩ := at_lt (l := M) (k := M.length - 1) (by omega)
    have h1 := sorted_get hM hE ha (by omega)
    have h2 := hb a (List.mem_of_getElem? ha)
    omega
  have h2 : 2 ≤ M.length := by
    refine Classical.byContradiction fun h => ?_
    have : iE = i0 := by omega
    rw [this, h0] at hE
    have := Option.some.inj hE
    change (0 : Int) = 5761440 at this
    omega
  refine ⟨fun i a b ha hb2 => sorted_get hM ha hb2 (by omega), e0 ▸ h0, eE ▸ hE, h2, fun i a b t ha hb2 h3 h4 => ?_⟩
  have e : ∀ key, onAt l key t = onAt l key a := fun key => onAt_congr fun c hc => by
    constructor
    · intro h5
      refine Classical.byContradiction fun h6 => ?_
      obtain ⟨j, hj⟩ := List.getElem?_of_mem ((hm c.at_).2 (.inr (.inr ⟨c, hc, rfl⟩)))
      have h7 : i < j := by
        refine Classical.byContradiction fun h8 => ?_
        by_cases h9 : j = i
        · rw [h9, ha] at hj; have := Option.some.inj hj; omega
        · have := sorted_get hM hj ha (by omega); omega
      have h8 : ¬ i + 1 < j := fun h9 => by have := sorted_get hM hb2 hj h9; omega
      have h9 : j = i + 1 := by omega
      rw [h9, hb2] at hj
      have := Option.some.inj hj
      omega
    · intro h5; omega
  show f (fun key => onAt l key t) = f (fun key => onAt l key a)
  rw [show (fun key => onAt l key t) = fun key => onAt l key a from funext e]
end Lg
end
section
/-
  DERIVED: THE SHELF's CONTRACTS AT THIS DUMP, IN PLAIN WORDS (tools/lay-plain.mjs out of 'YtmncgklajohcbaaGreatDoorShelfRaw.lean', which tools/lay-shelf.mjs wrote): THE SAME DECLARATIONS UNDER THE SAME NAMES: 'import', 'namespace', 'open', 'def', 'theorem' AND NOTHING ELSE: no command of the shelf's: FOR A HAND-IN. Each laying: the table of numbers ('.._ren') and one theorem, a field a fact of the dump's own or the kernel's comparison; each contract: ONE APPLICATION.
-/
namespace Go.Proofs
open Go.Shelf
def Tryz.lays160_ren : Go.Shelf.Ren := ⟨fun | 160 => 77 | 232 => 94 | 231 => 93 | 227 => 95 | 234 => 97 | 233 => 96 | 236 => 99 | 235 => 98 | 228 => 123 | 271 => 126 | 151 => 125 | 197 => 124 | 120 => 138 | 152 => 137 | 260 => 136 | 137 => 142 | 119 => 143 | 224 => 144 | 225 => 145 | 217 => 147 | 266 => 148 | n => n, fun | 9 => 9 | 4 => 4 | 3 => 3 | 5 => 5 | 117 => 117 | 116 => 116 | 0 => 0 | 124 => 120 | 21 => 21 | 105 => 140 | 46 => 94 | 119 => 155 | 139 => 158 | 138 => 157 | n => n, fun | 3 => 1 | 4 => 2 | n => n⟩
theorem Tryz.lays160 : Go.Proofs.Lays.n160 Tryz.prog Tryz.lays160_ren := {
  mixed := by kernel_rfl
  f119 := Tryz.func143.trans (congrArg some (by kernel_rfl))
  f120 := Tryz.func138.trans (congrArg some (by kernel_rfl))
  f137 := Tryz.func142.trans (congrArg some (by kernel_rfl))
  f151 := Tryz.func125.trans (congrArg some (by kernel_rfl))
  f152 := Tryz.func137.trans (congrArg some (by kernel_rfl))
  f160 := Tryz.func77.trans (congrArg some (by kernel_rfl))
  f197 := Tryz.func124.trans (congrArg some (by kernel_rfl))
  f217 := Tryz.func147.trans (congrArg some (by kernel_rfl))
  f224 := Tryz.func144.trans (congrArg some (by kernel_rfl))
  f225 := Tryz.func145.trans (congrArg some (by kernel_rfl))
  f227 := Tryz.func95.trans (congrArg some (by kernel_rfl))
  f228 := Tryz.func123.trans (congrArg some (by kernel_rfl))
  f231 := Tryz.func93.trans (congrArg some (by kernel_rfl))
  f232 := Tryz.func94.trans (congrArg some (by kernel_rfl))
  f233 := Tryz.func96.trans (congrArg some (by kernel_rfl))
  f234 := Tryz.func97.trans (congrArg some (by kernel_rfl))
  f235 := Tryz.func98.trans (congrArg some (by kernel_rfl))
  f236 := Tryz.func99.trans (congrArg some (by kernel_rfl))
  f260 := Tryz.func136.trans (congrArg some (by kernel_rfl))
  f266 := Tryz.func148.trans (congrArg some (by kernel_rfl))
  f271 := Tryz.func126.trans (congrArg some (by kernel_rfl))
  t0 := Tryz.underlying0
  a0 := Tryz.isAgg0
  z0 := Tryz.sizeOf0
  v0 := Tryz.zeroValue0
  t3 := Tryz.underlying3
  a3 := Tryz.isAgg3
  z3 := Tryz.sizeOf3
  v3 := Tryz.zeroValue3
  t4 := Tryz.underlying4
  a4 := Tryz.isAgg4
  z4 := Tryz.sizeOf4
  v4 := Tryz.zeroValue4
  t5 := Tryz.underlying5
  a5 := Tryz.isAgg5
  z5 := Tryz.sizeOf5
  v5 := Tryz.zeroValue5
  t9 := Tryz.underlying9
  a9 := Tryz.isAgg9
  z9 := Tryz.sizeOf9
  v9 := Tryz.zeroValue9
  t21 := Tryz.underlying21
  a21 := Tryz.isAgg21
  z21 := Tryz.sizeOf21
  v21 := Tryz.zeroValue21
  t46 := Tryz.underlying94
  a46 := Tryz.isAgg94
  z46 := Tryz.sizeOf94
  v46 := Tryz.zeroValue94
  t105 := Tryz.underlying140
  a105 := Tryz.isAgg140
  z105 := Tryz.sizeOf140
  v105 := Tryz.zeroValue140
  t116 := Tryz.underlying116
  a116 := Tryz.isAgg116
  z116 := Tryz.sizeOf116
  t117 := Tryz.underlying117
  a117 := Tryz.isAgg117
  z117 := Tryz.sizeOf117
  v117 := Tryz.zeroValue117
  t119 := Tryz.underlying155
  a119 := Tryz.isAgg155
  z119 := Tryz.sizeOf155
  t124 := Tryz.underlying120
  a124 := Tryz.isAgg120
  z124 := Tryz.sizeOf120
  v124 := Tryz.zeroValue120
  t138 := Tryz.underlying157
  a138 := Tryz.isAgg157
  z138 := Tryz.sizeOf157
  v138 := Tryz.zeroValue157
  t139 := Tryz.underlying158
  a139 := Tryz.isAgg158
  z139 := Tryz.sizeOf158
  v139 := Tryz.zeroValue158
  g3 := by kernel_rfl
  g4 := by kernel_rfl }
end Go.Proofs
end
section
set_option linter.all false
set_option maxRecDepth 100000
set_option maxHeartbeats 4000000
namespace Lg
open Go Go.Proofs

def smallB (b : Int) : Bool := decide (97 ≤ b ∧ b ≤ 122)
def keyB (b : Int) : Bool := decide ((97 ≤ b ∧ b ≤ 122) ∨ (48 ≤ b ∧ b ≤ 57) ∨ b = 45 ∨ b = 95)
/-- what a key is -/
def isKey (s : ByteArray) : Bool := decide (1 ≤ s.size ∧ s.size ≤ 40 ∧ smallB (sby s 0) = true ∧ ∀ j, j < s.size → keyB (sby s j) = true)

theorem str_empty (s : ByteArray) : s = ⟨#[]⟩ ↔ s.size = 0 := by
  constructor
  · rintro rfl; rfl
  · intro h
    apply ByteArray.ext
    apply Array.eq_empty_of_size_eq_zero
    simpa using h

theorem sby_range (s : ByteArray) (j : Nat) : 0 ≤ sby s j ∧ sby s j ≤ 255 := by
  unfold sby
  have := (s.data.toList.getD j 0).toNat_lt
  omega

theorem key_fn (s : ByteArray) : PFn Tryz.prog 35 [.str s] (· = .bool (isKey s)) := by
  refine PFn.mk (Spec.body Tryz.func35 rfl rfl (Tryz.ntmps35) rfl fun w0 own0 M => ?_)
  have hb := sby_range s 0
  by_cases h0 : s = ⟨#[]⟩
  · have h1 := (str_empty s).1 h0
    repeat' (first | refine goH ?_ | refine goV ?_ | refine goG ?_ | (refine Ops.k_guard ?_; first | (refine Ops.guard_dec rfl rfl (fun hc => ?_) (fun hc => ?_) <;> try (exfalso; omega)) | refine Ops.guard_split rfl rfl (fun hc => ?_) (fun hc => ?_)) | refine goI ?_ | (refine Cw.k_cond ?_; first | (refine Cw.cond_dec rfl (fun hc => ?_) (fun hc => ?_) <;> try (exfalso; omega)) | refine Cw.cond_bool rfl (fun hc => ?_) (fun hc => ?_)) | fail)
    refine Fin.ret Ent.refl (Outs.one rfl rfl) ⟨rfl, congrArg Tr.bool ?_⟩
    unfold isKey
    exact (decide_eq_false (by omega)).symm
  have h1 : s.size ≠ 0 := fun h => h0 ((str_empty s).2 h)
  by_cases h2 : (s.size : Int) > 40
  · repeat' (first | refine goH ?_ | refine goV ?_ | refine goG ?_ | (refine Ops.k_guard ?_; first | (refine Ops.guard_dec rfl rfl (fun hc => ?_) (fun hc => ?_) <;> try (exfalso; omega)) | refine Ops.guard_split rfl rfl (fun hc => ?_) (fun hc => ?_)) | refine goI ?_ | (refine Cw.k_cond ?_; first | (refine Cw.cond_dec rfl (fun hc => ?_) (fun hc => ?_) <;> try (exfalso; omega)) | refine Cw.cond_bool rfl (fun hc => ?_) (fun hc => ?_)) | fail)
    refine Fin.ret Ent.refl (Outs.one rfl rfl) ⟨rfl, congrArg Tr.bool ?_⟩
    unfold isKey
    exact (decide_eq_false (by omega)).symm
  by_cases h3 : smallB (sby s 0) = true
  rotate_left
  · have h3' : sby s 0 < 97 ∨ sby s 0 > 122 := by simp [smallB] at h3; omega
    repeat' (first | refine goH ?_ | refine goV ?_ | refine goG ?_ | (refine Ops.k_guard ?_; first | (refine Ops.guard_dec rfl rfl (fun hc => ?_) (fun hc => ?_) <;> try (exfalso; omega)) | refine Ops.guard_split rfl rfl (fun hc => ?_) (fun hc => ?_)) | refine goI ?_ | (refine Cw.k_cond ?_; first | (refine Cw.cond_dec rfl (fun hc => ?_) (fun hc => ?_) <;> try (exfalso; omega)) | refine Cw.cond_bool rfl (fun hc => ?_) (fun hc => ?_)) | fail)
    all_goals
      refine Fin.ret Ent.refl (Outs.one rfl rfl) ⟨rfl, congrArg Tr.bool ?_⟩
      unfold isKey
      exact (decide_eq_false (fun h => h3 h.2.2.1)).symm
  have h3' : 97 ≤ sby s 0 ∧ sby s 0 ≤ 122 := by simpa [smallB] using h3
  repeat' (first | refine goH ?_ | refine goV ?_ | refine goG ?_ | (refine Ops.k_guard ?_; first | (refine Ops.guard_dec rfl rfl (fun hc => ?_) (fun hc => ?_) <;> try (exfalso; omega)) | refine Ops.guard_split rfl rfl (fun hc => ?_) (fun hc => ?_)) | refine goI ?_ | (refine Cw.k_cond ?_; first | (refine Cw.cond_dec rfl (fun hc => ?_) (fun hc => ?_) <;> try (exfalso; omega)) | refine Cw.cond_bool rfl (fun hc => ?_) (fun hc => ?_)) | fail)
  refine Cw.loop (ι := Nat) (fun k => k ≤ s.size ∧ ∀ j, j < k → keyB (sby s j) = true) (fun k => [(0, .str s), (23, .int s.size), (24, .int k)]) (fun _ => []) (fun k => s.size - k) ⟨0, ⟨by omega, fun _ h => by omega⟩, (Ent.mk goSub goTk)⟩ ?_
  rintro k ⟨hk, hall⟩
  by_cases hkl : k < s.size
  · have hbk := sby_range s k
    by_cases hkey : keyB (sby s k) = true
    · have hkey' : (97 ≤ sby s k ∧ sby s k ≤ 122) ∨ (48 ≤ sby s k ∧ sby s k ≤ 57) ∨ sby s k = 45 ∨ sby s k = 95 := by simpa [keyB] using hkey
      repeat' (first | refine goH ?_ | refine goV ?_ | refine goG ?_ | (refine Ops.k_guard ?_; first | (refine Ops.guard_dec rfl rfl (fun hc => ?_) (fun hc => ?_) <;> try (exfalso; omega)) | refine Ops.guard_split rfl rfl (fun hc => ?_) (fun hc => ?_)) | refine goI ?_ | (refine Cw.k_cond ?_; first | (refine Cw.cond_dec rfl (fun hc => ?_) (fun hc => ?_) <;> try (exfalso; omega)) | refine Cw.cond_bool rfl (fun hc => ?_) (fun hc => ?_)) | fail)
      all_goals (refine ⟨k + 1, ⟨by omega, fun j hj => ?_⟩, by omega, (Ent.mk goSub goTk)⟩; rcases Nat.lt_succ_iff_lt_or_eq.1 hj with hj | rfl; exact hall j hj; exact hkey)
    · have hkey' : ¬ ((97 ≤ sby s k ∧ sby s k ≤ 122) ∨ (48 ≤ sby s k ∧ sby s k ≤ 57) ∨ sby s k = 45 ∨ sby s k = 95) := by simpa [keyB] using hkey
      repeat' (first | refine goH ?_ | refine goV ?_ | refine goG ?_ | (refine Ops.k_guard ?_; first | (refine Ops.guard_dec rfl rfl (fun hc => ?_) (fun hc => ?_) <;> try (exfalso; omega)) | refine Ops.guard_split rfl rfl (fun hc => ?_) (fun hc => ?_)) | refine goI ?_ | (refine Cw.k_cond ?_; first | (refine Cw.cond_dec rfl (fun hc => ?_) (fun hc => ?_) <;> try (exfalso; omega)) | refine Cw.cond_bool rfl (fun hc => ?_) (fun hc => ?_)) | fail)
      all_goals (refine Fin.ret Ent.refl (Outs.one rfl rfl) ⟨rfl, congrArg Tr.bool ?_⟩; unfold isKey; exact (decide_eq_false (fun h => hkey (h.2.2.2 k hkl))).symm)
  · repeat' (first | refine goH ?_ | refine goV ?_ | refine goG ?_ | (refine Ops.k_guard ?_; first | (refine Ops.guard_dec rfl rfl (fun hc => ?_) (fun hc => ?_) <;> try (exfalso; omega)) | refine Ops.guard_split rfl rfl (fun hc => ?_) (fun hc => ?_)) | refine goI ?_ | (refine Cw.k_cond ?_; first | (refine Cw.cond_dec rfl (fun hc => ?_) (fun hc => ?_) <;> try (exfalso; omega)) | refine Cw.cond_bool rfl (fun hc => ?_) (fun hc => ?_)) | fail)
    refine Fin.ret Ent.refl (Outs.one rfl rfl) ⟨rfl, congrArg Tr.bool ?_⟩
    unfold isKey
    exact (decide_eq_true ⟨by omega, by omega, h3, fun j hj => hall j (by omega)⟩).symm

/-! ### the reference's own -/
theorem trim_fn (s of : ByteArray) (hs : s.size ≤ 9223372036854775807) (h2 : 2 ≤ of.size) (hcs : of.size < 4294967281) (ha : of.data.toList.all (fun b => decide (b.toNat < 128)) = true) :
    PFn Tryz.prog 77 [.str s, .str of] (· = .str ⟨(Lib.trimS s.data.toList of.data.toList).toArray⟩) :=
  PFn.of_calls (args := [.string s, .string of]) (enters_of Tryz.func77 (by kernel_rfl) rfl) fun w => by
    have hz : (Tryz.prog.info? (Tryz.lays160_ren.t 116)).map (fun i => (i.zero, i.size)) = some (some (.agg (Array.replicate 256 (.bool false))), 256) := by kernel_rfl
    by_cases h0 : s.size = 0
    · refine (Any.strings_Trim_empty Tryz.lays160 s of w (.inl h0)).mono fun e w' ⟨h1, h2⟩ => ⟨?_, h2 ▸ ⟨rfl, rfl, rfl, Nat.le_refl _, fun _ _ => rfl⟩, fun _ => h2 ▸ Nat.le_refl _⟩
      have hl : s.data.toList = [] := List.eq_nil_of_length_eq_zero (by rw [← Lib.size_eq]; exact h0)
      rw [h1, hl]
      congr 2
      rw [← Lib.mk_data s, hl]
      rfl
    · refine (Any.strings_Trim_set Tryz.lays160 (zero_of_info hz).1 (zero_of_info hz).2 s of w h2 (by omega) hs hcs (ascii_of_all ha)).mono fun e w' ⟨h1, q, h2⟩ => ⟨h1, ?_, fun _ => ?_⟩
      · subst h2
        exact (((Go.RowKit.Below.mk rfl rfl rfl (Nat.le_refl _) (fun _ _ => rfl) : Go.RowKit.Below w.heap.size w w).alloc (Nat.le_refl _) _).alloc (by simp) _).trans ⟨rfl, rfl, rfl, Nat.le_refl _, fun _ _ => rfl⟩
      · subst h2
        exact Nat.le_add_right _ _

theorem dropWhile_nil {α : Type} (p : α → Bool) : ∀ (l : List α), l.dropWhile p = [] ↔ l.all p = true
  | [] => by simp
  | a :: l => by
    rw [List.dropWhile_cons]
    cases h : p a with
    | true => simp [h, dropWhile_nil p l]
    | false => simp [h]
theorem trimS_nil (l cs : List UInt8) : Lib.trimS l cs = [] ↔ l.all (cs.contains ·) = true := by
  unfold Lib.trimS Lib.trimLeftS
  rw [dropWhile_nil]
  unfold Lib.trimRightS
  constructor
  · intro h
    by_cases hn : l.reverse.dropWhile (cs.contains ·) = []
    · have := (dropWhile_nil _ _).1 hn
      rwa [List.all_reverse] at this
    · exfalso
      have hm := List.head_mem hn
      have h1 : cs.contains ((l.reverse.dropWhile (cs.contains ·)).head hn) = false := by
        have := List.head_dropWhile_not (cs.contains ·) hn
        simpa using this
      have h2 := List.all_eq_true.1 h _ (List.mem_reverse.2 hm)
      rw [h1] at h2
      cases h2
  · intro h
    rw [List.all_eq_true] at h ⊢
    intro x hx
    exact h x (by
      have h1 := List.mem_reverse.1 hx
      have h2 := (List.dropWhile_sublist _).mem h1
      exact List.mem_reverse.1 h2)

def allIn (s of : ByteArray) : Bool := s.data.toList.all (of.data.toList.contains ·)
theorem made_fn (s of : ByteArray) (hs : s.size ≤ 9223372036854775807) (h2 : 2 ≤ of.size) (hcs : of.size < 4294967281) (ha : of.data.toList.all (fun b => decide (b.toNat < 128)) = true) :
    PFn Tryz.prog 64 [.str s, .str of] (· = .bool (allIn s of)) := by
  refine PFn.mk (Spec.body Tryz.func64 rfl rfl (Tryz.ntmps64) rfl fun w0 own0 M => ?_)
  repeat' (first | refine goH ?_ | refine goV ?_ | refine goI ?_ | (refine Cw.k_cond ?_; first | (refine Cw.cond_dec rfl (fun hc => ?_) (fun hc => ?_) <;> try (exfalso; omega)) | refine Cw.cond_bool rfl (fun hc => ?_) (fun hc => ?_)) | (refine Ops.k_calla ?_; first | (refine Ops.k_callf 77 ?_; refine Ops.callV (trim_fn s of hs h2 hcs ha) (Evs.cons rfl (Evs.cons rfl Evs.nil)) rfl ?_)) | fail)
  refine Fin.ret Ent.refl (Outs.one rfl rfl) ⟨rfl, congrArg Tr.bool ?_⟩
  unfold allIn
  rw [Bool.eq_iff_iff, decide_eq_true_iff, ← trimS_nil, str_empty]
  cases Lib.trimS s.data.toList of.data.toList with
  | nil => simp [ByteArray.size]
  | cons a l => simp [ByteArray.size]

def smallS : ByteArray := ⟨#[97, 98, 99, 100, 101, 102, 103, 104, 105, 106, 107, 108, 109, 110, 111, 112, 113, 114, 115, 116, 117, 118, 119, 120, 121, 122]⟩
def keyS : ByteArray := ⟨#[97, 98, 99, 100, 101, 102, 103, 104, 105, 106, 107, 108, 109, 110, 111, 112, 113, 114, 115, 116, 117, 118, 119, 120, 121, 122, 48, 49, 50, 51, 52, 53, 54, 55, 56, 57, 45, 95]⟩
theorem keyS_has (b : UInt8) : keyS.data.toList.contains b = keyB (b.toNat : Int) := by
  have h : ∀ n, n < 256 → keyS.data.toList.contains (UInt8.ofNat n) = keyB ((UInt8.ofNat n).toNat : Int) := by decide +kernel
  have := h b.toNat b.toNat_lt
  rwa [UInt8.ofNat_toNat] at this
theorem smallS_has (b : UInt8) : smallS.data.toList.contains b = smallB (b.toNat : Int) := by
  have h : ∀ n, n < 256 → smallS.data.toList.contains (UInt8.ofNat n) = smallB ((UInt8.ofNat n).toNat : Int) := by decide +kernel
  have := h b.toNat b.toNat_lt
  rwa [UInt8.ofNat_toNat] at this
theorem all_sby (s : ByteArray) (p : Int → Bool) : s.data.toList.all (fun b => p (b.toNat : Int)) = decide (∀ j, j < s.size → p (sby s j) = true) := by
  rw [Bool.eq_iff_iff, List.all_eq_true, decide_eq_true_iff]
  have hl : s.data.toList.length = s.size := Array.length_toList
  constructor
  · intro h j hj
    have := h (s.data.toList[j]'(by omega)) (List.getElem_mem _)
    unfold sby
    rw [List.getD_eq_getElem?_getD, List.getElem?_eq_getElem (by omega)]
    exact this
  · intro h b hb
    obtain ⟨j, hj, rfl⟩ := List.getElem_of_mem hb
    have := h j (by omega)
    unfold sby at this
    rw [List.getD_eq_getElem?_getD, List.getElem?_eq_getElem hj] at this
    exact this
theorem allIn_key (s : ByteArray) : allIn s keyS = decide (∀ j, j < s.size → keyB (sby s j) = true) := by
  rw [← all_sby]
  unfold allIn
  congr 1
  funext b
  exact keyS_has b
theorem allIn_small (s : ByteArray) (h : 1 ≤ s.size) : allIn (s.extract 0 1) smallS = smallB (sby s 0) := by
  have h1 : allIn (s.extract 0 1) smallS = (s.extract 0 1).data.toList.all (fun b => smallB (b.toNat : Int)) := by
    unfold allIn
    congr 1
    funext b
    exact smallS_has b
  rw [h1, all_sby]
  have hs : (s.extract 0 1).size = 1 := by simp; omega
  have h0 : sby (s.extract 0 1) 0 = sby s 0 := by
    unfold sby
    simp only [ByteArray.data_extract, Array.toList_extract, List.getD_eq_getElem?_getD]
    simp
  rw [hs]
  rw [Bool.eq_iff_iff, decide_eq_true_iff]
  constructor
  · intro h; rw [← h0]; exact h 0 (by omega)
  · intro h j hj
    rw [show j = 0 by omega, h0]
    exact h

theorem keyOf_fn (s : ByteArray) : PFn Tryz.prog 30 [.str s] (· = .bool (isKey s)) := by
  refine PFn.mk (Spec.body Tryz.func30 rfl rfl (Tryz.ntmps30) rfl fun w0 own0 M => ?_)
  by_cases h1 : (s.size : Int) ≥ 1
  rotate_left
  · repeat' (first | refine goH ?_ | refine goV ?_ | refine goG ?_ | (refine Ops.k_guard ?_; first | (refine Ops.guard_dec rfl rfl (fun hc => ?_) (fun hc => ?_) <;> try (exfalso; omega)) | refine Ops.guard_split rfl rfl (fun hc => ?_) (fun hc => ?_)) | refine goI ?_ | (refine Cw.k_cond ?_; first | (refine Cw.cond_dec rfl (fun hc => ?_) (fun hc => ?_) <;> try (exfalso; omega)) | refine Cw.cond_bool rfl (fun hc => ?_) (fun hc => ?_)) | fail)
    refine Fin.ret Ent.refl (Outs.one rfl rfl) ⟨rfl, congrArg Tr.bool ?_⟩
    unfold isKey
    exact (decide_eq_false (by omega)).symm
  by_cases h2 : (s.size : Int) ≤ 40
  rotate_left
  · repeat' (first | refine goH ?_ | refine goV ?_ | refine goG ?_ | (refine Ops.k_guard ?_; first | (refine Ops.guard_dec rfl rfl (fun hc => ?_) (fun hc => ?_) <;> try (exfalso; omega)) | refine Ops.guard_split rfl rfl (fun hc => ?_) (fun hc => ?_)) | refine goI ?_ | (refine Cw.k_cond ?_; first | (refine Cw.cond_dec rfl (fun hc => ?_) (fun hc => ?_) <;> try (exfalso; omega)) | refine Cw.cond_bool rfl (fun hc => ?_) (fun hc => ?_)) | fail)
    refine Fin.ret Ent.refl (Outs.one rfl rfl) ⟨rfl, congrArg Tr.bool ?_⟩
    unfold isKey
    exact (decide_eq_false (by omega)).symm
  have hm1 := made_fn s keyS (by omega) (by decide) (by decide) (by decide)
  have hm2 := made_fn (s.extract 0 1) smallS (by simp; omega) (by decide) (by decide) (by decide)
  rw [allIn_key] at hm1
  rw [allIn_small s (by omega)] at hm2
  by_cases h3 : ∀ j, j < s.size → keyB (sby s j) = true
  rotate_left
  · rw [decide_eq_false h3] at hm1
    repeat' (first | refine goH ?_ | refine goV ?_ | refine goG ?_ | (refine Ops.k_guard ?_; first | (refine Ops.guard_dec rfl rfl (fun hc => ?_) (fun hc => ?_) <;> try (exfalso; omega)) | refine Ops.guard_split rfl rfl (fun hc => ?_) (fun hc => ?_)) | refine goI ?_ | (refine Cw.k_cond ?_; first | (refine Cw.cond_dec rfl (fun hc => ?_) (fun hc => ?_) <;> try (exfalso; omega)) | refine Cw.cond_bool rfl (fun hc => ?_) (fun hc => ?_)) | (refine Ops.k_calla ?_; first | (refine Ops.k_callf 64 ?_; refine Ops.callV hm1 (Evs.cons rfl (Evs.cons rfl Evs.nil)) rfl ?_)) | fail)
    refine Fin.ret Ent.refl (Outs.one rfl rfl) ⟨rfl, congrArg Tr.bool ?_⟩
    unfold isKey
    exact (decide_eq_false (fun h => h3 h.2.2.2)).symm
  rw [decide_eq_true h3] at hm1
  repeat' (first | refine goH ?_ | refine goV ?_ | refine goG ?_ | (refine Ops.k_guard ?_; first | (refine Ops.guard_dec rfl rfl (fun hc => ?_) (fun hc => ?_) <;> try (exfalso; omega)) | refine Ops.guard_split rfl rfl (fun hc => ?_) (fun hc => ?_)) | refine goI ?_ | (refine Cw.k_cond ?_; first | (refine Cw.cond_dec rfl (fun hc => ?_) (fun hc => ?_) <;> try (exfalso; omega)) | refine Cw.cond_bool rfl (fun hc => ?_) (fun hc => ?_)) | (refine Ops.k_calla ?_; first | (refine Ops.k_callf 64 ?_; refine Ops.callV hm1 (Evs.cons rfl (Evs.cons rfl Evs.nil)) rfl ?_) | (refine Ops.k_callf 64 ?_; refine Ops.callV hm2 (Evs.cons rfl (Evs.cons rfl Evs.nil)) rfl ?_)) | fail)
  refine Fin.ret Ent.refl (Outs.one rfl rfl) ⟨rfl, congrArg Tr.bool ?_⟩
  unfold isKey
  rw [Bool.eq_iff_iff, decide_eq_true_iff]
  exact ⟨fun h => ⟨by omega, by omega, h, h3⟩, fun h => h.2.2.1⟩
attribute [irreducible] isKey
end Lg
end
