/- A part of the proof of a law of this seat: it adds no condition. By an AI agent. -/
import Derived.Test.YtmncgklajohcbaaGreatDoorLgLend
import Derived.Test.YtmncgklajohcbaaGreatDoorTypes
section
set_option linter.all false
set_option maxRecDepth 100000
set_option maxHeartbeats 1000000
namespace Lg
open Go Go.Proofs

/-! ### windows -/
structure Wn where
  fr : Int
  to : Int
abbrev tEnd : Int := 5761440
def inW (w : Wn) (t : Int) : Prop := w.fr ≤ t ∧ t < w.to
def memW (ws : List Wn) (t : Int) : Prop := ∃ w ∈ ws, inW w t
theorem memW_nil (t : Int) : ¬ memW [] t := fun ⟨w, h, _⟩ => by cases h
theorem memW_cons {w : Wn} {ws : List Wn} {t : Int} : memW (w :: ws) t ↔ inW w t ∨ memW ws t := by
  unfold memW
  constructor
  · rintro ⟨x, hx, h⟩
    rcases List.mem_cons.1 hx with rfl | hx
    · exact .inl h
    · exact .inr ⟨x, hx, h⟩
  · rintro (h | ⟨x, hx, h⟩)
    · exact ⟨w, by simp, h⟩
    · exact ⟨x, by simp [hx], h⟩
theorem memW_app {a b : List Wn} {t : Int} : memW (a ++ b) t ↔ memW a t ∨ memW b t := by
  induction a with
  | nil => simp [memW_nil]
  | cons w a ih => rw [List.cons_append, memW_cons, memW_cons, ih, or_assoc]
theorem memW_one {w : Wn} {t : Int} : memW [w] t ↔ inW w t := by
  rw [memW_cons]
  exact ⟨fun h => h.elim id (fun h => absurd h (memW_nil t)), .inl⟩
/-- windows in order and apart -/
structure Can (ws : List Wn) : Prop where
  ne : ∀ w ∈ ws, w.fr < w.to
  ap : ws.Pairwise fun a b => a.to < b.fr
theorem Can.nil : Can [] := ⟨fun w h => by (cases h), List.Pairwise.nil⟩
theorem Can.tail {w : Wn} {ws : List Wn} (h : Can (w :: ws)) : Can ws := ⟨fun x hx => h.ne x (by simp [hx]), (List.pairwise_cons.1 h.ap).2⟩
theorem Can.lt {w : Wn} {ws : List Wn} (h : Can (w :: ws)) {t : Int} (ht : memW ws t) : w.to < t := by
  obtain ⟨x, hx, h1, h2⟩ := ht
  have := (List.pairwise_cons.1 h.ap).1 x hx
  omega
theorem can_uniq : ∀ {a b : List Wn}, Can a → Can b → (∀ t, memW a t ↔ memW b t) → a = b
  | [], [], _, _, _ => rfl
  | [], w :: b, _, hb, h => by
    have h1 := hb.ne w (by simp)
    exact absurd ((h w.fr).2 (memW_cons.2 (.inl ⟨by omega, by omega⟩))) (memW_nil _)
  | w :: a, [], ha, _, h => by
    have h1 := ha.ne w (by simp)
    exact absurd ((h w.fr).1 (memW_cons.2 (.inl ⟨by omega, by omega⟩))) (memW_nil _)
  | w :: a, v :: b, ha, hb, h => by
    have hw := ha.ne w (by simp)
    have hv := hb.ne v (by simp)
    have e1 : w.fr = v.fr := by
      have h1 := (h w.fr).1 (memW_cons.2 (.inl ⟨by omega, by omega⟩))
      have h2 := (h v.fr).2 (memW_cons.2 (.inl ⟨by omega, by omega⟩))
      have g1 : v.fr ≤ w.fr := by
        rcases memW_cons.1 h1 with h3 | h3
        · exact h3.1
        · have := hb.lt h3; omega
      have g2 : w.fr ≤ v.fr := by
        rcases memW_cons.1 h2 with h3 | h3
        · exact h3.1
        · have := ha.lt h3; omega
      omega
    have e2 : w.to = v.to := by
      have n1 : ¬ memW (w :: a) w.to := fun h3 => by
        rcases memW_cons.1 h3 with h4 | h4
        · have := h4.2; omega
        · have := ha.lt h4; omega
      have n2 : ¬ memW (v :: b) v.to := fun h3 => by
        rcases memW_cons.1 h3 with h4 | h4
        · have := h4.2; omega
        · have := hb.lt h4; omega
      have n3 : ¬ (v.fr ≤ w.to ∧ w.to < v.to) := fun h3 => n1 ((h _).2 (memW_cons.2 (.inl h3)))
      have n4 : ¬ (w.fr ≤ v.to ∧ v.to < w.to) := fun h3 => n2 ((h _).1 (memW_cons.2 (.inl h3)))
      omega
    have e : w = v := by cases w; cases v; simp only at e1 e2; rw [e1, e2]
    subst e
    rw [can_uniq ha.tail hb.tail fun t => ?_]
    constructor
    · intro h1
      have h2 := ha.lt h1
      rcases memW_cons.1 ((h t).1 (memW_cons.2 (.inr h1))) with h3 | h3
      · have := h3.2; omega
      · exact h3
    · intro h1
      have h2 := hb.lt h1
      rcases memW_cons.1 ((h t).2 (memW_cons.2 (.inr h1))) with h3 | h3
      · have := h3.2; omega
      · exact h3
/-! ### a window put at the end -/
def lastTo : List Wn → Option Int
  | [] => none
  | [w] => some w.to
  | _ :: v :: ws => lastTo (v :: ws)
def setTo (b : Int) : List Wn → List Wn
  | [] => []
  | [w] => [⟨w.fr, b⟩]
  | w :: v :: ws => w :: setTo b (v :: ws)
theorem last_cases (ws : List Wn) : ws = [] ∨ ∃ (p : List Wn) (w : Wn), ws = p ++ [w] := by
  rcases List.eq_nil_or_concat ws with h | ⟨p, w, h⟩
  · exact .inl h
  · exact .inr ⟨p, w, by simpa using h⟩
theorem lastTo_snoc (p : List Wn) (w : Wn) : lastTo (p ++ [w]) = some w.to := by
  induction p with
  | nil => rfl
  | cons a p ih =>
    cases p with
    | nil => rfl
    | cons b p => exact ih
theorem setTo_snoc (b : Int) (p : List Wn) (w : Wn) : setTo b (p ++ [w]) = p ++ [⟨w.fr, b⟩] := by
  induction p with
  | nil => rfl
  | cons a p ih =>
    cases p with
    | nil => rfl
    | cons c p => exact congrArg (a :: ·) ih
def putW (ws : List Wn) (a b : Int) : List Wn := if a = b then ws else if lastTo ws = some a then setTo b ws else ws ++ [⟨a, b⟩]
def toLe (ws : List Wn) (a : Int) : Prop := ∀ w ∈ ws, w.to ≤ a
theorem can_snoc {p : List Wn} {w : Wn} : Can (p ++ [w]) ↔ Can p ∧ w.fr < w.to ∧ ∀ x ∈ p, x.to < w.fr := by
  constructor
  · rintro ⟨h1, h2⟩
    have h3 := List.pairwise_append.1 h2
    exact ⟨⟨fun x hx => h1 x (by simp [hx]), h3.1⟩, h1 w (by simp), fun x hx => h3.2.2 x hx w (by simp)⟩
  · rintro ⟨h1, h2, h3⟩
    refine ⟨fun x hx => ?_, List.pairwise_append.2 ⟨h1.ap, List.pairwise_singleton _ _, fun x hx y hy => ?_⟩⟩
    · rcases List.mem_append.1 hx with h | h
      · exact h1.ne x h
      · rw [List.mem_singleton.1 h]; exact h2
    · rw [List.mem_singleton.1 hy]; exact h3 x hx
theorem putW_ok {ws : List Wn} {a b : Int} (h : Can ws) (hl : toLe ws a) (hab : a ≤ b) : Can (putW ws a b) ∧ toLe (putW ws a b) b ∧ ∀ t, memW (putW ws a b) t ↔ memW ws t ∨ (a ≤ t ∧ t < b) := by
  unfold putW
  by_cases h0 : a = b
  · rw [if_pos h0]
    exact ⟨h, fun w hw => by have := hl w hw; omega, fun t => ⟨.inl, fun h1 => h1.elim id fun h2 => by omega⟩⟩
  rw [if_neg h0]
  rcases last_cases ws with rfl | ⟨p, w, rfl⟩
  · rw [if_neg (by simp [lastTo])]
    rw [List.nil_append]
    refine ⟨⟨fun x hx => ?_, List.pairwise_singleton _ _⟩, fun x hx => ?_, fun t => ?_⟩
    · rw [List.mem_singleton.1 hx]; show a < b; omega
    · rw [List.mem_singleton.1 hx]; exact Int.le_refl _
    · rw [memW_one]
      exact ⟨.inr, fun h1 => h1.elim (fun h2 => absurd h2 (memW_nil t)) id⟩
  rw [lastTo_snoc, setTo_snoc]
  obtain ⟨g1, g2, g3⟩ := can_snoc.1 h
  have hwa := hl w (by simp)
  by_cases h1 : some w.to = some a
  · rw [if_pos h1]
    have h1 := Option.some.inj h1
    refine ⟨can_snoc.2 ⟨g1, by show w.fr < b; omega, g3⟩, fun x hx => ?_, fun t => ?_⟩
    · rcases List.mem_append.1 hx with h2 | h2
      · have := hl x (by simp [h2]); omega
      · rw [List.mem_singleton.1 h2]; exact Int.le_refl _
    · rw [memW_app, memW_app, memW_one, memW_one]
      unfold inW
      simp only
      constructor
      · rintro (h2 | h2)
        · exact .inl (.inl h2)
        · by_cases h3 : t < w.to
          · exact .inl (.inr ⟨h2.1, h3⟩)
          · exact .inr ⟨by omega, h2.2⟩
      · rintro ((h2 | h2) | h2)
        · exact .inl h2
        · exact .inr ⟨h2.1, by omega⟩
        · exact .inr ⟨by omega, h2.2⟩
  · rw [if_neg h1]
    have h1 : w.to ≠ a := fun e => h1 (congrArg some e)
    refine ⟨can_snoc.2 ⟨h, by show a < b; omega, fun x hx => ?_⟩, fun x hx => ?_, fun t => ?_⟩
    · show x.to < a
      rcases List.mem_append.1 hx with h2 | h2
      · have := g3 x h2; omega
      · rw [List.mem_singleton.1 h2]; omega
    · rcases List.mem_append.1 hx with h2 | h2
      · have := hl x h2; omega
      · rw [List.mem_singleton.1 h2]; exact Int.le_refl _
    · rw [memW_app (b := [⟨a, b⟩]), memW_one]
      exact Iff.rfl
theorem putW_len (ws : List Wn) (a b : Int) : (putW ws a b).length ≤ ws.length + 1 := by
  unfold putW
  split
  · omega
  · split
    · rcases last_cases ws with rfl | ⟨p, w, rfl⟩
      · simp [setTo]
      · rw [setTo_snoc]; simp
    · simp
/-! ### codes -/
structure Cd where
  at_ : Int
  key : ByteArray
  on : Bool
def onStep (key : ByteArray) (t : Int) (on : Bool) (c : Cd) : Bool := if c.key = key ∧ c.at_ ≤ t then c.on else on
def onAt (l : List Cd) (key : ByteArray) (t : Int) : Bool := l.foldl (onStep key t) false
theorem onAt_snoc (l : List Cd) (c : Cd) (key : ByteArray) (t : Int) : onAt (l ++ [c]) key t = onStep key t (onAt l key t) c := by unfold onAt; rw [List.foldl_append]; rfl
structure LitS where
  out : List Wn
  on : Bool
  fr : Int
def litStep (key : ByteArray) (s : LitS) (c : Cd) : LitS := if c.key ≠ key ∨ c.on = s.on then s else ⟨if s.on = true then putW s.out s.fr c.at_ else s.out, c.on, c.at_⟩
def litF (l : List Cd) (key : ByteArray) : LitS := l.foldl (litStep key) ⟨[], false, 0⟩
theorem litF_snoc (l : List Cd) (c : Cd) (key : ByteArray) : litF (l ++ [c]) key = litStep key (litF l key) c := by unfold litF; rw [List.foldl_append]; rfl
def litW (l : List Cd) (key : ByteArray) : List Wn := if (litF l key).on = true then putW (litF l key).out (litF l key).fr tEnd else (litF l key).out
def CdOk (l : List Cd) : Prop := (l.Pairwise fun a b => a.at_ ≤ b.at_) ∧ ∀ c ∈ l, 0 ≤ c.at_ ∧ c.at_ < tEnd
structure LitOk (l : List Cd) (key : ByteArray) (s : LitS) : Prop where
  can : Can s.out
  le : toLe s.out s.fr
  i1 : ∀ t, s.fr ≤ t → onAt l key t = s.on
  i2 : ∀ t, memW s.out t ↔ (t < s.fr ∧ 0 ≤ t ∧ onAt l key t = true)
  fr0 : 0 ≤ s.fr ∧ s.fr < tEnd
  frl : s.fr = 0 ∨ ∃ c ∈ l, c.at_ = s.fr
  len : s.out.length ≤ l.length
theorem snoc_ind {α : Type} {p : List α → Prop} (h0 : p []) (h1 : ∀ l x, p l → p (l ++ [x])) (l : List α) : p l := by
  have : ∀ r : List α, p r.reverse := fun r => by
    induction r with
    | nil => exact h0
    | cons x r ih => rw [List.reverse_cons]; exact h1 _ _ ih
  have h := this l.reverse
  rwa [List.reverse_reverse] at h
theorem lit_ok {key : ByteArray} : ∀ (l : List Cd), CdOk l → LitOk l key (litF l key) := by
  intro l
  refine snoc_ind (p := fun l => CdOk l → LitOk l key (litF l key)) ?_ ?_ l
  · intro _
    exact ⟨Can.nil, fun w h => (by cases h), fun t _ => rfl, fun t => ⟨fun h => absurd h (memW_nil t), fun h => by simp [onAt] at h⟩, ⟨Int.le_refl _, by show (0 : Int) < 5761440; omega⟩, .inl rfl, Nat.le_refl _⟩
  · intro l c ih hok
    have h1 := List.pairwise_append.1 hok.1
    have hl : CdOk l := ⟨h1.1, fun x hx => hok.2 x (by simp [hx])⟩
    have I := ih hl
    have hc := hok.2 c (by simp)
    have hle : (litF l key).fr ≤ c.at_ := by
      rcases I.frl with h | ⟨x, hx, h⟩
      · omega
      · have := h1.2.2 x hx c (by simp); omega
    rw [litF_snoc]
    generalize litF l key = s at *
    obtain ⟨I1, I2, I3, I4, I5, I6, I7⟩ := I
    unfold litStep
    by_cases h : c.key ≠ key ∨ c.on = s.on
    · rw [if_pos h]
      have e : ∀ t, onAt (l ++ [c]) key t = onAt l key t := fun t => by
        rw [onAt_snoc]
        unfold onStep
        by_cases h2 : c.key = key ∧ c.at_ ≤ t
        · rw [if_pos h2, I3 t (by omega)]
          rcases h with h | h
          · exact absurd h2.1 h
          · exact h
        · rw [if_neg h2]
      refine ⟨I1, I2, fun t ht => by rw [e, I3 t ht], fun t => by rw [e]; exact I4 t, I5, ?_, by rw [List.length_append]; exact Nat.le_trans I7 (Nat.le_add_right _ _)⟩
      rcases I6 with h | ⟨x, hx, h⟩
      · exact .inl h
      · exact .inr ⟨x, by simp [hx], h⟩
    · rw [if_neg h]
      have hk : c.key = key := Classical.byContradiction fun h2 => h (.inl h2)
      have ho : c.on ≠ s.on := fun h2 => h (.inr h2)
      have e1 : ∀ t, c.at_ ≤ t → onAt (l ++ [c]) key t = c.on := fun t ht => by rw [onAt_snoc]; unfold onStep; rw [if_pos ⟨hk, ht⟩]
      have e2 : ∀ t, t < c.at_ → onAt (l ++ [c]) key t = onAt l key t := fun t ht => by rw [onAt_snoc]; unfold onStep; rw [if_neg (by omega)]
      obtain ⟨P1, P2, P3⟩ := putW_ok I1 I2 hle
      have hpl := putW_len s.out s.fr c.at_
      by_cases hs : s.on = true
      · rw [if_pos hs]
        refine ⟨P1, P2, e1, fun t => ?_, hc, .inr ⟨c, by simp, rfl⟩, by rw [List.length_append]; simp only [List.length_singleton]; omega⟩
        show memW (putW s.out s.fr c.at_) t ↔ (t < c.at_ ∧ 0 ≤ t ∧ onAt (l ++ [c]) key t = true)
        rw [P3, I4]
        constructor
        · rintro (⟨g1, g2, g3⟩ | ⟨g1, g2⟩)
          · exact ⟨by omega, g2, by rw [e2 t (by omega)]; exact g3⟩
          · exact ⟨g2, by omega, by rw [e2 t g2, I3 t g1]; exact hs⟩
        · rintro ⟨g1, g2, g3⟩
          by_cases g4 : t < s.fr
          · exact .inl ⟨g4, g2, by rw [← e2 t g1]; exact g3⟩
          · exact .inr ⟨by omega, g1⟩
      · rw [if_neg hs]
        refine ⟨I1, fun w hw => Int.le_trans (I2 w hw) hle, e1, fun t => ?_, hc, .inr ⟨c, by simp, rfl⟩, by rw [List.length_append]; exact Nat.le_trans I7 (Nat.le_add_right _ _)⟩
        show memW s.out t ↔ (t < c.at_ ∧ 0 ≤ t ∧ onAt (l ++ [c]) key t = true)
        rw [I4]
        constructor
        · rintro ⟨g1, g2, g3⟩
          exact ⟨by omega, g2, by rw [e2 t (by omega)]; exact g3⟩
        · rintro ⟨g1, g2, g3⟩
          rw [e2 t g1] at g3
          by_cases g4 : t < s.fr
          · exact ⟨g4, g2, g3⟩
          · rw [I3 t (by omega)] at g3
            exact absurd g3 hs
/-- when a code is on -/
theorem litW_ok {l : List Cd} {key : ByteArray} (h : CdOk l) : Can (litW l key) ∧ (∀ t, memW (litW l key) t ↔ (0 ≤ t ∧ t < tEnd ∧ onAt l key t = true)) ∧ (litW l key).length ≤ l.length + 1 := by
  obtain ⟨I1, I2, I3, I4, I5, I6, I7⟩ := lit_ok (key := key) l h
  unfold litW
  generalize litF l key = s at *
  obtain ⟨P1, P2, P3⟩ := putW_ok I1 I2 (show s.fr ≤ tEnd by omega)
  have hpl := putW_len s.out s.fr tEnd
  by_cases hs : s.on = true
  · rw [if_pos hs]
    refine ⟨P1, fun t => ?_, by omega⟩
    rw [P3, I4]
    constructor
    · rintro (⟨g1, g2, g3⟩ | ⟨g1, g2⟩)
      · exact ⟨g2, by omega, g3⟩
      · exact ⟨by omega, g2, by rw [I3 t g1]; exact hs⟩
    · rintro ⟨g1, g2, g3⟩
      by_cases g4 : t < s.fr
      · exact .inl ⟨g4, g1, g3⟩
      · exact .inr ⟨by omega, g2⟩
  · rw [if_neg hs]
    refine ⟨I1, fun t => ?_, by omega⟩
    rw [I4]
    constructor
    · rintro ⟨g1, g2, g3⟩
      exact ⟨g2, by omega, g3⟩
    · rintro ⟨g1, g2, g3⟩
      by_cases g4 : t < s.fr
      · exact ⟨g4, g1, g3⟩
      · rw [I3 t (by omega)] at g3
        exact absurd g3 hs
end Lg
end
section
set_option linter.all false
set_option maxRecDepth 100000
set_option maxHeartbeats 1000000
namespace Lg
open Go Go.Proofs

/-! ### joined -/
def jnStep (out : List Wn) (w : Wn) : List Wn := match lastTo out with
  | none => out ++ [w]
  | some b => if w.fr ≤ b then setTo (max b w.to) out else out ++ [w]
def jnF (l : List Wn) : List Wn := l.foldl jnStep []
theorem jnF_snoc (l : List Wn) (w : Wn) : jnF (l ++ [w]) = jnStep (jnF l) w := by unfold jnF; rw [List.foldl_append]; rfl
structure JnOk (l out : List Wn) : Prop where
  can : Can out
  mem : ∀ t, memW out t ↔ memW l t
  fr : ∀ x ∈ out, ∃ w ∈ l, x.fr = w.fr
  len : out.length ≤ l.length
theorem jn_ok : ∀ (l : List Wn), (∀ w ∈ l, w.fr < w.to) → (l.Pairwise fun a b => a.fr ≤ b.fr) → JnOk l (jnF l) := by
  intro l
  refine snoc_ind (p := fun l => (∀ w ∈ l, w.fr < w.to) → (l.Pairwise fun a b => a.fr ≤ b.fr) → JnOk l (jnF l)) ?_ ?_ l
  · intro _ _
    exact ⟨Can.nil, fun t => Iff.rfl, fun x h => (by cases h), Nat.le_refl _⟩
  · intro l w ih hn hs
    have h1 := List.pairwise_append.1 hs
    obtain ⟨I1, I2, I3, I4⟩ := ih (fun x hx => hn x (by simp [hx])) h1.1
    have hw := hn w (by simp)
    rw [jnF_snoc]
    generalize jnF l = out at *
    have hfr : ∀ x ∈ out, x.fr ≤ w.fr := fun x hx => by
      obtain ⟨y, hy, e⟩ := I3 x hx
      have := h1.2.2 y hy w (by simp)
      omega
    unfold jnStep
    rcases last_cases out with rfl | ⟨p, v, rfl⟩
    · rw [show lastTo [] = none from rfl]
      simp only
      refine ⟨can_snoc.2 ⟨Can.nil, hw, fun x h => (by cases h)⟩, fun t => ?_, fun x hx => ⟨w, by simp, by rw [List.nil_append, List.mem_singleton] at hx; rw [hx]⟩, by rw [List.length_append]; simp⟩
      rw [memW_app, memW_app, I2]
    · rw [lastTo_snoc]
      simp only
      obtain ⟨g1, g2, g3⟩ := can_snoc.1 I1
      have hv := hfr v (by simp)
      by_cases h2 : w.fr ≤ v.to
      · rw [if_pos h2, setTo_snoc]
        refine ⟨can_snoc.2 ⟨g1, by show v.fr < max v.to w.to; omega, g3⟩, fun t => ?_, fun x hx => ?_, by rw [List.length_append] at I4 ⊢; rw [List.length_append]; simp at I4 ⊢; omega⟩
        · rw [memW_app, memW_app, ← I2, memW_app, memW_one, memW_one, memW_one]
          unfold inW
          simp only
          constructor
          · rintro (h3 | ⟨h3, h4⟩)
            · exact .inl (.inl h3)
            · by_cases h5 : t < v.to
              · exact .inl (.inr ⟨h3, h5⟩)
              · exact .inr ⟨by omega, by omega⟩
          · rintro ((h3 | h3) | h3)
            · exact .inl h3
            · exact .inr ⟨h3.1, by omega⟩
            · exact .inr ⟨by omega, by omega⟩
        · rcases List.mem_append.1 hx with h3 | h3
          · obtain ⟨y, hy, e⟩ := I3 x (by simp [h3])
            exact ⟨y, by simp [hy], e⟩
          · obtain ⟨y, hy, e⟩ := I3 v (by simp)
            rw [List.mem_singleton.1 h3]
            exact ⟨y, by simp [hy], e⟩
      · rw [if_neg h2]
        refine ⟨can_snoc.2 ⟨I1, hw, fun x hx => ?_⟩, fun t => ?_, fun x hx => ?_, by rw [List.length_append, List.length_append]; simp; simp at I4; omega⟩
        · rcases List.mem_append.1 hx with h3 | h3
          · have := g3 x h3; omega
          · rw [List.mem_singleton.1 h3]; omega
        · rw [memW_app (a := p ++ [v]), memW_app (a := l), I2]
        · rcases List.mem_append.1 hx with h3 | h3
          · obtain ⟨y, hy, e⟩ := I3 x h3
            exact ⟨y, by simp [hy], e⟩
          · rw [List.mem_singleton.1 h3]
            exact ⟨w, by simp, rfl⟩
/-- whatever order the sort leaves, the joined windows are the same -/
theorem jn_perm {l m : List Wn} (hp : m.Perm l) (hn : ∀ w ∈ l, w.fr < w.to) (hs : m.Pairwise fun a b => a.fr ≤ b.fr) : Can (jnF m) ∧ (∀ t, memW (jnF m) t ↔ memW l t) ∧ (jnF m).length ≤ l.length := by
  obtain ⟨I1, I2, I3, I4⟩ := jn_ok m (fun w hw => hn w (hp.mem_iff.1 hw)) hs
  refine ⟨I1, fun t => ?_, by rw [← hp.length_eq]; exact I4⟩
  rw [I2]
  constructor
  · rintro ⟨w, hw, h⟩
    exact ⟨w, hp.mem_iff.1 hw, h⟩
  · rintro ⟨w, hw, h⟩
    exact ⟨w, hp.mem_iff.2 hw, h⟩
/-! ### others -/
structure OtS where
  out : List Wn
  at_ : Int
def otStep (s : OtS) (w : Wn) : OtS := ⟨if s.at_ < w.fr then s.out ++ [⟨s.at_, w.fr⟩] else s.out, w.to⟩
def otF (l : List Wn) : OtS := l.foldl otStep ⟨[], 0⟩
theorem otF_snoc (l : List Wn) (w : Wn) : otF (l ++ [w]) = otStep (otF l) w := by unfold otF; rw [List.foldl_append]; rfl
def otW (l : List Wn) : List Wn := if (otF l).at_ < tEnd then (otF l).out ++ [⟨(otF l).at_, tEnd⟩] else (otF l).out
def InE (l : List Wn) : Prop := ∀ w ∈ l, 0 ≤ w.fr ∧ w.to ≤ tEnd
structure OtOk (l : List Wn) (s : OtS) : Prop where
  can : Can s.out
  lt : ∀ x ∈ s.out, x.to < s.at_
  at0 : 0 ≤ s.at_ ∧ s.at_ ≤ tEnd
  atl : ∀ x ∈ l, x.to ≤ s.at_
  ats : s = ⟨[], 0⟩ ∨ memW l (s.at_ - 1)
  mem : ∀ t, memW s.out t ↔ (0 ≤ t ∧ t < s.at_ ∧ ¬ memW l t)
  len : s.out.length ≤ l.length
theorem ot_ok : ∀ (l : List Wn), Can l → InE l → OtOk l (otF l) := by
  intro l
  refine snoc_ind (p := fun l => Can l → InE l → OtOk l (otF l)) ?_ ?_ l
  · intro _ _
    exact ⟨Can.nil, fun x h => (by cases h), ⟨Int.le_refl _, by show (0 : Int) ≤ 5761440; omega⟩, fun x h => (by cases h), .inl rfl, fun t => ⟨fun h => absurd h (memW_nil t), fun h => by have h1 := h.1; have h2 := h.2.1; change t < 0 at h2; omega⟩, Nat.le_refl _⟩
  · intro l w ih hc hE
    obtain ⟨g1, g2, g3⟩ := can_snoc.1 hc
    obtain ⟨I1, I2, I3, I4, I5, I6, I7⟩ := ih g1 (fun x hx => hE x (by simp [hx]))
    have hwE := hE w (by simp)
    rw [otF_snoc]
    generalize otF l = s at *
    unfold otStep
    have hle : s.at_ ≤ w.fr := by
      rcases I5 with h | ⟨x, hx, h⟩
      · rw [h]; exact hwE.1
      · have h1 := g3 x hx
        have h2 := I4 x hx
        have h3 := h.2
        omega
    have hst : s.at_ < w.fr ∨ (s.out = [] ∧ s.at_ = w.fr) := by
      rcases I5 with h | ⟨x, hx, h⟩
      · rw [h] at hle ⊢
        by_cases h0 : (0 : Int) < w.fr
        · exact .inl h0
        · exact .inr ⟨rfl, by change (0 : Int) ≤ w.fr at hle; change (0 : Int) = w.fr; omega⟩
      · have h1 := g3 x hx
        have h3 := h.2
        exact .inl (by omega)
    by_cases h0 : s.at_ < w.fr
    · rw [if_pos h0]
      refine ⟨can_snoc.2 ⟨I1, h0, fun x hx => I2 x hx⟩, fun x hx => ?_, ⟨by show 0 ≤ w.to; omega, hwE.2⟩, fun x hx => ?_, .inr ⟨w, by simp, by show w.fr ≤ w.to - 1; omega, by show w.to - 1 < w.to; omega⟩, fun t => ?_, by rw [List.length_append, List.length_append]; simp; exact I7⟩
      · show x.to < w.to
        rcases List.mem_append.1 hx with h | h
        · have := I2 x h; omega
        · rw [List.mem_singleton.1 h]; exact g2
      · show x.to ≤ w.to
        rcases List.mem_append.1 hx with h | h
        · have := g3 x h; omega
        · rw [List.mem_singleton.1 h]; exact Int.le_refl _
      · show memW (s.out ++ [⟨s.at_, w.fr⟩]) t ↔ (0 ≤ t ∧ t < w.to ∧ ¬ memW (l ++ [w]) t)
        rw [memW_app, memW_app, memW_one, memW_one, I6]
        unfold inW
        simp only
        constructor
        · rintro (⟨a1, a2, a3⟩ | ⟨a1, a2⟩)
          · exact ⟨a1, by omega, fun h => h.elim a3 (fun h => by omega)⟩
          · refine ⟨by omega, by omega, fun h => h.elim (fun ⟨x, hx, h⟩ => ?_) (fun h => by omega)⟩
            have h4 := I4 x hx
            have h5 := h.2
            omega
        · rintro ⟨a1, a2, a3⟩
          rw [not_or] at a3
          by_cases h6 : t < s.at_
          · exact .inl ⟨a1, h6, a3.1⟩
          · exact .inr ⟨by omega, by have := a3.2; omega⟩
    · rw [if_neg h0]
      obtain ⟨e1, e2⟩ := hst.resolve_left h0
      refine ⟨I1, fun x hx => (by rw [e1] at hx; cases hx), ⟨by show 0 ≤ w.to; omega, hwE.2⟩, fun x hx => ?_, .inr ⟨w, by simp, by show w.fr ≤ w.to - 1; omega, by show w.to - 1 < w.to; omega⟩, fun t => ?_, by rw [List.length_append]; exact Nat.le_trans I7 (Nat.le_add_right _ _)⟩
      · show x.to ≤ w.to
        rcases List.mem_append.1 hx with h | h
        · have := g3 x h; omega
        · rw [List.mem_singleton.1 h]; exact Int.le_refl _
      · show memW s.out t ↔ (0 ≤ t ∧ t < w.to ∧ ¬ memW (l ++ [w]) t)
        rw [memW_app, memW_one, I6]
        unfold inW
        constructor
        · rintro ⟨a1, a2, a3⟩
          exact ⟨a1, by omega, fun h => h.elim a3 (fun h => by omega)⟩
        · rintro ⟨a1, a2, a3⟩
          rw [not_or] at a3
          exact ⟨a1, by have := a3.2; omega, a3.1⟩
theorem otW_ok {l : List Wn} (hc : Can l) (hE : InE l) : Can (otW l) ∧ InE (otW l) ∧ (∀ t, memW (otW l) t ↔ (0 ≤ t ∧ t < tEnd ∧ ¬ memW l t)) ∧ (otW l).length ≤ l.length + 1 := by
  obtain ⟨I1, I2, I3, I4, I5, I6, I7⟩ := ot_ok l hc hE
  unfold otW
  generalize otF l = s at *
  have hIn : InE s.out := fun w hw => by
    have hm : memW s.out w.fr := ⟨w, hw, Int.le_refl _, I1.ne w hw⟩
    have h1 := (I6 _).1 hm
    have h2 := I2 w hw
    omega
  have hbig : ∀ t, s.at_ ≤ t → ¬ memW l t := fun t ht ⟨x, hx, h⟩ => by have h4 := I4 x hx; have h5 := h.2; omega
  by_cases h0 : s.at_ < tEnd
  · rw [if_pos h0]
    refine ⟨can_snoc.2 ⟨I1, h0, fun x hx => I2 x hx⟩, fun w hw => ?_, fun t => ?_, by rw [List.length_append]; simp; exact I7⟩
    · rcases List.mem_append.1 hw with h | h
      · exact hIn w h
      · rw [List.mem_singleton.1 h]; exact ⟨I3.1, Int.le_refl _⟩
    · rw [memW_app, memW_one, I6]
      unfold inW
      simp only
      constructor
      · rintro (⟨a1, a2, a3⟩ | ⟨a1, a2⟩)
        · exact ⟨a1, by omega, a3⟩
        · exact ⟨by omega, a2, hbig t a1⟩
      · rintro ⟨a1, a2, a3⟩
        by_cases h6 : t < s.at_
        · exact .inl ⟨a1, h6, a3⟩
        · exact .inr ⟨by omega, a2⟩
  · rw [if_neg h0]
    refine ⟨I1, hIn, fun t => ?_, by omega⟩
    rw [I6, show s.at_ = tEnd by omega]
/-! ### both -/
def bothF : Nat → List Wn → List Wn → List Wn
  | 0, _, _ => []
  | _ + 1, [], _ => []
  | _ + 1, _ :: _, [] => []
  | n + 1, a :: A, b :: B => (if max a.fr b.fr < min a.to b.to then [⟨max a.fr b.fr, min a.to b.to⟩] else []) ++ (if a.to < b.to then bothF n A (b :: B) else bothF n (a :: A) B)
def bothW (a b : List Wn) : List Wn := bothF (a.length + b.length) a b
theorem bothF_more : ∀ (n : Nat) (a b : List Wn), a.length + b.length ≤ n → bothF n a b = bothF (a.length + b.length) a b
  | 0, [], [], _ => rfl
  | 0, _ :: _, _, h => by simp at h
  | 0, [], _ :: _, h => by simp at h
  | n + 1, [], b, _ => by
    cases b with
    | nil => rfl
    | cons x b => rw [show ([] : List Wn).length + (x :: b).length = b.length + 1 by simp]; rfl
  | n + 1, a :: A, [], _ => rfl
  | n + 1, a :: A, b :: B, h => by
    simp only [List.length_cons] at h
    have h1 := bothF_more n A (b :: B) (by simp only [List.length_cons]; omega)
    have h2 := bothF_more n (a :: A) B (by simp only [List.length_cons]; omega)
    have h3 := bothF_more (A.length + B.length + 1) A (b :: B) (by simp only [List.length_cons]; omega)
    have h4 := bothF_more (A.length + B.length + 1) (a :: A) B (by simp only [List.length_cons]; omega)
    rw [show (a :: A).length + (b :: B).length = (A.length + B.length + 1) + 1 by simp only [List.length_cons]; omega]
    unfold bothF
    rw [h1, h2, h3, h4]
theorem bothW_nil_l (b : List Wn) : bothW [] b = [] := by
  unfold bothW
  cases b with
  | nil => rfl
  | cons x b => rw [show ([] : List Wn).length + (x :: b).length = b.length + 1 by simp]; rfl
theorem bothW_nil_r (a : List Wn) : bothW a [] = [] := by
  unfold bothW
  cases a with
  | nil => rfl
  | cons x a => rfl
theorem bothW_cons (a b : Wn) (A B : List Wn) : bothW (a :: A) (b :: B) = (if max a.fr b.fr < min a.to b.to then [⟨max a.fr b.fr, min a.to b.to⟩] else []) ++ (if a.to < b.to then bothW A (b :: B) else bothW (a :: A) B) := by
  unfold bothW
  rw [show (a :: A).length + (b :: B).length = (A.length + B.length + 1) + 1 by simp only [List.length_cons]; omega]
  conv => lhs; unfold bothF
  rw [bothF_more (A.length + B.length + 1) A (b :: B) (by simp only [List.length_cons]; omega), bothF_more (A.length + B.length + 1) (a :: A) B (by simp only [List.length_cons]; omega)]
end Lg
end
section
set_option linter.all false
set_option maxRecDepth 100000
set_option maxHeartbeats 1000000
namespace Lg
open Go Go.Proofs

def sumQ : List Int → Int
  | [] => 0
  | x :: l => x + sumQ l
theorem sumQ_app (a b : List Int) : sumQ (a ++ b) = sumQ a + sumQ b := by
  induction a with
  | nil => simp [sumQ]
  | cons x a ih => rw [List.cons_append, sumQ, sumQ, ih]; omega
theorem sumQ_take {l : List Int} {k : Nat} {x : Int} (h : l[k]? = some x) : sumQ (l.take (k + 1)) = sumQ (l.take k) + x := by
  rw [List.take_succ, h, sumQ_app]
  simp [sumQ]
theorem sumQ_nn {l : List Int} (h : ∀ x ∈ l, 0 ≤ x) : 0 ≤ sumQ l := by
  induction l with
  | nil => simp [sumQ]
  | cons x l ih =>
    have h1 := h x (by simp)
    have h2 := ih (fun y hy => h y (by simp [hy]))
    rw [sumQ]
    omega
theorem sumQ_abs {l : List Int} {B : Int} (h : ∀ x ∈ l, -B ≤ x ∧ x ≤ B) : -((l.length : Int) * B) ≤ sumQ l ∧ sumQ l ≤ (l.length : Int) * B := by
  induction l with
  | nil => simp [sumQ]
  | cons x l ih =>
    have h1 := h x (by simp)
    have h2 := ih (fun y hy => h y (by simp [hy]))
    rw [sumQ, List.length_cons, show ((l.length + 1 : Nat) : Int) * B = (l.length : Int) * B + B by rw [Int.natCast_add, Int.add_mul]; simp]
    omega
/-! ### Pascal's rows -/
def bin : Nat → Nat → Nat
  | _, 0 => 1
  | 0, _ + 1 => 0
  | n + 1, i + 1 => bin n i + bin n (i + 1)
end Lg
end
