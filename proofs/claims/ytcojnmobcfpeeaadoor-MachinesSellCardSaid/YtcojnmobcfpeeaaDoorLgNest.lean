/- A part of the proof of a law of this seat: it adds no condition. By an AI agent. -/
import Derived.Test.YtcojnmobcfpeeaaDoorLgLoop
section
set_option linter.all false
namespace Lg

/-! ### insertion sort, as slices.SortStableFunc does it on short slices: from the left, each new one is moved down past those that are greater -/
section isort
variable {α : Type} (lt : α → α → Bool)

def insRev (x : α) : List α → List α
 |[] => [x]
 |y :: r => if lt x y then y :: insRev x r else x :: y :: r
/-- x is put into l, from the right -/
def insB (x : α) (l : List α) : List α := (insRev lt x l.reverse).reverse
/-- all of a list, one after the other -/
def isortB : List α → List α → List α
 |acc, [] => acc
 |acc, x :: l => isortB (insB lt x acc) l
def isort (l : List α) : List α := isortB lt [] l

end isort

section keyed
variable {α : Type} (key : α → Int)

end keyed
end Lg
namespace Lg
/-! ### the first error of a row of tests -/
def firstE (e : Nat → Int) : Nat → Nat → Int
 |_, 0 => 0
 |k, n + 1 => if e k ≠ 0 then e k else firstE e (k + 1) n
theorem firstE_end {e : Nat → Int} {k n : Nat} (h : ¬ k < n) : firstE e k (n - k) = 0 := by
 rw [show n - k = 0 by omega]
 rfl
theorem firstE_step {e : Nat → Int} {k n : Nat} (h : k < n) : firstE e k (n - k) = if e k ≠ 0 then e k else firstE e (k + 1) (n - (k + 1)) := by
 obtain ⟨m, hm⟩ : ∃ m, n - k = m + 1 := ⟨n - k - 1, by omega⟩
 rw [hm, show n - (k + 1) = m by omega]
 rfl
theorem firstE_bad {e : Nat → Int} {k n : Nat} {c : Int} (h : k < n) (he : e k = c) (hc : c ≠ 0) : firstE e k (n - k) = c := by
 rw [firstE_step h, he, if_pos hc]
theorem firstE_ok {e : Nat → Int} {k n : Nat} (h : k < n) (he : e k = 0) : firstE e k (n - k) = firstE e (k + 1) (n - (k + 1)) := by
 rw [firstE_step h, if_neg (by simp [he])]
theorem firstE_zero {e : Nat → Int} : ∀ {n k : Nat}, firstE e k n = 0 → ∀ j, k ≤ j → j < k + n → e j = 0
 |0, k, _, j, h1, h2 => by omega
 |n + 1, k, h, j, h1, h2 => by
  unfold firstE at h
  split at h
  ·rename_i hc; exact absurd h hc
  ·rename_i hc
   by_cases hj : j = k
   ·subst hj; simpa using hc
   ·exact firstE_zero h j (by omega) (by omega)
end Lg
namespace Lg
/-! ### sums -/
def sumF {α : Type} (f : α → Int) : List α → Int
 |[] => 0
 |x :: l => f x + sumF f l
theorem sumF_cons {α : Type} (f : α → Int) (x : α) (l : List α) : sumF f (x :: l) = f x + sumF f l := rfl
theorem sumF_app {α : Type} (f : α → Int) : ∀ (a b : List α), sumF f (a ++ b) = sumF f a + sumF f b
 |[], b => by simp [sumF]
 |x :: a, b => by rw [List.cons_append, sumF_cons, sumF_cons, sumF_app f a b]; omega
end Lg
namespace Lg
section isort2
variable {α : Type} (lt : α → α → Bool)
end isort2
end Lg
namespace Lg
section lexi
variable (key : Int → Int)
/-- by key, and among equals by what came first -/
def lexi (a b : Int) : Prop := key a < key b ∨ (key a = key b ∧ a < b)
end lexi
end Lg
end
section
set_option linter.all false
namespace Lg
open Go
section fl
variable {P : Program} {Γ : Ctx} {env env' : Env} {cs cs' cf : List Chunk} {Q : Post} {R : Array Oper} {acc : Env}

/-- .. and no panic -/
def NoP (Q : Post) : Post := fun e env cs => (∀ c, e ≠ .panic c) ∧ Q e env cs
theorem NoP.norm (h : Q .normal env cs) : NoP Q .normal env cs := ⟨(fun _ h => nomatch h), h⟩
/-- they look at no memory -/
def FlRun (P : Program) (l : List Oper) : List Nat → Act → Prop
 |[], _ => True
 |i :: r, a => ∃ o d v, l[i]? = some o ∧ o.dst = some d ∧ o.guard = none ∧ (∀ w, (execOp a.eval o).run P w = .ok (.value v) w) ∧ (∀ c, o.op ≠ .call c) ∧ FlRun P l r (a.put (some d) v)
theorem FlRun.nil {l : List Oper} {a : Act} : FlRun P l [] a := trivial
theorem FlRun.move {l : List Oper} {i d : Nat} {r : List Nat} {a : Act} {x : Operand} {o : Oper} (ho : l[i]? = some o) (hop : o.op = .move x) (hd : o.dst = some d) (hg : o.guard = none) (k : FlRun P l r (a.put (some d) (a.eval x))) : FlRun P l (i :: r) a :=
 ⟨o, d, _, ho, hd, hg, fun w => by simp [execOp, hop], (by rw [hop]; intro c h; cases h), k⟩
theorem FlRun.sub1 {l : List Oper} {i d : Nat} {r : List Nat} {a : Act} {x : Operand} {T T2 : TypeId} {p q : Int} {o : Oper} (ho : l[i]? = some o) (hop : o.op = .binOp .sub T x (.const (.int .i64 q)) T2) (hd : o.dst = some d) (hg : o.guard = none) (hx : a.eval x = .int .i64 p) (k : FlRun P l r (a.put (some d) (.int .i64 (IntKind.i64.wrap (p - q))))) : FlRun P l (i :: r) a := by
 refine ⟨o, d, _, ho, hd, hg, fun w => ?_, (by rw [hop]; intro c h; cases h), k⟩
 have hc : a.eval (.const (.int .i64 q)) = .int .i64 q := rfl
 simp [execOp, hop, hx, hc, eqGuard, binOp_sub, Op.intArith]
end fl
end Lg
end
section
set_option linter.all false
namespace Lg
open Go

section bun
variable {P : Program} {Γ : Ctx} {env env' : Env} {cs cs' cf : List Chunk} {Q : Post} {R : Array Oper}

/-- several chunks as one -/
def Chunk.bun (L : List Chunk) : Chunk :=
 ⟨fps L, fun w A => ∀ c ∈ L, c.holds w A, fun hb hs h c hc => c.mono (fun b hbc hlt => hb b (List.mem_flatMap.2 ⟨c, hc, hbc⟩) hlt) hs (h c hc)⟩
theorem fps_bun (L : List Chunk) : fps (Chunk.bun L :: cf) = fps (L ++ cf) := by
 simp only [fps, List.flatMap_cons, List.flatMap_append]
 rfl
theorem av_fps {M : Nat → Prop} {a b : List Chunk} (h : fps a = fps b) : av M a = av M b := by
 funext x
 simp only [av, h]
theorem Den.swapc {a : Act} {w : World} (d : Den Γ env cs a w) (hf : fps cs' = fps cs) (hc : ∀ c ∈ cs', c.holds w (av Γ.M cs)) : Den Γ env cs' a w := by
 have e : av Γ.M cs' = av Γ.M cs := av_fps hf
 refine ⟨d.nodefer, d.tmps, e ▸ d.env, ?_, hf ▸ d.nodup, fun b hb => d.fresh b (hf ▸ hb), d.below, d.frame⟩
 intro c h
 rw [e]
 exact hc c h
theorem Ent.bun {L : List Chunk} (hp : cs.Perm (L ++ cf)) : Ent Γ env cs env (Chunk.bun L :: cf) := by
 unfold Ent
 intro a w d
 have d := d.perm hp
 refine d.swapc (fps_bun L) ?_
 intro c hc
 rcases List.mem_cons.1 hc with rfl | hc
 ·intro x hx
  exact d.chunks x (List.mem_append_left _ hx)
 ·exact d.chunks c (List.mem_append_right _ hc)
theorem Ent.unbun {L : List Chunk} (hp : cs.Perm (Chunk.bun L :: cf)) : Ent Γ env cs env (L ++ cf) := by
 unfold Ent
 intro a w d
 have d := d.perm hp
 refine d.swapc (fps_bun L).symm ?_
 intro c hc
 rcases List.mem_append.1 hc with hc | hc
 ·exact d.chunks (Chunk.bun L) (List.mem_cons_self ..) c hc
 ·exact d.chunks c (List.mem_cons_of_mem _ hc)
/-- a further chunk goes into the bundle -/
theorem Ent.push {L : List Chunk} {c : Chunk} {cf' : List Chunk} (h1 : cs.Perm (c :: cf')) (h2 : cf'.Perm (Chunk.bun L :: cf)) : Ent Γ env cs env (Chunk.bun (L ++ [c]) :: cf) := by
 have hp : cs.Perm (Chunk.bun L :: (c :: cf)) := h1.trans ((List.Perm.cons _ h2).trans (List.Perm.swap _ _ _))
 refine Ent.trans (Ent.unbun hp) (Ent.bun ?_)
 simp
/-- a chunk of the bundle is taken out -/
theorem Ent.pull {A B : List Chunk} {c : Chunk} (hp : cs.Perm (Chunk.bun (A ++ c :: B) :: cf)) : Ent Γ env cs env (c :: Chunk.bun (A ++ B) :: cf) := by
 refine Ent.trans (Ent.unbun hp) (Ent.trans (Ent.bun (L := A ++ B) (cf := c :: cf) ?_) (Ent.perm (List.Perm.swap _ _ _)))
 simp only [List.append_assoc, List.cons_append]
 refine List.Perm.append_left A ?_
 refine (List.perm_middle (a := c) (l₁ := B) (l₂ := cf)).symm
/-- and put back, turned -/
theorem Ent.putb {A B : List Chunk} {c : Chunk} {cf' : List Chunk} (h1 : cs.Perm (c :: cf')) (h2 : cf'.Perm (Chunk.bun (A ++ B) :: cf)) : Ent Γ env cs env (Chunk.bun (A ++ c :: B) :: cf) := by
 have hp : cs.Perm (Chunk.bun (A ++ B) :: (c :: cf)) := h1.trans ((List.Perm.cons _ h2).trans (List.Perm.swap _ _ _))
 refine Ent.trans (Ent.unbun hp) (Ent.bun ?_)
 simp only [List.append_assoc, List.cons_append]
 refine List.Perm.append_left A ?_
 exact List.perm_middle (a := c) (l₁ := B) (l₂ := cf)
theorem Ent.bun0 : Ent Γ env cs env (Chunk.bun [] :: cs) := Ent.bun (L := []) (List.Perm.refl _)

/-- an owned slice within another one -/
structure In1 where
 ad : Option Addr
 cap : Nat
 rows : List (List Tr)
def In1.val (x : In1) : Value := .slice x.ad x.rows.length x.cap
def In1.own (k : Nat) (E : TypeId) (x : In1) : Chunk := Chunk.own x.ad x.cap k E x.rows

end bun
attribute [irreducible] Chunk.bun
end Lg
end
