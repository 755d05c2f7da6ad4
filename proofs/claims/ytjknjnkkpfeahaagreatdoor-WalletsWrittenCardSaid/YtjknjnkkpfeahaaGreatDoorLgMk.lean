/- A part of the proof of a law of this seat: it adds no condition. By an AI agent. -/
import Derived.Test.YtjknjnkkpfeahaaGreatDoorLgLoop
section
set_option linter.all false
namespace Lg
open Go
section fl
variable {P : Program} {Γ : Ctx} {env env' : Env} {cs cs' cf : List Chunk} {Q : Post} {R : Array Oper} {acc : Env}

/-- .. and no panic -/
def NoP (Q : Post) : Post := fun e env cs => (∀ c, e ≠ .panic c) ∧ Q e env cs
theorem NoP.norm (h : Q .normal env cs) : NoP Q .normal env cs := ⟨(fun _ h => nomatch h), h⟩
/-- they look at no memory -/
def FlRun (P : Program) (l : List Oper) : List Nat → Act → Prop
  | [], _ => True
  | i :: r, a => ∃ o d v, l[i]? = some o ∧ o.dst = some d ∧ o.guard = none ∧ (∀ w, (execOp a.eval o).run P w = .ok (.value v) w) ∧ (∀ c, o.op ≠ .call c) ∧ FlRun P l r (a.put (some d) v)
theorem FlRun.nil {l : List Oper} {a : Act} : FlRun P l [] a := trivial
theorem FlRun.move {l : List Oper} {i d : Nat} {r : List Nat} {a : Act} {x : Operand} {o : Oper} (ho : l[i]? = some o) (hop : o.op = .move x) (hd : o.dst = some d) (hg : o.guard = none) (k : FlRun P l r (a.put (some d) (a.eval x))) : FlRun P l (i :: r) a :=
  ⟨o, d, _, ho, hd, hg, fun w => by simp [execOp, hop], (by rw [hop]; intro c h; cases h), k⟩
end fl
end Lg
end
section
set_option linter.all false
namespace Lg
open Go

section bun
variable {P : Program} {Γ : Ctx} {env env' : Env} {cs cs' cf : List Chunk} {Q : Post} {R : Array Oper}

/-- several chunks as one -/
def Chunk.bun (L : List Chunk) : Chunk :=
  ⟨fps L, fun w A => ∀ c ∈ L, c.holds w A, fun hb hs h c hc => c.mono (fun b hbc hlt => hb b (List.mem_flatMap.2 ⟨c, hc, hbc⟩) hlt) hs (h c hc)⟩
theorem fps_bun (L : List Chunk) : fps (Chunk.bun L :: cf) = fps (L ++ cf) := by
  simp only [fps, List.flatMap_cons, List.flatMap_append]
  rfl
theorem av_fps {M : Nat → Prop} {a b : List Chunk} (h : fps a = fps b) : av M a = av M b := by
  funext x
  simp only [av, h]
theorem Den.swapc {a : Act} {w : World} (d : Den Γ env cs a w) (hf : fps cs' = fps cs) (hc : ∀ c ∈ cs', c.holds w (av Γ.M cs)) : Den Γ env cs' a w := by
  have e : av Γ.M cs' = av Γ.M cs := av_fps hf
  refine ⟨d.nodefer, d.tmps, e ▸ d.env, ?_, hf ▸ d.nodup, fun b hb => d.fresh b (hf ▸ hb), d.below, d.frame⟩
  intro c h
  rw [e]
  exact hc c h
theorem Ent.bun {L : List Chunk} (hp : cs.Perm (L ++ cf)) : Ent Γ env cs env (Chunk.bun L :: cf) := by
  unfold Ent
  intro a w d
  have d := d.perm hp
  refine d.swapc (fps_bun L) ?_
  intro c hc
  rcases List.mem_cons.1 hc with rfl | hc
  · intro x hx
    exact d.chunks x (List.mem_append_left _ hx)
  · exact d.chunks c (List.mem_append_right _ hc)
theorem Ent.unbun {L : List Chunk} (hp : cs.Perm (Chunk.bun L :: cf)) : Ent Γ env cs env (L ++ cf) := by
  unfold Ent
  intro a w d
  have d := d.perm hp
  refine d.swapc (fps_bun L).symm ?_
  intro c hc
  rcases List.mem_append.1 hc with hc | hc
  · exact d.chunks (Chunk.bun L) (List.mem_cons_self ..) c hc
  · exact d.chunks c (List.mem_cons_of_mem _ hc)
/-- a further chunk goes into the bundle -/
theorem Ent.push {L : List Chunk} {c : Chunk} {cf' : List Chunk} (h1 : cs.Perm (c :: cf')) (h2 : cf'.Perm (Chunk.bun L :: cf)) : Ent Γ env cs env (Chunk.bun (L ++ [c]) :: cf) := by
  have hp : cs.Perm (Chunk.bun L :: (c :: cf)) := h1.trans ((List.Perm.cons _ h2).trans (List.Perm.swap _ _ _))
  refine Ent.trans (Ent.unbun hp) (Ent.bun ?_)
  simp
/-- a chunk of the bundle is taken out -/
theorem Ent.pull {A B : List Chunk} {c : Chunk} (hp : cs.Perm (Chunk.bun (A ++ c :: B) :: cf)) : Ent Γ env cs env (c :: Chunk.bun (A ++ B) :: cf) := by
  refine Ent.trans (Ent.unbun hp) (Ent.trans (Ent.bun (L := A ++ B) (cf := c :: cf) ?_) (Ent.perm (List.Perm.swap _ _ _)))
  simp only [List.append_assoc, List.cons_append]
  refine List.Perm.append_left A ?_
  refine (List.perm_middle (a := c) (l₁ := B) (l₂ := cf)).symm
/-- and put back, turned -/
theorem Ent.putb {A B : List Chunk} {c : Chunk} {cf' : List Chunk} (h1 : cs.Perm (c :: cf')) (h2 : cf'.Perm (Chunk.bun (A ++ B) :: cf)) : Ent Γ env cs env (Chunk.bun (A ++ c :: B) :: cf) := by
  have hp : cs.Perm (Chunk.bun (A ++ B) :: (c :: cf)) := h1.trans ((List.Perm.cons _ h2).trans (List.Perm.swap _ _ _))
  refine Ent.trans (Ent.unbun hp) (Ent.bun ?_)
  simp only [List.append_assoc, List.cons_append]
  refine List.Perm.append_left A ?_
  exact List.perm_middle (a := c) (l₁ := B) (l₂ := cf)
theorem Ent.bun0 : Ent Γ env cs env (Chunk.bun [] :: cs) := Ent.bun (L := []) (List.Perm.refl _)

/-- an owned slice within another one -/
structure In1 where
  ad : Option Addr
  cap : Nat
  rows : List (List Tr)
def In1.val (x : In1) : Value := .slice x.ad x.rows.length x.cap
def In1.own (k : Nat) (E : TypeId) (x : In1) : Chunk := Chunk.own x.ad x.cap k E x.rows

theorem rdc_settle {α : Type} (pre post : α → List Tr) (k2 : Nat) (E2 : TypeId) {w : World} {A A' : Nat → Prop} (hA : ∀ b, A b → A' b) : ∀ (L : List (α × In1)) (xs : List Value),
    (∀ p ∈ L, (p.2.own k2 E2).holds w A) → (∀ p ∈ L, ∀ g ∈ (p.2.own k2 E2).fp, A' g) →
    RdC w A ((L.map fun p => pre p.1 ++ Tr.raw p.2.val :: post p.1).flatten) xs → RdC w A' ((L.map fun p => pre p.1 ++ Tr.sl k2 p.2.rows :: post p.1).flatten) xs
  | [], xs, _, _, h => h
  | p :: L, xs, h1, h2, h => by
    have hs : SameOn w w A A' := fun b _ h => ⟨hA b h, rfl⟩
    simp only [List.map_cons, List.flatten_cons] at h ⊢
    have hsp := RdC.split h
    have ih := rdc_settle pre post k2 E2 hA L _ (fun q hq => h1 q (List.mem_cons_of_mem _ hq)) (fun q hq => h2 q (List.mem_cons_of_mem _ hq)) hsp.2
    have hrow := RdC.split hsp.1
    obtain ⟨v, rest, hv, hvr, hone, hpost⟩ : RdC w A (Tr.raw p.2.val :: post p.1) _ := hrow.2
    have hvv := rd_raw hvr
    subst hvv
    have hsl : (Tr.sl k2 p.2.rows).rd w A' p.2.val := own_reads (h1 p (List.mem_cons_self ..)) hA (h2 p (List.mem_cons_self ..))
    have hnew : RdC w A' (Tr.sl k2 p.2.rows :: post p.1) _ := ⟨_, _, hv, hsl, hone, hpost.mono hs⟩
    have := RdC.app (RdC.app (hrow.1.mono hs) hnew) ih
    rwa [List.take_append_drop, List.take_append_drop] at this

/-- slices in an owned slice are written no more -/
theorem Ent.settle_nest {α : Type} (pre post : α → List Tr) {L : List (α × In1)} {ad : Option Addr} {cap kk k2 : Nat} {e E2 : TypeId} {rows : List (List Tr)} {B cf' : List Chunk}
    (h1 : cs.Perm (Chunk.own ad cap kk e rows :: cf')) (h2 : cf'.Perm (Chunk.bun B :: cf)) (hr : rows = L.map fun p => pre p.1 ++ Tr.raw p.2.val :: post p.1) (hB : B = L.map fun p => p.2.own k2 E2) :
    Ent Γ env cs env (Chunk.own ad cap kk e (L.map fun p => pre p.1 ++ Tr.sl k2 p.2.rows :: post p.1) :: cf) := by
  subst hr
  subst hB
  unfold Ent
  intro a w d
  have hp : cs.Perm (Chunk.bun (L.map fun p => p.2.own k2 E2) :: Chunk.own ad cap kk e (L.map fun p => pre p.1 ++ Tr.raw p.2.val :: post p.1) :: cf) := h1.trans ((List.Perm.cons _ h2).trans (List.Perm.swap _ _ _))
  have d1 := d.perm hp
  have d2 := d1.dropc
  generalize hrr : (L.map fun p => pre p.1 ++ Tr.raw p.2.val :: post p.1) = rr at *
  have hlen : (L.map fun p => pre p.1 ++ Tr.sl k2 p.2.rows :: post p.1).length = rr.length := by rw [← hrr]; simp
  have hfp : fps (Chunk.own ad cap kk e (L.map fun p => pre p.1 ++ Tr.sl k2 p.2.rows :: post p.1) :: cf) = fps (Chunk.own ad cap kk e rr :: cf) := by
    simp only [fps, List.flatMap_cons]
    unfold Chunk.own
    simp only [hlen]
  have hav := av_fps (M := Γ.M) hfp
  refine ⟨d2.nodefer, d2.tmps, by rw [hav]; exact d2.env, ?_, by rw [hfp]; exact d2.nodup, by rw [hfp]; exact d2.fresh, d2.below, d2.frame⟩
  intro c hc
  rw [hav]
  rcases List.mem_cons.1 hc with rfl | hc
  · have hb := d1.chunks (Chunk.bun (L.map fun p => p.2.own k2 E2)) (by simp)
    have ho := d1.chunks (Chunk.own ad cap kk e rr) (by simp)
    have hnd := d1.nodup
    have hfr := d1.fresh
    have hsub : ∀ b, av Γ.M (Chunk.bun (L.map fun p => p.2.own k2 E2) :: Chunk.own ad cap kk e rr :: cf) b → av Γ.M (Chunk.own ad cap kk e rr :: cf) b := by
      intro b hb
      refine ⟨hb.1, fun hm => hb.2 ?_⟩
      simp only [fps, List.flatMap_cons] at hm ⊢
      exact List.mem_append_right _ hm
    have hin : ∀ p ∈ L, ∀ g ∈ (p.2.own k2 E2).fp, av Γ.M (Chunk.own ad cap kk e rr :: cf) g := by
      intro p hp g hg
      have hgm : g ∈ (Chunk.bun (L.map fun p => p.2.own k2 E2)).fp := List.mem_flatMap.2 ⟨_, List.mem_map.2 ⟨p, hp, rfl⟩, hg⟩
      refine ⟨(hfr g (by simp only [fps, List.flatMap_cons]; exact List.mem_append_left _ hgm)).2.1, fun hm => ?_⟩
      have h := hnd
      rw [show fps (Chunk.bun (L.map fun p => p.2.own k2 E2) :: Chunk.own ad cap kk e rr :: cf) = (Chunk.bun (L.map fun p => p.2.own k2 E2)).fp ++ fps (Chunk.own ad cap kk e rr :: cf) from rfl] at h
      exact (List.nodup_append.1 h).2.2 g hgm g hm rfl
    have hh : ∀ p ∈ L, (p.2.own k2 E2).holds w (av Γ.M (Chunk.bun (L.map fun p => p.2.own k2 E2) :: Chunk.own ad cap kk e rr :: cf)) := fun p hp => hb _ (List.mem_map.2 ⟨p, hp, rfl⟩)
    generalize av Γ.M (Chunk.bun (L.map fun p => p.2.own k2 E2) :: Chunk.own ad cap kk e rr :: cf) = A at *
    generalize av Γ.M (Chunk.own ad cap kk e rr :: cf) = A' at *
    unfold Chunk.own at ho ⊢
    obtain ⟨hk, xs, hown, hrd⟩ := ho
    refine ⟨?_, xs, by rw [hlen]; exact hown, ?_⟩
    · intro r hr
      obtain ⟨p, hp, rfl⟩ := List.mem_map.1 hr
      have := hk (pre p.1 ++ Tr.raw p.2.val :: post p.1) (by rw [← hrr]; exact List.mem_map.2 ⟨p, hp, rfl⟩)
      simpa using this
    · rw [← hrr] at hrd
      exact rdc_settle pre post k2 E2 hsub L xs hh hin hrd
  · exact d2.chunks c (List.mem_cons_of_mem _ hc)
end bun
attribute [irreducible] Chunk.bun
end Lg
end
section
set_option linter.all false
namespace Lg
open Go

section mk
variable {P : Program} {Γ : Ctx} {env env' : Env} {cs cs' cf : List Chunk} {Q : Post} {R : Array Oper}
variable {x y : Operand} {T T2 : TypeId} {ty : TypeId} {k k2 : IntKind} {p : Int}
/-- a settled slice of zeros, in a region whose order is open -/
theorem OpW.makeSlice {E kk bb : Nat} {zs : List Value} [hS : TySl P T E kk bb zs] (hx : ev env x = some (.int p)) (hy : ev env y = some (.int p)) (h0 : 0 ≤ p) (hb : bb * p.toNat ≤ 281474976710656) (hmx : p ≤ 9223372036854775807) :
    OpW P Γ (.makeSlice T x y) ty env cs (.sl kk (List.replicate p.toNat (zs.map Tr.raw))) := by
  unfold OpW
  intro a w d dd pos af g next F hk
  have hv := rd_raw (d.ev hx)
  have hv2 := rd_raw (d.ev hy)
  obtain ⟨ti, zv, h1, h2, h3, h4, h5, h6⟩ := hS.hE
  obtain ⟨n, rfl⟩ := Int.eq_ofNat_of_zero_le h0
  simp only [Int.toNat_natCast] at hb hk ⊢
  have hr := run_make (P := P) w T E ti zv hS.hT h1 h2 .i64 .i64 n n (by omega) (Int.le_refl _) (by rw [h5]; have : ((bb * n : Nat) : Int) ≤ 281474976710656 := by omega
                                                                                                    rwa [Int.natCast_mul] at this) hmx
  have hzs : zv.cells.size = kk := hS.hz _ _ h1 h2
  simp only [Int.toNat_natCast, h4] at hr
  have hmd := madeCells_rd (w := w) (A := av Γ.M cs) (zs := zv.cells) (by rw [h3]; exact hS.one) n
  rw [hzs, h3] at hmd
  have hx2 : (execOp a.eval ⟨some dd, .makeSlice T x y, ty, pos, af, g⟩).run P w = .ok (.value (.slice (some ⟨w.heap.size, 0, none⟩) n n)) (w.alloc (.cells (madeCells zv.cells (n * kk)) E)) := by simp [execOp, hv, hv2, hr] <;> rfl
  refine opIn_of_run hx2 ⟨(by intro d h; cases h), (by intro x y h; cases h)⟩ ?_
  refine hk _ _ ?_ (fun env2 d2 => (d2.newblock _ E hmd).dropc)
  have d2 := d.newblock _ E hmd
  have hnb := d2.chunks (Chunk.box w.heap.size E (zeroRow zs n)) (by simp)
  have hfr := d2.fresh w.heap.size (by simp only [fps, List.flatMap_cons]; unfold Chunk.box; simp)
  have hnd := d2.nodup
  have hav : SameOn (w.alloc (.cells (madeCells zv.cells (n * kk)) E)) (w.alloc (.cells (madeCells zv.cells (n * kk)) E)) (av Γ.M (Chunk.box w.heap.size E (zeroRow zs n) :: cs)) (av Γ.M cs) := fun b _ ⟨h1, h2⟩ => ⟨⟨h1, fun hm => h2 (by simp only [fps, List.flatMap_cons] at hm ⊢; exact List.mem_append_right _ hm)⟩, rfl⟩
  have hnotin : w.heap.size ∉ fps cs := by
    simp only [fps, List.flatMap_cons] at hnd
    exact fun hm => (List.nodup_append.1 hnd).2.2 _ (by unfold Chunk.box; simp) _ hm rfl
  generalize av Γ.M (Chunk.box w.heap.size E (zeroRow zs n) :: cs) = A at *
  unfold Chunk.box at hnb
  obtain ⟨c', hc', hr'⟩ := hnb
  have e := zeroRow_flat zs n
  unfold Tr.sl
  refine ⟨fun r hr => by rw [List.eq_of_mem_replicate hr]; simp [hS.hk], by rw [List.length_replicate]; simp only [maxLen]; omega, some ⟨w.heap.size, 0, none⟩, n, by rw [List.length_replicate], by rw [List.length_replicate]; omega, by simp only [maxLen]; omega, fun h => absurd h (by simp), .inr ⟨_, 0, rfl, ⟨hfr.2.1, hnotin⟩, c', E, _, hc', ?_⟩⟩
  rw [e]
  have := hr'.mono hav
  rw [List.drop_zero, List.take_of_length_le (by rw [this.length]; exact Nat.le_refl _)]
  exact this
theorem OpV.convI {d1 : TypeDesc} (h1 : P.underlying T = some d1) (h2 : P.underlying T2 = some (.int k2)) (hx : ev env x = some (.raw (.int k p))) : OpV P Γ (.convert T T2 x) ty env cs (.raw (.int k2 (k2.wrap p))) := by
  unfold OpV
  intro a w d
  have hv := rd_raw (d.ev hx)
  refine ⟨.int k2 (k2.wrap p), ?_, raw_self _⟩
  simp [execOp, hv, convert, run_underlying h1, run_underlying h2, Conv.intToInt]
theorem OpV.convS {d1 : TypeDesc} (h1 : P.underlying T = some d1) (h2 : P.underlying T2 = some .string) (hx : ev env x = some (.raw (.int k p))) : OpV P Γ (.convert T T2 x) ty env cs (.str (Utf8.encode p)) := by
  unfold OpV
  intro a w d
  have hv := rd_raw (d.ev hx)
  refine ⟨.string (Utf8.encode p), ?_, raw_self _⟩
  simp [execOp, hv, convert, run_underlying h1, run_underlying h2, Conv.intToString]
theorem OpV.neqS_t {s u : ByteArray} (hx : ev env x = some (.str s)) (hy : ev env y = some (.str u)) (h : ¬ s = u) : OpV P Γ (.binOp .neq T x y T2) ty env cs (.bool true) := by
  have := OpV.neqS (P := P) (Γ := Γ) (T := T) (T2 := T2) (ty := ty) (cs := cs) hx hy
  rwa [show decide (s ≠ u) = true from decide_eq_true h] at this
theorem OpV.neqS_f {s u : ByteArray} (hx : ev env x = some (.str s)) (hy : ev env y = some (.str u)) (h : s = u) : OpV P Γ (.binOp .neq T x y T2) ty env cs (.bool false) := by
  have := OpV.neqS (P := P) (Γ := Γ) (T := T) (T2 := T2) (ty := ty) (cs := cs) hx hy
  rwa [show decide (s ≠ u) = false from decide_eq_false (fun h2 => h2 h)] at this
end mk
end Lg
end
