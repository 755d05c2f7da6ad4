/- A part of the proof of a law of this seat: it adds no condition. By an AI agent. -/
import Derived.Test.YtjknjnkkpfeahaaGreatDoorLgMap
section
set_option linter.all false
namespace Lg
open Go

/-! ### an owned slice lent to a function that writes nothing of it -/
section lend
variable {P : Program}
/-- a chunk that speaks of its own blocks alone -/
def FreeC (c : Chunk) : Prop := ∀ (w : World) (A A' : Nat → Prop), c.holds w A → c.holds w A'
theorem FreeC.own {ad : Option Addr} {cap k : Nat} {E : TypeId} {rows : List (List Tr)} (h : FreeL rows.flatten) : FreeC (Chunk.own ad cap k E rows) := by
  intro w A A' hh
  unfold Chunk.own at hh ⊢
  obtain ⟨hk, xs, ho, hrx⟩ := hh
  exact ⟨hk, xs, ho, h.rdc hrx⟩
theorem FreeL.intRows (l : List Int) : FreeL (intRows l).flatten := by
  unfold Lg.intRows
  induction l with
  | nil => exact .nil
  | cons x l ih =>
    rw [List.map_cons, List.flatten_cons]
    exact .cons FreeT.raw ih
theorem Spec.lend {f : FuncId} {pre suf : List Tr} {C : List Chunk} {kk E n cap : Nat} {ad : Option Addr} {rows : List (List Tr)} {post : Tr → List Chunk → Prop} (h : Spec P f (pre ++ .sl kk rows :: suf) C post) (hn : n = rows.length)
    (hfr : ∀ r cs, post r cs → FreeT r ∧ ∀ c ∈ cs, FreeC c) :
    Spec P f (pre ++ Tr.raw (.slice ad n cap) :: suf) (Chunk.own ad cap kk E rows :: C) (fun r cs => ∃ cs0, cs = Chunk.own ad cap kk E rows :: cs0 ∧ post r cs0) := by
  subst hn
  unfold Spec at h ⊢
  obtain ⟨h1, h2⟩ := h
  refine ⟨h1, fun M w vs hr hch hnd hlt hM => ?_⟩
  have hfp : (Chunk.own ad cap kk E rows).fp = (Value.ownBlock (.slice ad rows.length cap)).toList := by unfold Chunk.own; simp
  have hfps : ∀ L, fps (Chunk.own ad cap kk E rows :: L) = (Chunk.own ad cap kk E rows).fp ++ fps L := fun L => by simp [fps]
  have hs : SameOn w w (av M (Chunk.own ad cap kk E rows :: C)) (av M C) := fun b _ ⟨h1, h2⟩ => ⟨⟨h1, fun hm => h2 (by rw [hfps]; exact List.mem_append.2 (.inr hm))⟩, rfl⟩
  have hown0 := hch (Chunk.own ad cap kk E rows) (by simp)
  have hown := hown0
  unfold Chunk.own at hown
  obtain ⟨hk, xs, ho, hrx⟩ := hown
  rw [hfps] at hnd
  obtain ⟨hnd1, hnd2, hnd3⟩ := List.nodup_append.1 hnd
  have hsl : (Tr.sl kk rows).rd w (av M C) (.slice ad rows.length cap) := by
    unfold Tr.sl
    rcases ho.2 with ⟨e1, e2⟩ | ⟨g, cp, cur, hv, hg, hb, q1, q2, q3, q4⟩
    · simp only [Value.slice.injEq] at e1
      obtain ⟨rfl, _, rfl⟩ := e1
      exact ⟨hk, by simp [e2], none, 0, rfl, by omega, by simp, fun _ => ⟨List.eq_nil_of_length_eq_zero e2, rfl⟩, .inl (List.eq_nil_of_length_eq_zero e2)⟩
    · simp only [Value.slice.injEq] at hv
      obtain ⟨rfl, _, rfl⟩ := hv
      have hg1 : g ∈ (Chunk.own (some ⟨g, 0, none⟩) cap kk E rows).fp := by rw [hfp]; simp [Value.ownBlock]
      have hfr := hlt g (by rw [hfps]; exact List.mem_append.2 (.inl hg1))
      refine ⟨hk, by omega, _, cap, rfl, q1, q2, fun h => absurd h (by simp), .inr ⟨g, 0, rfl, ⟨hfr.2, fun hm => hnd3 g hg1 g hm rfl⟩, cur, E, _, hb, ?_⟩⟩
      rw [List.drop_zero, flat_len hk, q4]
      have hs2 : SameOn w w (av M (Chunk.own (some ⟨g, 0, none⟩) cap kk E rows :: C)) (av M C) := hs
      unfold Chunk.own at hs2
      exact hrx.mono hs2
  have hargs : ∀ (pre : List Tr) (vs : List Value), RdL w (av M (Chunk.own ad cap kk E rows :: C)) (pre ++ Tr.raw (.slice ad rows.length cap) :: suf) vs → RdL w (av M C) (pre ++ .sl kk rows :: suf) vs := by
    intro pre
    induction pre with
    | nil =>
      intro vs hr
      obtain ⟨v, rest, rfl, hv, hr⟩ := hr
      have := rd_raw hv
      subst this
      exact ⟨_, _, rfl, hsl, hr.mono hs⟩
    | cons p pre ih =>
      intro vs hr
      obtain ⟨v, rest, rfl, hv, hr⟩ := hr
      exact ⟨v, rest, rfl, p.mono hs hv, ih rest hr⟩
  refine (h2 M w vs (hargs pre vs hr) (fun c hc => Chunk.mono _ (fun b _ hb => rfl) hs (hch c (List.mem_cons_of_mem _ hc))) hnd2 (fun b hb => hlt b (by rw [hfps]; exact List.mem_append.2 (.inr hb))) hM).mono ?_
  rintro e w' ⟨v, r, cs', rfl, hpost, hrd, hch', hnd', hlt', hfm⟩
  obtain ⟨hfr1, hfr2⟩ := hfr r cs' hpost
  have hold : ∀ b, b ∈ (Chunk.own ad cap kk E rows).fp → b < w.heap.size → w'.heap[b]? = w.heap[b]? := fun b hb hl => hfm.block b hl (fun hm => hnd3 b hb b hm rfl)
  refine ⟨v, r, _, rfl, ⟨cs', rfl, hpost⟩, hfr1 _ _ _ _ _ hrd, ?_, ?_, ?_, ⟨hfm.os, hfm.tape, hfm.output, hfm.size, fun b hb hn => hfm.block b hb (fun hm => hn (by rw [hfps]; exact List.mem_append.2 (.inr hm))), hfm.drawn⟩⟩
  · have hs2 : SameOn w w' (av M (Chunk.own ad cap kk E rows :: C)) (av M (Chunk.own ad cap kk E rows :: cs')) := by
      intro b hb ⟨m1, m2⟩
      rw [hfps] at m2
      refine ⟨⟨m1, fun hm => ?_⟩, hfm.block b hb fun hm => m2 (List.mem_append.2 (.inr hm))⟩
      rw [hfps] at hm
      rcases List.mem_append.1 hm with hm | hm
      · exact m2 (List.mem_append.2 (.inl hm))
      · obtain ⟨_, _, q3⟩ := hlt' b hm
        rcases q3 with q3 | q3
        · exact m2 (List.mem_append.2 (.inr q3))
        · omega
    intro c hc
    rcases List.mem_cons.1 hc with rfl | hc
    · exact Chunk.mono _ (fun b hb hl => hold b hb hl) hs2 hown0
    · exact hfr2 c hc _ _ _ (hch' c hc)
  · rw [hfps]
    refine List.nodup_append.2 ⟨hnd1, hnd', fun b hb d hd hbd => ?_⟩
    subst hbd
    obtain ⟨_, _, q3⟩ := hlt' b hd
    rcases q3 with q3 | q3
    · exact hnd3 b hb b q3 rfl
    · have := (hlt b (by rw [hfps]; exact List.mem_append.2 (.inl hb))).1
      omega
  · intro b hb
    rw [hfps] at hb ⊢
    rcases List.mem_append.1 hb with hb | hb
    · obtain ⟨q1, q2⟩ := hlt b (by rw [hfps]; exact List.mem_append.2 (.inl hb))
      exact ⟨Nat.lt_of_lt_of_le q1 hfm.size, q2, .inl (List.mem_append.2 (.inl hb))⟩
    · obtain ⟨q1, q2, q3⟩ := hlt' b hb
      exact ⟨q1, q2, q3.imp (fun h => List.mem_append.2 (.inr h)) id⟩
end lend
end Lg
end
section
set_option linter.all false
namespace Lg
open Go

/-! ### the tail of an owned slice: read and written through the whole one, settled at the end -/
section sub2
variable {P : Program} {Γ : Ctx} {env env' : Env} {cs cs' cf : List Chunk} {Q : Post} {R : Array Oper}
variable {i : Tmp} {ty : TypeId} {pos : String} {af : Array Edge} {rest : List Oper}
variable {x y z : Operand} {T : TypeId} {k : IntKind} {p q : Int}

end sub2
end Lg
end
section
set_option linter.all false
namespace Lg
open Go

/-! ### a part of an owned slice, empty ones too; slices.Clip -/
section sub3
variable {P : Program} {Γ : Ctx} {env env' : Env} {cs cs' cf : List Chunk} {Q : Post} {R : Array Oper}
variable {i : Tmp} {ty : TypeId} {pos : String} {af : Array Edge} {rest : List Oper}
variable {x y z : Operand} {T : TypeId} {k : IntKind} {p q : Int}

theorem bounds_hm {len cap : Nat} {k : IntKind} {h : Int} {w : World} (h0 : 0 ≤ h) (h2 : h ≤ cap) :
    (Instr.sliceBounds true len cap none (some (.int k h)) (some (.int k h))).run P w = .ok (0, h.toNat, h.toNat) w := by
  have e : h ≤ (h.toNat : Int) := by omega
  simp [Instr.sliceBounds, run_sliceBound (P := P) w k h cap .slice3Acap h0 h2, run_sliceBound (P := P) w k h h.toNat .slice3B h0 e]
end sub3
end Lg
end
