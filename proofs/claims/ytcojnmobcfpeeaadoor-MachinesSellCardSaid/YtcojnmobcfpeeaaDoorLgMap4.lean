/- A part of the proof of a law of this seat: it adds no condition. By an AI agent. -/
import Derived.Test.YtcojnmobcfpeeaaDoorLgMap
section
set_option linter.all false
namespace Lg
open Go

/-! ### an owned slice lent to a function that writes nothing of it -/
section lend
variable {P : Program}
/-- a chunk that speaks of its own blocks alone -/
def FreeC (c : Chunk) : Prop := ∀ (w : World) (A A' : Nat → Prop), c.holds w A → c.holds w A'
theorem FreeC.own {ad : Option Addr} {cap k : Nat} {E : TypeId} {rows : List (List Tr)} (h : FreeL rows.flatten) : FreeC (Chunk.own ad cap k E rows) := by
 intro w A A' hh
 unfold Chunk.own at hh ⊢
 obtain ⟨hk, xs, ho, hrx⟩ := hh
 exact ⟨hk, xs, ho, h.rdc hrx⟩
theorem FreeL.intRows (l : List Int) : FreeL (intRows l).flatten := by
 unfold Lg.intRows
 induction l with
 |nil => exact .nil
 |cons x l ih =>
  rw [List.map_cons, List.flatten_cons]
  exact .cons FreeT.raw ih
theorem Spec.lend {f : FuncId} {pre suf : List Tr} {C : List Chunk} {kk E n cap : Nat} {ad : Option Addr} {rows : List (List Tr)} {post : Tr → List Chunk → Prop} (h : Spec P f (pre ++ .sl kk rows :: suf) C post) (hn : n = rows.length)
  (hfr : ∀ r cs, post r cs → FreeT r ∧ ∀ c ∈ cs, FreeC c) :
  Spec P f (pre ++ Tr.raw (.slice ad n cap) :: suf) (Chunk.own ad cap kk E rows :: C) (fun r cs => ∃ cs0, cs = Chunk.own ad cap kk E rows :: cs0 ∧ post r cs0) := by
 subst hn
 unfold Spec at h ⊢
 obtain ⟨h1, h2⟩ := h
 refine ⟨h1, fun M w vs hr hch hnd hlt hM => ?_⟩
 have hfp : (Chunk.own ad cap kk E rows).fp = (Value.ownBlock (.slice ad rows.length cap)).toList := by unfold Chunk.own; simp
 have hfps : ∀ L, fps (Chunk.own ad cap kk E rows :: L) = (Chunk.own ad cap kk E rows).fp ++ fps L := fun L => by simp [fps]
 have hs : SameOn w w (av M (Chunk.own ad cap kk E rows :: C)) (av M C) := fun b _ ⟨h1, h2⟩ => ⟨⟨h1, fun hm => h2 (by rw [hfps]; exact List.mem_append.2 (.inr hm))⟩, rfl⟩
 have hown0 := hch (Chunk.own ad cap kk E rows) (by simp)
 have hown := hown0
 unfold Chunk.own at hown
 obtain ⟨hk, xs, ho, hrx⟩ := hown
 rw [hfps] at hnd
 obtain ⟨hnd1, hnd2, hnd3⟩ := List.nodup_append.1 hnd
 have hsl : (Tr.sl kk rows).rd w (av M C) (.slice ad rows.length cap) := by
  unfold Tr.sl
  rcases ho.2 with ⟨e1, e2⟩ | ⟨g, cp, cur, hv, hg, hb, q1, q2, q3, q4⟩
  ·simp only [Value.slice.injEq] at e1
   obtain ⟨rfl, _, rfl⟩ := e1
   exact ⟨hk, by simp [e2], none, 0, rfl, by omega, by simp, fun _ => ⟨List.eq_nil_of_length_eq_zero e2, rfl⟩, .inl (List.eq_nil_of_length_eq_zero e2)⟩
  ·simp only [Value.slice.injEq] at hv
   obtain ⟨rfl, _, rfl⟩ := hv
   have hg1 : g ∈ (Chunk.own (some ⟨g, 0, none⟩) cap kk E rows).fp := by rw [hfp]; simp [Value.ownBlock]
   have hfr := hlt g (by rw [hfps]; exact List.mem_append.2 (.inl hg1))
   refine ⟨hk, by omega, _, cap, rfl, q1, q2, fun h => absurd h (by simp), .inr ⟨g, 0, rfl, ⟨hfr.2, fun hm => hnd3 g hg1 g hm rfl⟩, cur, E, _, hb, ?_⟩⟩
   rw [List.drop_zero, flat_len hk, q4]
   have hs2 : SameOn w w (av M (Chunk.own (some ⟨g, 0, none⟩) cap kk E rows :: C)) (av M C) := hs
   unfold Chunk.own at hs2
   exact hrx.mono hs2
 have hargs : ∀ (pre : List Tr) (vs : List Value), RdL w (av M (Chunk.own ad cap kk E rows :: C)) (pre ++ Tr.raw (.slice ad rows.length cap) :: suf) vs → RdL w (av M C) (pre ++ .sl kk rows :: suf) vs := by
  intro pre
  induction pre with
  |nil =>
   intro vs hr
   obtain ⟨v, rest, rfl, hv, hr⟩ := hr
   have := rd_raw hv
   subst this
   exact ⟨_, _, rfl, hsl, hr.mono hs⟩
  |cons p pre ih =>
   intro vs hr
   obtain ⟨v, rest, rfl, hv, hr⟩ := hr
   exact ⟨v, rest, rfl, p.mono hs hv, ih rest hr⟩
 refine (h2 M w vs (hargs pre vs hr) (fun c hc => Chunk.mono _ (fun b _ hb => rfl) hs (hch c (List.mem_cons_of_mem _ hc))) hnd2 (fun b hb => hlt b (by rw [hfps]; exact List.mem_append.2 (.inr hb))) hM).mono ?_
 rintro e w' ⟨v, r, cs', rfl, hpost, hrd, hch', hnd', hlt', hfm⟩
 obtain ⟨hfr1, hfr2⟩ := hfr r cs' hpost
 have hold : ∀ b, b ∈ (Chunk.own ad cap kk E rows).fp → b < w.heap.size → w'.heap[b]? = w.heap[b]? := fun b hb hl => hfm.block b hl (fun hm => hnd3 b hb b hm rfl)
 refine ⟨v, r, _, rfl, ⟨cs', rfl, hpost⟩, hfr1 _ _ _ _ _ hrd, ?_, ?_, ?_, ⟨hfm.os, hfm.tape, hfm.output, hfm.size, fun b hb hn => hfm.block b hb (fun hm => hn (by rw [hfps]; exact List.mem_append.2 (.inr hm))), hfm.drawn⟩⟩
 ·have hs2 : SameOn w w' (av M (Chunk.own ad cap kk E rows :: C)) (av M (Chunk.own ad cap kk E rows :: cs')) := by
   intro b hb ⟨m1, m2⟩
   rw [hfps] at m2
   refine ⟨⟨m1, fun hm => ?_⟩, hfm.block b hb fun hm => m2 (List.mem_append.2 (.inr hm))⟩
   rw [hfps] at hm
   rcases List.mem_append.1 hm with hm | hm
   ·exact m2 (List.mem_append.2 (.inl hm))
   ·obtain ⟨_, _, q3⟩ := hlt' b hm
    rcases q3 with q3 | q3
    ·exact m2 (List.mem_append.2 (.inr q3))
    ·omega
  intro c hc
  rcases List.mem_cons.1 hc with rfl | hc
  ·exact Chunk.mono _ (fun b hb hl => hold b hb hl) hs2 hown0
  ·exact hfr2 c hc _ _ _ (hch' c hc)
 ·rw [hfps]
  refine List.nodup_append.2 ⟨hnd1, hnd', fun b hb d hd hbd => ?_⟩
  subst hbd
  obtain ⟨_, _, q3⟩ := hlt' b hd
  rcases q3 with q3 | q3
  ·exact hnd3 b hb b q3 rfl
  ·have := (hlt b (by rw [hfps]; exact List.mem_append.2 (.inl hb))).1
   omega
 ·intro b hb
  rw [hfps] at hb ⊢
  rcases List.mem_append.1 hb with hb | hb
  ·obtain ⟨q1, q2⟩ := hlt b (by rw [hfps]; exact List.mem_append.2 (.inl hb))
   exact ⟨Nat.lt_of_lt_of_le q1 hfm.size, q2, .inl (List.mem_append.2 (.inl hb))⟩
  ·obtain ⟨q1, q2, q3⟩ := hlt' b hb
   exact ⟨q1, q2, q3.imp (fun h => List.mem_append.2 (.inr h)) id⟩
/-- what a function hands out beside another value is settled at once -/
theorem Spec.settle2 {f : FuncId} {args : List Tr} {C L : List Chunk} {k E n : Nat} {rows : List (List Tr)} {t : Tr}
  (h : Spec P f args C (fun r cs => ∃ (ad : Option Addr) (cap : Nat), r = .tup [Tr.raw (.slice ad n cap), t] ∧ cs = L ++ [Chunk.own ad cap k E rows])) (hn : n = rows.length) :
  Spec P f args C (fun r cs => r = .tup [.sl k rows, t] ∧ cs = L) := by
 subst hn
 unfold Spec at h ⊢
 obtain ⟨h1, h2⟩ := h
 refine ⟨h1, fun M w vs hr hch hnd hlt hM => (h2 M w vs hr hch hnd hlt hM).mono ?_⟩
 rintro e w' ⟨v, r, cs', rfl, ⟨ad, cap, rfl, rfl⟩, hrd, hch', hnd', hlt', hfm⟩
 have hfps : fps (L ++ [Chunk.own ad cap k E rows]) = fps L ++ (Chunk.own ad cap k E rows).fp := by simp [fps]
 have hs : SameOn w' w' (av M (L ++ [Chunk.own ad cap k E rows])) (av M L) := fun b _ ⟨g1, g2⟩ => ⟨⟨g1, fun hm => g2 (by rw [hfps]; exact List.mem_append.2 (.inl hm))⟩, rfl⟩
 rw [hfps] at hnd'
 obtain ⟨hnd1, hnd2, hnd3⟩ := List.nodup_append.1 hnd'
 have hfp : (Chunk.own ad cap k E rows).fp = (Value.ownBlock (.slice ad rows.length cap)).toList := by unfold Chunk.own; simp
 have hown := hch' (Chunk.own ad cap k E rows) (by simp)
 unfold Chunk.own at hown
 obtain ⟨hk, xs, ho, hrx⟩ := hown
 have hsl : (Tr.sl k rows).rd w' (av M L) (.slice ad rows.length cap) := by
  unfold Tr.sl
  rcases ho.2 with ⟨e1, e2⟩ | ⟨g, cp, cur, hv, hg, hb, q1, q2, q3, q4⟩
  ·simp only [Value.slice.injEq] at e1
   obtain ⟨rfl, _, rfl⟩ := e1
   exact ⟨hk, by simp [e2], none, 0, rfl, by omega, by simp, fun _ => ⟨List.eq_nil_of_length_eq_zero e2, rfl⟩, .inl (List.eq_nil_of_length_eq_zero e2)⟩
  ·simp only [Value.slice.injEq] at hv
   obtain ⟨rfl, _, rfl⟩ := hv
   have hg1 : g ∈ (Chunk.own (some ⟨g, 0, none⟩) cap k E rows).fp := by rw [hfp]; simp [Value.ownBlock]
   have hfr := hlt' g (by rw [hfps]; exact List.mem_append.2 (.inr hg1))
   refine ⟨hk, by omega, _, cap, rfl, q1, q2, fun h => absurd h (by simp), .inr ⟨g, 0, rfl, ⟨hfr.2.1, fun hm => hnd3 g hm g hg1 rfl⟩, cur, E, _, hb, ?_⟩⟩
   rw [List.drop_zero, flat_len hk, q4]
   have hs2 : SameOn w' w' (av M (L ++ [Chunk.own (some ⟨g, 0, none⟩) cap k E rows])) (av M L) := hs
   unfold Chunk.own at hs2
   exact hrx.mono hs2
 unfold Tr.tup at hrd
 obtain ⟨us, rfl, v1, us2, rfl, hv1, v2, us3, rfl, hv2, rfl⟩ := hrd
 have := rd_raw hv1
 subst this
 refine ⟨_, _, _, rfl, ⟨rfl, rfl⟩, ?_, fun c hc => Chunk.mono _ (fun b _ _ => rfl) hs (hch' c (List.mem_append.2 (.inl hc))), hnd1, fun b hb => hlt' b (by rw [hfps]; exact List.mem_append.2 (.inl hb)), hfm⟩
 unfold Tr.tup
 exact ⟨_, rfl, _, _, rfl, hsl, _, _, rfl, Tr.mono _ hs hv2, rfl⟩
end lend
end Lg
end
section
set_option linter.all false
namespace Lg
open Go Go.ChangeMaps

/-! ### an iterator that stands at an entry -/
section maps
variable {P : Program} {Γ : Ctx} {env env' : Env} {cs cs' cf : List Chunk} {Q : Post} {R : Array Oper}
variable {i : Tmp} {ty : TypeId} {pos : String} {af : Array Edge} {rest : List Oper}
variable {x y z : Operand} {T : TypeId}
variable {α : Type} [DecidableEq α] {enc : α → Value}

end maps

/-! ### entries as a list: what is gone is what was not left -/
end Lg
end
section
set_option linter.all false
namespace Lg
open Go Go.ChangeMaps

section mapy
variable {α : Type} [DecidableEq α] {enc : α → Value}
variable {P : Program} {Γ : Ctx} {env env' : Env} {cs cs' cf : List Chunk} {Q : Post} {R : Array Oper}
variable {i d : Tmp} {ty : TypeId} {pos : String} {af : Array Edge} {rest l : List Oper} {x y z : Operand} {T : TypeId}
variable {H : (Nat → Value) → (Nat → Bool) → List Chunk} {L : List Oper} {K' : Env → List Chunk → Prop} {n : Nat} {acc : (Nat → Value) → Env} {Pf : Nat → (Nat → Value) → Prop}
theorem mapUpdate_core {K E : TypeId} {zv : Value} [hT : TyMap P T K E zv] [hK : KeyTy P K enc] {b : Nat} {a : α} {t : Tr} {kv : List (α × Tr)} {ac : Act} {w : World} (d0 : Den Γ env (Chunk.mp enc b kv :: cf) ac w) (hv : ac.eval x = .map (some b)) (hk : ac.eval y = enc a)
  (ht : t.rd w (av Γ.M (Chunk.mp enc b kv :: cf)) (ac.eval z)) :
  ∃ w', (execOp ac.eval ⟨none, .mapUpdate T x y z, ty, pos, af, none⟩).run P w = .ok .skip w' ∧ ∀ env2, Den Γ env2 (Chunk.mp enc b kv :: cf) ac w → Den Γ env2 (Chunk.mp enc b (mset a t kv) :: cf) ac w' := by
 obtain ⟨es, clock, hb, hr, h1, h2⟩ := d0.has (List.Perm.refl _)
 have hchk := hK.chk false a w
 have hset : ∀ o : Obj, (setObj b o).run P w = .ok () (setBlock w b o) := fun o => MapKept.run_setObj_map o hb
 have hlt : b < w.heap.size := (Array.getElem?_eq_some_iff.1 hb).1
 have hturn : ∀ (es' : Array MapEntry) (c' : Nat), EsR w (av Γ.M (Chunk.mp enc b kv :: cf)) enc (mset a t kv) es'.toList → (borns es'.toList).Pairwise (· < ·) → (∀ e ∈ es'.toList, e.born < c') → ∀ env2, Den Γ env2 (Chunk.mp enc b kv :: cf) ac w → Den Γ env2 (Chunk.mp enc b (mset a t kv) :: cf) ac (setBlock w b (.map es' c')) := by
  intro es' c' hr' hb1 hb2 env2 d
  refine d.turn rfl (fun q hq hn => ?_) (by simp [setBlock]) rfl rfl rfl ?_
  ·exact ChangeMaps.heap_setBlock_other hb _ (by simpa [Chunk.mp] using hn)
  ·intro hs _
   exact ⟨es', c', ChangeMaps.heap_setBlock_same hb _, hr'.mono hs, hb1, hb2⟩
 rcases run_findKey (P := P) (K := K) hr a with ⟨g1, g2, g3⟩ | ⟨t0, v, j, e, g1, g2, g3, g4, g5, g6⟩
 ·refine ⟨_, by simp [execOp, hv, hk, Instr.mapUpdate, run_underlying hT.hT, run_getMap hb, hchk, g2, hset] <;> rfl, hturn _ _ ?_ ?_ ?_⟩
  ·rw [Array.toList_push]
   exact g3 t _ clock (enc a) ht
  ·rw [Array.toList_push]
   simp only [borns, List.map_append, List.map_cons, List.map_nil]
   rw [List.pairwise_append]
   exact ⟨h1, by simp, fun p hp q hq => by
    rw [List.mem_singleton.1 hq]
    exact mem_borns.1 h2 p hp⟩
  ·intro e he
   rw [Array.toList_push] at he
   rcases List.mem_append.1 he with h | h
   ·have := h2 e h; omega
   ·rw [List.mem_singleton.1 h]; simp
 ·have hej : es[j]? = some e := by rw [← Array.getElem?_toList]; exact g4
  refine ⟨_, by simp [execOp, hv, hk, Instr.mapUpdate, run_underlying hT.hT, run_getMap hb, hchk, g2, hej, g5, run_stays (P := P) (K := K), hset] <;> rfl, hturn _ _ ?_ ?_ ?_⟩
  ·rw [Array.toList_modify]
   exact g6 t _ ht
  ·rw [Array.toList_modify]
   rw [borns_modify]
   exact h1
  ·rw [Array.toList_modify, mem_borns, borns_modify]
   exact mem_borns.1 h2
/-- m[k] = v in a drawn region -/
theorem YSeq.mapUpdate {K E : TypeId} {zv : Value} [hT : TyMap P T K E zv] [hK : KeyTy P K enc]
  (h : ∀ (ξ : Nat → Value) (S : Nat → Bool), S n = false → (∀ j ∈ preds af, S j = true) → Clo L S → (∀ k, S k = true → Pf k ξ) →
   ∃ (b : Nat) (a : α) (t : Tr) (kv : List (α × Tr)) (cf : List Chunk), ev (rst (slotsOf (.mapUpdate T x y z)) (acc ξ)) x = some (.raw (.map (some b))) ∧ ev (rst (slotsOf (.mapUpdate T x y z)) (acc ξ)) y = some (.raw (enc a)) ∧ ev (rst (slotsOf (.mapUpdate T x y z)) (acc ξ)) z = some t ∧
    (H ξ S).Perm (Chunk.mp enc b kv :: cf) ∧ (H (upd ξ n undef) (updD S n)).Perm (Chunk.mp enc b (mset a t kv) :: cf))
  (k : YSeq P Γ H L K' (n + 1) acc (pfY n (fun _ => True) Pf) l) : YSeq P Γ H L K' n acc Pf (⟨none, .mapUpdate T x y z, ty, pos, af, none⟩ :: l) := by
 refine YSeq.cons PvOkY.triv (TOk.const (t := Tr.any)) ?_ k
 unfold YStep
 intro ξ S h1 h2 h3 h4 a w dd next F hk
 obtain ⟨b, ky, t, kv, cf, hx, hy, hz, hp, hq⟩ := h ξ S h1 h2 h3 h4
 have hv := rd_raw (dd.ev hx)
 have hv2 := rd_raw (dd.ev hy)
 have ht := dd.ev hz
 rw [av_perm hp] at ht
 obtain ⟨w', hrun, hd⟩ := mapUpdate_core (P := P) (T := T) (ty := ty) (pos := pos) (af := af) (dd.perm hp) hv hv2 ht
 refine opIn_of_run hrun ⟨(by intro d h; cases h), (by intro x y h; cases h)⟩ ?_
 exact hk _ _ trivial tr_any_self fun env2 d2 => (hd env2 (d2.perm hp)).perm hq.symm
end mapy
end Lg
end
