/- A part of the proof of a law of this seat: it adds no condition. By an AI agent. -/
import Derived.Shelf.Sort.Plain
import Derived.Shelf.Slices.Reverse
import Derived.Test.YtacfkfehoemnfaaGreatDoorLgSort
section
set_option linter.all false
namespace Lg
open Go Go.Proofs Go.Sort Go.Shelf

/-! ### Go's own sorts of what is ordered (slices.Sort), and other turns of a whole slice in place -/
theorem rdL_one {w : World} {A : Nat → Prop} {a : Value} {vs : List Value} (h : RdL w A [Tr.raw a] vs) : vs = [a] := by
  obtain ⟨v, rest, rfl, h1, h2⟩ := h
  rw [rd_raw h1, show rest = [] from h2]
theorem turnWhole {α : Type} [Inhabited α] {P : Program} (enc : α → Value) (h1 : ∀ x, (enc x).oneCell' = true) {f : FuncId} (he : ∀ (vs : Array Value) (w : World), (callFunc f vs).run P w = .ok (.enter f vs) w)
    {ad : Option Addr} {cap n : Nat} {E : TypeId} {xs zs : List α} (hn : n = xs.length) (hz : zs.length = xs.length) (hp : 1 ≤ n)
    (hS : ∀ (blk : Nat) (w : World), Holds enc w blk 0 xs.toArray → blk < w.heap.size → Calls P f #[.slice (some ⟨blk, 0, none⟩) xs.length cap] w fun e w' => e = .returned (.tuple #[]) ∧ ∃ m os, w' = grow (putRow enc (Sort.ahead w m) blk 0 zs.toArray) os) :
    Spec P f [Tr.raw (.slice ad n cap)] [Chunk.own ad cap 1 E (xs.map fun a => [Tr.raw (enc a)])] (fun r cs => r = Tr.tup [] ∧ cs = [Chunk.own ad cap 1 E (zs.map fun a => [Tr.raw (enc a)])]) := by
  unfold Spec
  refine ⟨he, ?_⟩
  intro M w vs hv hch hnd hlt hM
  rw [rdL_one hv]
  obtain ⟨blk, cur, rfl, hfp, hgb, hnc, hcm, hcs, hrk, hrd⟩ := own_block (ad := ad) (cap := cap) (k := 1) (E := E) (rows := xs.map fun a => [Tr.raw (enc a)]) (n := n) (by rw [List.length_map]; exact hn) hp (hch _ List.mem_cons_self)
  have hblk : blk < w.heap.size := (Array.getElem?_eq_some_iff.1 hgb).1
  have hfl : ∀ ys : List α, (ys.map fun a => [Tr.raw (enc a)]).flatten = (ys.map enc).map Tr.raw := by
    intro ys
    induction ys with
    | nil => rfl
    | cons y ys ih => rw [List.map_cons, List.flatten_cons, ih]; rfl
  rw [hfl] at hrd
  have hcur := rdc_eq hrd
  have hds : xs.toArray.size = n := by simp [hn]
  have hH : Holds enc w blk 0 xs.toArray := holds_map (holds_id hgb (by rw [Array.size_map, hds]; rw [Nat.mul_one] at hcur; rw [hcur]; simp))
  have hh := hS blk w hH hblk
  rw [← hn] at hh
  refine hh.mono ?_
  rintro e w' ⟨rfl, m, os, hw⟩
  rw [putRow_map] at hw
  obtain ⟨e1, e2, e3, e4⟩ := sort_end (rows := xs.map fun a => [Tr.raw (enc a)]) (rows' := zs.map fun a => [Tr.raw (enc a)]) (C := bxC []) (F := zs.toArray.map enc) (k := 1) (n := n) hfp hgb hnc hcm hcs (by simp [hz, hn]) (by simp [hz, hn]) (by simp [hn]) (fun r hr => by
    obtain ⟨a, _, rfl⟩ := List.mem_map.1 hr
    rfl) (fun w A => by
    rw [hfl, Array.toList_map]
    refine rdc_back ?_
    intro v hv
    obtain ⟨a, _, rfl⟩ := List.mem_map.1 hv
    exact h1 a) hw hch hnd hlt
  exact ⟨_, Tr.tup [], _, rfl, ⟨rfl, rfl⟩, by unfold Tr.tup; exact ⟨[], rfl, rfl⟩, e1, e2, e3, e4⟩
end Lg
end
section
set_option linter.all false
namespace Lg
open Go Go.Proofs Go.Sort Go.Shelf

/-! ### slices.Sort of strings -/
theorem bl_lt : ∀ (a b : List UInt8), Op.bytesLess a b = decide (a < b)
  | [], [] => by simp [Op.bytesLess]
  | [], b :: y => by simp [Op.bytesLess]
  | a :: x, [] => by simp [bl_nil]
  | a :: x, b :: y => by
    rw [bl_cons, bl_lt x y]
    by_cases h1 : a < b
    · simp [h1, List.cons_lt_cons_iff]
    · by_cases h2 : a = b
      · simp [h2, List.cons_lt_cons_iff]
      · simp [h1, h2, List.cons_lt_cons_iff]
theorem strLt_list (a b : ByteArray) : strLt a b = decide (a.data.toList < b.data.toList) := by
  unfold strLt
  rw [ByteArray.toList_eq, ByteArray.toList_eq, bl_lt]
theorem baD (s : ByteArray) : (⟨s.data.toList.toArray⟩ : ByteArray) = s := by
  apply ByteArray.ext
  simp
theorem sortStrs {P : Program} {ρ : Ren} (L : Lays.n190 P ρ) (he : ∀ (vs : Array Value) (w : World), (callFunc (ρ.f 190) vs).run P w = .ok (.enter (ρ.f 190) vs) w) {ad : Option Addr} {cap n : Nat} {E : TypeId} {xs : List ByteArray} (hn : n = xs.length) (hp : 1 ≤ n) (hmx : n < 4611686018427387904) :
    ∃ ys : List ByteArray, ys.Perm xs ∧ (ys.Pairwise fun a b => decide (b.data.toList < a.data.toList) = false) ∧ Spec P (ρ.f 190) [Tr.raw (.slice ad n cap)] [Chunk.own ad cap 1 E (xs.map fun a => [Tr.str a])] (fun r cs => r = Tr.tup [] ∧ cs = [Chunk.own ad cap 1 E (ys.map fun a => [Tr.str a])]) := by
  obtain ⟨ss, hss⟩ : ∃ ss, ss = xs.map fun s => s.data.toList := ⟨_, rfl⟩
  obtain ⟨ts, hts⟩ : ∃ ts, ts = ss.mergeSort fun x y => decide (x ≤ y) := ⟨_, rfl⟩
  have hx : xs = ss.map fun l => (⟨l.toArray⟩ : ByteArray) := by
    rw [hss, List.map_map]
    conv => lhs; rw [← List.map_id xs]
    exact List.map_congr_left fun s _ => (baD s).symm
  have hlen : ts.length = ss.length := by rw [hts]; exact List.length_mergeSort _
  refine ⟨ts.map fun l => ⟨l.toArray⟩, ?_, ?_, ?_⟩
  · rw [hx, hts]
    exact (List.mergeSort_perm _ _).map _
  · rw [List.pairwise_map, hts]
    have := List.pairwise_mergeSort (le := fun x y : List UInt8 => decide (x ≤ y)) (by
      intro a b c h1 h2
      simp only [decide_eq_true_eq] at *
      exact List.le_trans h1 h2) (by
      intro a b
      simp only [Bool.or_eq_true, decide_eq_true_eq]
      exact List.le_total a b) ss
    exact this.imp fun {a b} h => by
      simp only [decide_eq_true_eq] at h
      simp only [List.toList_toArray, decide_eq_false_iff_not]
      exact h
  · have h := turnWhole (P := P) encStr (fun _ => rfl) he (ad := ad) (cap := cap) (n := n) (E := E) (xs := ss) (zs := ts) (by rw [hn, hx, List.length_map]) hlen hp (fun blk w hH hb => by
      have h2 := Any.slices_Sort_string L blk 0 cap ss w hH hb (by rw [hn, hx, List.length_map] at hmx; exact hmx)
      rw [hts]
      exact h2)
    rw [hx, List.map_map]
    rw [List.map_map]
    exact h
end Lg
end
section
set_option linter.all false
namespace Lg
open Go

/-- what a call does not take stays as it is -/
theorem Spec.frame {P : Program} {f : FuncId} {args : List Tr} {cin : List Chunk} {post : Tr → List Chunk → Prop} (h : Spec P f args cin post) (F : List Chunk) : Spec P f args (cin ++ F) (fun r cs => ∃ c2, post r c2 ∧ cs = c2 ++ F) := by
  unfold Spec at h ⊢
  refine ⟨h.1, fun M w vs hv hch hnd hlt hM => ?_⟩
  have hfa : ∀ c : List Chunk, fps (c ++ F) = fps c ++ fps F := fun c => by simp only [fps, List.flatMap_append]
  have hav : ∀ c : List Chunk, av (fun b => M b ∨ b ∈ fps F) c = av M (c ++ F) := fun c => by
    funext b
    simp only [av, hfa, List.mem_append]
    apply propext
    constructor
    · rintro ⟨h1, h2⟩
      exact ⟨fun h => h1 (.inl h), fun h => h.elim h2 (fun h => h1 (.inr h))⟩
    · rintro ⟨h1, h2⟩
      exact ⟨fun h => h.elim h1 (fun h => h2 (.inr h)), fun h => h2 (.inl h)⟩
  rw [hfa] at hnd hlt
  obtain ⟨hn1, hn2, hdis⟩ := List.nodup_append.1 hnd
  have key := h.2 (fun b => M b ∨ b ∈ fps F) w vs (by rw [hav]; exact hv) (fun c hc => by rw [hav]; exact hch c (List.mem_append_left _ hc)) hn1
    (fun b hb => ⟨(hlt b (List.mem_append_left _ hb)).1, fun hm => hm.elim (hlt b (List.mem_append_left _ hb)).2 (fun hf => hdis b hb b hf rfl)⟩)
    (fun b hm => hm.elim (hM b) (fun hf => (hlt b (List.mem_append_right _ hf)).1))
  refine key.mono ?_
  rintro e w' ⟨v, r, cs', he, hp, hrd, hc, hnd', hfr, hf⟩
  rw [hav] at hrd hc
  have hnew : ∀ b ∈ fps cs', b ∉ fps F := fun b hb hbF => by
    obtain ⟨_, h2, h3⟩ := hfr b hb
    exact h2 (.inr hbF)
  refine ⟨v, r, cs' ++ F, he, ⟨cs', hp, rfl⟩, hrd, ?_, ?_, ?_, ?_⟩
  · intro c hcm
    rcases List.mem_append.1 hcm with h1 | h1
    · exact hc c h1
    · refine c.mono (fun b hb hlt2 => hf.block b hlt2 fun hm => ?_) ?_ (hch c (List.mem_append_right _ h1))
      · exact hdis b hm b (List.mem_flatMap.2 ⟨c, h1, hb⟩) rfl
      · intro b hb hA
        have hA2 := hA
        simp only [av, hfa, List.mem_append, not_or] at hA2
        refine ⟨?_, hf.block b hb hA2.2.1⟩
        simp only [av, hfa, List.mem_append, not_or]
        refine ⟨hA2.1, fun hm => ?_, hA2.2.2⟩
        rcases (hfr b hm).2.2 with h2 | h2
        · exact hA2.2.1 h2
        · omega
  · rw [hfa]
    exact List.nodup_append.2 ⟨hnd', hn2, fun x hx y hy e => hnew x hx (e ▸ hy)⟩
  · intro b hb
    rw [hfa] at hb ⊢
    rcases List.mem_append.1 hb with h1 | h1
    · obtain ⟨g1, g2, g3⟩ := hfr b h1
      exact ⟨g1, fun h => g2 (.inl h), g3.imp_left (List.mem_append_left _)⟩
    · obtain ⟨g1, g2⟩ := hlt b (List.mem_append_right _ h1)
      exact ⟨Nat.lt_of_lt_of_le g1 hf.size, g2, .inl (List.mem_append_right _ h1)⟩
  · rw [hfa]
    exact ⟨hf.os, hf.tape, hf.output, hf.size, fun b hb hn => hf.block b hb fun hm => hn (List.mem_append_left _ hm), hf.drawn⟩
end Lg
end
