/- A part of the proof of a law of this seat: it adds no condition. By an AI agent. -/
import Derived.Lib.Bytealg
import Derived.Test.YthgcdnfhfejijaaGreatDoorLgOrd
section
set_option linter.all false
set_option maxRecDepth 100000
namespace Lg
open Go Go.RowKit

/-! ### strings as lists of bytes, and their parts -/
def mkB (l : List UInt8) : ByteArray := ⟨⟨l⟩⟩
theorem mkB_size (l : List UInt8) : (mkB l).size = l.length := rfl
theorem mkB_eta (s : ByteArray) : mkB s.data.toList = s := rfl
theorem mkB_list (l : List UInt8) : (mkB l).data.toList = l := rfl
theorem mkB_ext (l : List UInt8) (a b : Nat) : (mkB l).extract a b = mkB ((l.drop a).take (b - a)) := by
 have h := ByteArray.extract_mk l a b
 unfold mkB
 simpa using h
theorem str_list (s : ByteArray) : s.size = s.data.toList.length := rfl

section strs
variable {P : Program} {Γ : Ctx} {env env' : Env} {cs cs' cf : List Chunk} {Q : Post} {R : Array Oper}
variable {i : Tmp} {ty : TypeId} {pos : String} {af : Array Edge} {rest : List Oper}
variable {x y z : Operand} {T T2 : TypeId} {k : IntKind} {p q : Int} {s u : ByteArray}
theorem OpV.sliceS_l (hT : P.underlying T = some .string) (hx : ev env x = some (.str s)) (hz : ev env z = some (.raw (.int k q))) (h : 0 ≤ q ∧ q ≤ s.size) : OpV P Γ (.slice T x (some z) none none) ty env cs (.str (s.extract q.toNat s.size)) :=
 by unfold OpV; exact (fun a w d => ⟨.string (s.extract q.toNat s.size), by
  have h1 : a.eval x = .string s := rd_raw (d.ev hx)
  have h2 : a.eval z = .int k q := rd_raw (d.ev hz)
  simp [execOp, h1, h2, Instr.sliceAt, Instr.slice, Instr.sliceBounds, Instr.sliceBound, asIntOf, run_underlying hT, h], raw_self _⟩)
theorem Ops.sliceS_l (hT : P.underlying T = some .string) (hx : ev env x = some (.str s)) (hz : ev env z = some (.raw (.int k q))) (h : 0 ≤ q ∧ q ≤ s.size) (hi : Nat.blt i Γ.n = true)
  (kk : Ops P Γ R rest ((i, .str (s.extract q.toNat s.size)) :: env) cs Q) : Ops P Γ R (⟨some i, .slice T x (some z) none none, ty, pos, af, none⟩ :: rest) env cs Q := Ops.val' hi (OpV.sliceS_l hT hx hz h) kk
theorem OpV.sliceS_lh {k2 : IntKind} (hT : P.underlying T = some .string) (hx : ev env x = some (.str s)) (hy : ev env y = some (.raw (.int k p))) (hz : ev env z = some (.raw (.int k2 q))) (h : 0 ≤ p ∧ p ≤ q ∧ q ≤ s.size) : OpV P Γ (.slice T x (some y) (some z) none) ty env cs (.str (s.extract p.toNat q.toNat)) :=
 by unfold OpV; exact (fun a w d => ⟨.string (s.extract p.toNat q.toNat), by
  have h1 : a.eval x = .string s := rd_raw (d.ev hx)
  have h2 : a.eval y = .int k p := rd_raw (d.ev hy)
  have h3 : a.eval z = .int k2 q := rd_raw (d.ev hz)
  have h4 : 0 ≤ q := by omega
  have h5 : max q 0 = q := by omega
  have h6 : ¬ q < p := by omega
  simp [execOp, h1, h2, h3, Instr.sliceAt, Instr.slice, Instr.sliceBounds, Instr.sliceBound, asIntOf, run_underlying hT, h, h4, h5, h6], raw_self _⟩)
theorem Ops.sliceS_lh {k2 : IntKind} (hT : P.underlying T = some .string) (hx : ev env x = some (.str s)) (hy : ev env y = some (.raw (.int k p))) (hz : ev env z = some (.raw (.int k2 q))) (h : 0 ≤ p ∧ p ≤ q ∧ q ≤ s.size) (hi : Nat.blt i Γ.n = true)
  (kk : Ops P Γ R rest ((i, .str (s.extract p.toNat q.toNat)) :: env) cs Q) : Ops P Γ R (⟨some i, .slice T x (some y) (some z) none, ty, pos, af, none⟩ :: rest) env cs Q := Ops.val' hi (OpV.sliceS_lh hT hx hy hz h) kk
theorem OpV.catB (hx : ev env x = some (.str s)) (hy : ev env y = some (.str u)) (hz : s.size + u.size ≤ 1000000000000) : OpV P Γ (.binOp .add T x y T2) ty env cs (.str (s ++ u)) :=
 OpV.binS hx hy (by simp only [Op.stringOp]; rw [if_neg (by have : IntKind.i64.max = 9223372036854775807 := rfl; omega)])
theorem Ops.catB (hx : ev env x = some (.str s)) (hy : ev env y = some (.str u)) (hz : s.size + u.size ≤ 1000000000000) (hi : Nat.blt i Γ.n = true)
  (kk : Ops P Γ R rest ((i, .str (s ++ u)) :: env) cs Q) : Ops P Γ R (⟨some i, .binOp .add T x y T2, ty, pos, af, none⟩ :: rest) env cs Q := Ops.val' hi (OpV.catB hx hy hz) kk
end strs

/-! ### cut at a byte -/
def splL (c : UInt8) : List UInt8 → List (List UInt8)
 |[] => [[]]
 |x :: l => if x = c then [] :: splL c l else match splL c l with
  |[] => [[x]]
  |h :: t => (x :: h) :: t
theorem splL_ne (c : UInt8) (l : List UInt8) : splL c l ≠ [] := by
 cases l with
 |nil => simp [splL]
 |cons x l =>
  rw [splL]
  split
  ·simp
  ·split <;> simp
theorem splL_none {c : UInt8} : ∀ {l : List UInt8}, Lib.indexByte l c = -1 → splL c l = [l]
 |[], _ => rfl
 |x :: l, h => by
  rw [Lib.indexByte] at h
  split at h
  ·omega
  ·rename_i hx
   split at h
   ·rename_i h2
    have h3 : Lib.indexByte l c = -1 := by simpa using h2
    have ih := splL_none h3
    have hx' : ¬ x = c := by simpa using hx
    rw [splL, if_neg hx', ih]
   ·rename_i h2
    have := Lib.indexByte_ge l c
    omega
theorem splL_some {c : UInt8} : ∀ {l : List UInt8} {m : Nat}, Lib.indexByte l c = (m : Int) → splL c l = l.take m :: splL c (l.drop (m + 1)) ∧ m < l.length
 |[], m, h => by
  rw [Lib.indexByte] at h
  omega
 |x :: l, m, h => by
  rw [Lib.indexByte] at h
  split at h
  ·rename_i hx
   have hm : m = 0 := by omega
   subst hm
   have hx' : x = c := by simpa using hx
   rw [splL, if_pos hx']
   exact ⟨rfl, by simp⟩
  ·rename_i hx
   have hx' : ¬ x = c := by simpa using hx
   split at h
   ·omega
   ·rename_i h2
    have hge := Lib.indexByte_ge l c
    have h4 : ¬ Lib.indexByte l c = -1 := by simpa using h2
    obtain ⟨j, rfl⟩ : ∃ j, m = j + 1 := ⟨m - 1, by omega⟩
    have h3 : Lib.indexByte l c = (j : Int) := by omega
    obtain ⟨ih1, ih2⟩ := splL_some h3
    rw [splL, if_neg hx', ih1]
    exact ⟨rfl, by simp; omega⟩
theorem splL_len (c : UInt8) : ∀ l : List UInt8, (splL c l).length = Lib.countByte l c + 1
 |[] => rfl
 |x :: l => by
  have ih := splL_len c l
  unfold Lib.countByte at ih ⊢
  rw [splL, List.count_cons]
  by_cases h : x = c
  ·rw [if_pos h, if_pos (by simpa using h), List.length_cons, ih]
  ·rw [if_neg h, if_neg (by simpa using h)]
   cases h2 : splL c l with
   |nil => exact absurd h2 (splL_ne c l)
   |cons a b => rw [h2] at ih; simpa using ih
theorem countByte_le (l : List UInt8) (c : UInt8) : Lib.countByte l c ≤ l.length := List.count_le_length
/-- the texts between the bytes c of a string -/
def splS (c : UInt8) (s : ByteArray) : List ByteArray := (splL c s.data.toList).map mkB
theorem splS_none {c : UInt8} {s : ByteArray} (h : Lib.indexByte s.data.toList c = -1) : splS c s = [s] := by
 unfold splS
 rw [splL_none h]
 rfl
theorem splS_some {c : UInt8} {s : ByteArray} {m : Nat} (h : Lib.indexByte s.data.toList c = (m : Int)) : splS c s = s.extract 0 m :: splS c (s.extract (m + 1) s.size) ∧ m < s.size := by
 obtain ⟨h1, h2⟩ := splL_some h
 refine ⟨?_, h2⟩
 unfold splS
 rw [h1, List.map_cons]
 have e1 : s.extract 0 m = mkB (s.data.toList.take m) := by
  conv => lhs; rw [← mkB_eta s]
  rw [mkB_ext]
  simp
 have e2 : (s.extract (m + 1) s.size).data.toList = s.data.toList.drop (m + 1) := by
  conv => lhs; rw [← mkB_eta s]
  rw [mkB_ext, mkB_list]
  rw [List.take_of_length_le (by rw [List.length_drop, mkB_size]; exact Nat.le_refl _)]
 rw [e1, e2]
theorem splS_len (c : UInt8) (s : ByteArray) : (splS c s).length = Lib.countByte s.data.toList c + 1 := by
 unfold splS
 rw [List.length_map, splL_len]
theorem idx_cases (l : List UInt8) (c : UInt8) : Lib.indexByte l c = -1 ∨ ∃ m : Nat, Lib.indexByte l c = (m : Int) := by
 have := Lib.indexByte_ge l c
 by_cases h : Lib.indexByte l c = -1
 ·exact .inl h
 ·exact .inr ⟨(Lib.indexByte l c).toNat, by omega⟩
end Lg
end
section
set_option linter.all false
namespace Lg
open Go Go.ChangeMaps

/-! ### literals of maps -/
section maps
variable {P : Program} {Γ : Ctx} {env env' : Env} {cs cs' cf : List Chunk} {Q : Post} {R : Array Oper}
variable {i : Tmp} {ty : TypeId} {pos : String} {af : Array Edge} {rest : List Oper}
variable {x y z : Operand} {T : TypeId}
variable {α : Type} [DecidableEq α] {enc : α → Value}

/-- a literal of a map: one entry more -/
theorem Ops.insertM {K E : TypeId} {zv : Value} [hT : TyMap P T K E zv] [hK : KeyTy P K enc] {b : Nat} {a : α} {t : Tr} {kv : List (α × Tr)} (hx : ev env x = some (.raw (.map (some b)))) (hy : ev env y = some (.raw (enc a))) (hz : ev env z = some t)
  (hp : cs.Perm (Chunk.mp enc b kv :: cf)) (kont : Ops P Γ R rest env (Chunk.mp enc b (mset a t kv) :: cf) Q) : Ops P Γ R (⟨none, .insert T x y z, ty, pos, af, none⟩ :: rest) env cs Q :=
 Ops.of fun ac w d => by
  have hv := rd_raw (d.ev hx)
  have hk := rd_raw (d.ev hy)
  have ht := d.ev hz
  have d := d.perm hp
  rw [av_perm hp] at ht
  obtain ⟨es, clock, hb, hr, h1, h2⟩ := d.has (List.Perm.refl _)
  have hchk := hK.chk false a w
  have hset : ∀ o : Obj, (setObj b o).run P w = .ok () (setBlock w b o) := fun o => MapKept.run_setObj_map o hb
  have hlt : b < w.heap.size := (Array.getElem?_eq_some_iff.1 hb).1
  have hturn : ∀ (es' : Array MapEntry) (c' : Nat), EsR w (av Γ.M (Chunk.mp enc b kv :: cf)) enc (mset a t kv) es'.toList → (borns es'.toList).Pairwise (· < ·) → (∀ e ∈ es'.toList, e.born < c') → Den Γ env (Chunk.mp enc b (mset a t kv) :: cf) ac (setBlock w b (.map es' c')) := by
   intro es' c' hr' hb1 hb2
   refine d.turn rfl (fun q hq hn => ?_) (by simp [setBlock]) rfl rfl rfl ?_
   ·exact ChangeMaps.heap_setBlock_other hb _ (by simpa [Chunk.mp] using hn)
   ·intro hs _
    exact ⟨es', c', ChangeMaps.heap_setBlock_same hb _, hr'.mono hs, hb1, hb2⟩
  rcases run_findKey (P := P) (K := K) hr a with ⟨g1, g2, g3⟩ | ⟨t0, v, j, e, g1, g2, g3, g4, g5, g6⟩
  ·refine ⟨env, _, .skip, _, by simp [execOp, hv, hk, Instr.mapUpdate, run_underlying hT.hT, run_getMap hb, hchk, g2, hset] <;> rfl, .inr ⟨rfl, ?_⟩, kont⟩
   refine (hturn _ _ ?_ ?_ ?_).put_none _
   ·rw [Array.toList_push]
    exact g3 t _ clock (enc a) ht
   ·rw [Array.toList_push]
    simp only [borns, List.map_append, List.map_cons, List.map_nil]
    rw [List.pairwise_append]
    exact ⟨h1, by simp, fun p hp q hq => by
     rw [List.mem_singleton.1 hq]
     exact mem_borns.1 h2 p hp⟩
   ·intro e he
    rw [Array.toList_push] at he
    rcases List.mem_append.1 he with h | h
    ·have := h2 e h; omega
    ·rw [List.mem_singleton.1 h]; simp
  ·have hej : es[j]? = some e := by rw [← Array.getElem?_toList]; exact g4
   refine ⟨env, _, .skip, _, by simp [execOp, hv, hk, Instr.mapUpdate, run_underlying hT.hT, run_getMap hb, hchk, g2, hej, g5, run_stays (P := P) (K := K), hset] <;> rfl, .inr ⟨rfl, ?_⟩, kont⟩
   refine (hturn _ _ ?_ ?_ ?_).put_none _
   ·rw [Array.toList_modify]
    exact g6 t _ ht
   ·rw [Array.toList_modify]
    rw [borns_modify]
    exact h1
   ·rw [Array.toList_modify, mem_borns, borns_modify]
    exact mem_borns.1 h2
end maps
end Lg
end
