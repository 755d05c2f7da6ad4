/- A part of the proof of a law of this seat: it adds no condition. By an AI agent. -/
import Derived.Test.YthgcdnfhfejijaaGreatDoorSS2
set_option linter.all false
set_option maxRecDepth 100000
set_option maxHeartbeats 8000000
namespace Lg
open Go Go.Proofs

/-- a comparison that only reads, on values of a kind -/
def CmpS (V : Int → Prop) (cf : Int → Int → Int) (g : Nat) (caps : List Value) (cin : List Chunk) : Prop :=
 ∀ x y, V x → V y → Spec Tryz.prog g ([.int x, .int y] ++ caps.map Tr.raw) cin (fun r cs => r = Tr.int (cf x y) ∧ cs = cin)
theorem insJ_end {cf : Int → Int → Int} {a j : Nat} {W : List Int} (h : ¬ (a < j ∧ cf (ix W j) (ix W (j - 1)) < 0)) : insJ cf a j W = W := by
 cases j with
 |zero => rfl
 |succ j => unfold insJ; rw [if_neg (by simpa using h)]
theorem insJ_go {cf : Int → Int → Int} {a j : Nat} {W : List Int} (h1 : a < j) (h2 : cf (ix W j) (ix W (j - 1)) < 0) : insJ cf a j W = insJ cf a (j - 1) (swp W j (j - 1)) := by
 cases j with
 |zero => omega
 |succ j =>
  show insJ cf a (j + 1) W = insJ cf a j (swp W (j + 1) j)
  conv => lhs; unfold insJ
  rw [if_pos ⟨h1, by simpa using h2⟩]
theorem insertion_fn {ad : Option Addr} {cap N : Nat} {V : Int → Prop} {cf : Int → Int → Int} {g : Nat} {caps : List Value} {cin : List Chunk} (hs : CmpS V cf g caps cin) (L : List Int) (hL : LOf V N L) (hN : N ≤ 1000000) (a b : Nat) (hab : a ≤ b) (hb : b ≤ N) :
  Spec Tryz.prog 122 [Tr.raw (.slice ad N cap), .int a, .int b, Tr.raw (.func (.func g) #[] caps.toArray)] (Chunk.own ad cap 1 3 (intRows L) :: cin) (fun r cs => r = Tr.tup [] ∧ cs = Chunk.own ad cap 1 3 (intRows (insI cf a L (b - a - 1))) :: cin) := by
 refine Spec.body Tryz.func122 rfl rfl (Tryz.ntmps122) rfl fun w0 own0 M => ?_
 repeat' (first | refine goH ?_ | refine goV ?_ | refine goG ?_ | (refine Ops.k_guard ?_; first | (refine Ops.guard_dec rfl rfl ?_ ?_ <;> intro hc <;> try omega) | refine Ops.guard_split rfl rfl ?_ ?_ <;> intro hc) | refine goI ?_ | (refine Cw.k_cond ?_; first | (refine Cw.cond_dec rfl ?_ ?_ <;> intro hc <;> try omega) | refine Cw.cond_bool rfl ?_ ?_ <;> intro hc) | refine goR ?_ | refine goP ?_ | apply PSeq.cons | apply PSeq.yes rfl rfl rfl | exact goW | fail)
 refine Cw.loopI [(0, _), (1, _), (2, _), (3, _)] cin (fun q e c => ∃ (k : Nat) (rows : List (List Tr)), q = b - k ∧ ((k = 0 ∨ a + k < b) ∧ rows = intRows (insI cf a L k)) ∧ e = [(8, .int ((a + 1 + k : Nat) : Int))] ∧ c = [Chunk.own ad cap 1 3 rows]) ⟨_, _, _, (Ent.mkP goSub goPm), 0, _, rfl, ⟨.inl rfl, rfl⟩, rfl, rfl⟩ ?_
 rintro _ _ _ ⟨k, rows, rfl, ⟨hk, hrows⟩, rfl, rfl⟩
 by_cases hkl : a + 1 + k < b
 ·have hW := hL.insI (cf := cf) (a := a) (n := k) (by omega)
  have hnext : insI cf a L (k + 1) = insJ cf a (a + 1 + k) (insI cf a L k) := rfl
  generalize insI cf a L k = I at *
  repeat' (first | refine goH ?_ | refine goV ?_ | refine goG ?_ | (refine Ops.k_guard ?_; first | (refine Ops.guard_dec rfl rfl ?_ ?_ <;> intro hc <;> try omega) | refine Ops.guard_split rfl rfl ?_ ?_ <;> intro hc) | refine goI ?_ | (refine Cw.k_cond ?_; first | (refine Cw.cond_dec rfl ?_ ?_ <;> intro hc <;> try omega) | refine Cw.cond_bool rfl ?_ ?_ <;> intro hc) | refine goR ?_ | refine goP ?_ | apply PSeq.cons | apply PSeq.yes rfl rfl rfl | exact goW | fail)
  refine Cw.loopI [(0, _), (1, _), (2, _), (3, _), (8, _)] cin (fun q e c => ∃ (j : Nat) (W : List Int) (rows : List (List Tr)), q = j + 1 ∧ (a ≤ j ∧ j < b ∧ LOf V N W ∧ insI cf a L (k + 1) = insJ cf a j W ∧ rows = intRows W) ∧ e = [(9, .int (j : Int))] ∧ c = [Chunk.own ad cap 1 3 rows]) ⟨_, _, _, (Ent.mkP goSub goPm), a + 1 + k, I, rows, rfl, ⟨by omega, hkl, hW, hnext, hrows⟩, rfl, rfl⟩ ?_
  clear hrows hW hnext
  rintro _ _ _ ⟨j, W, rows, rfl, ⟨haj, hjb, hW, hV, hrows⟩, rfl, rfl⟩
  have hlen := hW.len
  have hrl : rows.length = N := by rw [hrows, intRows_len, hlen]
  by_cases hja : a < j
  ·have rx : rows[((j : Nat) : Int).toNat]? = some [Tr.int (ix W j)] := by rw [hrows, Int.toNat_natCast]; exact ixR (by omega)
   have ry : rows[((j : Int) - 1).toNat]? = some [Tr.int (ix W (j - 1))] := by rw [hrows, show ((j : Int) - 1).toNat = j - 1 by omega]; exact ixR (by omega)
   have hspec := hs (ix W j) (ix W (j - 1)) (hW.ix (by omega)) (hW.ix (by omega))
   by_cases hc : cf (ix W j) (ix W (j - 1)) < 0
   ·rw [insJ_go hja hc] at hV
    have hS := hW.swp (i := j) (j := j - 1) (by omega) (by omega)
    have hset : (rows.set ((j : Nat) : Int).toNat [Tr.int (ix W (j - 1))])[((j : Int) - 1).toNat]? = some [Tr.int (ix W (j - 1))] := by
     rw [List.getElem?_set_ne (by omega)]
     exact ry
    have hlen2 : (rows.set ((j : Nat) : Int).toNat [Tr.int (ix W (j - 1))]).length = N := by rw [List.length_set]; exact hrl
    have hres : (rows.set ((j : Nat) : Int).toNat [Tr.int (ix W (j - 1))]).set ((j : Int) - 1).toNat [Tr.int (ix W j)] = intRows (swp W j (j - 1)) := by
     rw [hrows, Int.toNat_natCast, show ((j : Int) - 1).toNat = j - 1 by omega, ints_setS, ints_setS]
     rfl
    generalize swp W j (j - 1) = Z at *
    generalize ix W (j - 1) = y at *
    generalize ix W j = x at *
    generalize cf x y = o at *
    clear hrows hlen hk
    repeat' (first | refine goH ?_ | refine goV ?_ | refine goG ?_ | (refine Ops.k_guard ?_; first | (refine Ops.guard_dec rfl rfl ?_ ?_ <;> intro hc <;> try omega) | refine Ops.guard_split rfl rfl ?_ ?_ <;> intro hc) | refine goI ?_ | (refine Cw.k_cond ?_; first | (refine Cw.cond_dec rfl ?_ ?_ <;> intro hc <;> try omega) | refine Cw.cond_bool rfl ?_ ?_ <;> intro hc) | exact OpW.callS_fn rfl hspec (Evs.cons rfl (Evs.cons rfl Evs.nil)) List.perm_append_comm | refine goR ?_ | refine goP ?_ | apply PSeq.cons | apply PSeq.yes rfl rfl rfl | exact goW | fail)
    refine Cw.region_seqF (m := 15) [2, 3, 4] rfl (by decide +kernel) rfl (fun ac w d => ?_) ?_
    ·have h9 := rd_raw (d.env 9 _ rfl)
     have hz : ac.tmps.size = 53 := d.tmps
     have h9' : ac.tmps[9]'(by omega) = .int .i64 (j : Int) := by simpa [hz] using h9
     exact FlRun.move rfl rfl rfl rfl (FlRun.move rfl rfl rfl rfl (FlRun.sub1 (p := (j : Int)) rfl rfl rfl rfl (by simp [Act.put, Act.eval, hz, h9']) FlRun.nil))
    repeat' (first | refine goH ?_ | refine goV ?_ | refine goG ?_ | (refine Ops.k_guard ?_; first | (refine Ops.guard_dec rfl rfl ?_ ?_ <;> intro hc <;> try omega) | refine Ops.guard_split rfl rfl ?_ ?_ <;> intro hc) | refine goI ?_ | (refine Cw.k_cond ?_; first | (refine Cw.cond_dec rfl ?_ ?_ <;> intro hc <;> try omega) | refine Cw.cond_bool rfl ?_ ?_ <;> intro hc) | refine NoP.norm ?_ | refine goR ?_ | refine goP ?_ | apply PSeq.cons | apply PSeq.yes rfl rfl rfl | exact goW | fail)
    rw [show (j : Int) - 1 = ((j - 1 : Nat) : Int) by omega] at *
    exact ⟨_, _, _, (Ent.mkP goSub goPm), ⟨j - 1, Z, _, rfl, ⟨by omega, by omega, hS, hV, hres⟩, rfl, rfl⟩, by omega⟩
   ·rw [insJ_end (fun h => hc h.2)] at hV
    generalize ix W (j - 1) = y at *
    generalize ix W j = x at *
    generalize cf x y = o at *
    repeat' (first | refine goH ?_ | refine goV ?_ | refine goG ?_ | (refine Ops.k_guard ?_; first | (refine Ops.guard_dec rfl rfl ?_ ?_ <;> intro hc <;> try omega) | refine Ops.guard_split rfl rfl ?_ ?_ <;> intro hc) | refine goI ?_ | (refine Cw.k_cond ?_; first | (refine Cw.cond_dec rfl ?_ ?_ <;> intro hc <;> try omega) | refine Cw.cond_bool rfl ?_ ?_ <;> intro hc) | exact OpW.callS_fn rfl hspec (Evs.cons rfl (Evs.cons rfl Evs.nil)) List.perm_append_comm | refine goR ?_ | refine goP ?_ | apply PSeq.cons | apply PSeq.yes rfl rfl rfl | exact goW | fail)
    rw [show ((a + 1 + k : Nat) : Int) + 1 = ((a + 1 + (k + 1) : Nat) : Int) by omega]
    exact ⟨_, _, _, (Ent.mkP goSub goPm), ⟨k + 1, rows, rfl, ⟨by omega, by rw [hrows, hV]⟩, rfl, rfl⟩, by omega⟩
  ·rw [insJ_end (fun h => hja h.1)] at hV
   repeat' (first | refine goH ?_ | refine goV ?_ | refine goG ?_ | (refine Ops.k_guard ?_; first | (refine Ops.guard_dec rfl rfl ?_ ?_ <;> intro hc <;> try omega) | refine Ops.guard_split rfl rfl ?_ ?_ <;> intro hc) | refine goI ?_ | (refine Cw.k_cond ?_; first | (refine Cw.cond_dec rfl ?_ ?_ <;> intro hc <;> try omega) | refine Cw.cond_bool rfl ?_ ?_ <;> intro hc) | refine goR ?_ | refine goP ?_ | apply PSeq.cons | apply PSeq.yes rfl rfl rfl | exact goW | fail)
   rw [show ((a + 1 + k : Nat) : Int) + 1 = ((a + 1 + (k + 1) : Nat) : Int) by omega]
   exact ⟨_, _, _, (Ent.mkP goSub goPm), ⟨k + 1, rows, rfl, ⟨by omega, by rw [hrows, hV]⟩, rfl, rfl⟩, by omega⟩
 ·have hke : b - a - 1 = k := by omega
  rw [hke]
  subst hrows
  repeat' (first | refine goH ?_ | refine goV ?_ | refine goG ?_ | (refine Ops.k_guard ?_; first | (refine Ops.guard_dec rfl rfl ?_ ?_ <;> intro hc <;> try omega) | refine Ops.guard_split rfl rfl ?_ ?_ <;> intro hc) | refine goI ?_ | (refine Cw.k_cond ?_; first | (refine Cw.cond_dec rfl ?_ ?_ <;> intro hc <;> try omega) | refine Cw.cond_bool rfl ?_ ?_ <;> intro hc) | refine goR ?_ | refine goP ?_ | apply PSeq.cons | apply PSeq.yes rfl rfl rfl | exact goW | fail)
  first | exact Fin.norm (Ent.mkP goSub goPm) (Outs.zero rfl) ⟨rfl, rfl⟩ | exact Fin.ret (Ent.mkP goSub goPm) (Outs.zero rfl) ⟨rfl, rfl⟩
end Lg
