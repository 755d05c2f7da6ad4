/- A part of the proof of a law of this seat: it adds no condition. By an AI agent. -/
import Derived.Test.YthgcdnfhfejijaaGreatDoorSS3
set_option linter.all false
set_option maxRecDepth 100000
set_option maxHeartbeats 8000000
namespace Lg
open Go Go.Proofs

/-- symMerge, by what is left -/
theorem symMerge_fn {ad : Option Addr} {cap N : Nat} {V : Int → Prop} {cf : Int → Int → Int} {g : Nat} {caps : List Value} {cin : List Chunk} (hs : CmpS V cf g caps cin) (hN : N ≤ 1000000) : ∀ (n : Nat) (L : List Int) (a m b : Nat), LOf V N L → b - a ≤ n → a < m → m < b → b ≤ N →
  Spec Tryz.prog 123 [Tr.raw (.slice ad N cap), .int a, .int m, .int b, Tr.raw (.func (.func g) #[] caps.toArray)] (Chunk.own ad cap 1 3 (intRows L) :: cin) (fun r cs => ∃ R, r = Tr.tup [] ∧ cs = Chunk.own ad cap 1 3 (intRows R) :: cin ∧ LOf V N R ∧ Sym cf L a m b R)
 |0, L, a, m, b, hL, hn, h1, h2, hb => absurd hn (by omega)
 |n + 1, L, a, m, b, hL, hn, h1, h2, hb => by
  have ih := symMerge_fn (ad := ad) (cap := cap) hs hN n
  have hlL := hL.len
  have hrL : (intRows L).length = N := by rw [intRows_len, hlL]
  refine Spec.body Tryz.func123 rfl rfl (Tryz.ntmps123) rfl fun w0 own0 M => ?_
  by_cases c1 : m - a = 1
  ·repeat' (first | refine goH ?_ | refine goV ?_ | refine goG ?_ | (refine Ops.k_guard ?_; first | (refine Ops.guard_dec rfl rfl ?_ ?_ <;> intro hc <;> try omega) | refine Ops.guard_split rfl rfl ?_ ?_ <;> intro hc) | refine goI ?_ | (refine Cw.k_cond ?_; first | (refine Cw.cond_dec rfl ?_ ?_ <;> intro hc <;> try omega) | refine Cw.cond_bool rfl ?_ ?_ <;> intro hc) | refine goR ?_ | refine goP ?_ | apply PSeq.cons | apply PSeq.yes rfl rfl rfl | exact goW | fail)
   refine Cw.loopI [(0, _), (1, _), (2, _), (3, _), (4, _)] cin (fun q e c => ∃ (i j : Nat), q = j - i ∧ (m ≤ i ∧ i ≤ j ∧ j ≤ b ∧ ∀ s, Bs (fun h => decide (cf (ix L h) (ix L a) < 0)) i j s → Bs (fun h => decide (cf (ix L h) (ix L a) < 0)) m b s) ∧ e = [(10, .int (i : Int)), (11, .int (j : Int))] ∧ c = [Chunk.own ad cap 1 3 (intRows L)]) ⟨_, _, _, (Ent.mkP goSub goPm), m, b, rfl, ⟨Nat.le_refl _, by omega, Nat.le_refl _, fun s h => h⟩, rfl, rfl⟩ ?_
   rintro _ _ _ ⟨i, j, rfl, ⟨hi1, hij, hj1, hB⟩, rfl, rfl⟩
   by_cases hlt : i < j
   ·obtain ⟨h, hh⟩ : ∃ h, h = (i + j) / 2 := ⟨_, rfl⟩
    have r1 : (intRows L)[(((i : Int) + (j : Int)) / 2).toNat]? = some [Tr.int (ix L h)] := by rw [show (((i : Int) + (j : Int)) / 2).toNat = h by omega]; exact ixR (by omega)
    have r2 : (intRows L)[((a : Nat) : Int).toNat]? = some [Tr.int (ix L a)] := by rw [show ((a : Nat) : Int).toNat = a by omega]; exact ixR (by omega)
    have hspec := hs ((ix L h)) ((ix L a)) (hL.ix (by omega)) (hL.ix (by omega))
    by_cases hc : cf ((ix L h)) ((ix L a)) < 0
    ·have hB2 := fun s (k : Bs (fun h => decide (cf (ix L h) (ix L a) < 0)) (h + 1) j s) => hB s (Bs.up hlt (by rw [← hh]; show decide _ = _; exact decide_eq_true hc) (by rw [← hh]; exact k))
     generalize cf ((ix L h)) ((ix L a)) = o at *
     generalize (ix L h) = xx at *
     generalize (ix L a) = yy at *
     clear hB
     repeat' (first | refine goH ?_ | (refine Ops.k_convert ?_; first | (refine Ops.convN Tryz.underlying3 Tryz.underlying142 rfl (wrap_u64 (by omega)) rfl ?_) | (refine Ops.convN Tryz.underlying142 Tryz.underlying3 rfl (wrap_i64 (by omega)) rfl ?_)) | refine goV ?_ | refine goG ?_ | (refine Ops.k_guard ?_; first | (refine Ops.guard_dec rfl rfl ?_ ?_ <;> intro hc <;> try omega) | refine Ops.guard_split rfl rfl ?_ ?_ <;> intro hc) | refine goI ?_ | (refine Cw.k_cond ?_; first | (refine Cw.cond_dec rfl ?_ ?_ <;> intro hc <;> try omega) | refine Cw.cond_bool rfl ?_ ?_ <;> intro hc) | (refine Ops.k_b_shr ?_; refine Ops.shr1 rfl rfl rfl ?_) | exact OpW.callS_fn rfl hspec (Evs.cons rfl (Evs.cons rfl Evs.nil)) List.perm_append_comm | refine goR ?_ | refine goP ?_ | apply PSeq.cons | apply PSeq.yes rfl rfl rfl | exact goW | fail)
     rw [show ((i : Int) + (j : Int)) / 2 = (h : Int) by omega]
     exact ⟨_, _, _, (Ent.mkP goSub goPm), ⟨h + 1, j, rfl, ⟨by omega, by omega, by omega, hB2⟩, rfl, rfl⟩, by omega⟩
    ·have hB2 := fun s (k : Bs (fun h => decide (cf (ix L h) (ix L a) < 0)) i h s) => hB s (Bs.dn hlt (by rw [← hh]; show decide _ = _; exact decide_eq_false hc) (by rw [← hh]; exact k))
     generalize cf ((ix L h)) ((ix L a)) = o at *
     generalize (ix L h) = xx at *
     generalize (ix L a) = yy at *
     clear hB
     repeat' (first | refine goH ?_ | (refine Ops.k_convert ?_; first | (refine Ops.convN Tryz.underlying3 Tryz.underlying142 rfl (wrap_u64 (by omega)) rfl ?_) | (refine Ops.convN Tryz.underlying142 Tryz.underlying3 rfl (wrap_i64 (by omega)) rfl ?_)) | refine goV ?_ | refine goG ?_ | (refine Ops.k_guard ?_; first | (refine Ops.guard_dec rfl rfl ?_ ?_ <;> intro hc <;> try omega) | refine Ops.guard_split rfl rfl ?_ ?_ <;> intro hc) | refine goI ?_ | (refine Cw.k_cond ?_; first | (refine Cw.cond_dec rfl ?_ ?_ <;> intro hc <;> try omega) | refine Cw.cond_bool rfl ?_ ?_ <;> intro hc) | (refine Ops.k_b_shr ?_; refine Ops.shr1 rfl rfl rfl ?_) | exact OpW.callS_fn rfl hspec (Evs.cons rfl (Evs.cons rfl Evs.nil)) List.perm_append_comm | refine goR ?_ | refine goP ?_ | apply PSeq.cons | apply PSeq.yes rfl rfl rfl | exact goW | fail)
     rw [show ((i : Int) + (j : Int)) / 2 = (h : Int) by omega]
     exact ⟨_, _, _, (Ent.mkP goSub goPm), ⟨i, h, rfl, ⟨by omega, by omega, by omega, hB2⟩, rfl, rfl⟩, by omega⟩
   have hB0 := hB i (Bs.done hlt)
   clear hB
   repeat' (first | refine goH ?_ | refine goV ?_ | refine goG ?_ | (refine Ops.k_guard ?_; first | (refine Ops.guard_dec rfl rfl ?_ ?_ <;> intro hc <;> try omega) | refine Ops.guard_split rfl rfl ?_ ?_ <;> intro hc) | refine goI ?_ | (refine Cw.k_cond ?_; first | (refine Cw.cond_dec rfl ?_ ?_ <;> intro hc <;> try omega) | refine Cw.cond_bool rfl ?_ ?_ <;> intro hc) | refine goR ?_ | refine goP ?_ | apply PSeq.cons | apply PSeq.yes rfl rfl rfl | exact goW | fail)
   refine Cw.loopI [(0, _), (1, _), (2, _), (3, _), (4, _), (10, _)] cin (fun q e c => ∃ (t : Nat) (rows : List (List Tr)), q = i - 1 - a - t ∧ (t ≤ i - 1 - a ∧ rows = intRows (mvU L a t)) ∧ e = [(13, .int ((a + t : Nat) : Int))] ∧ c = [Chunk.own ad cap 1 3 rows]) ⟨_, _, _, (Ent.mkP goSub goPm), 0, _, rfl, ⟨by omega, rfl⟩, rfl, rfl⟩ ?_
   rintro _ _ _ ⟨t, rows, rfl, ⟨ht, hrows⟩, rfl, rfl⟩
   have hW := hL.mvU (a := a) (n := t) (by omega)
   by_cases htl : t < i - 1 - a
   ·have hlen := hW.len
    have hrl : rows.length = N := by rw [hrows, intRows_len, hlen]
    have rx : rows[((a + t : Nat) : Int).toNat]? = some [Tr.int (ix (mvU L a t) (a + t))] := by rw [hrows, show ((a + t : Nat) : Int).toNat = a + t by omega]; exact ixR (by omega)
    have ry : rows[(((a + t : Nat) : Int) + 1).toNat]? = some [Tr.int (ix (mvU L a t) (a + t + 1))] := by rw [hrows, show (((a + t : Nat) : Int) + 1).toNat = a + t + 1 by omega]; exact ixR (by omega)
    have hset : (rows.set ((a + t : Nat) : Int).toNat [Tr.int (ix (mvU L a t) (a + t + 1))])[(((a + t : Nat) : Int) + 1).toNat]? = some [Tr.int (ix (mvU L a t) (a + t + 1))] := by rw [List.getElem?_set_ne (by omega)]; exact ry
    have hlen2 : (rows.set ((a + t : Nat) : Int).toNat [Tr.int (ix (mvU L a t) (a + t + 1))]).length = N := by rw [List.length_set]; exact hrl
    have hres : (rows.set ((a + t : Nat) : Int).toNat [Tr.int (ix (mvU L a t) (a + t + 1))]).set (((a + t : Nat) : Int) + 1).toNat [Tr.int (ix (mvU L a t) (a + t))] = intRows (mvU L a (t + 1)) := by rw [hrows, show ((a + t : Nat) : Int).toNat = a + t by omega, show (((a + t : Nat) : Int) + 1).toNat = a + t + 1 by omega, ints_setS, ints_setS]; rfl
    generalize ix (mvU L a t) (a + t + 1) = y at *
    generalize ix (mvU L a t) (a + t) = x at *
    clear hrows hlen hW
    repeat' (first | refine goH ?_ | refine goV ?_ | refine goG ?_ | (refine Ops.k_guard ?_; first | (refine Ops.guard_dec rfl rfl ?_ ?_ <;> intro hc <;> try omega) | refine Ops.guard_split rfl rfl ?_ ?_ <;> intro hc) | refine goI ?_ | (refine Cw.k_cond ?_; first | (refine Cw.cond_dec rfl ?_ ?_ <;> intro hc <;> try omega) | refine Cw.cond_bool rfl ?_ ?_ <;> intro hc) | fail)
    refine Cw.region_seqF (m := 15) [2, 3, 4] rfl (by decide +kernel) rfl (fun ac w d => ?_) ?_
    ·have hk := rd_raw (d.env 13 _ rfl)
     have hz : ac.tmps.size = 220 := d.tmps
     have hk' : ac.tmps[13]'(by omega) = .int .i64 ((a + t : Nat) : Int) := by simpa [hz] using hk
     exact FlRun.move rfl rfl rfl rfl (FlRun.move rfl rfl rfl rfl (FlRun.addG (p := ((a + t : Nat) : Int)) (q := 1) rfl rfl rfl rfl (by simp [Act.put, Act.eval, hz, hk']) rfl FlRun.nil))
    repeat' (first | refine goH ?_ | refine goV ?_ | refine goG ?_ | (refine Ops.k_guard ?_; first | (refine Ops.guard_dec rfl rfl ?_ ?_ <;> intro hc <;> try omega) | refine Ops.guard_split rfl rfl ?_ ?_ <;> intro hc) | refine goI ?_ | (refine Cw.k_cond ?_; first | (refine Cw.cond_dec rfl ?_ ?_ <;> intro hc <;> try omega) | refine Cw.cond_bool rfl ?_ ?_ <;> intro hc) | refine NoP.norm ?_ | refine goR ?_ | refine goP ?_ | apply PSeq.cons | apply PSeq.yes rfl rfl rfl | exact goW | fail)
    rw [show ((a + t : Nat) : Int) + 1 = ((a + (t + 1) : Nat) : Int) by omega] at *
    exact ⟨_, _, _, (Ent.mkP goSub goPm), ⟨t + 1, _, rfl, ⟨by omega, hres⟩, rfl, rfl⟩, by omega⟩
   have hte : t = i - 1 - a := by omega
   subst hrows
   rw [hte] at hW ⊢
   repeat' (first | refine goH ?_ | refine goV ?_ | refine goG ?_ | (refine Ops.k_guard ?_; first | (refine Ops.guard_dec rfl rfl ?_ ?_ <;> intro hc <;> try omega) | refine Ops.guard_split rfl rfl ?_ ?_ <;> intro hc) | refine goI ?_ | (refine Cw.k_cond ?_; first | (refine Cw.cond_dec rfl ?_ ?_ <;> intro hc <;> try omega) | refine Cw.cond_bool rfl ?_ ?_ <;> intro hc) | refine goR ?_ | refine goP ?_ | apply PSeq.cons | apply PSeq.yes rfl rfl rfl | exact goW | fail)
   all_goals first | exact Fin.norm (Ent.mkP goSub (by simp)) (Outs.zero rfl) ⟨_, rfl, rfl, hW, Sym.one c1 hB0⟩ | exact Fin.ret (Ent.mkP goSub (by simp)) (Outs.zero rfl) ⟨_, rfl, rfl, hW, Sym.one c1 hB0⟩
  by_cases c2 : b - m = 1
  ·repeat' (first | refine goH ?_ | refine goV ?_ | refine goG ?_ | (refine Ops.k_guard ?_; first | (refine Ops.guard_dec rfl rfl ?_ ?_ <;> intro hc <;> try omega) | refine Ops.guard_split rfl rfl ?_ ?_ <;> intro hc) | refine goI ?_ | (refine Cw.k_cond ?_; first | (refine Cw.cond_dec rfl ?_ ?_ <;> intro hc <;> try omega) | refine Cw.cond_bool rfl ?_ ?_ <;> intro hc) | refine goR ?_ | refine goP ?_ | apply PSeq.cons | apply PSeq.yes rfl rfl rfl | exact goW | fail)
   refine Cw.loopI [(0, _), (1, _), (2, _), (3, _), (4, _)] cin (fun q e c => ∃ (i j : Nat), q = j - i ∧ (a ≤ i ∧ i ≤ j ∧ j ≤ m ∧ ∀ s, Bs (fun h => !decide (cf (ix L m) (ix L h) < 0)) i j s → Bs (fun h => !decide (cf (ix L m) (ix L h) < 0)) a m s) ∧ e = [(14, .int (i : Int)), (15, .int (j : Int))] ∧ c = [Chunk.own ad cap 1 3 (intRows L)]) ⟨_, _, _, (Ent.mkP goSub goPm), a, m, rfl, ⟨Nat.le_refl _, by omega, Nat.le_refl _, fun s h => h⟩, rfl, rfl⟩ ?_
   rintro _ _ _ ⟨i, j, rfl, ⟨hi1, hij, hj1, hB⟩, rfl, rfl⟩
   by_cases hlt : i < j
   ·obtain ⟨h, hh⟩ : ∃ h, h = (i + j) / 2 := ⟨_, rfl⟩
    have r1 : (intRows L)[((m : Nat) : Int).toNat]? = some [Tr.int (ix L m)] := by rw [show ((m : Nat) : Int).toNat = m by omega]; exact ixR (by omega)
    have r2 : (intRows L)[(((i : Int) + (j : Int)) / 2).toNat]? = some [Tr.int (ix L h)] := by rw [show (((i : Int) + (j : Int)) / 2).toNat = h by omega]; exact ixR (by omega)
    have hspec := hs ((ix L m)) ((ix L h)) (hL.ix (by omega)) (hL.ix (by omega))
    by_cases hc : cf ((ix L m)) ((ix L h)) < 0
    ·have hB2 := fun s (k : Bs (fun h => !decide (cf (ix L m) (ix L h) < 0)) i h s) => hB s (Bs.dn hlt (by rw [← hh]; show (!decide _) = _; rw [decide_eq_true hc]; rfl) (by rw [← hh]; exact k))
     generalize cf ((ix L m)) ((ix L h)) = o at *
     generalize (ix L m) = xx at *
     generalize (ix L h) = yy at *
     clear hB
     repeat' (first | refine goH ?_ | (refine Ops.k_convert ?_; first | (refine Ops.convN Tryz.underlying3 Tryz.underlying142 rfl (wrap_u64 (by omega)) rfl ?_) | (refine Ops.convN Tryz.underlying142 Tryz.underlying3 rfl (wrap_i64 (by omega)) rfl ?_)) | refine goV ?_ | refine goG ?_ | (refine Ops.k_guard ?_; first | (refine Ops.guard_dec rfl rfl ?_ ?_ <;> intro hc <;> try omega) | refine Ops.guard_split rfl rfl ?_ ?_ <;> intro hc) | refine goI ?_ | (refine Cw.k_cond ?_; first | (refine Cw.cond_dec rfl ?_ ?_ <;> intro hc <;> try omega) | refine Cw.cond_bool rfl ?_ ?_ <;> intro hc) | (refine Ops.k_b_shr ?_; refine Ops.shr1 rfl rfl rfl ?_) | exact OpW.callS_fn rfl hspec (Evs.cons rfl (Evs.cons rfl Evs.nil)) List.perm_append_comm | refine goR ?_ | refine goP ?_ | apply PSeq.cons | apply PSeq.yes rfl rfl rfl | exact goW | fail)
     rw [show ((i : Int) + (j : Int)) / 2 = (h : Int) by omega]
     exact ⟨_, _, _, (Ent.mkP goSub goPm), ⟨i, h, rfl, ⟨by omega, by omega, by omega, hB2⟩, rfl, rfl⟩, by omega⟩
    ·have hB2 := fun s (k : Bs (fun h => !decide (cf (ix L m) (ix L h) < 0)) (h + 1) j s) => hB s (Bs.up hlt (by rw [← hh]; show (!decide _) = _; rw [decide_eq_false hc]; rfl) (by rw [← hh]; exact k))
     generalize cf ((ix L m)) ((ix L h)) = o at *
     generalize (ix L m) = xx at *
     generalize (ix L h) = yy at *
     clear hB
     repeat' (first | refine goH ?_ | (refine Ops.k_convert ?_; first | (refine Ops.convN Tryz.underlying3 Tryz.underlying142 rfl (wrap_u64 (by omega)) rfl ?_) | (refine Ops.convN Tryz.underlying142 Tryz.underlying3 rfl (wrap_i64 (by omega)) rfl ?_)) | refine goV ?_ | refine goG ?_ | (refine Ops.k_guard ?_; first | (refine Ops.guard_dec rfl rfl ?_ ?_ <;> intro hc <;> try omega) | refine Ops.guard_split rfl rfl ?_ ?_ <;> intro hc) | refine goI ?_ | (refine Cw.k_cond ?_; first | (refine Cw.cond_dec rfl ?_ ?_ <;> intro hc <;> try omega) | refine Cw.cond_bool rfl ?_ ?_ <;> intro hc) | (refine Ops.k_b_shr ?_; refine Ops.shr1 rfl rfl rfl ?_) | exact OpW.callS_fn rfl hspec (Evs.cons rfl (Evs.cons rfl Evs.nil)) List.perm_append_comm | refine goR ?_ | refine goP ?_ | apply PSeq.cons | apply PSeq.yes rfl rfl rfl | exact goW | fail)
     rw [show ((i : Int) + (j : Int)) / 2 = (h : Int) by omega]
     exact ⟨_, _, _, (Ent.mkP goSub goPm), ⟨h + 1, j, rfl, ⟨by omega, by omega, by omega, hB2⟩, rfl, rfl⟩, by omega⟩
   have hB0 := hB i (Bs.done hlt)
   clear hB
   repeat' (first | refine goH ?_ | refine goV ?_ | refine goG ?_ | (refine Ops.k_guard ?_; first | (refine Ops.guard_dec rfl rfl ?_ ?_ <;> intro hc <;> try omega) | refine Ops.guard_split rfl rfl ?_ ?_ <;> intro hc) | refine goI ?_ | (refine Cw.k_cond ?_; first | (refine Cw.cond_dec rfl ?_ ?_ <;> intro hc <;> try omega) | refine Cw.cond_bool rfl ?_ ?_ <;> intro hc) | refine goR ?_ | refine goP ?_ | apply PSeq.cons | apply PSeq.yes rfl rfl rfl | exact goW | fail)
   refine Cw.loopI [(0, _), (1, _), (2, _), (3, _), (4, _), (14, _)] cin (fun q e c => ∃ (t : Nat) (rows : List (List Tr)), q = m - i - t ∧ (t ≤ m - i ∧ rows = intRows (mvD L m t)) ∧ e = [(17, .int ((m - t : Nat) : Int))] ∧ c = [Chunk.own ad cap 1 3 rows]) ⟨_, _, _, (Ent.mkP goSub goPm), 0, _, rfl, ⟨by omega, rfl⟩, rfl, rfl⟩ ?_
   rintro _ _ _ ⟨t, rows, rfl, ⟨ht, hrows⟩, rfl, rfl⟩
   have hW := hL.mvD (m := m) (by omega) (n := t)
   by_cases htl : t < m - i
   ·have hlen := hW.len
    have hrl : rows.length = N := by rw [hrows, intRows_len, hlen]
    have rx : rows[((m - t : Nat) : Int).toNat]? = some [Tr.int (ix (mvD L m t) (m - t))] := by rw [hrows, show ((m - t : Nat) : Int).toNat = m - t by omega]; exact ixR (by omega)
    have ry : rows[(((m - t : Nat) : Int) - 1).toNat]? = some [Tr.int (ix (mvD L m t) (m - t - 1))] := by rw [hrows, show (((m - t : Nat) : Int) - 1).toNat = m - t - 1 by omega]; exact ixR (by omega)
    have hset : (rows.set ((m - t : Nat) : Int).toNat [Tr.int (ix (mvD L m t) (m - t - 1))])[(((m - t : Nat) : Int) - 1).toNat]? = some [Tr.int (ix (mvD L m t) (m - t - 1))] := by rw [List.getElem?_set_ne (by omega)]; exact ry
    have hlen2 : (rows.set ((m - t : Nat) : Int).toNat [Tr.int (ix (mvD L m t) (m - t - 1))]).length = N := by rw [List.length_set]; exact hrl
    have hres : (rows.set ((m - t : Nat) : Int).toNat [Tr.int (ix (mvD L m t) (m - t - 1))]).set (((m - t : Nat) : Int) - 1).toNat [Tr.int (ix (mvD L m t) (m - t))] = intRows (mvD L m (t + 1)) := by rw [hrows, show ((m - t : Nat) : Int).toNat = m - t by omega, show (((m - t : Nat) : Int) - 1).toNat = m - t - 1 by omega, ints_setS, ints_setS]; rfl
    generalize ix (mvD L m t) (m - t - 1) = y at *
    generalize ix (mvD L m t) (m - t) = x at *
    clear hrows hlen hW
    repeat' (first | refine goH ?_ | refine goV ?_ | refine goG ?_ | (refine Ops.k_guard ?_; first | (refine Ops.guard_dec rfl rfl ?_ ?_ <;> intro hc <;> try omega) | refine Ops.guard_split rfl rfl ?_ ?_ <;> intro hc) | refine goI ?_ | (refine Cw.k_cond ?_; first | (refine Cw.cond_dec rfl ?_ ?_ <;> intro hc <;> try omega) | refine Cw.cond_bool rfl ?_ ?_ <;> intro hc) | fail)
    refine Cw.region_seqF (m := 15) [2, 3, 4] rfl (by decide +kernel) rfl (fun ac w d => ?_) ?_
    ·have hk := rd_raw (d.env 17 _ rfl)
     have hz : ac.tmps.size = 220 := d.tmps
     have hk' : ac.tmps[17]'(by omega) = .int .i64 ((m - t : Nat) : Int) := by simpa [hz] using hk
     exact FlRun.move rfl rfl rfl rfl (FlRun.move rfl rfl rfl rfl (FlRun.sub1 (p := ((m - t : Nat) : Int)) rfl rfl rfl rfl (by simp [Act.put, Act.eval, hz, hk']) FlRun.nil))
    repeat' (first | refine goH ?_ | refine goV ?_ | refine goG ?_ | (refine Ops.k_guard ?_; first | (refine Ops.guard_dec rfl rfl ?_ ?_ <;> intro hc <;> try omega) | refine Ops.guard_split rfl rfl ?_ ?_ <;> intro hc) | refine goI ?_ | (refine Cw.k_cond ?_; first | (refine Cw.cond_dec rfl ?_ ?_ <;> intro hc <;> try omega) | refine Cw.cond_bool rfl ?_ ?_ <;> intro hc) | refine NoP.norm ?_ | refine goR ?_ | refine goP ?_ | apply PSeq.cons | apply PSeq.yes rfl rfl rfl | exact goW | fail)
    rw [show ((m - t : Nat) : Int) - 1 = ((m - (t + 1) : Nat) : Int) by omega] at *
    exact ⟨_, _, _, (Ent.mkP goSub goPm), ⟨t + 1, _, rfl, ⟨by omega, hres⟩, rfl, rfl⟩, by omega⟩
   have hte : t = m - i := by omega
   subst hrows
   rw [hte] at hW ⊢
   repeat' (first | refine goH ?_ | refine goV ?_ | refine goG ?_ | (refine Ops.k_guard ?_; first | (refine Ops.guard_dec rfl rfl ?_ ?_ <;> intro hc <;> try omega) | refine Ops.guard_split rfl rfl ?_ ?_ <;> intro hc) | refine goI ?_ | (refine Cw.k_cond ?_; first | (refine Cw.cond_dec rfl ?_ ?_ <;> intro hc <;> try omega) | refine Cw.cond_bool rfl ?_ ?_ <;> intro hc) | refine goR ?_ | refine goP ?_ | apply PSeq.cons | apply PSeq.yes rfl rfl rfl | exact goW | fail)
   all_goals first | exact Fin.norm (Ent.mkP goSub (by simp)) (Outs.zero rfl) ⟨_, rfl, rfl, hW, Sym.two c1 c2 hB0⟩ | exact Fin.ret (Ent.mkP goSub (by simp)) (Outs.zero rfl) ⟨_, rfl, rfl, hW, Sym.two c1 c2 hB0⟩
  obtain ⟨d, hd⟩ : ∃ d, d = (a + b) / 2 := ⟨_, rfl⟩
  obtain ⟨u, hu⟩ : ∃ u, u = if d < m then d + m - b else a := ⟨_, rfl⟩
  obtain ⟨v, hv⟩ : ∃ v, v = if d < m then d else m := ⟨_, rfl⟩
  have huv : a ≤ u ∧ u ≤ v ∧ v ≤ m ∧ v ≤ d := by
   by_cases c : d < m
   ·rw [if_pos c] at hu hv; omega
   ·rw [if_neg c] at hu hv; omega
  have F1 : ∀ c, u ≤ c → c < v → c ≤ d + m - 1 ∧ d + m - 1 - c < b ∧ c < b := fun c g1 g2 => by
   by_cases c : d < m
   ·rw [if_pos c] at hu hv; omega
   ·rw [if_neg c] at hu hv; omega
  have F2 : ∀ s, u ≤ s → s ≤ v → d + m - s ≤ b ∧ s ≤ d + m := fun s g1 g2 => by
   by_cases c : d < m
   ·rw [if_pos c] at hu hv; omega
   ·rw [if_neg c] at hu hv; omega
  have e18 : ((a : Int) + (b : Int)) / 2 = (d : Int) := by omega
  obtain ⟨w, hw⟩ : ∃ w, w = d + m - 1 := ⟨_, rfl⟩
  obtain ⟨z, hzz⟩ : ∃ z, z = d + m := ⟨_, rfl⟩
  by_cases cd : d < m
  ·rw [if_pos cd] at hu hv
   repeat' (first | refine goH ?_ | (refine Ops.k_convert ?_; first | (refine Ops.convN Tryz.underlying3 Tryz.underlying142 rfl (wrap_u64 (by omega)) rfl ?_) | (refine Ops.convN Tryz.underlying142 Tryz.underlying3 rfl (wrap_i64 (by omega)) rfl ?_)) | refine goV ?_ | refine goG ?_ | (refine Ops.k_guard ?_; first | (refine Ops.guard_dec rfl rfl ?_ ?_ <;> intro hc <;> try omega) | refine Ops.guard_split rfl rfl ?_ ?_ <;> intro hc) | refine goI ?_ | (refine Cw.k_cond ?_; first | (refine Cw.cond_dec rfl ?_ ?_ <;> intro hc <;> try omega) | refine Cw.cond_bool rfl ?_ ?_ <;> intro hc) | (refine Ops.k_b_shr ?_; refine Ops.shr1 rfl rfl rfl ?_) | exact OpW.callS_fn rfl hspec (Evs.cons rfl (Evs.cons rfl Evs.nil)) List.perm_append_comm | refine goR ?_ | refine goP ?_ | apply PSeq.cons | apply PSeq.yes rfl rfl rfl | exact goW | fail)
   rw [e18]
   rw [show (d : Int) + (m : Int) - (b : Int) = (u : Int) by omega, show (d : Int) + (m : Int) - 1 = (w : Int) by omega, show (d : Int) + (m : Int) = (z : Int) by omega]
   refine Cw.loopI [(0, _), (1, _), (2, _), (3, _), (4, _), (18, _), (19, _), (22, _)] cin (fun q e c => ∃ (i j : Nat), q = j - i ∧ (u ≤ i ∧ i ≤ j ∧ j ≤ v ∧ ∀ s, Bs (fun c => !decide (cf (ix L (d + m - 1 - c)) (ix L c) < 0)) i j s → Bs (fun c => !decide (cf (ix L (d + m - 1 - c)) (ix L c) < 0)) u v s) ∧ e = [(20, .int (i : Int)), (21, .int (j : Int))] ∧ c = [Chunk.own ad cap 1 3 (intRows L)]) ⟨_, _, _, (Ent.mkP goSub goPm), u, d, rfl, ⟨Nat.le_refl _, by omega, by omega, by rw [hv]; exact fun s h => h⟩, rfl, rfl⟩ ?_
   rintro _ _ _ ⟨i, j, rfl, ⟨hi1, hij, hj1, hB⟩, rfl, rfl⟩
   by_cases hlt : i < j
   ·obtain ⟨h, hh⟩ : ∃ h, h = (i + j) / 2 := ⟨_, rfl⟩
    have hF1 := F1 h (by omega) (by omega)
    have r1 : (intRows L)[((w : Int) - ((i : Int) + (j : Int)) / 2).toNat]? = some [Tr.int (ix L (d + m - 1 - h))] := by rw [show ((w : Int) - ((i : Int) + (j : Int)) / 2).toNat = d + m - 1 - h by omega]; exact ixR (by omega)
    have r2 : (intRows L)[(((i : Int) + (j : Int)) / 2).toNat]? = some [Tr.int (ix L h)] := by rw [show (((i : Int) + (j : Int)) / 2).toNat = h by omega]; exact ixR (by omega)
    have hspec := hs ((ix L (d + m - 1 - h))) ((ix L h)) (hL.ix (by omega)) (hL.ix (by omega))
    by_cases hc : cf ((ix L (d + m - 1 - h))) ((ix L h)) < 0
    ·have hB2 := fun s (k : Bs (fun c => !decide (cf (ix L (d + m - 1 - c)) (ix L c) < 0)) i h s) => hB s (Bs.dn hlt (by rw [← hh]; show (!decide _) = _; rw [decide_eq_true hc]; rfl) (by rw [← hh]; exact k))
     generalize cf ((ix L (d + m - 1 - h))) ((ix L h)) = o at *
     generalize (ix L (d + m - 1 - h)) = xx at *
     generalize (ix L h) = yy at *
     clear hB
     repeat' (first | refine goH ?_ | (refine Ops.k_convert ?_; first | (refine Ops.convN Tryz.underlying3 Tryz.underlying142 rfl (wrap_u64 (by omega)) rfl ?_) | (refine Ops.convN Tryz.underlying142 Tryz.underlying3 rfl (wrap_i64 (by omega)) rfl ?_)) | refine goV ?_ | refine goG ?_ | (refine Ops.k_guard ?_; first | (refine Ops.guard_dec rfl rfl ?_ ?_ <;> intro hc <;> try omega) | refine Ops.guard_split rfl rfl ?_ ?_ <;> intro hc) | refine goI ?_ | (refine Cw.k_cond ?_; first | (refine Cw.cond_dec rfl ?_ ?_ <;> intro hc <;> try omega) | refine Cw.cond_bool rfl ?_ ?_ <;> intro hc) | (refine Ops.k_b_shr ?_; refine Ops.shr1 rfl rfl rfl ?_) | exact OpW.callS_fn rfl hspec (Evs.cons rfl (Evs.cons rfl Evs.nil)) List.perm_append_comm | refine goR ?_ | refine goP ?_ | apply PSeq.cons | apply PSeq.yes rfl rfl rfl | exact goW | fail)
     rw [show ((i : Int) + (j : Int)) / 2 = (h : Int) by omega]
     exact ⟨_, _, _, (Ent.mkP goSub goPm), ⟨i, h, rfl, ⟨by omega, by omega, by omega, hB2⟩, rfl, rfl⟩, by omega⟩
    ·have hB2 := fun s (k : Bs (fun c => !decide (cf (ix L (d + m - 1 - c)) (ix L c) < 0)) (h + 1) j s) => hB s (Bs.up hlt (by rw [← hh]; show (!decide _) = _; rw [decide_eq_false hc]; rfl) (by rw [← hh]; exact k))
     generalize cf ((ix L (d + m - 1 - h))) ((ix L h)) = o at *
     generalize (ix L (d + m - 1 - h)) = xx at *
     generalize (ix L h) = yy at *
     clear hB
     repeat' (first | refine goH ?_ | (refine Ops.k_convert ?_; first | (refine Ops.convN Tryz.underlying3 Tryz.underlying142 rfl (wrap_u64 (by omega)) rfl ?_) | (refine Ops.convN Tryz.underlying142 Tryz.underlying3 rfl (wrap_i64 (by omega)) rfl ?_)) | refine goV ?_ | refine goG ?_ | (refine Ops.k_guard ?_; first | (refine Ops.guard_dec rfl rfl ?_ ?_ <;> intro hc <;> try omega) | refine Ops.guard_split rfl rfl ?_ ?_ <;> intro hc) | refine goI ?_ | (refine Cw.k_cond ?_; first | (refine Cw.cond_dec rfl ?_ ?_ <;> intro hc <;> try omega) | refine Cw.cond_bool rfl ?_ ?_ <;> intro hc) | (refine Ops.k_b_shr ?_; refine Ops.shr1 rfl rfl rfl ?_) | exact OpW.callS_fn rfl hspec (Evs.cons rfl (Evs.cons rfl Evs.nil)) List.perm_append_comm | refine goR ?_ | refine goP ?_ | apply PSeq.cons | apply PSeq.yes rfl rfl rfl | exact goW | fail)
     rw [show ((i : Int) + (j : Int)) / 2 = (h : Int) by omega]
     exact ⟨_, _, _, (Ent.mkP goSub goPm), ⟨h + 1, j, rfl, ⟨by omega, by omega, by omega, hB2⟩, rfl, rfl⟩, by omega⟩
   have hB0 := hB i (Bs.done hlt)
   clear hB
   have hF2 := F2 i hi1 (by omega)
   obtain ⟨e, he⟩ : ∃ e, e = d + m - i := ⟨_, rfl⟩
   have ee : (z : Int) - (i : Int) = (e : Int) := by omega
   have huc : u = if d < m then d + m - b else a := by rw [if_pos cd]; exact hu
   have hvc : v = if d < m then d else m := by rw [if_pos cd]; exact hv
   clear F1 F2
   by_cases g1 : i < m ∧ m < e
   ·have kr := rotate_fn (ad := ad) (cap := cap) (fv := .func (.func g) #[] caps.toArray) L hL hN i m e g1.1 g1.2 (by omega)
    by_cases g2 : a < i ∧ i < d
    ·by_cases g3 : d < e ∧ e < b
     ·repeat' (first | refine goH ?_ | refine goV ?_ | refine goG ?_ | (refine Ops.k_guard ?_; first | (refine Ops.guard_dec rfl rfl ?_ ?_ <;> intro hc <;> try omega) | refine Ops.guard_split rfl rfl ?_ ?_ <;> intro hc) | refine goI ?_ | (refine Cw.k_cond ?_; first | (refine Cw.cond_dec rfl ?_ ?_ <;> intro hc <;> try omega) | refine Cw.cond_bool rfl ?_ ?_ <;> intro hc) | (rw [ee]; refine Ops.call (cf := cin) kr (Evs.cons rfl (Evs.cons rfl (Evs.cons rfl (Evs.cons rfl (Evs.cons rfl Evs.nil))))) (by simp) rfl ?_; rintro r cs' ⟨W1, rfl, rfl, hW1, hr1⟩) | (refine Ops.k_calla ?_; first | (refine Ops.call (cf := []) (ih W1 a i d hW1 (by omega) g2.1 g2.2 (by omega)) (Evs.cons rfl (Evs.cons rfl (Evs.cons rfl (Evs.cons rfl (Evs.cons rfl Evs.nil))))) (by simp) rfl ?_; rintro r cs' ⟨W2, rfl, rfl, hW2, hr2⟩) | (refine Ops.call (cf := []) (ih W2 d e b hW2 (by omega) g3.1 g3.2 hb) (Evs.cons rfl (Evs.cons rfl (Evs.cons rfl (Evs.cons rfl (Evs.cons rfl Evs.nil))))) (by simp) rfl ?_; rintro r cs' ⟨W3, rfl, rfl, hW3, hr3⟩)) | refine goR ?_ | refine goP ?_ | apply PSeq.cons | apply PSeq.yes rfl rfl rfl | exact goW | fail)
      all_goals first | exact Fin.norm (Ent.mkP goSub (by simp)) (Outs.zero rfl) ⟨_, rfl, rfl, hW3, Sym.gen (L1 := W1) (L2 := W2) (L3 := W3) c1 c2 hd huc hvc hB0 he (fun _ => hr1) (fun h => absurd g1 h) (fun _ => hr2) (fun h => absurd g2 h) (fun _ => hr3) (fun h => absurd g3 h)⟩ | exact Fin.ret (Ent.mkP goSub (by simp)) (Outs.zero rfl) ⟨_, rfl, rfl, hW3, Sym.gen (L1 := W1) (L2 := W2) (L3 := W3) c1 c2 hd huc hvc hB0 he (fun _ => hr1) (fun h => absurd g1 h) (fun _ => hr2) (fun h => absurd g2 h) (fun _ => hr3) (fun h => absurd g3 h)⟩
     ·repeat' (first | refine goH ?_ | refine goV ?_ | refine goG ?_ | (refine Ops.k_guard ?_; first | (refine Ops.guard_dec rfl rfl ?_ ?_ <;> intro hc <;> try omega) | refine Ops.guard_split rfl rfl ?_ ?_ <;> intro hc) | refine goI ?_ | (refine Cw.k_cond ?_; first | (refine Cw.cond_dec rfl ?_ ?_ <;> intro hc <;> try omega) | refine Cw.cond_bool rfl ?_ ?_ <;> intro hc) | (rw [ee]; refine Ops.call (cf := cin) kr (Evs.cons rfl (Evs.cons rfl (Evs.cons rfl (Evs.cons rfl (Evs.cons rfl Evs.nil))))) (by simp) rfl ?_; rintro r cs' ⟨W1, rfl, rfl, hW1, hr1⟩) | (refine Ops.k_calla ?_; first | (refine Ops.call (cf := []) (ih W1 a i d hW1 (by omega) g2.1 g2.2 (by omega)) (Evs.cons rfl (Evs.cons rfl (Evs.cons rfl (Evs.cons rfl (Evs.cons rfl Evs.nil))))) (by simp) rfl ?_; rintro r cs' ⟨W2, rfl, rfl, hW2, hr2⟩)) | refine goR ?_ | refine goP ?_ | apply PSeq.cons | apply PSeq.yes rfl rfl rfl | exact goW | fail)
      all_goals first | exact Fin.norm (Ent.mkP goSub (by simp)) (Outs.zero rfl) ⟨_, rfl, rfl, hW2, Sym.gen (L1 := W1) (L2 := W2) (L3 := W2) c1 c2 hd huc hvc hB0 he (fun _ => hr1) (fun h => absurd g1 h) (fun _ => hr2) (fun h => absurd g2 h) (fun h => absurd h g3) (fun _ => rfl)⟩ | exact Fin.ret (Ent.mkP goSub (by simp)) (Outs.zero rfl) ⟨_, rfl, rfl, hW2, Sym.gen (L1 := W1) (L2 := W2) (L3 := W2) c1 c2 hd huc hvc hB0 he (fun _ => hr1) (fun h => absurd g1 h) (fun _ => hr2) (fun h => absurd g2 h) (fun h => absurd h g3) (fun _ => rfl)⟩
    ·by_cases g3 : d < e ∧ e < b
     ·repeat' (first | refine goH ?_ | refine goV ?_ | refine goG ?_ | (refine Ops.k_guard ?_; first | (refine Ops.guard_dec rfl rfl ?_ ?_ <;> intro hc <;> try omega) | refine Ops.guard_split rfl rfl ?_ ?_ <;> intro hc) | refine goI ?_ | (refine Cw.k_cond ?_; first | (refine Cw.cond_dec rfl ?_ ?_ <;> intro hc <;> try omega) | refine Cw.cond_bool rfl ?_ ?_ <;> intro hc) | (rw [ee]; refine Ops.call (cf := cin) kr (Evs.cons rfl (Evs.cons rfl (Evs.cons rfl (Evs.cons rfl (Evs.cons rfl Evs.nil))))) (by simp) rfl ?_; rintro r cs' ⟨W1, rfl, rfl, hW1, hr1⟩) | (refine Ops.k_calla ?_; first | (refine Ops.call (cf := []) (ih W1 d e b hW1 (by omega) g3.1 g3.2 hb) (Evs.cons rfl (Evs.cons rfl (Evs.cons rfl (Evs.cons rfl (Evs.cons rfl Evs.nil))))) (by simp) rfl ?_; rintro r cs' ⟨W3, rfl, rfl, hW3, hr3⟩)) | refine goR ?_ | refine goP ?_ | apply PSeq.cons | apply PSeq.yes rfl rfl rfl | exact goW | fail)
      all_goals first | exact Fin.norm (Ent.mkP goSub (by simp)) (Outs.zero rfl) ⟨_, rfl, rfl, hW3, Sym.gen (L1 := W1) (L2 := W1) (L3 := W3) c1 c2 hd huc hvc hB0 he (fun _ => hr1) (fun h => absurd g1 h) (fun h => absurd h g2) (fun _ => rfl) (fun _ => hr3) (fun h => absurd g3 h)⟩ | exact Fin.ret (Ent.mkP goSub (by simp)) (Outs.zero rfl) ⟨_, rfl, rfl, hW3, Sym.gen (L1 := W1) (L2 := W1) (L3 := W3) c1 c2 hd huc hvc hB0 he (fun _ => hr1) (fun h => absurd g1 h) (fun h => absurd h g2) (fun _ => rfl) (fun _ => hr3) (fun h => absurd g3 h)⟩
     ·repeat' (first | refine goH ?_ | refine goV ?_ | refine goG ?_ | (refine Ops.k_guard ?_; first | (refine Ops.guard_dec rfl rfl ?_ ?_ <;> intro hc <;> try omega) | refine Ops.guard_split rfl rfl ?_ ?_ <;> intro hc) | refine goI ?_ | (refine Cw.k_cond ?_; first | (refine Cw.cond_dec rfl ?_ ?_ <;> intro hc <;> try omega) | refine Cw.cond_bool rfl ?_ ?_ <;> intro hc) | (rw [ee]; refine Ops.call (cf := cin) kr (Evs.cons rfl (Evs.cons rfl (Evs.cons rfl (Evs.cons rfl (Evs.cons rfl Evs.nil))))) (by simp) rfl ?_; rintro r cs' ⟨W1, rfl, rfl, hW1, hr1⟩) | refine goR ?_ | refine goP ?_ | apply PSeq.cons | apply PSeq.yes rfl rfl rfl | exact goW | fail)
      all_goals first | exact Fin.norm (Ent.mkP goSub (by simp)) (Outs.zero rfl) ⟨_, rfl, rfl, hW1, Sym.gen (L1 := W1) (L2 := W1) (L3 := W1) c1 c2 hd huc hvc hB0 he (fun _ => hr1) (fun h => absurd g1 h) (fun h => absurd h g2) (fun _ => rfl) (fun h => absurd h g3) (fun _ => rfl)⟩ | exact Fin.ret (Ent.mkP goSub (by simp)) (Outs.zero rfl) ⟨_, rfl, rfl, hW1, Sym.gen (L1 := W1) (L2 := W1) (L3 := W1) c1 c2 hd huc hvc hB0 he (fun _ => hr1) (fun h => absurd g1 h) (fun h => absurd h g2) (fun _ => rfl) (fun h => absurd h g3) (fun _ => rfl)⟩
   ·skip
    by_cases g2 : a < i ∧ i < d
    ·by_cases g3 : d < e ∧ e < b
     ·repeat' (first | refine goH ?_ | refine goV ?_ | refine goG ?_ | (refine Ops.k_guard ?_; first | (refine Ops.guard_dec rfl rfl ?_ ?_ <;> intro hc <;> try omega) | refine Ops.guard_split rfl rfl ?_ ?_ <;> intro hc) | refine goI ?_ | (refine Cw.k_cond ?_; first | (refine Cw.cond_dec rfl ?_ ?_ <;> intro hc <;> try omega) | refine Cw.cond_bool rfl ?_ ?_ <;> intro hc) | (rw [ee]; refine Ops.call (cf := []) (ih W2 d e b hW2 (by omega) g3.1 g3.2 hb) (Evs.cons rfl (Evs.cons rfl (Evs.cons rfl (Evs.cons rfl (Evs.cons rfl Evs.nil))))) (by simp) rfl ?_; rintro r cs' ⟨W3, rfl, rfl, hW3, hr3⟩) | (refine Ops.k_calla ?_; first | (refine Ops.call (cf := []) (ih L a i d hL (by omega) g2.1 g2.2 (by omega)) (Evs.cons rfl (Evs.cons rfl (Evs.cons rfl (Evs.cons rfl (Evs.cons rfl Evs.nil))))) (by simp) rfl ?_; rintro r cs' ⟨W2, rfl, rfl, hW2, hr2⟩)) | refine goR ?_ | refine goP ?_ | apply PSeq.cons | apply PSeq.yes rfl rfl rfl | exact goW | fail)
      all_goals first | exact Fin.norm (Ent.mkP goSub (by simp)) (Outs.zero rfl) ⟨_, rfl, rfl, hW3, Sym.gen (L1 := L) (L2 := W2) (L3 := W3) c1 c2 hd huc hvc hB0 he (fun h => absurd h g1) (fun _ => rfl) (fun _ => hr2) (fun h => absurd g2 h) (fun _ => hr3) (fun h => absurd g3 h)⟩ | exact Fin.ret (Ent.mkP goSub (by simp)) (Outs.zero rfl) ⟨_, rfl, rfl, hW3, Sym.gen (L1 := L) (L2 := W2) (L3 := W3) c1 c2 hd huc hvc hB0 he (fun h => absurd h g1) (fun _ => rfl) (fun _ => hr2) (fun h => absurd g2 h) (fun _ => hr3) (fun h => absurd g3 h)⟩
     ·repeat' (first | refine goH ?_ | refine goV ?_ | refine goG ?_ | (refine Ops.k_guard ?_; first | (refine Ops.guard_dec rfl rfl ?_ ?_ <;> intro hc <;> try omega) | refine Ops.guard_split rfl rfl ?_ ?_ <;> intro hc) | refine goI ?_ | (refine Cw.k_cond ?_; first | (refine Cw.cond_dec rfl ?_ ?_ <;> intro hc <;> try omega) | refine Cw.cond_bool rfl ?_ ?_ <;> intro hc) | (refine Ops.k_calla ?_; first | (refine Ops.call (cf := []) (ih L a i d hL (by omega) g2.1 g2.2 (by omega)) (Evs.cons rfl (Evs.cons rfl (Evs.cons rfl (Evs.cons rfl (Evs.cons rfl Evs.nil))))) (by simp) rfl ?_; rintro r cs' ⟨W2, rfl, rfl, hW2, hr2⟩)) | refine goR ?_ | refine goP ?_ | apply PSeq.cons | apply PSeq.yes rfl rfl rfl | exact goW | fail)
      all_goals first | exact Fin.norm (Ent.mkP goSub (by simp)) (Outs.zero rfl) ⟨_, rfl, rfl, hW2, Sym.gen (L1 := L) (L2 := W2) (L3 := W2) c1 c2 hd huc hvc hB0 he (fun h => absurd h g1) (fun _ => rfl) (fun _ => hr2) (fun h => absurd g2 h) (fun h => absurd h g3) (fun _ => rfl)⟩ | exact Fin.ret (Ent.mkP goSub (by simp)) (Outs.zero rfl) ⟨_, rfl, rfl, hW2, Sym.gen (L1 := L) (L2 := W2) (L3 := W2) c1 c2 hd huc hvc hB0 he (fun h => absurd h g1) (fun _ => rfl) (fun _ => hr2) (fun h => absurd g2 h) (fun h => absurd h g3) (fun _ => rfl)⟩
    ·by_cases g3 : d < e ∧ e < b
     ·repeat' (first | refine goH ?_ | refine goV ?_ | refine goG ?_ | (refine Ops.k_guard ?_; first | (refine Ops.guard_dec rfl rfl ?_ ?_ <;> intro hc <;> try omega) | refine Ops.guard_split rfl rfl ?_ ?_ <;> intro hc) | refine goI ?_ | (refine Cw.k_cond ?_; first | (refine Cw.cond_dec rfl ?_ ?_ <;> intro hc <;> try omega) | refine Cw.cond_bool rfl ?_ ?_ <;> intro hc) | (rw [ee]; refine Ops.call (cf := []) (ih L d e b hL (by omega) g3.1 g3.2 hb) (Evs.cons rfl (Evs.cons rfl (Evs.cons rfl (Evs.cons rfl (Evs.cons rfl Evs.nil))))) (by simp) rfl ?_; rintro r cs' ⟨W3, rfl, rfl, hW3, hr3⟩) | refine goR ?_ | refine goP ?_ | apply PSeq.cons | apply PSeq.yes rfl rfl rfl | exact goW | fail)
      all_goals first | exact Fin.norm (Ent.mkP goSub (by simp)) (Outs.zero rfl) ⟨_, rfl, rfl, hW3, Sym.gen (L1 := L) (L2 := L) (L3 := W3) c1 c2 hd huc hvc hB0 he (fun h => absurd h g1) (fun _ => rfl) (fun h => absurd h g2) (fun _ => rfl) (fun _ => hr3) (fun h => absurd g3 h)⟩ | exact Fin.ret (Ent.mkP goSub (by simp)) (Outs.zero rfl) ⟨_, rfl, rfl, hW3, Sym.gen (L1 := L) (L2 := L) (L3 := W3) c1 c2 hd huc hvc hB0 he (fun h => absurd h g1) (fun _ => rfl) (fun h => absurd h g2) (fun _ => rfl) (fun _ => hr3) (fun h => absurd g3 h)⟩
     ·repeat' (first | refine goH ?_ | refine goV ?_ | refine goG ?_ | (refine Ops.k_guard ?_; first | (refine Ops.guard_dec rfl rfl ?_ ?_ <;> intro hc <;> try omega) | refine Ops.guard_split rfl rfl ?_ ?_ <;> intro hc) | refine goI ?_ | (refine Cw.k_cond ?_; first | (refine Cw.cond_dec rfl ?_ ?_ <;> intro hc <;> try omega) | refine Cw.cond_bool rfl ?_ ?_ <;> intro hc) | refine goR ?_ | refine goP ?_ | apply PSeq.cons | apply PSeq.yes rfl rfl rfl | exact goW | fail)
      all_goals first | exact Fin.norm (Ent.mkP goSub (by simp)) (Outs.zero rfl) ⟨_, rfl, rfl, hL, Sym.gen (L1 := L) (L2 := L) (L3 := L) c1 c2 hd huc hvc hB0 he (fun h => absurd h g1) (fun _ => rfl) (fun h => absurd h g2) (fun _ => rfl) (fun h => absurd h g3) (fun _ => rfl)⟩ | exact Fin.ret (Ent.mkP goSub (by simp)) (Outs.zero rfl) ⟨_, rfl, rfl, hL, Sym.gen (L1 := L) (L2 := L) (L3 := L) c1 c2 hd huc hvc hB0 he (fun h => absurd h g1) (fun _ => rfl) (fun h => absurd h g2) (fun _ => rfl) (fun h => absurd h g3) (fun _ => rfl)⟩
  rw [if_neg cd] at hu hv
  repeat' (first | refine goH ?_ | (refine Ops.k_convert ?_; first | (refine Ops.convN Tryz.underlying3 Tryz.underlying142 rfl (wrap_u64 (by omega)) rfl ?_) | (refine Ops.convN Tryz.underlying142 Tryz.underlying3 rfl (wrap_i64 (by omega)) rfl ?_)) | refine goV ?_ | refine goG ?_ | (refine Ops.k_guard ?_; first | (refine Ops.guard_dec rfl rfl ?_ ?_ <;> intro hc <;> try omega) | refine Ops.guard_split rfl rfl ?_ ?_ <;> intro hc) | refine goI ?_ | (refine Cw.k_cond ?_; first | (refine Cw.cond_dec rfl ?_ ?_ <;> intro hc <;> try omega) | refine Cw.cond_bool rfl ?_ ?_ <;> intro hc) | (refine Ops.k_b_shr ?_; refine Ops.shr1 rfl rfl rfl ?_) | exact OpW.callS_fn rfl hspec (Evs.cons rfl (Evs.cons rfl Evs.nil)) List.perm_append_comm | refine goR ?_ | refine goP ?_ | apply PSeq.cons | apply PSeq.yes rfl rfl rfl | exact goW | fail)
  rw [e18]
  rw [show (d : Int) + (m : Int) - 1 = (w : Int) by omega, show (d : Int) + (m : Int) = (z : Int) by omega]
  refine Cw.loopI [(0, _), (1, _), (2, _), (3, _), (4, _), (18, _), (19, _), (22, _)] cin (fun q e c => ∃ (i j : Nat), q = j - i ∧ (u ≤ i ∧ i ≤ j ∧ j ≤ v ∧ ∀ s, Bs (fun c => !decide (cf (ix L (d + m - 1 - c)) (ix L c) < 0)) i j s → Bs (fun c => !decide (cf (ix L (d + m - 1 - c)) (ix L c) < 0)) u v s) ∧ e = [(20, .int (i : Int)), (21, .int (j : Int))] ∧ c = [Chunk.own ad cap 1 3 (intRows L)]) ⟨_, _, _, (Ent.mkP goSub goPm), a, m, rfl, ⟨by omega, by omega, by omega, by rw [hu, hv]; exact fun s h => h⟩, rfl, rfl⟩ ?_
  rintro _ _ _ ⟨i, j, rfl, ⟨hi1, hij, hj1, hB⟩, rfl, rfl⟩
  by_cases hlt : i < j
  ·obtain ⟨h, hh⟩ : ∃ h, h = (i + j) / 2 := ⟨_, rfl⟩
   have hF1 := F1 h (by omega) (by omega)
   have r1 : (intRows L)[((w : Int) - ((i : Int) + (j : Int)) / 2).toNat]? = some [Tr.int (ix L (d + m - 1 - h))] := by rw [show ((w : Int) - ((i : Int) + (j : Int)) / 2).toNat = d + m - 1 - h by omega]; exact ixR (by omega)
   have r2 : (intRows L)[(((i : Int) + (j : Int)) / 2).toNat]? = some [Tr.int (ix L h)] := by rw [show (((i : Int) + (j : Int)) / 2).toNat = h by omega]; exact ixR (by omega)
   have hspec := hs ((ix L (d + m - 1 - h))) ((ix L h)) (hL.ix (by omega)) (hL.ix (by omega))
   by_cases hc : cf ((ix L (d + m - 1 - h))) ((ix L h)) < 0
   ·have hB2 := fun s (k : Bs (fun c => !decide (cf (ix L (d + m - 1 - c)) (ix L c) < 0)) i h s) => hB s (Bs.dn hlt (by rw [← hh]; show (!decide _) = _; rw [decide_eq_true hc]; rfl) (by rw [← hh]; exact k))
    generalize cf ((ix L (d + m - 1 - h))) ((ix L h)) = o at *
    generalize (ix L (d + m - 1 - h)) = xx at *
    generalize (ix L h) = yy at *
    clear hB
    repeat' (first | refine goH ?_ | (refine Ops.k_convert ?_; first | (refine Ops.convN Tryz.underlying3 Tryz.underlying142 rfl (wrap_u64 (by omega)) rfl ?_) | (refine Ops.convN Tryz.underlying142 Tryz.underlying3 rfl (wrap_i64 (by omega)) rfl ?_)) | refine goV ?_ | refine goG ?_ | (refine Ops.k_guard ?_; first | (refine Ops.guard_dec rfl rfl ?_ ?_ <;> intro hc <;> try omega) | refine Ops.guard_split rfl rfl ?_ ?_ <;> intro hc) | refine goI ?_ | (refine Cw.k_cond ?_; first | (refine Cw.cond_dec rfl ?_ ?_ <;> intro hc <;> try omega) | refine Cw.cond_bool rfl ?_ ?_ <;> intro hc) | (refine Ops.k_b_shr ?_; refine Ops.shr1 rfl rfl rfl ?_) | exact OpW.callS_fn rfl hspec (Evs.cons rfl (Evs.cons rfl Evs.nil)) List.perm_append_comm | refine goR ?_ | refine goP ?_ | apply PSeq.cons | apply PSeq.yes rfl rfl rfl | exact goW | fail)
    rw [show ((i : Int) + (j : Int)) / 2 = (h : Int) by omega]
    exact ⟨_, _, _, (Ent.mkP goSub goPm), ⟨i, h, rfl, ⟨by omega, by omega, by omega, hB2⟩, rfl, rfl⟩, by omega⟩
   ·have hB2 := fun s (k : Bs (fun c => !decide (cf (ix L (d + m - 1 - c)) (ix L c) < 0)) (h + 1) j s) => hB s (Bs.up hlt (by rw [← hh]; show (!decide _) = _; rw [decide_eq_false hc]; rfl) (by rw [← hh]; exact k))
    generalize cf ((ix L (d + m - 1 - h))) ((ix L h)) = o at *
    generalize (ix L (d + m - 1 - h)) = xx at *
    generalize (ix L h) = yy at *
    clear hB
    repeat' (first | refine goH ?_ | (refine Ops.k_convert ?_; first | (refine Ops.convN Tryz.underlying3 Tryz.underlying142 rfl (wrap_u64 (by omega)) rfl ?_) | (refine Ops.convN Tryz.underlying142 Tryz.underlying3 rfl (wrap_i64 (by omega)) rfl ?_)) | refine goV ?_ | refine goG ?_ | (refine Ops.k_guard ?_; first | (refine Ops.guard_dec rfl rfl ?_ ?_ <;> intro hc <;> try omega) | refine Ops.guard_split rfl rfl ?_ ?_ <;> intro hc) | refine goI ?_ | (refine Cw.k_cond ?_; first | (refine Cw.cond_dec rfl ?_ ?_ <;> intro hc <;> try omega) | refine Cw.cond_bool rfl ?_ ?_ <;> intro hc) | (refine Ops.k_b_shr ?_; refine Ops.shr1 rfl rfl rfl ?_) | exact OpW.callS_fn rfl hspec (Evs.cons rfl (Evs.cons rfl Evs.nil)) List.perm_append_comm | refine goR ?_ | refine goP ?_ | apply PSeq.cons | apply PSeq.yes rfl rfl rfl | exact goW | fail)
    rw [show ((i : Int) + (j : Int)) / 2 = (h : Int) by omega]
    exact ⟨_, _, _, (Ent.mkP goSub goPm), ⟨h + 1, j, rfl, ⟨by omega, by omega, by omega, hB2⟩, rfl, rfl⟩, by omega⟩
  have hB0 := hB i (Bs.done hlt)
  clear hB
  have hF2 := F2 i hi1 (by omega)
  obtain ⟨e, he⟩ : ∃ e, e = d + m - i := ⟨_, rfl⟩
  have ee : (z : Int) - (i : Int) = (e : Int) := by omega
  have huc : u = if d < m then d + m - b else a := by rw [if_neg cd]; exact hu
  have hvc : v = if d < m then d else m := by rw [if_neg cd]; exact hv
  clear F1 F2
  by_cases g1 : i < m ∧ m < e
  ·have kr := rotate_fn (ad := ad) (cap := cap) (fv := .func (.func g) #[] caps.toArray) L hL hN i m e g1.1 g1.2 (by omega)
   by_cases g2 : a < i ∧ i < d
   ·by_cases g3 : d < e ∧ e < b
    ·repeat' (first | refine goH ?_ | refine goV ?_ | refine goG ?_ | (refine Ops.k_guard ?_; first | (refine Ops.guard_dec rfl rfl ?_ ?_ <;> intro hc <;> try omega) | refine Ops.guard_split rfl rfl ?_ ?_ <;> intro hc) | refine goI ?_ | (refine Cw.k_cond ?_; first | (refine Cw.cond_dec rfl ?_ ?_ <;> intro hc <;> try omega) | refine Cw.cond_bool rfl ?_ ?_ <;> intro hc) | (rw [ee]; refine Ops.call (cf := cin) kr (Evs.cons rfl (Evs.cons rfl (Evs.cons rfl (Evs.cons rfl (Evs.cons rfl Evs.nil))))) (by simp) rfl ?_; rintro r cs' ⟨W1, rfl, rfl, hW1, hr1⟩) | (refine Ops.k_calla ?_; first | (refine Ops.call (cf := []) (ih W1 a i d hW1 (by omega) g2.1 g2.2 (by omega)) (Evs.cons rfl (Evs.cons rfl (Evs.cons rfl (Evs.cons rfl (Evs.cons rfl Evs.nil))))) (by simp) rfl ?_; rintro r cs' ⟨W2, rfl, rfl, hW2, hr2⟩) | (refine Ops.call (cf := []) (ih W2 d e b hW2 (by omega) g3.1 g3.2 hb) (Evs.cons rfl (Evs.cons rfl (Evs.cons rfl (Evs.cons rfl (Evs.cons rfl Evs.nil))))) (by simp) rfl ?_; rintro r cs' ⟨W3, rfl, rfl, hW3, hr3⟩)) | refine goR ?_ | refine goP ?_ | apply PSeq.cons | apply PSeq.yes rfl rfl rfl | exact goW | fail)
     all_goals first | exact Fin.norm (Ent.mkP goSub (by simp)) (Outs.zero rfl) ⟨_, rfl, rfl, hW3, Sym.gen (L1 := W1) (L2 := W2) (L3 := W3) c1 c2 hd huc hvc hB0 he (fun _ => hr1) (fun h => absurd g1 h) (fun _ => hr2) (fun h => absurd g2 h) (fun _ => hr3) (fun h => absurd g3 h)⟩ | exact Fin.ret (Ent.mkP goSub (by simp)) (Outs.zero rfl) ⟨_, rfl, rfl, hW3, Sym.gen (L1 := W1) (L2 := W2) (L3 := W3) c1 c2 hd huc hvc hB0 he (fun _ => hr1) (fun h => absurd g1 h) (fun _ => hr2) (fun h => absurd g2 h) (fun _ => hr3) (fun h => absurd g3 h)⟩
    ·repeat' (first | refine goH ?_ | refine goV ?_ | refine goG ?_ | (refine Ops.k_guard ?_; first | (refine Ops.guard_dec rfl rfl ?_ ?_ <;> intro hc <;> try omega) | refine Ops.guard_split rfl rfl ?_ ?_ <;> intro hc) | refine goI ?_ | (refine Cw.k_cond ?_; first | (refine Cw.cond_dec rfl ?_ ?_ <;> intro hc <;> try omega) | refine Cw.cond_bool rfl ?_ ?_ <;> intro hc) | (rw [ee]; refine Ops.call (cf := cin) kr (Evs.cons rfl (Evs.cons rfl (Evs.cons rfl (Evs.cons rfl (Evs.cons rfl Evs.nil))))) (by simp) rfl ?_; rintro r cs' ⟨W1, rfl, rfl, hW1, hr1⟩) | (refine Ops.k_calla ?_; first | (refine Ops.call (cf := []) (ih W1 a i d hW1 (by omega) g2.1 g2.2 (by omega)) (Evs.cons rfl (Evs.cons rfl (Evs.cons rfl (Evs.cons rfl (Evs.cons rfl Evs.nil))))) (by simp) rfl ?_; rintro r cs' ⟨W2, rfl, rfl, hW2, hr2⟩)) | refine goR ?_ | refine goP ?_ | apply PSeq.cons | apply PSeq.yes rfl rfl rfl | exact goW | fail)
     all_goals first | exact Fin.norm (Ent.mkP goSub (by simp)) (Outs.zero rfl) ⟨_, rfl, rfl, hW2, Sym.gen (L1 := W1) (L2 := W2) (L3 := W2) c1 c2 hd huc hvc hB0 he (fun _ => hr1) (fun h => absurd g1 h) (fun _ => hr2) (fun h => absurd g2 h) (fun h => absurd h g3) (fun _ => rfl)⟩ | exact Fin.ret (Ent.mkP goSub (by simp)) (Outs.zero rfl) ⟨_, rfl, rfl, hW2, Sym.gen (L1 := W1) (L2 := W2) (L3 := W2) c1 c2 hd huc hvc hB0 he (fun _ => hr1) (fun h => absurd g1 h) (fun _ => hr2) (fun h => absurd g2 h) (fun h => absurd h g3) (fun _ => rfl)⟩
   ·by_cases g3 : d < e ∧ e < b
    ·repeat' (first | refine goH ?_ | refine goV ?_ | refine goG ?_ | (refine Ops.k_guard ?_; first | (refine Ops.guard_dec rfl rfl ?_ ?_ <;> intro hc <;> try omega) | refine Ops.guard_split rfl rfl ?_ ?_ <;> intro hc) | refine goI ?_ | (refine Cw.k_cond ?_; first | (refine Cw.cond_dec rfl ?_ ?_ <;> intro hc <;> try omega) | refine Cw.cond_bool rfl ?_ ?_ <;> intro hc) | (rw [ee]; refine Ops.call (cf := cin) kr (Evs.cons rfl (Evs.cons rfl (Evs.cons rfl (Evs.cons rfl (Evs.cons rfl Evs.nil))))) (by simp) rfl ?_; rintro r cs' ⟨W1, rfl, rfl, hW1, hr1⟩) | (refine Ops.k_calla ?_; first | (refine Ops.call (cf := []) (ih W1 d e b hW1 (by omega) g3.1 g3.2 hb) (Evs.cons rfl (Evs.cons rfl (Evs.cons rfl (Evs.cons rfl (Evs.cons rfl Evs.nil))))) (by simp) rfl ?_; rintro r cs' ⟨W3, rfl, rfl, hW3, hr3⟩)) | refine goR ?_ | refine goP ?_ | apply PSeq.cons | apply PSeq.yes rfl rfl rfl | exact goW | fail)
     all_goals first | exact Fin.norm (Ent.mkP goSub (by simp)) (Outs.zero rfl) ⟨_, rfl, rfl, hW3, Sym.gen (L1 := W1) (L2 := W1) (L3 := W3) c1 c2 hd huc hvc hB0 he (fun _ => hr1) (fun h => absurd g1 h) (fun h => absurd h g2) (fun _ => rfl) (fun _ => hr3) (fun h => absurd g3 h)⟩ | exact Fin.ret (Ent.mkP goSub (by simp)) (Outs.zero rfl) ⟨_, rfl, rfl, hW3, Sym.gen (L1 := W1) (L2 := W1) (L3 := W3) c1 c2 hd huc hvc hB0 he (fun _ => hr1) (fun h => absurd g1 h) (fun h => absurd h g2) (fun _ => rfl) (fun _ => hr3) (fun h => absurd g3 h)⟩
    ·repeat' (first | refine goH ?_ | refine goV ?_ | refine goG ?_ | (refine Ops.k_guard ?_; first | (refine Ops.guard_dec rfl rfl ?_ ?_ <;> intro hc <;> try omega) | refine Ops.guard_split rfl rfl ?_ ?_ <;> intro hc) | refine goI ?_ | (refine Cw.k_cond ?_; first | (refine Cw.cond_dec rfl ?_ ?_ <;> intro hc <;> try omega) | refine Cw.cond_bool rfl ?_ ?_ <;> intro hc) | (rw [ee]; refine Ops.call (cf := cin) kr (Evs.cons rfl (Evs.cons rfl (Evs.cons rfl (Evs.cons rfl (Evs.cons rfl Evs.nil))))) (by simp) rfl ?_; rintro r cs' ⟨W1, rfl, rfl, hW1, hr1⟩) | refine goR ?_ | refine goP ?_ | apply PSeq.cons | apply PSeq.yes rfl rfl rfl | exact goW | fail)
     all_goals first | exact Fin.norm (Ent.mkP goSub (by simp)) (Outs.zero rfl) ⟨_, rfl, rfl, hW1, Sym.gen (L1 := W1) (L2 := W1) (L3 := W1) c1 c2 hd huc hvc hB0 he (fun _ => hr1) (fun h => absurd g1 h) (fun h => absurd h g2) (fun _ => rfl) (fun h => absurd h g3) (fun _ => rfl)⟩ | exact Fin.ret (Ent.mkP goSub (by simp)) (Outs.zero rfl) ⟨_, rfl, rfl, hW1, Sym.gen (L1 := W1) (L2 := W1) (L3 := W1) c1 c2 hd huc hvc hB0 he (fun _ => hr1) (fun h => absurd g1 h) (fun h => absurd h g2) (fun _ => rfl) (fun h => absurd h g3) (fun _ => rfl)⟩
  ·skip
   by_cases g2 : a < i ∧ i < d
   ·by_cases g3 : d < e ∧ e < b
    ·repeat' (first | refine goH ?_ | refine goV ?_ | refine goG ?_ | (refine Ops.k_guard ?_; first | (refine Ops.guard_dec rfl rfl ?_ ?_ <;> intro hc <;> try omega) | refine Ops.guard_split rfl rfl ?_ ?_ <;> intro hc) | refine goI ?_ | (refine Cw.k_cond ?_; first | (refine Cw.cond_dec rfl ?_ ?_ <;> intro hc <;> try omega) | refine Cw.cond_bool rfl ?_ ?_ <;> intro hc) | (rw [ee]; refine Ops.call (cf := []) (ih W2 d e b hW2 (by omega) g3.1 g3.2 hb) (Evs.cons rfl (Evs.cons rfl (Evs.cons rfl (Evs.cons rfl (Evs.cons rfl Evs.nil))))) (by simp) rfl ?_; rintro r cs' ⟨W3, rfl, rfl, hW3, hr3⟩) | (refine Ops.k_calla ?_; first | (refine Ops.call (cf := []) (ih L a i d hL (by omega) g2.1 g2.2 (by omega)) (Evs.cons rfl (Evs.cons rfl (Evs.cons rfl (Evs.cons rfl (Evs.cons rfl Evs.nil))))) (by simp) rfl ?_; rintro r cs' ⟨W2, rfl, rfl, hW2, hr2⟩)) | refine goR ?_ | refine goP ?_ | apply PSeq.cons | apply PSeq.yes rfl rfl rfl | exact goW | fail)
     all_goals first | exact Fin.norm (Ent.mkP goSub (by simp)) (Outs.zero rfl) ⟨_, rfl, rfl, hW3, Sym.gen (L1 := L) (L2 := W2) (L3 := W3) c1 c2 hd huc hvc hB0 he (fun h => absurd h g1) (fun _ => rfl) (fun _ => hr2) (fun h => absurd g2 h) (fun _ => hr3) (fun h => absurd g3 h)⟩ | exact Fin.ret (Ent.mkP goSub (by simp)) (Outs.zero rfl) ⟨_, rfl, rfl, hW3, Sym.gen (L1 := L) (L2 := W2) (L3 := W3) c1 c2 hd huc hvc hB0 he (fun h => absurd h g1) (fun _ => rfl) (fun _ => hr2) (fun h => absurd g2 h) (fun _ => hr3) (fun h => absurd g3 h)⟩
    ·repeat' (first | refine goH ?_ | refine goV ?_ | refine goG ?_ | (refine Ops.k_guard ?_; first | (refine Ops.guard_dec rfl rfl ?_ ?_ <;> intro hc <;> try omega) | refine Ops.guard_split rfl rfl ?_ ?_ <;> intro hc) | refine goI ?_ | (refine Cw.k_cond ?_; first | (refine Cw.cond_dec rfl ?_ ?_ <;> intro hc <;> try omega) | refine Cw.cond_bool rfl ?_ ?_ <;> intro hc) | (refine Ops.k_calla ?_; first | (refine Ops.call (cf := []) (ih L a i d hL (by omega) g2.1 g2.2 (by omega)) (Evs.cons rfl (Evs.cons rfl (Evs.cons rfl (Evs.cons rfl (Evs.cons rfl Evs.nil))))) (by simp) rfl ?_; rintro r cs' ⟨W2, rfl, rfl, hW2, hr2⟩)) | refine goR ?_ | refine goP ?_ | apply PSeq.cons | apply PSeq.yes rfl rfl rfl | exact goW | fail)
     all_goals first | exact Fin.norm (Ent.mkP goSub (by simp)) (Outs.zero rfl) ⟨_, rfl, rfl, hW2, Sym.gen (L1 := L) (L2 := W2) (L3 := W2) c1 c2 hd huc hvc hB0 he (fun h => absurd h g1) (fun _ => rfl) (fun _ => hr2) (fun h => absurd g2 h) (fun h => absurd h g3) (fun _ => rfl)⟩ | exact Fin.ret (Ent.mkP goSub (by simp)) (Outs.zero rfl) ⟨_, rfl, rfl, hW2, Sym.gen (L1 := L) (L2 := W2) (L3 := W2) c1 c2 hd huc hvc hB0 he (fun h => absurd h g1) (fun _ => rfl) (fun _ => hr2) (fun h => absurd g2 h) (fun h => absurd h g3) (fun _ => rfl)⟩
   ·by_cases g3 : d < e ∧ e < b
    ·repeat' (first | refine goH ?_ | refine goV ?_ | refine goG ?_ | (refine Ops.k_guard ?_; first | (refine Ops.guard_dec rfl rfl ?_ ?_ <;> intro hc <;> try omega) | refine Ops.guard_split rfl rfl ?_ ?_ <;> intro hc) | refine goI ?_ | (refine Cw.k_cond ?_; first | (refine Cw.cond_dec rfl ?_ ?_ <;> intro hc <;> try omega) | refine Cw.cond_bool rfl ?_ ?_ <;> intro hc) | (rw [ee]; refine Ops.call (cf := []) (ih L d e b hL (by omega) g3.1 g3.2 hb) (Evs.cons rfl (Evs.cons rfl (Evs.cons rfl (Evs.cons rfl (Evs.cons rfl Evs.nil))))) (by simp) rfl ?_; rintro r cs' ⟨W3, rfl, rfl, hW3, hr3⟩) | refine goR ?_ | refine goP ?_ | apply PSeq.cons | apply PSeq.yes rfl rfl rfl | exact goW | fail)
     all_goals first | exact Fin.norm (Ent.mkP goSub (by simp)) (Outs.zero rfl) ⟨_, rfl, rfl, hW3, Sym.gen (L1 := L) (L2 := L) (L3 := W3) c1 c2 hd huc hvc hB0 he (fun h => absurd h g1) (fun _ => rfl) (fun h => absurd h g2) (fun _ => rfl) (fun _ => hr3) (fun h => absurd g3 h)⟩ | exact Fin.ret (Ent.mkP goSub (by simp)) (Outs.zero rfl) ⟨_, rfl, rfl, hW3, Sym.gen (L1 := L) (L2 := L) (L3 := W3) c1 c2 hd huc hvc hB0 he (fun h => absurd h g1) (fun _ => rfl) (fun h => absurd h g2) (fun _ => rfl) (fun _ => hr3) (fun h => absurd g3 h)⟩
    ·repeat' (first | refine goH ?_ | refine goV ?_ | refine goG ?_ | (refine Ops.k_guard ?_; first | (refine Ops.guard_dec rfl rfl ?_ ?_ <;> intro hc <;> try omega) | refine Ops.guard_split rfl rfl ?_ ?_ <;> intro hc) | refine goI ?_ | (refine Cw.k_cond ?_; first | (refine Cw.cond_dec rfl ?_ ?_ <;> intro hc <;> try omega) | refine Cw.cond_bool rfl ?_ ?_ <;> intro hc) | refine goR ?_ | refine goP ?_ | apply PSeq.cons | apply PSeq.yes rfl rfl rfl | exact goW | fail)
     all_goals first | exact Fin.norm (Ent.mkP goSub (by simp)) (Outs.zero rfl) ⟨_, rfl, rfl, hL, Sym.gen (L1 := L) (L2 := L) (L3 := L) c1 c2 hd huc hvc hB0 he (fun h => absurd h g1) (fun _ => rfl) (fun h => absurd h g2) (fun _ => rfl) (fun h => absurd h g3) (fun _ => rfl)⟩ | exact Fin.ret (Ent.mkP goSub (by simp)) (Outs.zero rfl) ⟨_, rfl, rfl, hL, Sym.gen (L1 := L) (L2 := L) (L3 := L) c1 c2 hd huc hvc hB0 he (fun h => absurd h g1) (fun _ => rfl) (fun h => absurd h g2) (fun _ => rfl) (fun h => absurd h g3) (fun _ => rfl)⟩
end Lg
