/- A part of the proof of a law of this seat: it adds no condition. By an AI agent. -/
import Derived.Test.YticfcbcmjkohmaaGreatDoorPick7
section
set_option linter.all false
set_option maxRecDepth 100000
set_option maxHeartbeats 4000000
namespace Lg
open Go Go.Proofs

theorem freshI_set {c : List Lot} {p : ByteArray} {fr : Int} {i : Nat} {x : Lot} {v : Int} (hx : c[i]? = some x) (hc : candB c p fr i = true) : freshI (c.set i ⟨x.id, x.prod, x.exp, v⟩) p fr = freshI c p fr - x.many + v := by
  unfold candB at hc
  rw [hx] at hc
  have hc := of_decide_eq_true hc
  unfold freshI
  rw [sumF_set hx]
  unfold freshP
  rw [if_pos hc, if_pos hc]

theorem taken_fn (l : List Lot) (ho : LOk l) (hl : l.length < 1000) (p : ByteArray) (many day left : Int) (hm : 0 ≤ many ∧ many ≤ 10000000) (hd : -10000 ≤ day ∧ day ≤ 10000) (hle : -10000 ≤ left ∧ left ≤ 10000) (hf : many ≤ freshI l p (day + left)) (ad : Option Addr) (cap n : Nat) (hn : n = l.length) :
    Spec Tryz.prog 43 [Tr.raw (.slice ad n cap), .str p, .int many, .int day, .int left] [Chunk.own ad cap 4 49 (l.map Lot.row)]
      (fun r cs => ∃ ad2 cap2, r = Tr.raw (.slice ad2 ((pickR l p many (day + left)).2.2.map Piece.row).length cap2) ∧ cs = [Chunk.own ad2 cap2 2 90 ((pickR l p many (day + left)).2.2.map Piece.row), Chunk.own ad cap 4 49 ((pickR l p many (day + left)).1.map Lot.row)]) := by
  refine Spec.body Tryz.func43 rfl rfl (Tryz.ntmps43) rfl fun w0 own0 M => ?_
  have hL : (l.map Lot.row).length = l.length := List.length_map _
  have hol := ordL_len l p (day + left)
  repeat' (first | refine goH ?_ | refine goV ?_ | refine goB (fun b => ?_) | refine goC (fun ad cap => ?_) | refine goG ?_ | (refine Ops.k_guard ?_; first | (refine Ops.guard_dec rfl rfl (fun hc => ?_) (fun hc => ?_) <;> try (exfalso; omega)) | refine Ops.guard_split rfl rfl (fun hc => ?_) (fun hc => ?_)) | refine goI ?_ | (refine Cw.k_cond ?_; first | (refine Cw.cond_dec rfl (fun hc => ?_) (fun hc => ?_) <;> try (exfalso; omega)) | refine Cw.cond_bool rfl (fun hc => ?_) (fun hc => ?_)) | refine goR ?_ | refine goP ?_ | apply PSeq.cons | apply PSeq.yes rfl rfl rfl | exact goW | fail)
  refine Cw.loopI [(0, _), (1, _), (3, _), (4, _)] _ (fun q e c => ∃ (k : Nat) (ad3 : Option Addr) (cap3 : Nat) (st : List Lot × Int × List Piece) (mv : Int) (lr pr : List (List Tr)), q = mv.toNat ∧ (k ≤ (ordL l p (day + left)).length ∧ st = ((ordL l p (day + left)).take k).foldl takeStep (l, many, []) ∧ mv = st.2.1 ∧ lr = st.1.map Lot.row ∧ pr = st.2.2.map Piece.row ∧ mv ≤ freshI st.1 p (day + left) ∧ (0 < mv → ∀ j, j < k → ∀ i, (ordL l p (day + left))[j]? = some i → manyAt st.1 i.toNat = 0)) ∧ e = [(2, .int mv), (11, Tr.raw (.slice ad3 pr.length cap3))] ∧ c = [Chunk.own ad3 cap3 2 90 pr, Chunk.own ad cap 4 49 lr])
    ⟨_, _, _, Ent.trans (Ent.nil 2 90) (Ent.mkP goSub goPm), 0, none, 0, (l, many, []), many, _, [], rfl, ⟨by omega, rfl, rfl, rfl, rfl, hf, fun _ j h => by omega⟩, rfl, rfl⟩ ?_
  rintro _ _ _ ⟨k, ad3, cap3, st, mv, lr, pr, rfl, ⟨hk, hst, hmv, hlr, hpr, hfr, hz⟩, rfl, rfl⟩
  obtain ⟨s1, s2, s3, s4⟩ := fold_same (l0 := l) ((ordL l p (day + left)).take k) (st := (l, many, [])) (Same.refl ho) hm.1
  rw [← hst] at s1 s2 s3 s4
  simp only [List.length_nil, List.length_take] at s3 s4
  have hlrl : lr.length = l.length := by rw [hlr, List.length_map, s1.len]
  have hprl : pr.length = st.2.2.length := by rw [hpr, List.length_map]
  by_cases hpos : 0 < mv
  rotate_left
  · have hmv0 : st.2.1 ≤ 0 := by omega
    have hfin : pickR l p many (day + left) = st := by
      unfold pickR
      rw [← List.take_append_drop k (ordL l p (day + left)), List.foldl_append, ← hst, fold_zero hmv0]
    rw [hfin]
    subst hlr
    subst hpr
    repeat' (first | refine goH ?_ | refine goV ?_ | refine goB (fun b => ?_) | refine goC (fun ad cap => ?_) | refine goG ?_ | (refine Ops.k_guard ?_; first | (refine Ops.guard_dec rfl rfl (fun hc => ?_) (fun hc => ?_) <;> try (exfalso; omega)) | refine Ops.guard_split rfl rfl (fun hc => ?_) (fun hc => ?_)) | refine goI ?_ | (refine Cw.k_cond ?_; first | (refine Cw.cond_dec rfl (fun hc => ?_) (fun hc => ?_) <;> try (exfalso; omega)) | refine Cw.cond_bool rfl (fun hc => ?_) (fun hc => ?_)) | refine goR ?_ | refine goP ?_ | apply PSeq.cons | apply PSeq.yes rfl rfl rfl | exact goW | fail)
    exact Fin.ret (Ent.take goTk) (Outs.one rfl rfl) ⟨_, _, rfl, rfl⟩
  obtain ⟨j, b, hkj, hjb, hbl, hbest, hcb, hmb, hzj⟩ := best_order s1 (hz hpos) (by omega)
  obtain ⟨x, hx⟩ := at_lt (l := st.1) (k := b) hbl
  have hxm : manyAt st.1 b = x.many := by unfold manyAt; rw [hx]
  rw [hxm] at hmb
  have hok1 := (s1.ok ho).many x (List.mem_of_getElem? hx)
  have hjl := (List.getElem?_eq_some_iff.1 hjb).1
  have hskip := fold_skip hst (j - k) (fun j' h => hzj j' (by omega)) (by omega)
  rw [show k + (j - k) = j by omega] at hskip
  have htk : takeStep st (b : Int) = (st.1.set b ⟨x.id, x.prod, x.exp, x.many - min st.2.1 x.many⟩, st.2.1 - min st.2.1 x.many, st.2.2 ++ [Piece.mk x.id (min st.2.1 x.many)]) := by
    unfold takeStep
    rw [show ((b : Nat) : Int).toNat = b from rfl, hx]
    simp only
    rw [if_pos (by omega)]
  have hnext : ((ordL l p (day + left)).take (j + 1)).foldl takeStep (l, many, []) = takeStep st (b : Int) := by rw [fold_take hjb, hskip]
  obtain ⟨mn, hmn⟩ : ∃ mn, mn = min mv x.many := ⟨_, rfl⟩
  rw [← hmv, ← hmn] at htk
  have hrowx : lr[((b : Nat) : Int).toNat]? = some [.str x.id, .str x.prod, .int x.exp, .int x.many] := by rw [hlr]; exact rows_at hx
  have hset : lr.set ((b : Nat) : Int).toNat ([Tr.str x.id, .str x.prod, .int x.exp, .int x.many].set 3 (Tr.int (x.many - mn))) = (st.1.set b ⟨x.id, x.prod, x.exp, x.many - mn⟩).map Lot.row := by rw [hlr]; exact row_set hx
  have hrow2 : (lr.set ((b : Nat) : Int).toNat ([Tr.str x.id, .str x.prod, .int x.exp, .int x.many].set 3 (Tr.int (x.many - mn))))[((b : Nat) : Int).toNat]? = some [.str x.id, .str x.prod, .int x.exp, .int (x.many - mn)] := by
    rw [hset, show ((b : Nat) : Int).toNat = b from rfl]
    exact rows_at (f := Lot.row) (List.getElem?_set_self hbl)
  have hpp : pr ++ [[Tr.str x.id, Tr.int mn]] = (st.2.2 ++ [Piece.mk x.id mn]).map Piece.row := by rw [hpr, List.map_append]; rfl
  repeat' (first | refine goH ?_ | refine goV ?_ | refine goB (fun b => ?_) | refine goC (fun ad cap => ?_) | refine goG ?_ | (refine Ops.k_guard ?_; first | (refine Ops.guard_dec rfl rfl (fun hc => ?_) (fun hc => ?_) <;> try (exfalso; omega)) | refine Ops.guard_split rfl rfl (fun hc => ?_) (fun hc => ?_)) | refine goI ?_ | (refine Cw.k_cond ?_; first | (refine Cw.cond_dec rfl (fun hc => ?_) (fun hc => ?_) <;> try (exfalso; omega)) | refine Cw.cond_bool rfl (fun hc => ?_) (fun hc => ?_)) | refine goR ?_ | refine goP ?_ | apply PSeq.cons | apply PSeq.yes rfl rfl rfl | exact goW | fail)
  refine Cw.loopI [(0, _), (1, _), (2, _), (3, _), (4, _), (11, _), (18, _), (19, _)] _ (fun q e c => ∃ (i : Nat) (bt : Int), q = n - i ∧ (i ≤ n ∧ bt = bestUp st.1 p (day + left) i) ∧ e = [(12, .int bt), (20, .int i)] ∧ c = []) ⟨_, _, _, (Ent.mkP goSub goPm), 0, -1, rfl, ⟨by omega, rfl⟩, rfl, rfl⟩ ?_
  rintro _ _ _ ⟨i, bt, rfl, ⟨hi, hbt⟩, rfl, rfl⟩
  by_cases hil : i < n
  · clear hrow2 hset hpp hnext htk hskip hzj hz
    obtain ⟨y, hy⟩ := at_lt (l := st.1) (k := i) (by rw [s1.len]; omega)
    have hrowy : lr[((i : Nat) : Int).toNat]? = some [.str y.id, .str y.prod, .int y.exp, .int y.many] := by rw [hlr]; exact rows_at hy
    have hoky : okB st.1 p (day + left) i = (decide (y.prod = p ∧ day + left ≤ y.exp) && decide (0 < y.many)) := by unfold okB candB manyAt; rw [hy]
    have hey : expI st.1 (i : Int) = y.exp := by unfold expI; rw [show ((i : Nat) : Int).toNat = i from rfl, hy]
    have hbs : bestUp st.1 p (day + left) (i + 1) = if okB st.1 p (day + left) i = true ∧ (bestUp st.1 p (day + left) i < 0 ∨ expI st.1 i < expI st.1 (bestUp st.1 p (day + left) i)) then (i : Int) else bestUp st.1 p (day + left) i := rfl
    rw [hoky, hey] at hbs
    rcases best_spec st.1 p (day + left) i with ⟨hb0, _⟩ | ⟨b0, hb0l, hb0, _, _⟩
    · rw [hb0] at hbs hbt
      subst hbt
      by_cases hp : y.prod = p
      · by_cases hmy : 0 < y.many
        · by_cases hex : day + left ≤ y.exp
          · rw [if_pos ⟨by simp [hp, hmy, hex], .inl (by omega)⟩] at hbs
            repeat' (first | refine goH ?_ | refine goV ?_ | refine goB (fun b => ?_) | refine goC (fun ad cap => ?_) | refine goG ?_ | (refine Ops.k_guard ?_; first | (refine Ops.guard_dec rfl rfl (fun hc => ?_) (fun hc => ?_) <;> try (exfalso; omega)) | refine Ops.guard_split rfl rfl (fun hc => ?_) (fun hc => ?_)) | refine goI ?_ | (refine Cw.k_cond ?_; first | (refine Cw.cond_dec rfl (fun hc => ?_) (fun hc => ?_) <;> try (exfalso; omega)) | refine Cw.cond_bool rfl (fun hc => ?_) (fun hc => ?_)) | refine goR ?_ | refine goP ?_ | apply PSeq.cons | apply PSeq.yes rfl rfl rfl | exact goW | fail)
            exact ⟨_, _, _, (Ent.mk goSub goTk), ⟨i + 1, _, rfl, ⟨by omega, hbs.symm⟩, rfl, rfl⟩, by omega⟩
          · rw [if_neg (fun h => by have := h.1; simp [hex] at this)] at hbs
            repeat' (first | refine goH ?_ | refine goV ?_ | refine goB (fun b => ?_) | refine goC (fun ad cap => ?_) | refine goG ?_ | (refine Ops.k_guard ?_; first | (refine Ops.guard_dec rfl rfl (fun hc => ?_) (fun hc => ?_) <;> try (exfalso; omega)) | refine Ops.guard_split rfl rfl (fun hc => ?_) (fun hc => ?_)) | refine goI ?_ | (refine Cw.k_cond ?_; first | (refine Cw.cond_dec rfl (fun hc => ?_) (fun hc => ?_) <;> try (exfalso; omega)) | refine Cw.cond_bool rfl (fun hc => ?_) (fun hc => ?_)) | refine goR ?_ | refine goP ?_ | apply PSeq.cons | apply PSeq.yes rfl rfl rfl | exact goW | fail)
            exact ⟨_, _, _, (Ent.mk goSub goTk), ⟨i + 1, _, rfl, ⟨by omega, hbs.symm⟩, rfl, rfl⟩, by omega⟩
        · rw [if_neg (fun h => by have := h.1; simp [hmy] at this)] at hbs
          repeat' (first | refine goH ?_ | refine goV ?_ | refine goB (fun b => ?_) | refine goC (fun ad cap => ?_) | refine goG ?_ | (refine Ops.k_guard ?_; first | (refine Ops.guard_dec rfl rfl (fun hc => ?_) (fun hc => ?_) <;> try (exfalso; omega)) | refine Ops.guard_split rfl rfl (fun hc => ?_) (fun hc => ?_)) | refine goI ?_ | (refine Cw.k_cond ?_; first | (refine Cw.cond_dec rfl (fun hc => ?_) (fun hc => ?_) <;> try (exfalso; omega)) | refine Cw.cond_bool rfl (fun hc => ?_) (fun hc => ?_)) | refine goR ?_ | refine goP ?_ | apply PSeq.cons | apply PSeq.yes rfl rfl rfl | exact goW | fail)
          exact ⟨_, _, _, (Ent.mk goSub goTk), ⟨i + 1, _, rfl, ⟨by omega, hbs.symm⟩, rfl, rfl⟩, by omega⟩
      · rw [if_neg (fun h => by have := h.1; simp [hp] at this)] at hbs
        repeat' (first | refine goH ?_ | refine goV ?_ | refine goB (fun b => ?_) | refine goC (fun ad cap => ?_) | refine goG ?_ | (refine Ops.k_guard ?_; first | (refine Ops.guard_dec rfl rfl (fun hc => ?_) (fun hc => ?_) <;> try (exfalso; omega)) | refine Ops.guard_split rfl rfl (fun hc => ?_) (fun hc => ?_)) | refine goI ?_ | (refine Cw.k_cond ?_; first | (refine Cw.cond_dec rfl (fun hc => ?_) (fun hc => ?_) <;> try (exfalso; omega)) | refine Cw.cond_bool rfl (fun hc => ?_) (fun hc => ?_)) | refine goR ?_ | refine goP ?_ | apply PSeq.cons | apply PSeq.yes rfl rfl rfl | exact goW | fail)
        exact ⟨_, _, _, (Ent.mk goSub goTk), ⟨i + 1, _, rfl, ⟨by omega, hbs.symm⟩, rfl, rfl⟩, by omega⟩
    · rw [hb0] at hbs hbt
      subst hbt
      obtain ⟨y0, hy0⟩ := at_lt (l := st.1) (k := b0) (by rw [s1.len]; omega)
      have hrowy0 : lr[((b0 : Nat) : Int).toNat]? = some [.str y0.id, .str y0.prod, .int y0.exp, .int y0.many] := by rw [hlr]; exact rows_at hy0
      have hey0 : expI st.1 (b0 : Int) = y0.exp := by unfold expI; rw [show ((b0 : Nat) : Int).toNat = b0 from rfl, hy0]
      rw [hey0] at hbs
      by_cases hp : y.prod = p
      · by_cases hmy : 0 < y.many
        · by_cases hex : day + left ≤ y.exp
          · by_cases hlt : y.exp < y0.exp
            · rw [if_pos ⟨by simp [hp, hmy, hex], .inr hlt⟩] at hbs
              repeat' (first | refine goH ?_ | refine goV ?_ | refine goB (fun b => ?_) | refine goC (fun ad cap => ?_) | refine goG ?_ | (refine Ops.k_guard ?_; first | (refine Ops.guard_dec rfl rfl (fun hc => ?_) (fun hc => ?_) <;> try (exfalso; omega)) | refine Ops.guard_split rfl rfl (fun hc => ?_) (fun hc => ?_)) | refine goI ?_ | (refine Cw.k_cond ?_; first | (refine Cw.cond_dec rfl (fun hc => ?_) (fun hc => ?_) <;> try (exfalso; omega)) | refine Cw.cond_bool rfl (fun hc => ?_) (fun hc => ?_)) | refine goR ?_ | refine goP ?_ | apply PSeq.cons | apply PSeq.yes rfl rfl rfl | exact goW | fail)
              exact ⟨_, _, _, (Ent.mk goSub goTk), ⟨i + 1, _, rfl, ⟨by omega, hbs.symm⟩, rfl, rfl⟩, by omega⟩
            · rw [if_neg (fun h => by rcases h.2 with h | h <;> omega)] at hbs
              repeat' (first | refine goH ?_ | refine goV ?_ | refine goB (fun b => ?_) | refine goC (fun ad cap => ?_) | refine goG ?_ | (refine Ops.k_guard ?_; first | (refine Ops.guard_dec rfl rfl (fun hc => ?_) (fun hc => ?_) <;> try (exfalso; omega)) | refine Ops.guard_split rfl rfl (fun hc => ?_) (fun hc => ?_)) | refine goI ?_ | (refine Cw.k_cond ?_; first | (refine Cw.cond_dec rfl (fun hc => ?_) (fun hc => ?_) <;> try (exfalso; omega)) | refine Cw.cond_bool rfl (fun hc => ?_) (fun hc => ?_)) | refine goR ?_ | refine goP ?_ | apply PSeq.cons | apply PSeq.yes rfl rfl rfl | exact goW | fail)
              exact ⟨_, _, _, (Ent.mk goSub goTk), ⟨i + 1, _, rfl, ⟨by omega, hbs.symm⟩, rfl, rfl⟩, by omega⟩
          · rw [if_neg (fun h => by have := h.1; simp [hex] at this)] at hbs
            repeat' (first | refine goH ?_ | refine goV ?_ | refine goB (fun b => ?_) | refine goC (fun ad cap => ?_) | refine goG ?_ | (refine Ops.k_guard ?_; first | (refine Ops.guard_dec rfl rfl (fun hc => ?_) (fun hc => ?_) <;> try (exfalso; omega)) | refine Ops.guard_split rfl rfl (fun hc => ?_) (fun hc => ?_)) | refine goI ?_ | (refine Cw.k_cond ?_; first | (refine Cw.cond_dec rfl (fun hc => ?_) (fun hc => ?_) <;> try (exfalso; omega)) | refine Cw.cond_bool rfl (fun hc => ?_) (fun hc => ?_)) | refine goR ?_ | refine goP ?_ | apply PSeq.cons | apply PSeq.yes rfl rfl rfl | exact goW | fail)
            exact ⟨_, _, _, (Ent.mk goSub goTk), ⟨i + 1, _, rfl, ⟨by omega, hbs.symm⟩, rfl, rfl⟩, by omega⟩
        · rw [if_neg (fun h => by have := h.1; simp [hmy] at this)] at hbs
          repeat' (first | refine goH ?_ | refine goV ?_ | refine goB (fun b => ?_) | refine goC (fun ad cap => ?_) | refine goG ?_ | (refine Ops.k_guard ?_; first | (refine Ops.guard_dec rfl rfl (fun hc => ?_) (fun hc => ?_) <;> try (exfalso; omega)) | refine Ops.guard_split rfl rfl (fun hc => ?_) (fun hc => ?_)) | refine goI ?_ | (refine Cw.k_cond ?_; first | (refine Cw.cond_dec rfl (fun hc => ?_) (fun hc => ?_) <;> try (exfalso; omega)) | refine Cw.cond_bool rfl (fun hc => ?_) (fun hc => ?_)) | refine goR ?_ | refine goP ?_ | apply PSeq.cons | apply PSeq.yes rfl rfl rfl | exact goW | fail)
          exact ⟨_, _, _, (Ent.mk goSub goTk), ⟨i + 1, _, rfl, ⟨by omega, hbs.symm⟩, rfl, rfl⟩, by omega⟩
      · rw [if_neg (fun h => by have := h.1; simp [hp] at this)] at hbs
        repeat' (first | refine goH ?_ | refine goV ?_ | refine goB (fun b => ?_) | refine goC (fun ad cap => ?_) | refine goG ?_ | (refine Ops.k_guard ?_; first | (refine Ops.guard_dec rfl rfl (fun hc => ?_) (fun hc => ?_) <;> try (exfalso; omega)) | refine Ops.guard_split rfl rfl (fun hc => ?_) (fun hc => ?_)) | refine goI ?_ | (refine Cw.k_cond ?_; first | (refine Cw.cond_dec rfl (fun hc => ?_) (fun hc => ?_) <;> try (exfalso; omega)) | refine Cw.cond_bool rfl (fun hc => ?_) (fun hc => ?_)) | refine goR ?_ | refine goP ?_ | apply PSeq.cons | apply PSeq.yes rfl rfl rfl | exact goW | fail)
        exact ⟨_, _, _, (Ent.mk goSub goTk), ⟨i + 1, _, rfl, ⟨by omega, hbs.symm⟩, rfl, rfl⟩, by omega⟩
  · rw [show i = st.1.length by rw [s1.len]; omega, hbest] at hbt
    subst hbt
    have hfr2 : freshI (st.1.set b ⟨x.id, x.prod, x.exp, x.many - mn⟩) p (day + left) = freshI st.1 p (day + left) - mn := by rw [freshI_set hx hcb]; omega
    have hz2 : 0 < mv - mn → ∀ j', j' < j + 1 → ∀ i, (ordL l p (day + left))[j']? = some i → manyAt (st.1.set b ⟨x.id, x.prod, x.exp, x.many - mn⟩) i.toNat = 0 := by
      intro hmv2 j' hj' i hi'
      by_cases e : i.toNat = b
      · rw [e]
        unfold manyAt
        rw [List.getElem?_set_self hbl]
        simp only
        omega
      · have hjj : j' ≠ j := fun e2 => by subst e2; rw [hjb] at hi'; cases hi'; exact e rfl
        have := hzj j' (by omega) i hi'
        unfold manyAt at this ⊢
        rw [List.getElem?_set_ne (fun h => e h.symm)]
        exact this
    have hsl := s1.len
    clear hz hzj hskip
    repeat' (first | refine goH ?_ | (refine Ops.k_c_min ?_; first | (refine Ops.min2 rfl rfl rfl ?_; rw [← hmn])) | refine goV ?_ | refine goB (fun b => ?_) | refine goC (fun ad cap => ?_) | refine goG ?_ | (refine Ops.k_guard ?_; first | (refine Ops.guard_dec rfl rfl (fun hc => ?_) (fun hc => ?_) <;> try (exfalso; omega)) | refine Ops.guard_split rfl rfl (fun hc => ?_) (fun hc => ?_)) | refine goI ?_ | (refine Cw.k_cond ?_; first | (refine Cw.cond_dec rfl (fun hc => ?_) (fun hc => ?_) <;> try (exfalso; omega)) | refine Cw.cond_bool rfl (fun hc => ?_) (fun hc => ?_)) | refine goR ?_ | refine goP ?_ | apply PSeq.cons | apply PSeq.yes rfl rfl rfl | exact goW | fail)
    exact ⟨_, _, _, (Ent.mk goSub goTk), ⟨j + 1, _, _, takeStep st (b : Int), _, _, _, rfl, ⟨by omega, hnext.symm, by rw [htk], by rw [htk]; exact hset, by rw [htk]; exact hpp, by rw [htk]; simp only; omega, by rw [htk]; exact hz2⟩, rfl, rfl⟩, by omega⟩
end Lg
end
section
set_option linter.all false
set_option maxRecDepth 100000
set_option maxHeartbeats 4000000
namespace Lg
open Go Go.Proofs

def pickP (l : List Lot) (p : ByteArray) (many fr : Int) : List Piece := (pickR l p many fr).2.2
def pick1E (l : List Lot) (p : ByteArray) (many day left : Int) : Int := if lotsErr l ≠ 0 then lotsErr l else pickE l p many day left
theorem pickE_ok {l : List Lot} {p : ByteArray} {many day left : Int} (h : pickE l p many day left = 0) : isKey p = true ∧ (0 ≤ day ∧ day ≤ 4000) ∧ (0 ≤ left ∧ left ≤ 4000) ∧ (0 ≤ many ∧ many ≤ 100000) ∧ many ≤ freshI l p (day + left) := by
  unfold pickE freshE daysE at h
  cases hk : isKey p
  · rw [hk] at h; simp at h
  · rw [hk] at h
    cases h1 : dayB day
    · rw [h1] at h; simp at h
    · cases h2 : dayB left
      · rw [h1, h2] at h; simp at h
      · rw [h1, h2] at h
        simp only [Bool.true_eq_false, Bool.and_self, if_true, if_false, ne_eq, not_true_eq_false] at h
        split at h
        · omega
        · split at h
          · omega
          · exact ⟨rfl, dayB_iff.1 h1, dayB_iff.1 h2, by omega, by omega⟩

theorem lotRow4 {l : List Lot} : ∀ r ∈ l.map Lot.row, r.length = 4 := by
  intro r hr
  obtain ⟨x, _, rfl⟩ := List.mem_map.1 hr
  rfl
def spoilX (day : Int) (x : Lot) : Lot := if x.exp < day then ⟨x.id, x.prod, x.exp, 0⟩ else x
def spoilP (day : Int) : List Lot → List Piece
  | [] => []
  | x :: l => if x.exp < day ∧ 0 < x.many then ⟨x.id, x.many⟩ :: spoilP day l else spoilP day l
theorem spoilP_app (day : Int) : ∀ (a b : List Lot), spoilP day (a ++ b) = spoilP day a ++ spoilP day b
  | [], b => rfl
  | x :: a, b => by
    rw [List.cons_append, spoilP, spoilP, spoilP_app day a b]
    split <;> rfl
theorem spoilP_len (day : Int) : ∀ a : List Lot, (spoilP day a).length ≤ a.length
  | [] => Nat.le_refl _
  | x :: a => by
    have := spoilP_len day a
    rw [spoilP, List.length_cons]
    split
    · rw [List.length_cons]; omega
    · omega
theorem set_same {α : Type} {l : List α} {k : Nat} {x : α} (h : l[k]? = some x) : l.set k x = l := by
  obtain ⟨hk, rfl⟩ := List.getElem?_eq_some_iff.1 h
  exact List.set_getElem_self hk
theorem spoil_step {l : List Lot} {day : Int} {k : Nat} {x : Lot} (hx : l[k]? = some x) : (l.take (k + 1)).map (spoilX day) ++ l.drop (k + 1) = ((l.take k).map (spoilX day) ++ l.drop k).set k (spoilX day x) := by
  obtain ⟨hk, _⟩ := List.getElem?_eq_some_iff.1 hx
  rw [take_at hx, drop_at hx, List.map_append, List.set_append]
  have : ((l.take k).map (spoilX day)).length = k := by rw [List.length_map, List.length_take]; omega
  rw [if_neg (by omega), this, Nat.sub_self]
  simp
theorem spoil_mid {l : List Lot} {day : Int} {k : Nat} {x : Lot} (hx : l[k]? = some x) : ((l.take k).map (spoilX day) ++ l.drop k)[k]? = some x := by
  obtain ⟨hk, _⟩ := List.getElem?_eq_some_iff.1 hx
  rw [List.getElem?_append_right (by rw [List.length_map, List.length_take]; omega), List.length_map, List.length_take, List.getElem?_drop, show k + (k - min k l.length) = k by omega]
  exact hx
def spoil1E (l : List Lot) (day : Int) : Int := if lotsErr l ≠ 0 then lotsErr l else if dayB day then 0 else 1

end Lg
end
