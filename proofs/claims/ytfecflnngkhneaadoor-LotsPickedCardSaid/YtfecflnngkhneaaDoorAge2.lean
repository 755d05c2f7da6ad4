/- A part of the proof of a law of this seat: it adds no condition. By an AI agent. -/
import Derived.Test.YtfecflnngkhneaaDoorSGen
import Derived.Test.YtfecflnngkhneaaDoorAge1
set_option linter.all false
set_option maxRecDepth 100000
set_option maxHeartbeats 4000000
namespace Lg
open Go Go.Proofs

def unitsU (ps : List Piece) : List ByteArray := ps.flatMap fun p => List.replicate p.many.toNat p.lot
theorem unitsU_cons (p : Piece) (ps : List Piece) : unitsU (p :: ps) = List.replicate p.many.toNat p.lot ++ unitsU ps := rfl
theorem unitsU_app (a b : List Piece) : unitsU (a ++ b) = unitsU a ++ unitsU b := by simp [unitsU]
theorem unitsU_len : ∀ {ps : List Piece}, (∀ p ∈ ps, 0 ≤ p.many) → ((unitsU ps).length : Int) = unitsI ps
  | [], _ => rfl
  | p :: ps, h => by
    have h1 := h p (by simp)
    have h2 := unitsU_len fun q hq => h q (List.mem_cons_of_mem p hq)
    rw [unitsU_cons, unitsI, sumF_cons, ← unitsI, List.length_append, List.length_replicate]
    omega
theorem take_snoc {α : Type} {l : List α} {k : Nat} {x : α} (h : l[k]? = some x) : l.take (k + 1) = l.take k ++ [x] := take_at h

/-- the lots of all units: it hands out a slice of its own -/
theorem units_ref (ps : List Piece) (hm : ∀ p ∈ ps, p.many ≤ 1000000) (hl : ps.length ≤ 1000000) : PFnO Tryd.prog 50 [.pieces ps] 1 9 (· = strRows (unitsU ps)) := by
  unfold PFnO
  refine Spec.body Tryd.func50 rfl rfl (Tryd.ntmps50) rfl fun w0 own0 M => ?_
  have hL : (ps.map Piece.row).length = ps.length := List.length_map _
  repeat' (first | refine goH ?_ | refine goV ?_ | refine goB (fun b => ?_) | refine goC (fun ad cap => ?_) | refine goI ?_ | (refine Cw.k_cond ?_; first | (refine Cw.cond_dec rfl (fun hc => ?_) (fun hc => ?_) <;> try (exfalso; omega)) | refine Cw.cond_bool rfl (fun hc => ?_) (fun hc => ?_)) | fail)
  refine Cw.loopI [(6, _), (7, _)] _ (fun n e c => ∃ (k : Nat) (ad : Option Addr) (cap : Nat) (rows : List (List Tr)), n = ps.length - k ∧ (k ≤ ps.length ∧ rows = strRows (unitsU (ps.take k)) ∧ rows.length ≤ 1000000 * k) ∧ e = [(3, Tr.raw (.slice ad rows.length cap)), (8, .int k)] ∧ c = [Chunk.own ad cap 1 9 rows])
    ⟨_, _, _, Ent.trans (Ent.nil 1 9) (Ent.mkP (by repeat' (first | exact Sub.nil | refine Sub.cons rfl ?_)) (by repeat' (first | exact List.Perm.refl _ | refine Perm.cons' (by first | exact pick0 | exact pickS pick0 | exact pickS (pickS pick0) | exact pickS (pickS (pickS pick0)) | exact pickS (pickS (pickS (pickS pick0)))) ?_))), 0, none, 0, [], rfl, ⟨by omega, by simp [unitsU, strRows], by simp⟩, rfl, rfl⟩ ?_
  rintro _ _ _ ⟨k, ad, cap, rows, rfl, ⟨hk, hrows, hlen⟩, rfl, rfl⟩
  by_cases hkl : k < ps.length
  · obtain ⟨x, hx⟩ := at_lt hkl
    have hrow : (ps.map Piece.row)[k]? = some [.str x.lot, .int x.many] := rows_at hx
    have hmx := hm x (List.mem_of_getElem? hx)
    repeat' (first | refine goH ?_ | refine goV ?_ | refine goB (fun b => ?_) | refine goC (fun ad cap => ?_) | refine goI ?_ | (refine Cw.k_cond ?_; first | (refine Cw.cond_dec rfl (fun hc => ?_) (fun hc => ?_) <;> try (exfalso; omega)) | refine Cw.cond_bool rfl (fun hc => ?_) (fun hc => ?_)) | fail)
    refine Cw.loopI [(5, _), (6, _), (7, _), (8, _), (13, _)] _ (fun n e c => ∃ (j : Nat) (ad : Option Addr) (cap : Nat) (rows : List (List Tr)), n = x.many.toNat - j ∧ (j ≤ x.many.toNat ∧ rows = strRows (unitsU (ps.take k) ++ List.replicate j x.lot) ∧ rows.length ≤ 1000000 * k + j) ∧ e = [(3, Tr.raw (.slice ad rows.length cap)), (14, .int j)] ∧ c = [Chunk.own ad cap 1 9 rows])
      ⟨_, _, _, (Ent.mkP (by repeat' (first | exact Sub.nil | refine Sub.cons rfl ?_)) (by repeat' (first | exact List.Perm.refl _ | refine Perm.cons' (by first | exact pick0 | exact pickS pick0 | exact pickS (pickS pick0) | exact pickS (pickS (pickS pick0)) | exact pickS (pickS (pickS (pickS pick0)))) ?_))), 0, ad, cap, rows, rfl, ⟨by omega, by simp [hrows], by omega⟩, rfl, rfl⟩ ?_
    clear hrows hlen
    rintro _ _ _ ⟨j, ad, cap, rows, rfl, ⟨hj, hrows, hlen⟩, rfl, rfl⟩
    by_cases hjl : (j : Int) < x.many
    · have key : rows ++ [[Tr.str x.lot]] = strRows (unitsU (ps.take k) ++ List.replicate (j + 1) x.lot) := by
        rw [hrows, List.replicate_succ', ← List.append_assoc, strRows_app (_ ++ _)]
        rfl
      repeat' (first | refine goH ?_ | refine goV ?_ | refine goB (fun b => ?_) | refine goC (fun ad cap => ?_) | refine goI ?_ | (refine Cw.k_cond ?_; first | (refine Cw.cond_dec rfl (fun hc => ?_) (fun hc => ?_) <;> try (exfalso; omega)) | refine Cw.cond_bool rfl (fun hc => ?_) (fun hc => ?_)) | fail)
      exact ⟨_, _, _, (Ent.mk (by repeat' (first | exact Sub.nil | refine Sub.cons rfl ?_)) (by repeat' (first | exact Take.nil | refine Take.cons (by first | exact pick0 | exact pickS pick0 | exact pickS (pickS pick0) | exact pickS (pickS (pickS pick0)) | exact pickS (pickS (pickS (pickS pick0)))) ?_))), ⟨j + 1, _, _, _, rfl, ⟨by omega, key, by simp only [List.length_append, List.length_cons, List.length_nil]; omega⟩, rfl, rfl⟩, by omega⟩
    · repeat' (first | refine goH ?_ | refine goV ?_ | refine goB (fun b => ?_) | refine goC (fun ad cap => ?_) | refine goI ?_ | (refine Cw.k_cond ?_; first | (refine Cw.cond_dec rfl (fun hc => ?_) (fun hc => ?_) <;> try (exfalso; omega)) | refine Cw.cond_bool rfl (fun hc => ?_) (fun hc => ?_)) | fail)
      refine ⟨_, _, _, (Ent.mk (by repeat' (first | exact Sub.nil | refine Sub.cons rfl ?_)) (by repeat' (first | exact Take.nil | refine Take.cons (by first | exact pick0 | exact pickS pick0 | exact pickS (pickS pick0) | exact pickS (pickS (pickS pick0)) | exact pickS (pickS (pickS (pickS pick0)))) ?_))), ⟨k + 1, _, _, _, rfl, ⟨by omega, ?_, by omega⟩, rfl, rfl⟩, by omega⟩
      rw [hrows, take_snoc hx, unitsU_app, show j = x.many.toNat by omega]
      simp [unitsU]
  · repeat' (first | refine goH ?_ | refine goV ?_ | refine goB (fun b => ?_) | refine goC (fun ad cap => ?_) | refine goI ?_ | (refine Cw.k_cond ?_; first | (refine Cw.cond_dec rfl (fun hc => ?_) (fun hc => ?_) <;> try (exfalso; omega)) | refine Cw.cond_bool rfl (fun hc => ?_) (fun hc => ?_)) | fail)
    refine Fin.ret (Ent.take (by repeat' (first | exact Take.nil | refine Take.cons (by first | exact pick0 | exact pickS pick0 | exact pickS (pickS pick0) | exact pickS (pickS (pickS pick0)) | exact pickS (pickS (pickS (pickS pick0)))) ?_))) (Outs.one rfl rfl) ⟨ad, cap, rows, rfl, rfl, ?_⟩
    rw [hrows, List.take_of_length_le (by omega)]

def expOf (l : List Lot) (id : ByteArray) : Int := (lotD l id).exp
def blockedI (l : List Lot) (day : Int) : List Piece → Int
  | [] => 0
  | p :: ps => if day ≤ expOf l p.lot then 0 else p.many + blockedI l day ps
def blockedU (l : List Lot) (day : Int) : List ByteArray → Int
  | [] => 0
  | s :: r => if day ≤ expOf l s then 0 else 1 + blockedU l day r
theorem blockedU_rep (l : List Lot) (day : Int) (s : ByteArray) (r : List ByteArray) : ∀ n, blockedU l day (List.replicate (n + 1) s ++ r) = if day ≤ expOf l s then 0 else ((n + 1 : Nat) : Int) + blockedU l day r
  | 0 => by simp [blockedU]
  | n + 1 => by
    rw [List.replicate_succ, List.cons_append, blockedU, blockedU_rep l day s r n]
    split <;> omega
theorem blockedU_units (l : List Lot) (day : Int) : ∀ {ps : List Piece}, (∀ p ∈ ps, 1 ≤ p.many) → blockedU l day (unitsU ps) = blockedI l day ps
  | [], _ => rfl
  | p :: ps, h => by
    have h1 := h p (by simp)
    obtain ⟨n, hn⟩ : ∃ n, p.many.toNat = n + 1 := ⟨p.many.toNat - 1, by omega⟩
    rw [unitsU_cons, hn, blockedU_rep, blockedU_units l day fun q hq => h q (List.mem_cons_of_mem p hq), blockedI]
    split <;> omega

theorem known_find {l : List Lot} {ps : List Piece} (h : strangeB l ps = false) : ∀ p ∈ ps, ∃ x, findL l p.lot = some x := by
  intro p hp
  unfold strangeB at h
  rw [List.any_eq_false] at h
  have := h p hp
  cases hf : findL l p.lot with
  | none => simp [hf] at this
  | some x => exact ⟨x, rfl⟩
theorem dayB_iff {n : Int} : dayB n = true ↔ 0 ≤ n ∧ n ≤ 4000 := by simp [dayB, outB]

theorem coilDay_ok {l : List Lot} {c : Coil} {day : Int} (h : coilDayErr l c day = 0) : lotsErr l = 0 ∧ coilErr c = 0 ∧ strangeB l c.ps = false ∧ dayB day = true := by
  unfold coilDayErr at h
  split at h
  · omega
  · split at h
    · omega
    · split at h
      · omega
      · rename_i h1 h2 h3
        split at h
        · rename_i h4
          exact ⟨by omega, by omega, by simpa using h3, h4⟩
        · omega
theorem coilErr_ok {c : Coil} (h : coilErr c = 0) : isKey c.prod = true ∧ 0 ≤ c.most ∧ c.most ≤ 1000 ∧ c.ps.length ≤ 1000 ∧ (∀ p ∈ c.ps, isKey p.lot = true ∧ 1 ≤ p.many ∧ p.many ≤ 1000) ∧ unitsI c.ps ≤ c.most := by
  unfold coilErr at h
  split at h
  · omega
  · split at h
    · omega
    · split at h
      · omega
      · split at h
        · rename_i h5; exact absurd h h5
        · rename_i h1 h2 h3 h4
          split at h
          · omega
          · exact ⟨by simpa using h1, by omega, by omega, by omega, pieces_ok (by simpa using h4), by omega⟩
theorem lotsErr_ok {l : List Lot} (h : lotsErr l = 0) : l.length ≤ 500 ∧ ∀ x ∈ l, isKey x.id = true ∧ isKey x.prod = true ∧ 0 ≤ x.exp ∧ x.exp ≤ 4000 ∧ 0 ≤ x.many ∧ x.many ≤ 100000 := by
  unfold lotsErr at h
  split at h
  · omega
  · refine ⟨by omega, fun x hx => ?_⟩
    obtain ⟨j, hj⟩ := List.getElem?_of_mem hx
    have hlt := (List.getElem?_eq_some_iff.1 hj).1
    have he := firstE_zero h j (by omega) (by omega)
    unfold lotE at he
    rw [hj] at he
    simp only at he
    split at he
    · omega
    · rename_i h1
      split at he
      · omega
      · unfold lotErr at he
        split at he
        · omega
        · rename_i h3
          split at he
          · omega
          · exact ⟨by simpa using h1, by simpa using h3, by omega, by omega, by omega, by omega⟩

theorem blocked_fn (c : Coil) (hc : c.ps.length ≤ 1000000) (l : List Lot) (hl : l.length ≤ 1000000) (day : Int) :
    PFn Tryd.prog 10 [.agg c.row, .lots l, .int day] (· = .tup [.int (if coilDayErr l c day ≠ 0 then 0 else blockedI l day c.ps), .int (coilDayErr l c day)]) := by
  have h1 := coilFault_fn c hc l hl day
  refine PFn.mk (Spec.body Tryd.func10 rfl rfl (Tryd.ntmps10) rfl fun w0 own0 M => ?_)
  by_cases h0 : coilDayErr l c day ≠ 0
  · rw [if_pos h0]
    unfold Coil.row at *
    repeat' (first | refine goH ?_ | refine goV ?_ | refine goB (fun b => ?_) | refine goI ?_ | (refine Cw.k_cond ?_; first | (refine Cw.cond_dec rfl (fun hc => ?_) (fun hc => ?_) <;> try (exfalso; omega)) | refine Cw.cond_bool rfl (fun hc => ?_) (fun hc => ?_)) | (refine Ops.k_calla ?_; first | (refine Ops.k_callf 40 ?_; refine Ops.callV h1 (Evs.cons rfl (Evs.cons rfl (Evs.cons rfl Evs.nil))) rfl ?_)) | fail)
    refine Fin.ret (Ent.take (by repeat' (first | exact Take.nil | refine Take.cons (by first | exact pick0 | exact pickS pick0 | exact pickS (pickS pick0) | exact pickS (pickS (pickS pick0)) | exact pickS (pickS (pickS (pickS pick0)))) ?_))) (Outs.many rfl (OutL.cons (by first | exact OutE.tmp rfl | exact OutE.agg inferInstance rfl rfl | exact OutE.one inferInstance rfl) (OutL.cons (by first | exact OutE.tmp rfl | exact OutE.agg inferInstance rfl rfl | exact OutE.one inferInstance rfl) OutL.nil)) rfl) ⟨rfl, rfl⟩
  have he : coilDayErr l c day = 0 := by omega
  rw [if_neg h0, he]
  rw [he] at h1
  obtain ⟨_, k2, k3, _⟩ := coilDay_ok he
  obtain ⟨_, _, _, _, k5, _⟩ := coilErr_ok k2
  have k6 := known_find k3
  obtain ⟨prod, most, ps⟩ := c
  simp only at hc k5 k6 ⊢
  have hL : (ps.map Piece.row).length = ps.length := List.length_map _
  unfold Coil.row at *
  simp only at h1 ⊢
  repeat' (first | refine goH ?_ | refine goV ?_ | refine goB (fun b => ?_) | refine goI ?_ | (refine Cw.k_cond ?_; first | (refine Cw.cond_dec rfl (fun hc => ?_) (fun hc => ?_) <;> try (exfalso; omega)) | refine Cw.cond_bool rfl (fun hc => ?_) (fun hc => ?_)) | (refine Ops.k_calla ?_; first | (refine Ops.k_callf 40 ?_; refine Ops.callV h1 (Evs.cons rfl (Evs.cons rfl (Evs.cons rfl Evs.nil))) rfl ?_)) | fail)
  refine Cw.loopI [(1, _), (2, _), (20, _), (21, _)] _ (fun n e cc => ∃ (k : Nat) (s : Int), n = ps.length - k ∧ (k ≤ ps.length ∧ s + blockedI l day (ps.drop k) = blockedI l day ps ∧ 0 ≤ s ∧ s ≤ 1000 * (k : Int)) ∧ e = [(9, .int s), (22, .int k)] ∧ cc = []) ⟨_, _, _, (Ent.mkP (by repeat' (first | exact Sub.nil | refine Sub.cons rfl ?_)) (by repeat' (first | exact List.Perm.refl _ | refine Perm.cons' (by first | exact pick0 | exact pickS pick0 | exact pickS (pickS pick0) | exact pickS (pickS (pickS pick0)) | exact pickS (pickS (pickS (pickS pick0)))) ?_))), 0, 0, rfl, ⟨by omega, by simp, by omega, by omega⟩, rfl, rfl⟩ ?_
  rintro _ _ _ ⟨k, s, rfl, ⟨hk, hV, b1, b2⟩, rfl, rfl⟩
  by_cases hkl : k < ps.length
  · obtain ⟨x, hx⟩ := at_lt hkl
    have hrow : (ps.map Piece.row)[k]? = some [.str x.lot, .int x.many] := rows_at hx
    have hxm := List.mem_of_getElem? hx
    obtain ⟨_, m1, m2⟩ := k5 x hxm
    obtain ⟨y, hy⟩ := k6 x hxm
    obtain ⟨j, hj, hyj⟩ := lotIx_some hy
    have hlot := lot_fn l hl x.lot
    rw [hj] at hlot
    have hrowy : (l.map Lot.row)[((j : Nat) : Int).toNat]? = some [.str y.id, .str y.prod, .int y.exp, .int y.many] := rows_at hyj
    have hexp : expOf l x.lot = y.exp := by unfold expOf lotD; rw [hy]; rfl
    rw [drop_at hx, blockedI, hexp] at hV
    by_cases hd : day ≤ y.exp
    · rw [if_pos hd] at hV
      repeat' (first | refine goH ?_ | refine goV ?_ | refine goB (fun b => ?_) | refine goI ?_ | (refine Cw.k_cond ?_; first | (refine Cw.cond_dec rfl (fun hc => ?_) (fun hc => ?_) <;> try (exfalso; omega)) | refine Cw.cond_bool rfl (fun hc => ?_) (fun hc => ?_)) | (refine Ops.k_calla ?_; first | (refine Ops.k_callf 41 ?_; refine Ops.callV hlot (Evs.cons rfl (Evs.cons rfl Evs.nil)) rfl ?_)) | fail)
      refine Fin.ret (Ent.take (by repeat' (first | exact Take.nil | refine Take.cons (by first | exact pick0 | exact pickS pick0 | exact pickS (pickS pick0) | exact pickS (pickS (pickS pick0)) | exact pickS (pickS (pickS (pickS pick0)))) ?_))) (Outs.many rfl (OutL.cons (by first | exact OutE.tmp rfl | exact OutE.agg inferInstance rfl rfl | exact OutE.one inferInstance rfl) (OutL.cons (by first | exact OutE.tmp rfl | exact OutE.agg inferInstance rfl rfl | exact OutE.one inferInstance rfl) OutL.nil)) rfl) ⟨rfl, ?_⟩
      rw [show s = blockedI l day ps by omega]
    · rw [if_neg hd] at hV
      repeat' (first | refine goH ?_ | refine goV ?_ | refine goB (fun b => ?_) | refine goI ?_ | (refine Cw.k_cond ?_; first | (refine Cw.cond_dec rfl (fun hc => ?_) (fun hc => ?_) <;> try (exfalso; omega)) | refine Cw.cond_bool rfl (fun hc => ?_) (fun hc => ?_)) | (refine Ops.k_calla ?_; first | (refine Ops.k_callf 41 ?_; refine Ops.callV hlot (Evs.cons rfl (Evs.cons rfl Evs.nil)) rfl ?_)) | fail)
      exact ⟨_, _, _, (Ent.mk (by repeat' (first | exact Sub.nil | refine Sub.cons rfl ?_)) (by repeat' (first | exact Take.nil | refine Take.cons (by first | exact pick0 | exact pickS pick0 | exact pickS (pickS pick0) | exact pickS (pickS (pickS pick0)) | exact pickS (pickS (pickS (pickS pick0)))) ?_))), ⟨k + 1, _, rfl, ⟨by omega, by omega, by omega, by omega⟩, rfl, rfl⟩, by omega⟩
  · rw [List.drop_eq_nil_of_le (by omega), blockedI] at hV
    repeat' (first | refine goH ?_ | refine goV ?_ | refine goB (fun b => ?_) | refine goI ?_ | (refine Cw.k_cond ?_; first | (refine Cw.cond_dec rfl (fun hc => ?_) (fun hc => ?_) <;> try (exfalso; omega)) | refine Cw.cond_bool rfl (fun hc => ?_) (fun hc => ?_)) | fail)
    refine Fin.ret (Ent.take (by repeat' (first | exact Take.nil | refine Take.cons (by first | exact pick0 | exact pickS pick0 | exact pickS (pickS pick0) | exact pickS (pickS (pickS pick0)) | exact pickS (pickS (pickS (pickS pick0)))) ?_))) (Outs.many rfl (OutL.cons (by first | exact OutE.tmp rfl | exact OutE.agg inferInstance rfl rfl | exact OutE.one inferInstance rfl) (OutL.cons (by first | exact OutE.tmp rfl | exact OutE.agg inferInstance rfl rfl | exact OutE.one inferInstance rfl) OutL.nil)) rfl) ⟨rfl, ?_⟩
    rw [show s = blockedI l day ps by omega]

theorem blockedOf_fn (c : Coil) (hc : c.ps.length ≤ 1000) (hm : ∀ p ∈ c.ps, 1 ≤ p.many ∧ p.many ≤ 1000) (l : List Lot) (hl : l.length ≤ 1000000) (day : Int) :
    PFn Tryd.prog 18 [.agg c.row, .lots l, .int day] (· = .int (blockedI l day c.ps)) := by
  have hu := (units_ref c.ps (fun p hp => by have := hm p hp; omega) (by omega)).val
  have hul := unitsU_len (ps := c.ps) (fun p hp => by have := hm p hp; omega)
  have hub : unitsI c.ps ≤ 1000000 := by
    have : ∀ ps : List Piece, (∀ p ∈ ps, 1 ≤ p.many ∧ p.many ≤ 1000) → unitsI ps ≤ 1000 * (ps.length : Int) := by
      intro ps
      induction ps with
      | nil => intro _; simp [unitsI, sumF]
      | cons p ps ih => intro h; have := h p (by simp); have := ih fun q hq => h q (List.mem_cons_of_mem p hq); rw [unitsI, sumF_cons, ← unitsI, List.length_cons]; omega
    have := this c.ps hm
    omega
  have hbu := blockedU_units l day (ps := c.ps) (fun p hp => (hm p hp).1)
  refine PFn.mk (Spec.body Tryd.func18 rfl rfl (Tryd.ntmps18) rfl fun w0 own0 M => ?_)
  obtain ⟨prod, most, ps⟩ := c
  unfold Coil.row
  simp only at *
  generalize unitsU ps = us at *
  have hL := strRows_len us
  repeat' (first | refine goH ?_ | refine goV ?_ | refine goB (fun b => ?_) | refine goI ?_ | (refine Cw.k_cond ?_; first | (refine Cw.cond_dec rfl (fun hc => ?_) (fun hc => ?_) <;> try (exfalso; omega)) | refine Cw.cond_bool rfl (fun hc => ?_) (fun hc => ?_)) | (refine Ops.k_calla ?_; first | (refine Ops.k_callf 50 ?_; refine Ops.callV hu (Evs.cons rfl Evs.nil) rfl ?_)) | fail)
  refine Cw.loopI [(1, _), (2, _), (14, _), (15, _)] _ (fun n e cc => ∃ (k : Nat) (s : Int), n = us.length - k ∧ (k ≤ us.length ∧ s + blockedU l day (us.drop k) = blockedI l day ps ∧ 0 ≤ s ∧ s ≤ (k : Int)) ∧ e = [(7, .int s), (16, .int k)] ∧ cc = []) ⟨_, _, _, (Ent.mkP (by repeat' (first | exact Sub.nil | refine Sub.cons rfl ?_)) (by repeat' (first | exact List.Perm.refl _ | refine Perm.cons' (by first | exact pick0 | exact pickS pick0 | exact pickS (pickS pick0) | exact pickS (pickS (pickS pick0)) | exact pickS (pickS (pickS (pickS pick0)))) ?_))), 0, 0, rfl, ⟨by omega, by simp [hbu], by omega, by omega⟩, rfl, rfl⟩ ?_
  rintro _ _ _ ⟨k, s, rfl, ⟨hk, hV, b1, b2⟩, rfl, rfl⟩
  by_cases hkl : k < us.length
  · obtain ⟨x, hx⟩ := at_lt hkl
    have hrow := strRows_at hx
    have hlo := lotOf_fn l hl x
    unfold Lot.row at hlo
    rw [drop_at hx, blockedU] at hV
    have hexp : expOf l x = (lotD l x).exp := rfl
    generalize lotD l x = y at hlo hexp
    rw [hexp] at hV
    by_cases hd : day ≤ y.exp
    · rw [if_pos hd] at hV
      repeat' (first | refine goH ?_ | refine goV ?_ | refine goB (fun b => ?_) | refine goI ?_ | (refine Cw.k_cond ?_; first | (refine Cw.cond_dec rfl (fun hc => ?_) (fun hc => ?_) <;> try (exfalso; omega)) | refine Cw.cond_bool rfl (fun hc => ?_) (fun hc => ?_)) | (refine Ops.k_calla ?_; first | (refine Ops.k_callf 47 ?_; refine Ops.callV hlo (Evs.cons rfl (Evs.cons rfl Evs.nil)) rfl ?_)) | fail)
      refine Fin.ret (Ent.take (by repeat' (first | exact Take.nil | refine Take.cons (by first | exact pick0 | exact pickS pick0 | exact pickS (pickS pick0) | exact pickS (pickS (pickS pick0)) | exact pickS (pickS (pickS (pickS pick0)))) ?_))) (Outs.one rfl rfl) ⟨rfl, congrArg Tr.int ?_⟩
      omega
    · rw [if_neg hd] at hV
      repeat' (first | refine goH ?_ | refine goV ?_ | refine goB (fun b => ?_) | refine goI ?_ | (refine Cw.k_cond ?_; first | (refine Cw.cond_dec rfl (fun hc => ?_) (fun hc => ?_) <;> try (exfalso; omega)) | refine Cw.cond_bool rfl (fun hc => ?_) (fun hc => ?_)) | (refine Ops.k_calla ?_; first | (refine Ops.k_callf 47 ?_; refine Ops.callV hlo (Evs.cons rfl (Evs.cons rfl Evs.nil)) rfl ?_)) | fail)
      exact ⟨_, _, _, (Ent.mk (by repeat' (first | exact Sub.nil | refine Sub.cons rfl ?_)) (by repeat' (first | exact Take.nil | refine Take.cons (by first | exact pick0 | exact pickS pick0 | exact pickS (pickS pick0) | exact pickS (pickS (pickS pick0)) | exact pickS (pickS (pickS (pickS pick0)))) ?_))), ⟨k + 1, _, rfl, ⟨by omega, by omega, by omega, by omega⟩, rfl, rfl⟩, by omega⟩
  · rw [List.drop_eq_nil_of_le (by omega), blockedU] at hV
    repeat' (first | refine goH ?_ | refine goV ?_ | refine goB (fun b => ?_) | refine goI ?_ | (refine Cw.k_cond ?_; first | (refine Cw.cond_dec rfl (fun hc => ?_) (fun hc => ?_) <;> try (exfalso; omega)) | refine Cw.cond_bool rfl (fun hc => ?_) (fun hc => ?_)) | fail)
    refine Fin.ret (Ent.take (by repeat' (first | exact Take.nil | refine Take.cons (by first | exact pick0 | exact pickS pick0 | exact pickS (pickS pick0) | exact pickS (pickS (pickS pick0)) | exact pickS (pickS (pickS (pickS pick0)))) ?_))) (Outs.one rfl rfl) ⟨rfl, congrArg Tr.int ?_⟩
    omega
end Lg
