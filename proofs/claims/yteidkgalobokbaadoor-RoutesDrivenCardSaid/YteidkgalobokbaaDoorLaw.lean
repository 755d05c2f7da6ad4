/- A part of the proof of a law of this seat: it adds no condition. By an AI agent. -/
import Derived.Test.YteidkgalobokbaaDoorDv2
section
set_option linter.all false
set_option maxRecDepth 100000
set_option maxHeartbeats 8000000
namespace Lg
open Go Go.Proofs

attribute [local irreducible] twoS intRows
theorem textR_fn (l : List Stop) (bs : List Int) (e w q : Int) (hl : l.length ≤ 1000) (hE : tourE l bs = 0) : PFn Tryd.prog 19 [.stops l, .tour bs e w q] (· = .str (tourS l bs ⟨#[]⟩)) := by
  obtain ⟨hk, hb, hany⟩ : (∀ s ∈ l, s.key.size ≤ 1000) ∧ bs.length = l.length ∧ ∀ x ∈ bs, 0 ≤ x ∧ x ≤ 14400 := by
    unfold tourE at hE
    by_cases h1 : stopsE l ≠ 0
    · rw [if_pos h1] at hE; exact absurd hE h1
    rw [if_neg h1] at hE
    by_cases h2 : bs.length ≠ l.length
    · rw [if_pos h2] at hE; cases hE
    rw [if_neg h2] at hE
    cases h3 : bs.any begB with
    | true => rw [h3, if_pos rfl] at hE; cases hE
    | false =>
      refine ⟨stops_keys (by omega), by omega, fun x hx => ?_⟩
      have := List.any_eq_false.1 h3 x hx
      simp [begB] at this
      omega
  clear hE
  have hL : (l.map Stop.row).length = l.length := List.length_map _
  have hbR := intRows_len bs
  refine PFn.mk (Spec.body Tryd.func19 rfl rfl (Tryd.ntmps19) rfl fun w0 own0 M => ?_)
  repeat' (first | refine goH ?_ | refine goV ?_ | refine goB (fun b => ?_) | refine goI ?_ | (refine Cw.k_cond ?_; first | (refine Cw.cond_dec rfl (fun hc => ?_) (fun hc => ?_) <;> try (exfalso; omega)) | refine Cw.cond_bool rfl (fun hc => ?_) (fun hc => ?_)) | refine goR ?_ | refine goP ?_ | apply PSeq.cons | apply PSeq.yes rfl rfl rfl | exact goW | fail)
  refine Cw.newbld b goPk ?_
  refine Cw.loopI [(3, _), (5, _), (6, _), (9, _), (10, _)] _ (fun n e c => ∃ (k : Nat) (t : ByteArray) (p ad : Option Addr) (cap : Nat), n = l.length - k ∧ (k ≤ l.length ∧ BldI b p ad cap t ∧ t.size ≤ k * 1009 ∧ tourS (l.drop k) (bs.drop k) t = tourS l bs ⟨#[]⟩) ∧ e = [(11, .int k)] ∧ c = [bldB b p ad cap t, bldO ad cap t]) ⟨_, _, _, (Ent.mkP goSub goPm), 0, ⟨#[]⟩, none, none, 0, rfl, ⟨by omega, BldI.new b, by simp [ByteArray.size], rfl⟩, rfl, rfl⟩ ?_
  rintro n _ _ ⟨k, t, p, ad, cap, rfl, ⟨hkl, hI, hts, hT⟩, rfl, rfl⟩
  rename_i b
  by_cases hc : k < l.length
  · obtain ⟨s, hs⟩ : ∃ s, l[k]? = some s := ⟨_, List.getElem?_eq_getElem hc⟩
    obtain ⟨y, hy⟩ : ∃ y, bs[k]? = some y := ⟨_, List.getElem?_eq_getElem (by omega)⟩
    have hsm := hk s (List.mem_of_getElem? hs)
    have hyb := hany y (List.mem_of_getElem? hy)
    have hr1 : (l.map Stop.row)[k]? = some s.row := by rw [List.getElem?_map, hs]; rfl
    have hr2 : (intRows bs)[k]? = some [Tr.int y] := intRows_at hy
    have hls := lineS_size y s.key
    have kw := writeString_fn hI (lineS y s.key) (by omega)
    have hz1 := twoS_size (y / 60)
    have hz2 := twoS_size (y % 60)
    have e1 : (⟨#[58]⟩ : ByteArray).size = 1 := rfl
    have e2 : (⟨#[32]⟩ : ByteArray).size = 1 := rfl
    have e3 : (⟨#[10]⟩ : ByteArray).size = 1 := rfl
    have hlin : lineS y s.key = ((((twoS (y / 60) ++ ⟨#[58]⟩) ++ twoS (y % 60)) ++ ⟨#[32]⟩) ++ s.key) ++ ⟨#[10]⟩ := rfl
    rw [hlin] at kw
    repeat' (first | refine goH ?_ | refine goV ?_ | refine goB (fun b => ?_) | refine goI ?_ | (refine Cw.k_cond ?_; first | (refine Cw.cond_dec rfl (fun hc => ?_) (fun hc => ?_) <;> try (exfalso; omega)) | refine Cw.cond_bool rfl (fun hc => ?_) (fun hc => ?_)) | fail)
    refine Cw.region_seqM 23 rfl (by decide +kernel) rfl ?_
    iterate 7 (apply PSeq.cons; exact goW)
    apply PSeq.cons
    exact OpW.callS_fn (caps := []) (args := [Tr.int (y / 60)]) (cin := []) rfl (twoR_fn (y / 60) (by omega) (by omega)).lend (Evs.cons rfl Evs.nil) goPm
    apply PSeq.cons
    exact OpV.w (OpV.catS rfl rfl (by omega))
    iterate 7 (apply PSeq.cons; exact goW)
    apply PSeq.cons
    exact OpW.callS_fn (caps := []) (args := [Tr.int (y % 60)]) (cin := []) rfl (twoR_fn (y % 60) (by omega) (by omega)).lend (Evs.cons rfl Evs.nil) goPm
    apply PSeq.cons
    exact OpV.w (OpV.catS rfl rfl (by (try simp only [ByteArray.size_append]); omega))
    apply PSeq.cons
    exact OpV.w (OpV.catS rfl rfl (by (try simp only [ByteArray.size_append]); omega))
    iterate 2 (apply PSeq.cons; exact goW)
    apply PSeq.cons
    exact OpV.w (OpV.catS rfl rfl (by (try simp only [ByteArray.size_append]); omega))
    apply PSeq.cons
    exact OpV.w (OpV.catS rfl rfl (by (try simp only [ByteArray.size_append]); omega))
    repeat' (first | refine goH ?_ | ((fail_if_success refine Ops.k_c_call ?_); refine goV ?_) | ((fail_if_success refine Ops.k_c_call ?_); refine goB (fun b => ?_)) | refine goI ?_ | (refine Cw.k_cond ?_; first | (refine Cw.cond_dec rfl (fun hc => ?_) (fun hc => ?_) <;> try (exfalso; omega)) | refine Cw.cond_bool rfl (fun hc => ?_) (fun hc => ?_)) | refine goR ?_ | refine goP ?_ | apply PSeq.cons | apply PSeq.yes rfl rfl rfl | exact goW | fail)
    refine Ops.call kw (Evs.cons rfl (Evs.cons rfl Evs.nil)) goPm rfl ?_; rintro r cs' ⟨p2, ad2, cap2, hI2, rfl, rfl⟩
    rw [← hlin] at hI2 ⊢
    repeat' (first | refine goH ?_ | refine goV ?_ | refine goB (fun b => ?_) | refine goI ?_ | (refine Cw.k_cond ?_; first | (refine Cw.cond_dec rfl (fun hc => ?_) (fun hc => ?_) <;> try (exfalso; omega)) | refine Cw.cond_bool rfl (fun hc => ?_) (fun hc => ?_)) | refine goR ?_ | refine goP ?_ | apply PSeq.cons | apply PSeq.yes rfl rfl rfl | exact goW | fail)
    rw [tourS_at hs hy] at hT
    have hsz : (t ++ lineS y s.key).size = t.size + (lineS y s.key).size := ByteArray.size_append
    exact ⟨_, _, _, (Ent.mk goSub goTk), ⟨k + 1, t ++ lineS y s.key, p2, ad2, cap2, rfl, ⟨by omega, hI2, by omega, hT⟩, rfl, rfl⟩, by omega⟩
  · have kS := string_fn hI (by omega)
    rw [tourS_end (by omega)] at hT
    subst hT
    repeat' (first | refine goH ?_ | refine goV ?_ | refine goB (fun b => ?_) | refine goI ?_ | (refine Cw.k_cond ?_; first | (refine Cw.cond_dec rfl (fun hc => ?_) (fun hc => ?_) <;> try (exfalso; omega)) | refine Cw.cond_bool rfl (fun hc => ?_) (fun hc => ?_)) | (refine Ops.k_calla ?_; first | (refine Ops.k_callf 44 ?_; (refine Ops.call kS (Evs.cons rfl Evs.nil) goPm rfl ?_; rintro r cs' ⟨rfl, rfl⟩))) | refine goR ?_ | refine goP ?_ | apply PSeq.cons | apply PSeq.yes rfl rfl rfl | exact goW | fail)
    exact Fin.ret (Ent.take goTk) (Outs.one rfl rfl) ⟨rfl, rfl⟩
end Lg
end
section
set_option linter.all false
set_option maxRecDepth 100000
set_option maxHeartbeats 8000000
namespace Lg
open Go Go.Proofs

def drvW : Option (List Int × Int × Int × Int) → (List Int × Int × Int × Int) × Int
  | none => (([], 0, 0, 0), 16)
  | some r => (r, 0)
def drvP (l : List Stop) (h : Spot) (s : Int) (o : List Int) : (List Int × Int × Int × Int) × Int := if ordersE l.length o ≠ 0 then (([], 0, 0, 0), ordersE l.length o) else drvW (drv l h o h s [] 0 0)
theorem drvU_eq (l : List Stop) (h : Spot) (s : Int) (o : List Int) : drvU l h s o = .tup [.tour (drvP l h s o).1.1 (drvP l h s o).1.2.1 (drvP l h s o).1.2.2.1 (drvP l h s o).1.2.2.2, .int (drvP l h s o).2] := by
  unfold drvU drvP
  split
  · rfl
  · cases drv l h o h s [] 0 0 with
    | none => rfl
    | some r => rfl
theorem drv_len {l : List Stop} {h : Spot} : ∀ (o : List Int) (a : Spot) (now : Int) (bs : List Int) (w q : Int) (r : List Int × Int × Int × Int), drv l h o a now bs w q = some r → r.1.length = bs.length + o.length
  | [], a, now, bs, w, q, r, hr => by
    simp only [drv, Option.some.injEq] at hr
    subst hr
    simp
  | i :: o, a, now, bs, w, q, r, hr => by
    rw [drv] at hr
    cases hl : l[i.toNat]? with
    | none => rw [hl] at hr; cases hr
    | some s =>
      rw [hl] at hr
      simp only at hr
      split at hr
      · cases hr
      · have := drv_len o _ _ _ _ _ r hr
        rw [this]
        simp
        omega
theorem drvP_len (l : List Stop) (h : Spot) (s : Int) (o : List Int) : (drvP l h s o).1.1.length ≤ o.length := by
  unfold drvP
  split
  · simp
  · cases hd : drv l h o h s [] 0 0 with
    | none => simp [drvW]
    | some r =>
      have := drv_len o _ _ _ _ _ r hd
      simp only [drvW]
      rw [this]
      simp
/-- the drive of the reference, with its begins owned -/
def drvO (l : List Stop) (h : Spot) (s : Int) (o : List Int) (r : Tr) (cs : List Chunk) : Prop := ∃ (bs : List Int) (e w q err : Int) (ad : Option Addr) (cap b : Nat), drvP l h s o = ((bs, e, w, q), err) ∧ r = .tup [.agg [.raw (.slice ad bs.length cap), .int e, .int w, .int q], .int err] ∧
  cs = [Chunk.own ad cap 1 3 (intRows bs), Chunk.box b 38 [.raw (.slice ad bs.length cap), .int e, .int w, .int q]]
attribute [local irreducible] intRows farI
theorem driveOfO_fn (h : Spot) (l : List Stop) (s : Int) (o : List Int) (ht : tripE h l s = 0) (hol : o.length ≤ 1000) : Spec Tryd.prog 14 [.agg h.row, .stops l, .int s, .ints o] [] (fun r cs => drvO l h s o r cs) := by
  have hL : (l.map Stop.row).length = l.length := List.length_map _
  have hoR := intRows_len o
  obtain ⟨hse, hhb, hsb⟩ := trip_ok ht
  obtain ⟨hl60, hst⟩ := stops_ok hse
  obtain ⟨R, hR⟩ : ∃ R, R = drv l h o h s [] 0 0 := ⟨_, rfl⟩
  unfold drvO
  obtain ⟨Z, hZ⟩ : ∃ Z, Z = drvP l h s o := ⟨_, rfl⟩
  rw [← hZ]
  unfold drvP at hZ
  rw [← hR] at hZ
  have hV0 : ordersE l.length o = firstE (ordE l.length o) 0 (o.length - 0) := rfl
  clear ht hse
  unfold Spot.row
  refine Spec.body Tryd.func14 rfl rfl (Tryd.ntmps14) rfl fun w0 own0 M => ?_
  repeat' (first | refine goH ?_ | refine goV ?_ | refine goB (fun b => ?_) | refine goC (fun ad cap => ?_) | refine goG ?_ | (refine Ops.k_guard ?_; first | (refine Ops.guard_dec rfl rfl (fun hc => ?_) (fun hc => ?_) <;> try (exfalso; omega)) | refine Ops.guard_split rfl rfl (fun hc => ?_) (fun hc => ?_)) | refine goI ?_ | (refine Cw.k_cond ?_; first | (refine Cw.cond_dec rfl (fun hc => ?_) (fun hc => ?_) <;> try (exfalso; omega)) | refine Cw.cond_bool rfl (fun hc => ?_) (fun hc => ?_)) | refine goR ?_ | refine goP ?_ | apply PSeq.cons | apply PSeq.yes rfl rfl rfl | exact goW | fail)
  rename_i b4
  obtain ⟨b8, hb8⟩ : ∃ b8, b8 = b := ⟨_, rfl⟩
  subst hb8
  refine Cw.loopI [(1, _), (2, _), (3, _), (4, _), (8, _), (22, _), (23, _)] _ (fun z e cc => ∃ (k : Nat), z = o.length - k ∧ (k ≤ o.length ∧ ordersE l.length o = firstE (ordE l.length o) k (o.length - k)) ∧ e = [(24, .int k)] ∧ cc = []) ⟨_, _, _, (Ent.mkP goSub goPm), 0, rfl, ⟨by omega, hV0⟩, rfl, rfl⟩ ?_
  clear hV0
  rintro _ _ _ ⟨k, rfl, ⟨hk, hV⟩, rfl, rfl⟩
  by_cases hkl : k < o.length
  · obtain ⟨i, hi⟩ := at_lt hkl
    have r1 := intRows_at hi
    have fin : ∀ c, ordE l.length o k = c → c ≠ 0 → ordersE l.length o = c := fun c h1 h2 => hV.trans (firstE_bad hkl h1 h2)
    have nxt : ordE l.length o k = 0 → ordersE l.length o = firstE (ordE l.length o) (k + 1) (o.length - (k + 1)) := fun h1 => hV.trans (firstE_ok hkl h1)
    have hoe : ordE l.length o k = if i < 0 ∨ (l.length : Int) - 1 < i then 1 else if i ∈ o.take k then 6 else 0 := by unfold ordE; rw [hi]
    have kC : PFn Tryd.prog 37 [.sl 1 ((intRows o).take k), .int i] (· = .bool (decide (i ∈ o.take k))) := by
      rw [intRows_take]
      exact contains_fn (o.take k) i (by rw [List.length_take]; omega)
    clear hV hi hst
    by_cases g1 : i < 0 ∨ (l.length : Int) - 1 < i
    · rw [if_pos g1] at hoe
      rw [fin 1 hoe (by decide), if_pos (by decide)] at hZ
      rw [hZ]
      clear fin nxt hR kC
      by_cases g2 : i < 0
      all_goals
        repeat' (first | refine goH ?_ | refine goV ?_ | refine goB (fun b => ?_) | refine goC (fun ad cap => ?_) | refine goG ?_ | (refine Ops.k_guard ?_; first | (refine Ops.guard_dec rfl rfl (fun hc => ?_) (fun hc => ?_) <;> try (exfalso; omega)) | refine Ops.guard_split rfl rfl (fun hc => ?_) (fun hc => ?_)) | refine goI ?_ | (refine Cw.k_cond ?_; first | (refine Cw.cond_dec rfl (fun hc => ?_) (fun hc => ?_) <;> try (exfalso; omega)) | refine Cw.cond_bool rfl (fun hc => ?_) (fun hc => ?_)) | refine goR ?_ | refine goP ?_ | apply PSeq.cons | apply PSeq.yes rfl rfl rfl | exact goW | fail)
        exact Fin.ret (cs' := [Chunk.own none 0 1 3 [], Chunk.box b8 38 [.raw (.slice none 0 0), .int 0, .int 0, .int 0]]) (Ent.trans (Ent.nil 1 3) (Ent.take goTk)) (Outs.cell_tmp (b := b8) rfl rfl (List.Perm.swap _ _ _) rfl rfl) ⟨[], 0, 0, 0, _, none, 0, b8, rfl, rfl, by rw [intRows_nil]; rfl⟩
    rw [if_neg g1] at hoe
    by_cases g2 : i ∈ o.take k
    · rw [if_pos g2] at hoe
      rw [decide_eq_true g2] at kC
      rw [fin 6 hoe (by decide), if_pos (by decide)] at hZ
      rw [hZ]
      clear fin nxt hR
      repeat' (first | refine goH ?_ | refine goV ?_ | refine goB (fun b => ?_) | refine goC (fun ad cap => ?_) | refine goG ?_ | (refine Ops.k_guard ?_; first | (refine Ops.guard_dec rfl rfl (fun hc => ?_) (fun hc => ?_) <;> try (exfalso; omega)) | refine Ops.guard_split rfl rfl (fun hc => ?_) (fun hc => ?_)) | refine goI ?_ | (refine Cw.k_cond ?_; first | (refine Cw.cond_dec rfl (fun hc => ?_) (fun hc => ?_) <;> try (exfalso; omega)) | refine Cw.cond_bool rfl (fun hc => ?_) (fun hc => ?_)) | (refine Ops.k_calla ?_; first | (refine Ops.k_callf 37 ?_; refine Ops.callV kC (Evs.cons rfl (Evs.cons rfl Evs.nil)) rfl ?_)) | (apply OpW.k_call; first | (apply OpW.k_callf 37; exact OpW.callV kC (Evs.cons rfl (Evs.cons rfl Evs.nil)))) | refine goR ?_ | refine goP ?_ | apply PSeq.cons | apply PSeq.yes rfl rfl rfl | exact goW | fail)
      exact Fin.ret (cs' := [Chunk.own none 0 1 3 [], Chunk.box b8 38 [.raw (.slice none 0 0), .int 0, .int 0, .int 0]]) (Ent.trans (Ent.nil 1 3) (Ent.take goTk)) (Outs.cell_tmp (b := b8) rfl rfl (List.Perm.swap _ _ _) rfl rfl) ⟨[], 0, 0, 0, _, none, 0, b8, rfl, rfl, by rw [intRows_nil]; rfl⟩
    rw [if_neg g2] at hoe
    rw [decide_eq_false g2] at kC
    have hV2 := nxt hoe
    clear fin nxt g2
    repeat' (first | refine goH ?_ | refine goV ?_ | refine goB (fun b => ?_) | refine goC (fun ad cap => ?_) | refine goG ?_ | (refine Ops.k_guard ?_; first | (refine Ops.guard_dec rfl rfl (fun hc => ?_) (fun hc => ?_) <;> try (exfalso; omega)) | refine Ops.guard_split rfl rfl (fun hc => ?_) (fun hc => ?_)) | refine goI ?_ | (refine Cw.k_cond ?_; first | (refine Cw.cond_dec rfl (fun hc => ?_) (fun hc => ?_) <;> try (exfalso; omega)) | refine Cw.cond_bool rfl (fun hc => ?_) (fun hc => ?_)) | (refine Ops.k_calla ?_; first | (refine Ops.k_callf 37 ?_; refine Ops.callV kC (Evs.cons rfl (Evs.cons rfl Evs.nil)) rfl ?_)) | (apply OpW.k_call; first | (apply OpW.k_callf 37; exact OpW.callV kC (Evs.cons rfl (Evs.cons rfl Evs.nil)))) | refine goR ?_ | refine goP ?_ | apply PSeq.cons | apply PSeq.yes rfl rfl rfl | exact goW | fail)
    exact ⟨_, _, _, (Ent.mk goSub goTk), ⟨k + 1, rfl, ⟨by omega, hV2⟩, rfl, rfl⟩, by omega⟩
  rw [firstE_end hkl] at hV
  have hoe := ordersE_ok hV
  rw [hV, if_neg (by decide)] at hZ
  clear hV
  repeat' (first | refine goH ?_ | refine goV ?_ | refine goB (fun b => ?_) | refine goC (fun ad cap => ?_) | refine goG ?_ | (refine Ops.k_guard ?_; first | (refine Ops.guard_dec rfl rfl (fun hc => ?_) (fun hc => ?_) <;> try (exfalso; omega)) | refine Ops.guard_split rfl rfl (fun hc => ?_) (fun hc => ?_)) | refine goI ?_ | (refine Cw.k_cond ?_; first | (refine Cw.cond_dec rfl (fun hc => ?_) (fun hc => ?_) <;> try (exfalso; omega)) | refine Cw.cond_bool rfl (fun hc => ?_) (fun hc => ?_)) | refine goR ?_ | refine goP ?_ | apply PSeq.cons | apply PSeq.yes rfl rfl rfl | exact goW | fail)
  rename_i b12
  obtain ⟨b13, hb13⟩ : ∃ b13, b13 = b := ⟨_, rfl⟩
  subst hb13
  refine Cw.loopI [(1, _), (4, _), (8, _), (12, _), (13, _), (48, _), (49, _)] _ (fun z e cc => ∃ (k : Nat) (a : Spot) (now w q : Int) (bs : List Int) (rows : List (List Tr)) (ad : Option Addr) (cap : Nat), z = o.length - k ∧ (k ≤ o.length ∧ R = drv l h (o.drop k) a now bs w q ∧ spotB a = true ∧ (0 ≤ now ∧ now ≤ 3000) ∧ (0 ≤ w ∧ w ≤ (k : Int) * 40000) ∧ (0 ≤ q ∧ q ≤ (k : Int) * 3000) ∧ rows = intRows bs ∧ rows.length = k) ∧ e = [(50, .int k)] ∧ cc = [Chunk.box b12 38 [Tr.raw (.slice ad k cap), .int now, .int w, .int q], Chunk.own ad cap 1 3 rows, Chunk.box b13 29 [.int a.x, .int a.y]])
    ⟨_, _, _, Ent.trans (Ent.nil 1 3) (Ent.mkP goSub goPm), 0, h, s, 0, 0, [], [], none, 0, rfl, ⟨by omega, by rw [List.drop_zero]; exact hR, hhb, by omega, by omega, by omega, intRows_nil.symm, rfl⟩, rfl, rfl⟩ ?_
  clear hR hk hkl
  rintro _ _ _ ⟨k, a, now, w, q, bs, rows, ad, cap, rfl, ⟨hk, hV, hab, hnow, hw, hq, hrs, hrl⟩, rfl, rfl⟩
  have hfb := farI_bd hab hhb
  have kH : PFn Tryd.prog 8 [.agg [.int a.x, .int a.y], .agg [.int h.x, .int h.y]] (· = .tup [.int (farI a h), .int 0]) := farOf_ok hab hhb
  by_cases hkl : k < o.length
  rotate_left
  · rw [drv_end (by omega)] at hV
    rw [hV] at hZ
    rw [hZ]
    generalize farI a h = g at *
    clear hV hst hoe hZ
    repeat' (first | refine goH ?_ | refine goV ?_ | refine goB (fun b => ?_) | refine goC (fun ad cap => ?_) | refine goG ?_ | (refine Ops.k_guard ?_; first | (refine Ops.guard_dec rfl rfl (fun hc => ?_) (fun hc => ?_) <;> try (exfalso; omega)) | refine Ops.guard_split rfl rfl (fun hc => ?_) (fun hc => ?_)) | refine goI ?_ | (refine Cw.k_cond ?_; first | (refine Cw.cond_dec rfl (fun hc => ?_) (fun hc => ?_) <;> try (exfalso; omega)) | refine Cw.cond_bool rfl (fun hc => ?_) (fun hc => ?_)) | (refine Ops.k_calla ?_; first | (refine Ops.k_callf 8 ?_; refine Ops.callV kH (Evs.cons rfl (Evs.cons rfl Evs.nil)) rfl ?_)) | (apply OpW.k_call; first | (apply OpW.k_callf 8; exact OpW.callV kH (Evs.cons rfl (Evs.cons rfl Evs.nil)))) | refine goR ?_ | refine goP ?_ | apply PSeq.cons | apply PSeq.yes rfl rfl rfl | exact goW | fail)
    subst hrs
    unfold drvW
    rw [← hrl, intRows_len]
    exact Fin.ret (cs' := [Chunk.own ad cap 1 3 (intRows bs), Chunk.box b8 38 [.raw (.slice ad bs.length cap), .int (now + g), .int (w + g), .int q]]) (Ent.take goTk) (Outs.cell_tmp (b := b8) rfl rfl (List.Perm.swap _ _ _) rfl rfl) ⟨bs, _, _, _, _, ad, cap, b8, rfl, rfl, rfl⟩
  obtain ⟨i, hi⟩ := at_lt hkl
  have r1 := intRows_at hi
  have hib := hoe i (List.mem_of_getElem? hi)
  obtain ⟨x, hx⟩ := at_lt (l := l) (k := i.toNat) (by omega)
  have hrow : (l.map Stop.row)[i.toNat]? = some [.str x.key, .int x.x, .int x.y, .int x.f, .int x.t, .int x.n] := rows_at hx
  obtain ⟨⟨hxs, hx1⟩, hx2⟩ := stopB_ok (hst x (List.mem_of_getElem? hx))
  have kS : PFn Tryd.prog 8 [.agg [.int a.x, .int a.y], .agg [.int x.x, .int x.y]] (· = .tup [.int (farI a x.spot), .int 0]) := farOf_ok hab hxs
  have hgb := farI_bd hab hxs
  rw [drv_step hi hx] at hV
  generalize farI a x.spot = g at *
  obtain ⟨m, hm⟩ : ∃ m, m = max (now + g) x.f := ⟨_, rfl⟩
  have hmb : now + g ≤ m ∧ (m = now + g ∨ m = x.f) := by omega
  have hm2 : max (now + g) x.f = m := hm.symm
  rw [hm2] at hV
  clear hi hx hst hoe kH hfb
  by_cases hlate : x.t < m
  · rw [if_pos hlate] at hV
    rw [hV] at hZ
    rw [hZ]
    have hlate2 : x.t < max (now + g) x.f := by rw [hm2]; exact hlate
    clear hV hrs hm hZ
    repeat' (first | refine goH ?_ | refine goV ?_ | refine goB (fun b => ?_) | refine goC (fun ad cap => ?_) | refine goG ?_ | (refine Ops.k_guard ?_; first | (refine Ops.guard_dec rfl rfl (fun hc => ?_) (fun hc => ?_) <;> try (exfalso; omega)) | refine Ops.guard_split rfl rfl (fun hc => ?_) (fun hc => ?_)) | refine goI ?_ | (refine Cw.k_cond ?_; first | (refine Cw.cond_dec rfl (fun hc => ?_) (fun hc => ?_) <;> try (exfalso; omega)) | refine Cw.cond_bool rfl (fun hc => ?_) (fun hc => ?_)) | (refine Ops.k_calla ?_; first | (refine Ops.k_callf 8 ?_; refine Ops.callV kS (Evs.cons rfl (Evs.cons rfl Evs.nil)) rfl ?_)) | (apply OpW.k_call; first | (apply OpW.k_callf 8; exact OpW.callV kS (Evs.cons rfl (Evs.cons rfl Evs.nil)))) | refine goR ?_ | refine goP ?_ | apply PSeq.cons | apply PSeq.yes rfl rfl rfl | exact goW | fail)
    unfold drvW
    exact Fin.ret (cs' := [Chunk.own none 0 1 3 [], Chunk.box b8 38 [.raw (.slice none 0 0), .int 0, .int 0, .int 0]]) (Ent.trans (Ent.nil 1 3) (Ent.take goTk)) (Outs.cell_tmp (b := b8) rfl rfl (List.Perm.swap _ _ _) rfl rfl) ⟨[], 0, 0, 0, _, none, 0, b8, rfl, rfl, by rw [intRows_nil]; rfl⟩
  · rw [if_neg hlate] at hV
    have hrs2 : rows ++ [[Tr.int m]] = intRows (bs ++ [m]) := by rw [hrs, intRows_snoc]
    have hrl2 : (rows ++ [[Tr.int m]]).length = k + 1 := by rw [List.length_append, hrl]; rfl
    have hlate2 : ¬ x.t < max (now + g) x.f := by rw [hm2]; exact hlate
    clear hrs hm
    repeat' (first | refine goH ?_ | refine goV ?_ | refine goB (fun b => ?_) | refine goC (fun ad cap => ?_) | refine goG ?_ | (refine Ops.k_guard ?_; first | (refine Ops.guard_dec rfl rfl (fun hc => ?_) (fun hc => ?_) <;> try (exfalso; omega)) | refine Ops.guard_split rfl rfl (fun hc => ?_) (fun hc => ?_)) | refine goI ?_ | (refine Cw.k_cond ?_; first | (refine Cw.cond_dec rfl (fun hc => ?_) (fun hc => ?_) <;> try (exfalso; omega)) | refine Cw.cond_bool rfl (fun hc => ?_) (fun hc => ?_)) | (refine Ops.k_calla ?_; first | (refine Ops.k_callf 8 ?_; refine Ops.callV kS (Evs.cons rfl (Evs.cons rfl Evs.nil)) rfl ?_)) | (apply OpW.k_call; first | (apply OpW.k_callf 8; exact OpW.callV kS (Evs.cons rfl (Evs.cons rfl Evs.nil)))) | refine goR ?_ | refine goP ?_ | apply PSeq.cons | apply PSeq.yes rfl rfl rfl | exact goW | fail)
    rw [hm2, hrl2]
    first | refine Cw.region_YP (fun ξ S => Chunk.box b 51 [.str x.key, .int x.x, .int x.y, .int x.f, .int x.t, .int x.n] :: Chunk.box b12 38 [Tr.raw (.slice ad (k + 1) cap), stg (S 7) (Tr.int now) (Tr.int (m + x.n)), .int (w + g), .int (q + (m - now - g))] :: Chunk.own ad cap 1 3 (rows ++ [[Tr.int m]]) :: Chunk.box b13 29 (stg (S 8) [.int a.x, .int a.y] [.int x.x, .int x.y]) :: Chunk.box b8 38 (List.map Tr.raw [.slice none 0 0, .int .i64 0, .int .i64 0, .int .i64 0]) :: Chunk.box b4 29 [.int h.x, .int h.y] :: []) rfl (by decide +kernel) rfl ((fun (ξ : Nat → Value) (S : Nat → Bool) => Chunk.box b 51 [.str x.key, .int x.x, .int x.y, .int x.f, .int x.t, .int x.n] :: Chunk.box b12 38 [Tr.raw (.slice ad (k + 1) cap), stg (S 7) (Tr.int now) (Tr.int (m + x.n)), .int (w + g), .int (q + (m - now - g))] :: Chunk.own ad cap 1 3 (rows ++ [[Tr.int m]]) :: Chunk.box b13 29 (stg (S 8) [.int a.x, .int a.y] [.int x.x, .int x.y]) :: Chunk.box b8 38 (List.map Tr.raw [.slice none 0 0, .int .i64 0, .int .i64 0, .int .i64 0]) :: Chunk.box b4 29 [.int h.x, .int h.y] :: []) (fun _ => undef) (fun _ => false)) (by simp only [upd_same, updD_same, upd_ne, updD_ne, ne_eq, Nat.reduceEqDiff, not_false_eq_true, stg_t, stg_f, vAd_s, vCap_s, blk_p, List.cons_append, List.nil_append, b2n_t, b2n_f]; exact goXm) (fun _ => rfl) ?_ | fail
    apply YSeq.w (by intro _ _ _; rfl)
    · intro ξ S h1 h2 h3 h4
      have hN0_7 := closed_false h1 h3 (k := 7) rfl (by decide)
      have hN0_8 := closed_false h1 h3 (k := 8) rfl (by decide)
      try simp only [upd_same, updD_same, upd_ne, updD_ne, ne_eq, Nat.reduceEqDiff, not_false_eq_true, stg_t, stg_f, vAd_s, vCap_s, blk_p, List.cons_append, List.nil_append, b2n_t, b2n_f, hN0_7, hN0_8]
      exact goW
    · intro ξ v; rfl
    · intro ξ k v S h3 hn hk
      first
      | rfl
    apply YSeq.w (by intro _ _ _; rfl)
    · intro ξ S h1 h2 h3 h4
      have hN1_7 := closed_false h1 h3 (k := 7) rfl (by decide)
      have hN1_8 := closed_false h1 h3 (k := 8) rfl (by decide)
      try simp only [upd_same, updD_same, upd_ne, updD_ne, ne_eq, Nat.reduceEqDiff, not_false_eq_true, stg_t, stg_f, vAd_s, vCap_s, blk_p, List.cons_append, List.nil_append, b2n_t, b2n_f, hN1_7, hN1_8]
      exact goW
    · intro ξ v; rfl
    · intro ξ k v S h3 hn hk
      first
      | rfl
    apply YSeq.w (by intro _ _ _; rfl)
    · intro ξ S h1 h2 h3 h4
      have hN2_7 := closed_false h1 h3 (k := 7) rfl (by decide)
      have hN2_8 := closed_false h1 h3 (k := 8) rfl (by decide)
      try simp only [upd_same, updD_same, upd_ne, updD_ne, ne_eq, Nat.reduceEqDiff, not_false_eq_true, stg_t, stg_f, vAd_s, vCap_s, blk_p, List.cons_append, List.nil_append, b2n_t, b2n_f, hN2_7, hN2_8]
      exact goW
    · intro ξ v; rfl
    · intro ξ k v S h3 hn hk
      first
      | rfl
    apply YSeq.w (by intro _ _ _; rfl)
    · intro ξ S h1 h2 h3 h4
      have hN3_7 := closed_false h1 h3 (k := 7) rfl (by decide)
      have hN3_8 := closed_false h1 h3 (k := 8) rfl (by decide)
      try simp only [upd_same, updD_same, upd_ne, updD_ne, ne_eq, Nat.reduceEqDiff, not_false_eq_true, stg_t, stg_f, vAd_s, vCap_s, blk_p, List.cons_append, List.nil_append, b2n_t, b2n_f, hN3_7, hN3_8]
      exact goW
    · intro ξ v; rfl
    · intro ξ k v S h3 hn hk
      first
      | rfl
    apply YSeq.w (by intro _ _ _; rfl)
    · intro ξ S h1 h2 h3 h4
      have hN4_8 := closed_false h1 h3 (k := 8) rfl (by decide)
      try simp only [upd_same, updD_same, upd_ne, updD_ne, ne_eq, Nat.reduceEqDiff, not_false_eq_true, stg_t, stg_f, vAd_s, vCap_s, blk_p, List.cons_append, List.nil_append, b2n_t, b2n_f, hN4_8]
      exact goW
    · intro ξ v; rfl
    · intro ξ k v S h3 hn hk
      first
      | rfl
    apply YSeq.w (by intro _ _ _; rfl)
    · intro ξ S h1 h2 h3 h4
      have hN5_8 := closed_false h1 h3 (k := 8) rfl (by decide)
      try simp only [upd_same, updD_same, upd_ne, updD_ne, ne_eq, Nat.reduceEqDiff, not_false_eq_true, stg_t, stg_f, vAd_s, vCap_s, blk_p, List.cons_append, List.nil_append, b2n_t, b2n_f, hN5_8]
      exact goW
    · intro ξ v; rfl
    · intro ξ k v S h3 hn hk
      first
      | rfl
    apply YSeq.w (by intro _ _ _; rfl)
    · intro ξ S h1 h2 h3 h4
      have hN6_7 := closed_false h1 h3 (k := 7) rfl (by decide)
      have hN6_8 := closed_false h1 h3 (k := 8) rfl (by decide)
      try simp only [upd_same, updD_same, upd_ne, updD_ne, ne_eq, Nat.reduceEqDiff, not_false_eq_true, stg_t, stg_f, vAd_s, vCap_s, blk_p, List.cons_append, List.nil_append, b2n_t, b2n_f, hN6_7, hN6_8]
      exact goW
    · intro ξ v; rfl
    · intro ξ k v S h3 hn hk
      first
      | rfl
    apply YSeq.store
    · intro ξ S h1 h2 h3 h4
      have hN7_8 := closed_false h1 h3 (k := 8) rfl (by decide)
      simp only [upd_same, updD_same, upd_ne, updD_ne, ne_eq, Nat.reduceEqDiff, not_false_eq_true, stg_t, stg_f, vAd_s, vCap_s, blk_p, List.cons_append, List.nil_append, b2n_t, b2n_f, h1, hN7_8]
      refine ⟨_, _, _, _, _, _, _, rfl, rfl, inferInstance, goXp, rfl, Nat.le_of_ble_eq_true rfl, ?_⟩
      exact goXm
    apply YSeq.store
    · intro ξ S h1 h2 h3 h4
      have hY8_7 : S 7 = true := h2 7 (by decide)
      simp only [upd_same, updD_same, upd_ne, updD_ne, ne_eq, Nat.reduceEqDiff, not_false_eq_true, stg_t, stg_f, vAd_s, vCap_s, blk_p, List.cons_append, List.nil_append, b2n_t, b2n_f, hY8_7, h1]
      refine ⟨_, _, _, _, _, _, _, rfl, rfl, inferInstance, goXp, rfl, Nat.le_of_ble_eq_true rfl, ?_⟩
      exact goXm
    refine YSeq.nil fun ξ hf => ?_
    refine ⟨[(1, _), (4, _), (8, _), (12, _), (13, _), (48, _), (49, _), (50, _)], _, Ent.trans (Ent.eqc rfl (by first | (simp only [upd_same, updD_same, upd_ne, updD_ne, ne_eq, Nat.reduceEqDiff, not_false_eq_true, stg_t, stg_f, vAd_s, vCap_s, blk_p, List.cons_append, List.nil_append, b2n_t, b2n_f, ownV, slV, ptV] <;> rfl) | rfl)) (Ent.sub goSub), ?_⟩
    clear hf
    repeat' (first | refine goH ?_ | refine goV ?_ | refine goB (fun b => ?_) | refine goC (fun ad cap => ?_) | refine goG ?_ | (refine Ops.k_guard ?_; first | (refine Ops.guard_dec rfl rfl (fun hc => ?_) (fun hc => ?_) <;> try (exfalso; omega)) | refine Ops.guard_split rfl rfl (fun hc => ?_) (fun hc => ?_)) | refine goI ?_ | (refine Cw.k_cond ?_; first | (refine Cw.cond_dec rfl (fun hc => ?_) (fun hc => ?_) <;> try (exfalso; omega)) | refine Cw.cond_bool rfl (fun hc => ?_) (fun hc => ?_)) | refine goR ?_ | refine goP ?_ | apply PSeq.cons | apply PSeq.yes rfl rfl rfl | exact goW | fail)
    exact ⟨_, _, _, (Ent.mk goSub goTk), ⟨k + 1, x.spot, m + x.n, w + g, q + (m - now - g), bs ++ [m], _, _, _, rfl, ⟨by omega, hV, hxs, by omega, by omega, by omega, hrs2, hrl2⟩, rfl, rfl⟩, by omega⟩
end Lg
end
section
set_option linter.all false
namespace Lg
open Go Go.Proofs

theorem Ops.shut0 {P : Program} {Γ : Ctx} {env : Env} {cs : List Chunk} {Q : Post} {R : Array Oper} {l : List Oper} {ty b : Nat} {cells : List Tr} {rows : List (List Tr)} (h : cells = [Tr.sl 1 rows, Tr.int ((0 : Nat) : Int)]) (k : Ops P Γ R l env (Chunk.strm ty b rows 0 :: cs) Q) : Ops P Γ R l env (Chunk.box b ty cells :: cs) Q := by
  subst h
  exact Ops.ent (Ent.shut_strm (m := 0) (Nat.le_refl 0)) k
end Lg
end
