/- A part of the proof of a law of this seat: it adds no condition. By an AI agent. -/
import Derived.Test.YtckmbloodnndeaaGreatDoorSite6
set_option linter.all false
set_option maxRecDepth 100000
set_option maxHeartbeats 8000000
namespace Lg
open Go Go.Proofs

/-! ### the law TopRounds -/
theorem indexFunc_site {l : List Site} {p : Site → Bool} {g : Nat} {caps : List Value} {cin : List Chunk} (hl : l.length ≤ 1000000000)
    (hs : ∀ x, x ∈ l → Spec Tryz.prog g ([Tr.agg x.row] ++ caps.map Tr.raw) cin (fun r cs => r = Tr.bool (p x) ∧ cs = cin)) :
    Spec Tryz.prog 10 [Tr.sl 3 (l.map Site.row), Tr.raw (.func (.func g) #[] caps.toArray)] cin (fun r cs => r = Tr.int (idxFrom p l 0) ∧ cs = cin) := by
  refine Spec.body Tryz.func10 rfl rfl (Tryz.ntmps10) rfl fun w0 own0 M => ?_
  have hL : (l.map Site.row).length = l.length := List.length_map _
  repeat' (first | refine goH ?_ | refine goV ?_ | refine goI ?_ | (refine Cw.k_cond ?_; first | (refine Cw.cond_dec rfl (fun hc => ?_) (fun hc => ?_) <;> try (exfalso; omega)) | refine Cw.cond_bool rfl (fun hc => ?_) (fun hc => ?_)) | fail)
  refine Cw.loop (ι := Nat) (fun k => k ≤ l.length ∧ idxFrom p l 0 = idxFrom p (l.drop k) k) (fun k => [(0, Tr.sl 3 (l.map Site.row)), (1, Tr.raw (.func (.func g) #[] caps.toArray)), (7, .int (l.map Site.row).length), (8, .int k)]) (fun _ => cin) (fun k => l.length - k) ⟨0, ⟨by omega, rfl⟩, Ent.sub goSub⟩ ?_
  rintro k ⟨hk, hgo⟩
  by_cases hkl : k < l.length
  · obtain ⟨x, hx⟩ : ∃ x, l[k]? = some x := ⟨_, List.getElem?_eq_getElem hkl⟩
    have hrow : (l.map Site.row)[k]? = some [.str x.key, .ints x.have_, .ints x.rate] := rows_at hx
    have hdrop := idxFrom_drop p hx
    rw [hdrop] at hgo
    have hsx := hs x (List.mem_of_getElem? hx)
    by_cases hp : p x = true
    · rw [if_pos hp] at hgo
      rw [hp] at hsx
      repeat' (first | refine goH ?_ | refine goV ?_ | refine goI ?_ | (refine Cw.k_cond ?_; first | (refine Cw.cond_dec rfl (fun hc => ?_) (fun hc => ?_) <;> try (exfalso; omega)) | refine Cw.cond_bool rfl (fun hc => ?_) (fun hc => ?_)) | (refine Ops.k_calla ?_; first | (refine Ops.call_fn rfl hsx (Evs.cons rfl Evs.nil) (by rw [List.append_nil]) rfl ?_; rintro r cs' ⟨rfl, hcs⟩; rw [hcs, List.append_nil])) | fail)
      exact Fin.ret Ent.refl (Outs.one rfl rfl) ⟨by rw [hgo], rfl⟩
    · rw [if_neg hp] at hgo
      rw [Bool.not_eq_true] at hp
      rw [hp] at hsx
      repeat' (first | refine goH ?_ | refine goV ?_ | refine goI ?_ | (refine Cw.k_cond ?_; first | (refine Cw.cond_dec rfl (fun hc => ?_) (fun hc => ?_) <;> try (exfalso; omega)) | refine Cw.cond_bool rfl (fun hc => ?_) (fun hc => ?_)) | (refine Ops.k_calla ?_; first | (refine Ops.call_fn rfl hsx (Evs.cons rfl Evs.nil) (by rw [List.append_nil]) rfl ?_; rintro r cs' ⟨rfl, hcs⟩; rw [hcs, List.append_nil])) | fail)
      exact ⟨k + 1, ⟨by omega, hgo⟩, by omega, Ent.sub goSub⟩
  · rw [List.drop_eq_nil_of_le (by omega), idxFrom] at hgo
    repeat' (first | refine goH ?_ | refine goV ?_ | refine goI ?_ | (refine Cw.k_cond ?_; first | (refine Cw.cond_dec rfl (fun hc => ?_) (fun hc => ?_) <;> try (exfalso; omega)) | refine Cw.cond_bool rfl (fun hc => ?_) (fun hc => ?_)) | fail)
    exact Fin.ret Ent.refl (Outs.one rfl rfl) ⟨by rw [hgo], rfl⟩


theorem siteK_fn (b : Nat) (key : ByteArray) (x : Site) : Spec Tryz.prog 11 [.agg x.row, .ptr b] [Chunk.box b 9 [.str key]] (fun r cs => r = .bool (decide (x.key = key)) ∧ cs = [Chunk.box b 9 [.str key]]) := by
  unfold Site.row
  refine Spec.body Tryz.func11 rfl rfl (Tryz.ntmps11) rfl fun w0 own0 M => ?_
  by_cases h : x.key = key
  · repeat' (first | refine goH ?_ | (refine Ops.k_b_eql ?_; first | (refine Ops.val' rfl (OpV.eqlS_t rfl rfl h) ?_)) | refine goV ?_ | refine goB (fun b => ?_) | refine goI ?_ | (refine Cw.k_cond ?_; first | (refine Cw.cond_dec rfl (fun hc => ?_) (fun hc => ?_) <;> try (exfalso; omega)) | refine Cw.cond_bool rfl (fun hc => ?_) (fun hc => ?_)) | fail)
    exact Fin.ret (Ent.take goTk) (Outs.one rfl rfl) ⟨congrArg Tr.bool (by simp [h]), rfl⟩
  · repeat' (first | refine goH ?_ | (refine Ops.k_b_eql ?_; first | (refine Ops.val' rfl (OpV.eqlS_f rfl rfl h) ?_)) | refine goV ?_ | refine goB (fun b => ?_) | refine goI ?_ | (refine Cw.k_cond ?_; first | (refine Cw.cond_dec rfl (fun hc => ?_) (fun hc => ?_) <;> try (exfalso; omega)) | refine Cw.cond_bool rfl (fun hc => ?_) (fun hc => ?_)) | fail)
    exact Fin.ret (Ent.take goTk) (Outs.one rfl rfl) ⟨congrArg Tr.bool (by simp [h]), rfl⟩
attribute [local irreducible] intRows strRows sitesE ordD leftI histErr order1 prof1 bestE drvA stopsE tripE histGo daysFault
theorem topRounds_law (xs : List Int) : Spec Tryz.prog 3 [Tr.ints xs] [] (fun r _ => r = Tr.bool true) := by
  refine Spec.body Tryz.func3 rfl rfl (Tryz.ntmps3) rfl fun w0 own0 M => ?_
  have k0 := ready_fn
  repeat' (first | refine goH ?_ | ((fail_if_success refine Ops.k_c_call ?_); refine goV ?_) | ((fail_if_success refine Ops.k_c_call ?_); refine goB (fun b => ?_)) | ((fail_if_success refine Ops.k_c_call ?_); refine goC (fun ad cap => ?_)) | refine goG ?_ | (refine Ops.k_guard ?_; first | (refine Ops.guard_dec rfl rfl (fun hc => ?_) (fun hc => ?_) <;> try (exfalso; omega)) | refine Ops.guard_split rfl rfl (fun hc => ?_) (fun hc => ?_)) | refine goI ?_ | (refine Cw.k_cond ?_; first | (refine Cw.cond_dec rfl (fun hc => ?_) (fun hc => ?_) <;> try (exfalso; omega)) | refine Cw.cond_bool rfl (fun hc => ?_) (fun hc => ?_)) | refine Ops.shut0 (ty := 25) rfl ?_ | (refine Ops.k_calla ?_; first | (refine Ops.k_callf 4 ?_; (refine Ops.callG sites_gen (Evs.cons rfl Evs.nil) goPk (by omega) rfl ?_; rintro x ⟨l, rfl, hl, hs⟩))) | refine goR ?_ | refine goP ?_ | apply PSeq.cons | apply PSeq.yes rfl rfl rfl | exact goW | fail)
  generalize b = bs at *
  have hB : SBd l := ⟨by omega, fun x hx => by have := hs x hx; unfold SOk at this; omega⟩
  have kF := sitesFault_fn l hB
  have kL := left_fn l hB
  by_cases h0 : sitesE l = 0
  rotate_left
  · clear kL
    generalize sitesE l = e at *
    repeat' (first | refine goH ?_ | (refine Ops.k_b_neq ?_; first | (refine Ops.val' rfl (OpV.neq_t rfl rfl (by omega)) ?_)) | refine goV ?_ | refine goB (fun b => ?_) | refine goC (fun ad cap => ?_) | refine goG ?_ | (refine Ops.k_guard ?_; first | (refine Ops.guard_dec rfl rfl (fun hc => ?_) (fun hc => ?_) <;> try (exfalso; omega)) | refine Ops.guard_split rfl rfl (fun hc => ?_) (fun hc => ?_)) | refine goI ?_ | (refine Cw.k_cond ?_; first | (refine Cw.cond_dec rfl (fun hc => ?_) (fun hc => ?_) <;> try (exfalso; omega)) | refine Cw.cond_bool rfl (fun hc => ?_) (fun hc => ?_)) | (refine Ops.k_calla ?_; first | (refine Ops.k_callf 5 ?_; refine Ops.callV kF (Evs.cons rfl Evs.nil) rfl ?_) | (refine Ops.k_callf 6 ?_; refine Ops.callV k0 Evs.nil rfl ?_)) | (apply OpW.k_call; first | (apply OpW.k_callf 5; exact OpW.callV kF (Evs.cons rfl Evs.nil)) | (apply OpW.k_callf 6; exact OpW.callV k0 Evs.nil)) | refine goR ?_ | refine goP ?_ | apply PSeq.cons | apply PSeq.yes rfl rfl rfl | exact goW | fail)
    exact Fin.ret (Ent.take goTk) (Outs.one rfl rfl) rfl
  rw [h0] at kF kL
  rw [if_neg (by decide)] at kL
  repeat' (first | refine goH ?_ | ((fail_if_success refine Ops.k_c_call ?_); refine goV ?_) | ((fail_if_success refine Ops.k_c_call ?_); refine goB (fun b => ?_)) | ((fail_if_success refine Ops.k_c_call ?_); refine goC (fun ad cap => ?_)) | refine goG ?_ | (refine Ops.k_guard ?_; first | (refine Ops.guard_dec rfl rfl (fun hc => ?_) (fun hc => ?_) <;> try (exfalso; omega)) | refine Ops.guard_split rfl rfl (fun hc => ?_) (fun hc => ?_)) | refine goI ?_ | (refine Cw.k_cond ?_; first | (refine Cw.cond_dec rfl (fun hc => ?_) (fun hc => ?_) <;> try (exfalso; omega)) | refine Cw.cond_bool rfl (fun hc => ?_) (fun hc => ?_)) | (refine Ops.k_calla ?_; first | (refine Ops.k_callf 5 ?_; refine Ops.callV kF (Evs.cons rfl Evs.nil) rfl ?_) | (refine Ops.k_callf 8 ?_; (refine Ops.callG (pick_gen (l := [3, 10, 100]) (by repeat' (first | exact IsInts.nil | apply IsInts.cons)) (by simp)) (Evs.cons rfl (Evs.cons rfl Evs.nil)) goPk (by omega) rfl ?_; rintro r ⟨days, rfl, hd⟩; have hdb : 0 ≤ days ∧ days ≤ 100 := (by simp at hd; omega); clear hd))) | (apply OpW.k_call; first | (apply OpW.k_callf 5; exact OpW.callV kF (Evs.cons rfl Evs.nil))) | refine goR ?_ | refine goP ?_ | apply PSeq.cons | apply PSeq.yes rfl rfl rfl | exact goW | fail)
  have kD := due_fn l hB (by omega) days
  have hdu : dueE l days = 0 := by
    unfold dueE
    rw [if_neg (by omega), if_pos (by simp [dayB, outB]; omega)]
  rw [hdu, if_neg (by decide)] at kD
  have hOm := fun i (hi : i ∈ ordD l days) => ordD_mem hi
  have hOl := ordD_len (l := l) (days := days)
  have hOn := ordD_nodup (l := l) (days := days)
  have hOs := fun j a b => ordD_sorted (l := l) (days := days) (j := j) (a := a) (b := b)
  generalize ordD l days = O at *
  have hQ := strRows_len (O.map (nameS l))
  rw [List.length_map] at hQ
  have hLl := intRows_len (l.map leftI)
  rw [List.length_map] at hLl
  have hLs : (l.map Site.row).length = l.length := List.length_map _
  obtain ⟨m, hm⟩ : ∃ m, m = O.length := ⟨_, rfl⟩
  have hm5 : m ≤ 5 := by omega
  rw [← hm] at hQ
  repeat' (first | refine goH ?_ | refine goV ?_ | refine goB (fun b => ?_) | refine goC (fun ad cap => ?_) | refine goG ?_ | (refine Ops.k_guard ?_; first | (refine Ops.guard_dec rfl rfl (fun hc => ?_) (fun hc => ?_) <;> try (exfalso; omega)) | refine Ops.guard_split rfl rfl (fun hc => ?_) (fun hc => ?_)) | refine goI ?_ | (refine Cw.k_cond ?_; first | (refine Cw.cond_dec rfl (fun hc => ?_) (fun hc => ?_) <;> try (exfalso; omega)) | refine Cw.cond_bool rfl (fun hc => ?_) (fun hc => ?_)) | (refine Ops.k_calla ?_; first | (refine Ops.k_callf 7 ?_; refine Ops.callV kD (Evs.cons rfl (Evs.cons rfl Evs.nil)) rfl ?_) | (refine Ops.k_callf 9 ?_; refine Ops.callV kL (Evs.cons rfl Evs.nil) rfl ?_)) | (apply OpW.k_call; first | (apply OpW.k_callf 7; exact OpW.callV kD (Evs.cons rfl (Evs.cons rfl Evs.nil))) | (apply OpW.k_callf 9; exact OpW.callV kL (Evs.cons rfl Evs.nil))) | refine goR ?_ | refine goP ?_ | apply PSeq.cons | apply PSeq.yes rfl rfl rfl | exact goW | fail)
  clear kD kF kL
  refine Cw.loopI [(3, _), (4, _), (7, _), (65, _), (66, _)] _ (fun q e cc => ∃ (k c : Nat) (last : Int) (S : List Stop) (rows : List (List Tr)) (ad : Option Addr) (cap : Nat), q = m - k ∧ (k ≤ m ∧ c ≤ 100 + 10 * k ∧ rows = S.map Stop.row ∧ rows.length = k ∧ S.length = k ∧ stopsOk l O S ∧ (∀ i, O[k]? = some i → last ≤ leftA l i.toNat)) ∧ e = [(9, .int last), (10, Tr.raw (.slice ad k cap)), (67, .int k)] ∧ cc = [Chunk.own ad cap 6 45 rows, Chunk.strm 25 bs (intRows xs) c])
    ⟨_, _, _, Ent.trans (Ent.nil 6 45) (Ent.mkP goSub goPm), 0, _, -1, [], [], none, 0, rfl, ⟨by omega, by omega, rfl, rfl, rfl, fun j s h => by simp at h, fun i _ => by have := leftA_bd h0 i.toNat; omega⟩, rfl, rfl⟩ ?_
  rintro _ _ _ ⟨k, c, last, S, rows, ad, cap, rfl, ⟨hk, hc, hrs, hrl, hSl, hSo, hla⟩, rfl, rfl⟩
  by_cases hkm : k < m
  · obtain ⟨i, hi⟩ := at_lt (l := O) (k := k) (by omega)
    obtain ⟨i1, i2⟩ := hOm i (List.mem_of_getElem? hi)
    obtain ⟨x, hx⟩ := at_lt i2
    have hnx : nameS l i = x.key := by unfold nameS; rw [hx]
    have hrow : (strRows (O.map (nameS l)))[k]? = some [.str x.key] := strRows_at (by rw [List.getElem?_map, hi, ← hnx]; rfl)
    have hit : ((i.toNat : Nat) : Int) = i := by omega
    have kI : ∀ b : Nat, Spec Tryz.prog 10 [.sites l, Tr.raw (.func (.func 11) #[] #[.pointer (some ⟨b, 0, none⟩)])] [Chunk.box b 9 [.str x.key]] (fun r cs => r = .int i ∧ cs = [Chunk.box b 9 [.str x.key]]) := fun b => by
      have h := indexFunc_site (p := fun s : Site => decide (s.key = x.key)) (g := 11) (caps := [.pointer (some ⟨b, 0, none⟩)]) (cin := [Chunk.box b 9 [.str x.key]]) (l := l) (by omega) (fun y _ => siteK_fn b x.key y)
      rw [site_find h0 hx, hit] at h
      exact h
    have hrL : (intRows (l.map leftI))[i.toNat]? = some [.int (leftA l i.toNat)] := intRows_at (show (l.map leftI)[i.toNat]? = some (leftA l i.toNat) by rw [List.getElem?_map, hx, leftA_at hx]; rfl)
    have hlb := hla i hi
    have hi5 : i < l.length := by omega
    clear hla hOm
    repeat' (first | refine goH ?_ | refine goV ?_ | refine goB (fun b => ?_) | refine goC (fun ad cap => ?_) | refine goG ?_ | (refine Ops.k_guard ?_; first | (refine Ops.guard_dec rfl rfl (fun hc => ?_) (fun hc => ?_) <;> try (exfalso; omega)) | refine Ops.guard_split rfl rfl (fun hc => ?_) (fun hc => ?_)) | refine goI ?_ | (refine Cw.k_cond ?_; first | (refine Cw.cond_dec rfl (fun hc => ?_) (fun hc => ?_) <;> try (exfalso; omega)) | refine Cw.cond_bool rfl (fun hc => ?_) (fun hc => ?_)) | (refine Ops.k_calla ?_; first | (refine Ops.k_callf 10 ?_; (refine Ops.call (kI _) (Evs.cons rfl (Evs.cons rfl Evs.nil)) goPm rfl ?_; rintro r cs' ⟨rfl, rfl⟩))) | fail)
    first | refine Cw.region_YP (fun ξ S => Chunk.strm 25 bs (intRows xs) (c + b2n (S 6)) :: Chunk.box b 9 [.str x.key] :: stg (S 10) (Chunk.own ad cap 6 45 rows) (ownV (ξ 10) 6 45 (rows ++ [[.str x.key, .int (5 * (k : Int)), .int (vInt (ξ 6)), .int 0, .int 1440, .int 5]])) :: []) rfl (by decide +kernel) rfl ((fun (ξ : Nat → Value) (S : Nat → Bool) => Chunk.strm 25 bs (intRows xs) (c + b2n (S 6)) :: Chunk.box b 9 [.str x.key] :: stg (S 10) (Chunk.own ad cap 6 45 rows) (ownV (ξ 10) 6 45 (rows ++ [[.str x.key, .int (5 * (k : Int)), .int (vInt (ξ 6)), .int 0, .int 1440, .int 5]])) :: []) (fun _ => undef) (fun _ => false)) (by simp only [upd_same, updD_same, upd_ne, updD_ne, ne_eq, Nat.reduceEqDiff, not_false_eq_true, stg_t, stg_f, vAd_s, vCap_s, blk_p, List.cons_append, List.nil_append, b2n_t, b2n_f]; exact goXm) (fun _ => rfl) ?_ | fail
    apply YSeq.w (by intro _ _ _; rfl)
    · intro ξ S h1 h2 h3 h4
      have hN0_10 := closed_false h1 h3 (k := 10) rfl (by decide)
      try simp only [upd_same, updD_same, upd_ne, updD_ne, ne_eq, Nat.reduceEqDiff, not_false_eq_true, stg_t, stg_f, vAd_s, vCap_s, blk_p, List.cons_append, List.nil_append, b2n_t, b2n_f, hN0_10]
      exact goW
    · intro ξ v; rfl
    · intro ξ k v S h3 hn hk
      first
      | rfl
    apply YSeq.w (by intro _ _ _; rfl)
    · intro ξ S h1 h2 h3 h4
      have hN1_8 := closed_false h1 h3 (k := 8) rfl (by decide)
      have hN1_9 := closed_false hN1_8 h3 (k := 9) rfl (by decide)
      have hN1_10 := closed_false hN1_9 h3 (k := 10) rfl (by decide)
      try simp only [upd_same, updD_same, upd_ne, updD_ne, ne_eq, Nat.reduceEqDiff, not_false_eq_true, stg_t, stg_f, vAd_s, vCap_s, blk_p, List.cons_append, List.nil_append, b2n_t, b2n_f, hN1_10]
      exact goW
    · intro ξ v; rfl
    · intro ξ k v S h3 hn hk
      first
      | rfl
    apply YSeq.w (by intro _ _ _; rfl)
    · intro ξ S h1 h2 h3 h4
      have hN2_3 := closed_false h1 h3 (k := 3) rfl (by decide)
      have hN2_7 := closed_false hN2_3 h3 (k := 7) rfl (by decide)
      have hN2_8 := closed_false hN2_7 h3 (k := 8) rfl (by decide)
      have hN2_9 := closed_false hN2_8 h3 (k := 9) rfl (by decide)
      have hN2_10 := closed_false hN2_9 h3 (k := 10) rfl (by decide)
      try simp only [upd_same, updD_same, upd_ne, updD_ne, ne_eq, Nat.reduceEqDiff, not_false_eq_true, stg_t, stg_f, vAd_s, vCap_s, blk_p, List.cons_append, List.nil_append, b2n_t, b2n_f, hN2_10]
      exact goW
    · intro ξ v; rfl
    · intro ξ k v S h3 hn hk
      first
      | rfl
    apply YSeq.w (by intro _ _ _; rfl)
    · intro ξ S h1 h2 h3 h4
      have hN3_7 := closed_false h1 h3 (k := 7) rfl (by decide)
      have hN3_8 := closed_false hN3_7 h3 (k := 8) rfl (by decide)
      have hN3_9 := closed_false hN3_8 h3 (k := 9) rfl (by decide)
      have hN3_10 := closed_false hN3_9 h3 (k := 10) rfl (by decide)
      try simp only [upd_same, updD_same, upd_ne, updD_ne, ne_eq, Nat.reduceEqDiff, not_false_eq_true, stg_t, stg_f, vAd_s, vCap_s, blk_p, List.cons_append, List.nil_append, b2n_t, b2n_f, hN3_10]
      exact goW
    · intro ξ v; rfl
    · intro ξ k v S h3 hn hk
      first
      | rfl
    apply YSeq.w (by intro _ _ _; rfl)
    · intro ξ S h1 h2 h3 h4
      have hN4_6 := closed_false h1 h3 (k := 6) rfl (by decide)
      have hN4_10 := closed_false hN4_6 h3 (k := 10) rfl (by decide)
      try simp only [upd_same, updD_same, upd_ne, updD_ne, ne_eq, Nat.reduceEqDiff, not_false_eq_true, stg_t, stg_f, vAd_s, vCap_s, blk_p, List.cons_append, List.nil_append, b2n_t, b2n_f, hN4_6, hN4_10]
      exact goW
    · intro ξ v; rfl
    · intro ξ k v S h3 hn hk
      first
      | rfl
    apply YSeq.w (by intro _ _ _; rfl)
    · intro ξ S h1 h2 h3 h4
      have hN5_6 := closed_false h1 h3 (k := 6) rfl (by decide)
      have hN5_10 := closed_false hN5_6 h3 (k := 10) rfl (by decide)
      try simp only [upd_same, updD_same, upd_ne, updD_ne, ne_eq, Nat.reduceEqDiff, not_false_eq_true, stg_t, stg_f, vAd_s, vCap_s, blk_p, List.cons_append, List.nil_append, b2n_t, b2n_f, hN5_6, hN5_10]
      exact goW
    · intro ξ v; rfl
    · intro ξ k v S h3 hn hk
      first
      | rfl
    apply YSeq.callI (pick_gen (l := [0, 5, -5]) (by repeat' (first | exact IsInts.nil | apply IsInts.cons)) (by simp)) (fun _ => (Evs.cons rfl (Evs.cons rfl Evs.nil)))
    · intro ξ S h1 h3
      have hN6_10 := closed_false h1 h3 (k := 10) rfl (by decide)
      have hq6 := b2n_le (S 6)
      simp only [upd_same, updD_same, upd_ne, updD_ne, ne_eq, Nat.reduceEqDiff, not_false_eq_true, stg_t, stg_f, vAd_s, vCap_s, blk_p, List.cons_append, List.nil_append, b2n_t, b2n_f, h1, hN6_10]
      refine ⟨_, _, ?_, goXp, fun v => ?_⟩
      · omega
      · refine List.Perm.trans goXp (perm_strm ?_)
        omega
    apply YSeq.w (by intro _ _ _; rfl)
    · intro ξ S h1 h2 h3 h4
      have hY7_6 : S 6 = true := h2 6 (by decide)
      have hN7_8 := closed_false h1 h3 (k := 8) rfl (by decide)
      have hN7_9 := closed_false hN7_8 h3 (k := 9) rfl (by decide)
      have hN7_10 := closed_false hN7_9 h3 (k := 10) rfl (by decide)
      have hR95 := pf_int (pick_gen (l := [0, 5, -5]) (by repeat' (first | exact IsInts.nil | apply IsInts.cons)) (by simp)) (h4 6 hY7_6)
      try simp only [InRange] at hR95
      have hRn95 := hR95
      try simp only [Nat.zero_add, Nat.reduceAdd] at hRn95
      try simp only [upd_same, updD_same, upd_ne, updD_ne, ne_eq, Nat.reduceEqDiff, not_false_eq_true, stg_t, stg_f, vAd_s, vCap_s, blk_p, List.cons_append, List.nil_append, b2n_t, b2n_f, hY7_6, hN7_10]
      exact goW
    · intro ξ v; rfl
    · intro ξ k v S h3 hn hk
      first
      | rfl
      | skip
        have hY7_6 : S 6 = true := h3 7 _ rfl hn 6 (by decide)
        simp only [upd_S hY7_6 hk]
    apply YSeq.w (by intro _ _ _; rfl)
    · intro ξ S h1 h2 h3 h4
      have hY8_7 : S 7 = true := h2 7 (by decide)
      have hY8_6 : S 6 = true := h3 7 _ rfl hY8_7 6 (by decide)
      have hN8_9 := closed_false h1 h3 (k := 9) rfl (by decide)
      have hN8_10 := closed_false hN8_9 h3 (k := 10) rfl (by decide)
      have hR95 := pf_int (pick_gen (l := [0, 5, -5]) (by repeat' (first | exact IsInts.nil | apply IsInts.cons)) (by simp)) (h4 6 hY8_6)
      try simp only [InRange] at hR95
      have hRn95 := hR95
      try simp only [Nat.zero_add, Nat.reduceAdd] at hRn95
      try simp only [upd_same, updD_same, upd_ne, updD_ne, ne_eq, Nat.reduceEqDiff, not_false_eq_true, stg_t, stg_f, vAd_s, vCap_s, blk_p, List.cons_append, List.nil_append, b2n_t, b2n_f, hY8_6, hN8_10]
      exact goW
    · intro ξ v; rfl
    · intro ξ k v S h3 hn hk
      first
      | rfl
      | skip
        have hY8_7 : S 7 = true := h3 8 _ rfl hn 7 (by decide)
        have hY8_6 : S 6 = true := h3 7 _ rfl hY8_7 6 (by decide)
        simp only [upd_S hY8_6 hk]
    apply YSeq.w (by intro _ _ _; rfl)
    · intro ξ S h1 h2 h3 h4
      have hY9_8 : S 8 = true := h2 8 (by decide)
      have hY9_7 : S 7 = true := h3 8 _ rfl hY9_8 7 (by decide)
      have hY9_6 : S 6 = true := h3 7 _ rfl hY9_7 6 (by decide)
      have hN9_10 := closed_false h1 h3 (k := 10) rfl (by decide)
      have hR95 := pf_int (pick_gen (l := [0, 5, -5]) (by repeat' (first | exact IsInts.nil | apply IsInts.cons)) (by simp)) (h4 6 hY9_6)
      try simp only [InRange] at hR95
      have hRn95 := hR95
      try simp only [Nat.zero_add, Nat.reduceAdd] at hRn95
      try simp only [upd_same, updD_same, upd_ne, updD_ne, ne_eq, Nat.reduceEqDiff, not_false_eq_true, stg_t, stg_f, vAd_s, vCap_s, blk_p, List.cons_append, List.nil_append, b2n_t, b2n_f, hY9_6, hN9_10]
      exact goW
    · intro ξ v; rfl
    · intro ξ k v S h3 hn hk
      first
      | rfl
      | skip
        have hY9_8 : S 8 = true := h3 9 _ rfl hn 8 (by decide)
        have hY9_7 : S 7 = true := h3 8 _ rfl hY9_8 7 (by decide)
        have hY9_6 : S 6 = true := h3 7 _ rfl hY9_7 6 (by decide)
        simp only [upd_S hY9_6 hk]
    apply YSeq.append ((k + 1))
    · intro ξ S h1 h2 h3 h4
      have hY10_6 : S 6 = true := h2 6 (by decide)
      have hR95 := pf_int (pick_gen (l := [0, 5, -5]) (by repeat' (first | exact IsInts.nil | apply IsInts.cons)) (by simp)) (h4 6 hY10_6)
      try simp only [InRange] at hR95
      have hRn95 := hR95
      try simp only [Nat.zero_add, Nat.reduceAdd] at hRn95
      simp only [upd_same, updD_same, upd_ne, updD_ne, ne_eq, Nat.reduceEqDiff, not_false_eq_true, stg_t, stg_f, vAd_s, vCap_s, blk_p, List.cons_append, List.nil_append, b2n_t, b2n_f, hY10_6, h1]
      refine ⟨_, _, _, _, _, _, rfl, rfl, goXp, (by first | rfl | (simp; done) | omega), (by first | rfl | omega | (simp; done) | (simp; omega)), (by first | omega | (simp; done) | (simp; omega)), (by first | omega | (simp; done) | (simp; omega)), fun ad' cap' => ?_⟩
      exact goXm
    apply YSeq.w (by intro _ _ _; rfl)
    · intro ξ S h1 h2 h3 h4
      have hY11_6 : S 6 = true := h2 6 (by decide)
      have hY11_10 : S 10 = true := h2 10 (by decide)
      have hR95 := pf_int (pick_gen (l := [0, 5, -5]) (by repeat' (first | exact IsInts.nil | apply IsInts.cons)) (by simp)) (h4 6 hY11_6)
      try simp only [InRange] at hR95
      have hRn95 := hR95
      try simp only [Nat.zero_add, Nat.reduceAdd] at hRn95
      try simp only [upd_same, updD_same, upd_ne, updD_ne, ne_eq, Nat.reduceEqDiff, not_false_eq_true, stg_t, stg_f, vAd_s, vCap_s, blk_p, List.cons_append, List.nil_append, b2n_t, b2n_f, hY11_6, hY11_10]
      exact goW
    · intro ξ v; rfl
    · intro ξ k v S h3 hn hk
      first
      | rfl
      | skip
        have hY11_6 : S 6 = true := h3 11 _ rfl hn 6 (by decide)
        have hY11_10 : S 10 = true := h3 11 _ rfl hn 10 (by decide)
        simp only [upd_S hY11_6 hk, upd_S hY11_10 hk]
    refine YSeq.nil fun ξ hf => ?_
    have hR95 := pf_int (pick_gen (l := [0, 5, -5]) (by repeat' (first | exact IsInts.nil | apply IsInts.cons)) (by simp)) (hf 6)
    try simp only [InRange] at hR95
    refine ⟨[(3, _), (4, _), (7, _), (65, _), (66, _), (9, _), (10, _), (67, _)], _, Ent.trans (Ent.eqc rfl (by first | (simp only [upd_same, updD_same, upd_ne, updD_ne, ne_eq, Nat.reduceEqDiff, not_false_eq_true, stg_t, stg_f, vAd_s, vCap_s, blk_p, List.cons_append, List.nil_append, b2n_t, b2n_f, ownV, slV, ptV] <;> rfl) | rfl)) (Ent.sub goSub), ?_⟩
    clear hf
    generalize vInt (ξ 6) = x95 at hR95 ⊢
    generalize vAd (ξ 10) = ad99
    generalize vCap (ξ 10) = cap99
    repeat (first | refine InB.norm ?_ | refine Then.norm ?_)
    repeat' (first | refine goH ?_ | refine goV ?_ | refine goB (fun b => ?_) | refine goC (fun ad cap => ?_) | refine goG ?_ | (refine Ops.k_guard ?_; first | (refine Ops.guard_dec rfl rfl (fun hc => ?_) (fun hc => ?_) <;> try (exfalso; omega)) | refine Ops.guard_split rfl rfl (fun hc => ?_) (fun hc => ?_)) | refine goI ?_ | (refine Cw.k_cond ?_; first | (refine Cw.cond_dec rfl (fun hc => ?_) (fun hc => ?_) <;> try (exfalso; omega)) | refine Cw.cond_bool rfl (fun hc => ?_) (fun hc => ?_)) | refine goR ?_ | refine goP ?_ | apply PSeq.cons | apply PSeq.yes rfl rfl rfl | exact goW | fail)
    have hx95 : -5 ≤ x95 ∧ x95 ≤ 5 := by simp at hR95; omega
    have hrs2 := stop_snoc S ⟨x.key, 5 * (k : Int), x95, 0, 1440, 5⟩
    rw [← hrs] at hrs2
    have hrl2 : (rows ++ [[Tr.str x.key, Tr.int (5 * (k : Int)), Tr.int x95, Tr.int 0, Tr.int 1440, Tr.int 5]]).length = k + 1 := by rw [List.length_append, hrl]; rfl
    have hok : stopOk l O S.length ⟨x.key, 5 * (k : Int), x95, 0, 1440, 5⟩ := by
      rw [hSl]
      exact ⟨⟨i, hi, hnx.symm⟩, rfl, hx95.1, hx95.2, rfl, rfl, rfl⟩
    exact ⟨_, _, _, (Ent.mk goSub goTk), ⟨k + 1, _, _, _, _, _, _, rfl, ⟨by omega, by omega, hrs2, hrl2, by rw [List.length_append, hSl]; rfl, stopsOk_snoc hSo hok, fun j hj => hOs k i j hi hj⟩, rfl, rfl⟩, by omega⟩
  · have hkm2 : k = m := by omega
    have hst := stopsE_ok h0 hOm hOn hSo (by omega)
    obtain ⟨B, N, ts, n, e, w, q, ht, hb, hn, hd, hBl, hNl, hle⟩ := tours_ok hst (stops_easy hSo (by omega)) (by omega)
    have kB := best_fn ⟨0, 0⟩ S 0 (by omega)
    have kN := nearest_fn ⟨0, 0⟩ S 0 (by omega)
    have kV := driveU_fn ⟨0, 0⟩ S 0 N (by omega) (by omega)
    rw [if_neg (by omega), hb] at kB
    rw [if_neg (by omega), hn] at kN
    rw [hd] at kV
    unfold Spot.row at kB kN kV
    have hSr : (S.map Stop.row).length = S.length := List.length_map _
    have hBr : (intRows B).length = S.length := (intRows_len B).trans hBl
    have hNr : (intRows N).length = S.length := (intRows_len N).trans hNl
    clear hb hn hd hst hla hOm hOn hOs
    subst hrs
    refine Cw.ent (Ent.settle (s := 10) rfl goPk (by omega)) ?_
    repeat' (first | refine goH ?_ | ((fail_if_success refine Ops.k_c_call ?_); refine goV ?_) | ((fail_if_success refine Ops.k_c_call ?_); refine goB (fun b => ?_)) | ((fail_if_success refine Ops.k_c_call ?_); refine goC (fun ad cap => ?_)) | refine goG ?_ | (refine Ops.k_guard ?_; first | (refine Ops.guard_dec rfl rfl (fun hc => ?_) (fun hc => ?_) <;> try (exfalso; omega)) | refine Ops.guard_split rfl rfl (fun hc => ?_) (fun hc => ?_)) | refine goI ?_ | (refine Cw.k_cond ?_; first | (refine Cw.cond_dec rfl (fun hc => ?_) (fun hc => ?_) <;> try (exfalso; omega)) | refine Cw.cond_bool rfl (fun hc => ?_) (fun hc => ?_)) | (refine Ops.k_calla ?_; first | (refine Ops.k_callf 12 ?_; refine Ops.callV kB (Evs.cons rfl (Evs.cons rfl (Evs.cons rfl Evs.nil))) rfl ?_) | (refine Ops.k_callf 13 ?_; refine Ops.callV kN (Evs.cons rfl (Evs.cons rfl (Evs.cons rfl Evs.nil))) rfl ?_) | (refine Ops.k_callf 14 ?_; refine Ops.callV kV (Evs.cons rfl (Evs.cons rfl (Evs.cons rfl (Evs.cons rfl Evs.nil)))) rfl ?_)) | (apply OpW.k_call; first | (apply OpW.k_callf 12; exact OpW.callV kB (Evs.cons rfl (Evs.cons rfl (Evs.cons rfl Evs.nil)))) | (apply OpW.k_callf 13; exact OpW.callV kN (Evs.cons rfl (Evs.cons rfl (Evs.cons rfl Evs.nil)))) | (apply OpW.k_callf 14; exact OpW.callV kV (Evs.cons rfl (Evs.cons rfl (Evs.cons rfl (Evs.cons rfl Evs.nil)))))) | refine goR ?_ | refine goP ?_ | apply PSeq.cons | apply PSeq.yes rfl rfl rfl | exact goW | fail)
    clear kB kN kV hBr hNr hSr hBl hNl hSo hrl hQ hLl hLs hc ht hkm hk
    repeat' (first | refine goH ?_ | ((fail_if_success refine Ops.k_c_call ?_); refine goV ?_) | ((fail_if_success refine Ops.k_c_call ?_); refine goB (fun b => ?_)) | ((fail_if_success refine Ops.k_c_call ?_); refine goC (fun ad cap => ?_)) | refine goG ?_ | (refine Ops.k_guard ?_; first | (refine Ops.guard_dec rfl rfl (fun hc => ?_) (fun hc => ?_) <;> try (exfalso; omega)) | refine Ops.guard_split rfl rfl (fun hc => ?_) (fun hc => ?_)) | refine goI ?_ | (refine Cw.k_cond ?_; first | (refine Cw.cond_dec rfl (fun hc => ?_) (fun hc => ?_) <;> try (exfalso; omega)) | refine Cw.cond_bool rfl (fun hc => ?_) (fun hc => ?_)) | (refine Ops.k_calla ?_; first | (refine Ops.k_callf 15 ?_; (refine Ops.callG days_gen (Evs.cons rfl Evs.nil) goPk (by omega) rfl ?_; rintro r ⟨D, rfl, hDl⟩))) | refine goR ?_ | refine goP ?_ | apply PSeq.cons | apply PSeq.yes rfl rfl rfl | exact goW | fail)
    have k1 := histogram1_fn D
    by_cases hdf : daysFault D = 0
    · rw [show hist1 D = (histGo [] D, 0) by unfold hist1; rw [if_neg (by omega)]] at k1
      simp only at k1
      have hr := daysFault_right hdf
      have hhl := histGo_lenQ (l := D) (h := []) hr.sold (by simp)
      have hsum := histGo_sum D []
      rw [show sumI [] = 0 from rfl] at hsum
      generalize histGo [] D = h at *
      have kH := histFault_fn h (by omega)
      by_cases hE : histErr h = 0
      · rw [hE] at kH
        obtain ⟨g, ⟨pn, pd⟩, hg, hp, hpb, hq⟩ := profits_ok hE (by omega)
        have kO := order_fn h 12 80 30
        have kP := profit_fn h g 80 30
        rw [hg] at kO
        rw [hp] at kP
        unfold Frac.row at kP
        simp only at kO kP hpb
        repeat' (first | refine goH ?_ | ((fail_if_success refine Ops.k_c_call ?_); refine goV ?_) | ((fail_if_success refine Ops.k_c_call ?_); refine goB (fun b => ?_)) | ((fail_if_success refine Ops.k_c_call ?_); refine goC (fun ad cap => ?_)) | refine goG ?_ | (refine Ops.k_guard ?_; first | (refine Ops.guard_dec rfl rfl (fun hc => ?_) (fun hc => ?_) <;> try (exfalso; omega)) | refine Ops.guard_split rfl rfl (fun hc => ?_) (fun hc => ?_)) | refine goI ?_ | (refine Cw.k_cond ?_; first | (refine Cw.cond_dec rfl (fun hc => ?_) (fun hc => ?_) <;> try (exfalso; omega)) | refine Cw.cond_bool rfl (fun hc => ?_) (fun hc => ?_)) | (refine Ops.k_calla ?_; first | (refine Ops.k_callf 16 ?_; refine Ops.callV k1 (Evs.cons rfl Evs.nil) rfl ?_) | (refine Ops.k_callf 17 ?_; refine Ops.callV kH (Evs.cons rfl Evs.nil) rfl ?_) | (refine Ops.k_callf 18 ?_; refine Ops.callV kO (Evs.cons rfl (Evs.cons rfl (Evs.cons rfl (Evs.cons rfl Evs.nil)))) rfl ?_) | (refine Ops.k_callf 19 ?_; refine Ops.callV kP (Evs.cons rfl (Evs.cons rfl (Evs.cons rfl (Evs.cons rfl Evs.nil)))) rfl ?_) | (refine Ops.k_callf 20 ?_; (refine Ops.callG (next_gen _ (by omega)) (Evs.cons rfl (Evs.cons rfl Evs.nil)) goPk (by omega) rfl ?_; rintro r ⟨v, rfl, hv⟩; unfold InRange at hv))) | (apply OpW.k_call; first | (apply OpW.k_callf 16; exact OpW.callV k1 (Evs.cons rfl Evs.nil)) | (apply OpW.k_callf 17; exact OpW.callV kH (Evs.cons rfl Evs.nil)) | (apply OpW.k_callf 18; exact OpW.callV kO (Evs.cons rfl (Evs.cons rfl (Evs.cons rfl (Evs.cons rfl Evs.nil))))) | (apply OpW.k_callf 19; exact OpW.callV kP (Evs.cons rfl (Evs.cons rfl (Evs.cons rfl (Evs.cons rfl Evs.nil)))))) | refine goR ?_ | refine goP ?_ | apply PSeq.cons | apply PSeq.yes rfl rfl rfl | exact goW | fail)
        obtain ⟨⟨qn, qd⟩, hqv, hcr, hqb⟩ := hq v (by omega)
        have kQ := profit_fn h v 80 30
        rw [hqv] at kQ
        unfold Frac.row at kQ
        simp only at kQ hcr hqb
        have hm1 := mul_small (a := pn) (b := qd) (by omega) (by omega)
        have hm2 := mul_small (a := qn) (b := pd) (by omega) (by omega)
        clear hq hqv hg hp
        repeat' (first | refine goH ?_ | refine goV ?_ | refine goB (fun b => ?_) | refine goC (fun ad cap => ?_) | refine goG ?_ | (refine Ops.k_guard ?_; first | (refine Ops.guard_dec rfl rfl (fun hc => ?_) (fun hc => ?_) <;> try (exfalso; omega)) | refine Ops.guard_split rfl rfl (fun hc => ?_) (fun hc => ?_)) | refine goI ?_ | (refine Cw.k_cond ?_; first | (refine Cw.cond_dec rfl (fun hc => ?_) (fun hc => ?_) <;> try (exfalso; omega)) | refine Cw.cond_bool rfl (fun hc => ?_) (fun hc => ?_)) | (refine Ops.k_calla ?_; first | (refine Ops.k_callf 19 ?_; refine Ops.callV kQ (Evs.cons rfl (Evs.cons rfl (Evs.cons rfl (Evs.cons rfl Evs.nil)))) rfl ?_) | (refine Ops.k_callf 6 ?_; refine Ops.callV k0 Evs.nil rfl ?_)) | (apply OpW.k_call; first | (apply OpW.k_callf 19; exact OpW.callV kQ (Evs.cons rfl (Evs.cons rfl (Evs.cons rfl (Evs.cons rfl Evs.nil))))) | (apply OpW.k_callf 6; exact OpW.callV k0 Evs.nil)) | refine goR ?_ | refine goP ?_ | apply PSeq.cons | apply PSeq.yes rfl rfl rfl | exact goW | fail)
        exact Fin.ret Ent.refl (Outs.one rfl rfl) (congrArg Tr.bool (decide_eq_true hcr))
      · generalize histErr h = e2 at *
        repeat' (first | refine goH ?_ | (refine Ops.k_b_neq ?_; first | (first | refine Ops.val' rfl (OpV.neq_f rfl rfl rfl) ?_ | refine Ops.val' rfl (OpV.neq_t rfl rfl (by omega)) ?_)) | refine goV ?_ | refine goB (fun b => ?_) | refine goC (fun ad cap => ?_) | refine goG ?_ | (refine Ops.k_guard ?_; first | (refine Ops.guard_dec rfl rfl (fun hc => ?_) (fun hc => ?_) <;> try (exfalso; omega)) | refine Ops.guard_split rfl rfl (fun hc => ?_) (fun hc => ?_)) | refine goI ?_ | (refine Cw.k_cond ?_; first | (refine Cw.cond_dec rfl (fun hc => ?_) (fun hc => ?_) <;> try (exfalso; omega)) | refine Cw.cond_bool rfl (fun hc => ?_) (fun hc => ?_)) | (refine Ops.k_calla ?_; first | (refine Ops.k_callf 16 ?_; refine Ops.callV k1 (Evs.cons rfl Evs.nil) rfl ?_) | (refine Ops.k_callf 17 ?_; refine Ops.callV kH (Evs.cons rfl Evs.nil) rfl ?_) | (refine Ops.k_callf 6 ?_; refine Ops.callV k0 Evs.nil rfl ?_)) | (apply OpW.k_call; first | (apply OpW.k_callf 16; exact OpW.callV k1 (Evs.cons rfl Evs.nil)) | (apply OpW.k_callf 17; exact OpW.callV kH (Evs.cons rfl Evs.nil)) | (apply OpW.k_callf 6; exact OpW.callV k0 Evs.nil)) | refine goR ?_ | refine goP ?_ | apply PSeq.cons | apply PSeq.yes rfl rfl rfl | exact goW | fail)
        all_goals exact Fin.ret (Ent.take goTk) (Outs.one rfl rfl) rfl
    · rw [show hist1 D = ([], daysFault D) by unfold hist1; rw [if_pos (by omega)]] at k1
      simp only at k1
      generalize daysFault D = e2 at *
      repeat' (first | refine goH ?_ | (refine Ops.k_b_neq ?_; first | (first | refine Ops.val' rfl (OpV.neq_f rfl rfl rfl) ?_ | refine Ops.val' rfl (OpV.neq_t rfl rfl (by omega)) ?_)) | refine goV ?_ | refine goB (fun b => ?_) | refine goC (fun ad cap => ?_) | refine goG ?_ | (refine Ops.k_guard ?_; first | (refine Ops.guard_dec rfl rfl (fun hc => ?_) (fun hc => ?_) <;> try (exfalso; omega)) | refine Ops.guard_split rfl rfl (fun hc => ?_) (fun hc => ?_)) | refine goI ?_ | (refine Cw.k_cond ?_; first | (refine Cw.cond_dec rfl (fun hc => ?_) (fun hc => ?_) <;> try (exfalso; omega)) | refine Cw.cond_bool rfl (fun hc => ?_) (fun hc => ?_)) | (refine Ops.k_calla ?_; first | (refine Ops.k_callf 16 ?_; refine Ops.callV k1 (Evs.cons rfl Evs.nil) rfl ?_) | (refine Ops.k_callf 6 ?_; refine Ops.callV k0 Evs.nil rfl ?_)) | (apply OpW.k_call; first | (apply OpW.k_callf 16; exact OpW.callV k1 (Evs.cons rfl Evs.nil)) | (apply OpW.k_callf 6; exact OpW.callV k0 Evs.nil)) | refine goR ?_ | refine goP ?_ | apply PSeq.cons | apply PSeq.yes rfl rfl rfl | exact goW | fail)
      all_goals exact Fin.ret (Ent.take goTk) (Outs.one rfl rfl) rfl
end Lg
