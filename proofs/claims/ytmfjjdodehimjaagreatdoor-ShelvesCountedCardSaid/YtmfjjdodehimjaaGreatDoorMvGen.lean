/- A part of the proof of a law of this seat: it adds no condition. By an AI agent. -/
import Derived.Test.YtmfjjdodehimjaaGreatDoorMv10
section
set_option linter.all false
set_option maxRecDepth 100000
set_option maxHeartbeats 8000000
namespace Lg
open Go Go.Proofs

/-! ### the reference's thefts -/
theorem cnt_ok {c : List Nm} (h : cntErr c = 0) : ∀ x ∈ c, 0 ≤ x.many ∧ x.many ≤ 1000000 := by
  intro x hx
  unfold cntErr at h
  split at h
  · cases h
  · obtain ⟨i, hi⟩ := List.getElem?_of_mem hx
    have hlt := (List.getElem?_eq_some_iff.1 hi).1
    have := firstE_zero h i (Nat.zero_le _) (by omega)
    unfold cnE at this
    rw [hi] at this
    simp only [cnX] at this
    repeat (split at this; · cases this)
    omega
theorem nz_snoc (g : PS) (p : ByteArray × Int) : ((g ++ [p]).map mkN).filter nz = (g.map mkN).filter nz ++ (if p.2 = 0 then [] else [mkN p]) := by
  rw [List.map_append, List.filter_append]
  by_cases h : p.2 = 0
  · rw [if_pos h]
    simp [nz, mkN, h]
  · rw [if_neg h]
    simp [nz, mkN, h]
theorem theftsOf_fn (l : List Mv) (hl : l.length ≤ 20) (hb : ∀ x ∈ l, -1000 ≤ x.many ∧ x.many ≤ 1000) (c : List Nm) (hcl : c.length ≤ 1000) (hc : cntErr c = 0) : PFn Tryz.prog 20 [.mvs l, .nms c] (· = .nms (thV l c)) := by
  have ks := shelfOf_fn l (by omega) hb
  have hcb := cnt_ok hc
  have hL : (c.map Nm.row).length = c.length := List.length_map _
  have hsb : ∀ x ∈ shV l, -20000 ≤ x.many ∧ x.many ≤ 20000 := fun x hx => by
    obtain ⟨p, hp, rfl⟩ := List.mem_map.1 ((isort_perm nmLt _).mem_iff.1 hx)
    have := smV_bd l hb p hp
    show -20000 ≤ p.2 ∧ p.2 ≤ 20000
    omega
  have hsl : (shV l).length ≤ 20 := by
    have := smV_len l
    unfold shV
    rw [isort_len, List.length_map]
    omega
  have hu := @th_uniq l c
  generalize thV l c = T at *
  generalize shV l = S at *
  have hSr : (S.map Nm.row).length = S.length := List.length_map _
  refine PFn.mk (Spec.body Tryz.func20 rfl rfl (Tryz.ntmps20) rfl fun w0 own0 M => ?_)
  repeat' (first | refine goH ?_ | (refine Ops.k_makeMap ?_; first | (refine Ops.makeMap Value.string rfl (fun b => ?_))) | refine goV ?_ | refine goB (fun b => ?_) | refine goC (fun ad cap => ?_) | refine goI ?_ | (refine Cw.k_cond ?_; first | (refine Cw.cond_dec rfl (fun hc => ?_) (fun hc => ?_) <;> try (exfalso; omega)) | refine Cw.cond_bool rfl (fun hc => ?_) (fun hc => ?_)) | (refine Ops.k_calla ?_; first | (refine Ops.k_callf 18 ?_; refine Ops.callV ks (Evs.cons rfl Evs.nil) rfl ?_)) | fail)
  refine Cw.loopI [(1, _), (5, _), (15, _), (16, _)] _ (fun q e cc => ∃ (k : Nat) (m : PS), q = S.length - k ∧ (k ≤ S.length ∧ sumM [] (S.map unN) = sumM m ((S.drop k).map unN) ∧ mBd ((k : Int) * 20000) m ∧ (m.map Prod.fst).Nodup ∧ m.length ≤ k) ∧ e = [(17, .int k)] ∧ cc = [Chunk.mp Value.string b (tkv m)])
    ⟨_, _, _, (Ent.mkP goSub goPm), 0, [], rfl, ⟨by omega, rfl, (fun q hq => by cases hq), List.nodup_nil, Nat.le_refl _⟩, rfl, rfl⟩ ?_
  rintro _ _ _ ⟨k, m, rfl, ⟨hk, hM, hmb, hmn, hml⟩, rfl, rfl⟩
  by_cases hkl : k < S.length
  · obtain ⟨x, hx⟩ := at_lt hkl
    have hrow : (S.map Nm.row)[k]? = some [.str x.key, .int x.many] := rows_at hx
    have hxb := hsb x (List.mem_of_getElem? hx)
    have hM2 : sumM [] (S.map unN) = sumM (mUp x.key (mI x.key m + x.many) m) ((S.drop (k + 1)).map unN) := by rw [hM, drop_at hx]; rfl
    have hvv := hmb.val (by omega) x.key
    have hadd : mBd (((k + 1 : Nat) : Int) * 20000) (mUp x.key (mI x.key m + x.many) m) := by
      have := hmb.add (by omega) x.key hxb
      unfold mAdd at this
      rwa [show ((k + 1 : Nat) : Int) * 20000 = (k : Int) * 20000 + 20000 by omega]
    have hmn2 : ((mUp x.key (mI x.key m + x.many) m).map Prod.fst).Nodup := mUp_nodup hmn
    have hml2 := mUp_len x.key (mI x.key m + x.many) m
    clear hx hM hmb hmn hu
    repeat' (first | refine goH ?_ | (refine Ops.k_lookup ?_; first | (refine Ops.lookup rfl rfl goPk rfl ?_; rw [tkv_read])) | (refine Ops.k_mapUpdate ?_; first | (refine Ops.mapUpdate rfl rfl rfl goPk ?_; rw [tkv_set])) | refine goV ?_ | refine goB (fun b => ?_) | refine goC (fun ad cap => ?_) | refine goI ?_ | (refine Cw.k_cond ?_; first | (refine Cw.cond_dec rfl (fun hc => ?_) (fun hc => ?_) <;> try (exfalso; omega)) | refine Cw.cond_bool rfl (fun hc => ?_) (fun hc => ?_)) | fail)
    exact ⟨_, _, _, (Ent.mk goSub goTk), ⟨k + 1, _, rfl, ⟨by omega, hM2, hadd, hmn2, by omega⟩, rfl, rfl⟩, by omega⟩
  rw [List.drop_of_length_le (by omega), List.map_nil, sumM] at hM
  rw [hM] at hu
  have hmb1 : mBd 400000 m := fun q hq => by have := hmb q hq; omega
  clear hmb hM hsb ks
  repeat' (first | refine goH ?_ | refine goV ?_ | refine goB (fun b => ?_) | refine goC (fun ad cap => ?_) | refine goI ?_ | (refine Cw.k_cond ?_; first | (refine Cw.cond_dec rfl (fun hc => ?_) (fun hc => ?_) <;> try (exfalso; omega)) | refine Cw.cond_bool rfl (fun hc => ?_) (fun hc => ?_)) | fail)
  refine Cw.loopI [(5, _), (29, _), (30, _)] _ (fun q e cc => ∃ (k : Nat) (n : PS), q = c.length - k ∧ (k ≤ c.length ∧ thM m c = sumM n ((c.drop k).map ngN) ∧ mBd (400000 + (k : Int) * 1000000) n ∧ (n.map Prod.fst).Nodup ∧ n.length ≤ 20 + k) ∧ e = [(31, .int k)] ∧ cc = [Chunk.mp Value.string b (tkv n)])
    ⟨_, _, _, (Ent.mkP goSub goPm), 0, m, rfl, ⟨by omega, rfl, (fun q hq => by have := hmb1 q hq; omega), hmn, by omega⟩, rfl, rfl⟩ ?_
  clear hmn hmb1 hml
  rintro _ _ _ ⟨k2, n, rfl, ⟨hk2, hM, hmb, hmn, hml⟩, rfl, rfl⟩
  by_cases hkl2 : k2 < c.length
  · obtain ⟨x, hx⟩ := at_lt hkl2
    have hrow : (c.map Nm.row)[k2]? = some [.str x.key, .int x.many] := rows_at hx
    have hxb := hcb x (List.mem_of_getElem? hx)
    have hM2 := thF_step hx hM
    have hvv := hmb.val (by omega) x.key
    have hadd : mBd (400000 + ((k2 + 1 : Nat) : Int) * 1000000) (mUp x.key (mI x.key n - x.many) n) := by
      have := hmb.add (c := 1000000) (by omega) x.key (v := -x.many) (by omega)
      unfold mAdd at this
      rw [← Int.sub_eq_add_neg] at this
      rwa [show 400000 + ((k2 + 1 : Nat) : Int) * 1000000 = 400000 + (k2 : Int) * 1000000 + 1000000 by omega]
    have hmn2 : ((mUp x.key (mI x.key n - x.many) n).map Prod.fst).Nodup := mUp_nodup hmn
    have hml2 := mUp_len x.key (mI x.key n - x.many) n
    clear hx hM hmb hmn hu
    repeat' (first | refine goH ?_ | (refine Ops.k_lookup ?_; first | (refine Ops.lookup rfl rfl goPk rfl ?_; rw [tkv_read])) | (refine Ops.k_mapUpdate ?_; first | (refine Ops.mapUpdate rfl rfl rfl goPk ?_; rw [tkv_set])) | refine goV ?_ | refine goB (fun b => ?_) | refine goC (fun ad cap => ?_) | refine goI ?_ | (refine Cw.k_cond ?_; first | (refine Cw.cond_dec rfl (fun hc => ?_) (fun hc => ?_) <;> try (exfalso; omega)) | refine Cw.cond_bool rfl (fun hc => ?_) (fun hc => ?_)) | fail)
    exact ⟨_, _, _, (Ent.mk goSub goTk), ⟨k2 + 1, _, rfl, ⟨by omega, hM2, hadd, hmn2, by omega⟩, rfl, rfl⟩, by omega⟩
  rw [List.drop_of_length_le (by omega), List.map_nil, sumM] at hM
  rw [hM] at hu
  clear hM hmb hcb
  repeat' (first | refine goH ?_ | (refine Ops.k_range ?_; first | (refine Ops.range rfl goPk rfl (fun r => ?_))) | refine goV ?_ | refine goB (fun b => ?_) | refine goC (fun ad cap => ?_) | refine goI ?_ | (refine Cw.k_cond ?_; first | (refine Cw.cond_dec rfl (fun hc => ?_) (fun hc => ?_) <;> try (exfalso; omega)) | refine Cw.cond_bool rfl (fun hc => ?_) (fun hc => ?_)) | fail)
  refine Cw.loopI [(44, _)] _ (fun q e cc => ∃ (g left : PS) (ad : Option Addr) (cap : Nat) (rows : List (List Tr)), q = left.length ∧ (n.Perm (g ++ left) ∧ rows = ((g.map mkN).filter nz).map Nm.row ∧ rows.length ≤ g.length) ∧ e = [(10, Tr.raw (.slice ad rows.length cap))] ∧ cc = [Chunk.rg Value.string b r (tkv n) (tkv left), Chunk.own ad cap 2 44 rows])
    ⟨_, _, _, Ent.trans (Ent.nil 2 44) (Ent.mkP goSub goPm), [], n, none, 0, [], rfl, ⟨List.Perm.refl _, rfl, Nat.le_refl _⟩, rfl, rfl⟩ ?_
  rintro _ _ _ ⟨g, left, ad, cap, rows, rfl, ⟨hp, hrows, hrl⟩, rfl, rfl⟩
  have hgl : g.length ≤ 100000 := by have := hp.length_eq; simp at this; omega
  repeat' (first | refine goH ?_ | ((fail_if_success refine Ops.k_next ?_); refine goV ?_) | ((fail_if_success refine Ops.k_next ?_); refine goB (fun b => ?_)) | ((fail_if_success refine Ops.k_next ?_); refine goC (fun ad cap => ?_)) | refine goI ?_ | (refine Cw.k_cond ?_; first | (refine Cw.cond_dec rfl (fun hc => ?_) (fun hc => ?_) <;> try (exfalso; omega)) | refine Cw.cond_bool rfl (fun hc => ?_) (fun hc => ?_)) | fail)
  refine Ops.k_next ?_
  refine Ops.nextC rfl goPk rfl (fun hl0 => ?_) (fun j a t hj => ?_)
  · have hl0 := tkv_nil hl0
    subst hl0
    rw [List.append_nil] at hp
    have hng : (((g.map mkN).filter nz).map Nm.key).Nodup := by
      refine List.Nodup.sublist ((List.filter_sublist).map Nm.key) ?_
      rw [key_mkN]
      exact (hp.map Prod.fst).nodup_iff.1 hmn
    have hx := hu hp (isort_perm nmLt _) (isortN_sorted ((g.map mkN).filter nz))
    have hrl2 : rows.length = ((g.map mkN).filter nz).length := by rw [hrows, List.length_map]
    have kS := fun ad cap => sortedNamedK ((g.map mkN).filter nz) (by omega) hng ad cap
    rw [hx] at kS
    have hlen : ((g.map mkN).filter nz).length = (T.map Nm.row).length := by rw [← hx, List.length_map, isort_len]
    rw [hrl2]
    subst hrows
    clear hu hp
    repeat' (first | refine goH ?_ | refine goV ?_ | refine goB (fun b => ?_) | refine goC (fun ad cap => ?_) | refine goI ?_ | (refine Cw.k_cond ?_; first | (refine Cw.cond_dec rfl (fun hc => ?_) (fun hc => ?_) <;> try (exfalso; omega)) | refine Cw.cond_bool rfl (fun hc => ?_) (fun hc => ?_)) | (refine Ops.k_calla ?_; first | (refine Ops.k_callf 55 ?_; (refine Ops.call (kS _ _) (Evs.cons rfl Evs.nil) goPm rfl ?_; rintro r cs' ⟨rfl, rfl⟩))) | fail)
    rw [hlen]
    refine Fin.ret (Ent.trans (Ent.settle (s := 4) rfl goPk rfl) (Ent.take goTk)) (Outs.sole rfl goOe) ⟨rfl, rfl⟩
  · obtain ⟨v, hjv, rfl⟩ := tkv_at hj
    rw [tkv_erase]
    have hp2 := eraseIdx_snoc hp hjv
    have hlen := eraseIdx_len hjv
    have hrow := nz_snoc g (a, v)
    clear hu
    by_cases hz : v = 0
    · rw [if_pos hz, List.append_nil] at hrow
      rw [← hrow] at hrows
      repeat' (first | refine goH ?_ | (refine Ops.k_entry ?_; first | (refine Ops.entry rfl goPk rfl ?_)) | refine goV ?_ | refine goB (fun b => ?_) | refine goC (fun ad cap => ?_) | refine goI ?_ | (refine Cw.k_cond ?_; first | (refine Cw.cond_dec rfl (fun hc => ?_) (fun hc => ?_) <;> try (exfalso; omega)) | refine Cw.cond_bool rfl (fun hc => ?_) (fun hc => ?_)) | fail)
      exact ⟨_, _, _, (Ent.mk goSub goTk), ⟨g ++ [(a, v)], _, _, _, _, rfl, ⟨hp2, hrows, by simp; omega⟩, rfl, rfl⟩, by omega⟩
    · rw [if_neg hz] at hrow
      have hrow2 : rows ++ [[Tr.str a, Tr.int v]] = (((g ++ [(a, v)]).map mkN).filter nz).map Nm.row := by rw [hrow, hrows, List.map_append]; rfl
      repeat' (first | refine goH ?_ | (refine Ops.k_entry ?_; first | (refine Ops.entry rfl goPk rfl ?_)) | refine goV ?_ | refine goB (fun b => ?_) | refine goC (fun ad cap => ?_) | refine goI ?_ | (refine Cw.k_cond ?_; first | (refine Cw.cond_dec rfl (fun hc => ?_) (fun hc => ?_) <;> try (exfalso; omega)) | refine Cw.cond_bool rfl (fun hc => ?_) (fun hc => ?_)) | fail)
      exact ⟨_, _, _, (Ent.mk goSub goTk), ⟨g ++ [(a, v)], _, _, _, _, rfl, ⟨hp2, hrow2, by simp; omega⟩, rfl, rfl⟩, by omega⟩
end Lg
end
section
set_option linter.all false
set_option maxRecDepth 100000
set_option maxHeartbeats 4000000
namespace Lg
open Go Go.Proofs

def strRows (l : List ByteArray) : List (List Tr) := l.map fun x => [Tr.str x]
abbrev Tr.strs (l : List ByteArray) : Tr := Tr.sl 1 (strRows l)
theorem strRows_len (l : List ByteArray) : (strRows l).length = l.length := by simp [strRows]
theorem strRows_at {l : List ByteArray} {j : Nat} {x : ByteArray} (h : l[j]? = some x) : (strRows l)[j]? = some [Tr.str x] := rows_at h
theorem strRows_app (a b : List ByteArray) : strRows (a ++ b) = strRows a ++ strRows b := by simp [strRows]
theorem strRows_get {l : List ByteArray} {j : Nat} (h : j < l.length) : (strRows l)[j]? = some [Tr.str l[j]] := strRows_at (List.getElem?_eq_getElem h)
inductive IsStrs : List (List Tr) → List ByteArray → Prop
  | nil : IsStrs [] []
  | cons {rows : List (List Tr)} {l : List ByteArray} {x : ByteArray} (h : IsStrs rows l) : IsStrs ([Tr.str x] :: rows) (x :: l)
theorem IsStrs.eq {rows : List (List Tr)} {l : List ByteArray} (h : IsStrs rows l) : rows = strRows l := by
  induction h with
  | nil => rfl
  | cons h ih => rw [ih]; rfl
/-- one of some strings -/
theorem one_gen {rows : List (List Tr)} {l : List ByteArray} (hr : IsStrs rows l) (h : 0 < l.length ∧ l.length ≤ 100000) :
    Gen Tryz.prog 25 33 [.sl 1 rows] 1 (fun r => ∃ v, r = .str v ∧ v ∈ l) := by
  have h := hr.eq
  subst h
  unfold Gen
  intro b xs N hN
  refine Spec.body Tryz.func33 rfl rfl (Tryz.ntmps33) rfl fun w0 own0 M => ?_
  have hl := strRows_len l
  repeat' (first | refine goH ?_ | refine goV ?_ | refine goI ?_ | (refine Cw.k_cond ?_; first | (refine Cw.cond_dec rfl (fun hc => ?_) (fun hc => ?_) <;> try (exfalso; omega)) | refine Cw.cond_bool rfl (fun hc => ?_) (fun hc => ?_)) | (refine Ops.k_calla ?_; first | (refine Ops.k_callf 32 ?_; (refine Ops.callG (next_gen _ (by omega)) (Evs.cons rfl (Evs.cons rfl Evs.nil)) goPk (by omega) rfl ?_; rintro r ⟨v, rfl, hv⟩; unfold InRange at hv; have hj : v.toNat < l.length := (by omega); have hj2 := strRows_get hj))) | fail)
  exact Fin.ret Ent.refl (Outs.one rfl rfl) ⟨rfl, _, rfl, List.getElem_mem hj⟩
end Lg
end
section
set_option linter.all false
set_option maxRecDepth 100000
set_option maxHeartbeats 4000000
namespace Lg
open Go Go.Proofs

instance : TyMap Tryz.prog 69 9 3 (.int .i64 0) := ⟨Tryz.underlying69, ⟨_, rfl, rfl⟩⟩
instance : KeyTy Tryz.prog 9 Value.string := KeyTy.str Tryz.underlying9
theorem basket_gen : Gen Tryz.prog 25 8 [] 20 (fun r => ∃ l : List Nm, r = .nms l ∧ l.length ≤ 6) := by
  unfold Gen
  intro b xs N hN
  refine Spec.body Tryz.func8 rfl rfl (Tryz.ntmps8) rfl fun w0 own0 M => ?_
  repeat' (first | refine goH ?_ | refine goV ?_ | refine goC (fun ad cap => ?_) | refine goI ?_ | (refine Cw.k_cond ?_; first | (refine Cw.cond_dec rfl (fun hc => ?_) (fun hc => ?_) <;> try (exfalso; omega)) | refine Cw.cond_bool rfl (fun hc => ?_) (fun hc => ?_)) | fail)
  refine Cw.loopI [(0, _), (6, _), (7, .int 5)] _ (fun q e cc => ∃ (k : Nat) (ad : Option Addr) (cap : Nat) (gs : List Nm) (c : Nat), q = 5 - k ∧ (k ≤ 5 ∧ gs.length ≤ k ∧ c ≤ N + 2 * k) ∧ e = [(3, Tr.raw (.slice ad (gs.map Nm.row).length cap)), (8, .int k)] ∧ cc = [Chunk.own ad cap 2 44 (gs.map Nm.row), Chunk.strm 25 b (intRows xs) c])
    ⟨_, _, _, Ent.trans (Ent.nil 2 44) (Ent.mkP goSub goPm), 0, none, 0, [], N, rfl, ⟨by omega, by simp, by omega⟩, rfl, rfl⟩ ?_
  rintro _ _ _ ⟨k, ad, cap, gs, c, rfl, ⟨hk, hlen, h3⟩, rfl, rfl⟩
  have hrl : (gs.map Nm.row).length = gs.length := List.length_map _
  have key : ∀ (s : ByteArray) (a : Int), gs.map Nm.row ++ [[Tr.str s, Tr.int a]] = (gs ++ [Nm.mk s a]).map Nm.row := by intro s a; rw [List.map_append]; rfl
  by_cases hkl : k < 5
  · obtain ⟨y, hy⟩ : ∃ y : ByteArray, ([[Tr.str ⟨#[98, 97, 114]⟩], [Tr.str ⟨#[99, 97, 107, 101]⟩], [Tr.str ⟨#[110, 117, 116, 115]⟩], [Tr.str ⟨#[112, 105, 101]⟩], [Tr.str ⟨#[119, 97, 116, 101, 114]⟩]] : List (List Tr))[k]? = some [Tr.str y] := by
      match k, hkl with
      | 0, _ => exact ⟨_, rfl⟩
      | 1, _ => exact ⟨_, rfl⟩
      | 2, _ => exact ⟨_, rfl⟩
      | 3, _ => exact ⟨_, rfl⟩
      | 4, _ => exact ⟨_, rfl⟩
    repeat' (first | refine goH ?_ | refine goV ?_ | refine goC (fun ad cap => ?_) | refine goI ?_ | (refine Cw.k_cond ?_; first | (refine Cw.cond_dec rfl (fun hc => ?_) (fun hc => ?_) <;> try (exfalso; omega)) | refine Cw.cond_bool rfl (fun hc => ?_) (fun hc => ?_)) | (refine Ops.k_calla ?_; first | (refine Ops.k_callf 7 ?_; (refine Ops.callG (flip_gen _ (by omega)) (Evs.cons rfl (Evs.cons rfl Evs.nil)) goPk (by omega) rfl ?_; rintro r ⟨v, rfl⟩)) | (refine Ops.k_callf 35 ?_; (refine Ops.callG (pick_gen (by repeat' (first | exact IsInts.nil | apply IsInts.cons)) (by simp)) (Evs.cons rfl (Evs.cons rfl Evs.nil)) goPk (by omega) rfl ?_; rintro r ⟨v, rfl, hv⟩; clear hv))) | fail)
    all_goals first
      | (rw [key]; exact ⟨_, _, _, (Ent.mk goSub goTk), ⟨k + 1, _, _, gs ++ [_], _, rfl, ⟨by omega, by rw [List.length_append]; simp; omega, by omega⟩, rfl, rfl⟩, by omega⟩)
      | exact ⟨_, _, _, (Ent.mk goSub goTk), ⟨k + 1, _, _, gs, _, rfl, ⟨by omega, by omega, by omega⟩, rfl, rfl⟩, by omega⟩
  · repeat' (first | refine goH ?_ | refine goV ?_ | refine goC (fun ad cap => ?_) | refine goI ?_ | (refine Cw.k_cond ?_; first | (refine Cw.cond_dec rfl (fun hc => ?_) (fun hc => ?_) <;> try (exfalso; omega)) | refine Cw.cond_bool rfl (fun hc => ?_) (fun hc => ?_)) | (refine Ops.k_calla ?_; first | (refine Ops.k_callf 7 ?_; (refine Ops.callG (flip_gen _ (by omega)) (Evs.cons rfl (Evs.cons rfl Evs.nil)) goPk (by omega) rfl ?_; rintro r ⟨v, rfl⟩)) | (refine Ops.k_callf 35 ?_; (refine Ops.callG (pick_gen (by repeat' (first | exact IsInts.nil | apply IsInts.cons)) (by simp)) (Evs.cons rfl (Evs.cons rfl Evs.nil)) goPk (by omega) rfl ?_; rintro r ⟨v, rfl, hv⟩; clear hv)) | (refine Ops.k_callf 33 ?_; (refine Ops.callG (one_gen (by repeat' (first | exact IsStrs.nil | apply IsStrs.cons)) (by simp)) (Evs.cons rfl (Evs.cons rfl Evs.nil)) goPk (by omega) rfl ?_; rintro r ⟨w, rfl, hw⟩; clear hw))) | fail)
    · refine Fin.ret (Ent.trans (Ent.settle (s := 2) rfl goPk rfl) (Ent.strm_only goPk (by omega))) (Outs.one rfl rfl) ⟨rfl, _, congrArg (Tr.sl 2) (key _ _), ?_⟩
      rw [List.length_append]; simp; omega
    · refine Fin.ret (Ent.trans (Ent.settle (s := 2) rfl goPk rfl) (Ent.strm_only goPk (by omega))) (Outs.one rfl rfl) ⟨rfl, _, rfl, ?_⟩
      omega
theorem rightMoves_gen : GenO Tryz.prog 25 31 [] 40 5 48 (fun rows => ∃ l : List Mv, rows = l.map Mv.row ∧ l.length ≤ 9 ∧ ∀ x ∈ l, 0 ≤ x.no ∧ x.no ≤ 10) := by
  unfold GenO
  intro b xs N hN
  refine Spec.body Tryz.func31 rfl rfl (Tryz.ntmps31) rfl fun w0 own0 M => ?_
  repeat' (first | refine goH ?_ | refine goV ?_ | refine goC (fun ad cap => ?_) | refine goI ?_ | (refine Cw.k_cond ?_; first | (refine Cw.cond_dec rfl (fun hc => ?_) (fun hc => ?_) <;> try (exfalso; omega)) | refine Cw.cond_bool rfl (fun hc => ?_) (fun hc => ?_)) | fail)
  refine Cw.loopI [(0, _), (7, _), (8, .int 3)] _ (fun q e cc => ∃ (k : Nat) (ad : Option Addr) (cap n : Nat) (gs : List Mv) (c : Nat), q = 3 - k ∧ (k ≤ 3 ∧ n = gs.length ∧ gs.length ≤ 3 * k ∧ c ≤ N + 10 * k ∧ ∀ x ∈ gs, 0 ≤ x.no ∧ x.no ≤ 10) ∧ e = [(3, Tr.raw (.slice ad n cap)), (9, .int k)] ∧ cc = [Chunk.own ad cap 5 48 (gs.map Mv.row), Chunk.strm 25 b (intRows xs) c])
    ⟨_, _, _, Ent.trans (Ent.nil 5 48) (Ent.mkP goSub goPm), 0, none, 0, 0, [], N, rfl, ⟨by omega, rfl, by simp, by omega, fun x hx => by cases hx⟩, rfl, rfl⟩ ?_
  rintro _ _ _ ⟨k, ad, cap, n, gs, c, rfl, ⟨hk, hn, hlen, h3, hb⟩, rfl, rfl⟩
  by_cases hkl : k < 3
  · obtain ⟨y, hy⟩ : ∃ y : ByteArray, ([[Tr.str ⟨#[97]⟩], [Tr.str ⟨#[98]⟩], [Tr.str ⟨#[99]⟩]] : List (List Tr))[k]? = some [Tr.str y] := by
      match k, hkl with
      | 0, _ => exact ⟨_, rfl⟩
      | 1, _ => exact ⟨_, rfl⟩
      | 2, _ => exact ⟨_, rfl⟩
    repeat' (first | refine goH ?_ | refine goV ?_ | refine goC (fun ad cap => ?_) | refine goI ?_ | (refine Cw.k_cond ?_; first | (refine Cw.cond_dec rfl (fun hc => ?_) (fun hc => ?_) <;> try (exfalso; omega)) | refine Cw.cond_bool rfl (fun hc => ?_) (fun hc => ?_)) | (refine Ops.k_calla ?_; first | (refine Ops.k_callf 32 ?_; (refine Ops.callG (next_gen _ (by omega)) (Evs.cons rfl (Evs.cons rfl Evs.nil)) goPk (by omega) rfl ?_; rintro r ⟨w, rfl, hw⟩; unfold InRange at hw))) | fail)
    refine Cw.loopI [(0, _), (5, _), (7, _), (9, _), (14, _), (8, .int 3)] _ (fun q e cc => ∃ (j : Nat) (ad : Option Addr) (cap n : Nat) (gs : List Mv) (c : Nat), q = 5 - j ∧ ((j : Int) ≤ w ∧ n = gs.length ∧ gs.length ≤ 3 * k + j ∧ c ≤ N + 10 * k + 1 + 3 * j ∧ ∀ x ∈ gs, 0 ≤ x.no ∧ x.no ≤ 10) ∧ e = [(3, Tr.raw (.slice ad n cap)), (15, .int j)] ∧ cc = [Chunk.own ad cap 5 48 (gs.map Mv.row), Chunk.strm 25 b (intRows xs) c])
      ⟨_, _, _, (Ent.mkP goSub goPm), 0, ad, cap, n, gs, _, rfl, ⟨by omega, hn, by omega, by omega, hb⟩, rfl, rfl⟩ ?_
    clear hb hn hlen h3
    rintro _ _ _ ⟨j, ad, cap, n, gs, c, rfl, ⟨hj, hn, hlen, h3, hb⟩, rfl, rfl⟩
    have hrl : (gs.map Mv.row).length = n := by rw [List.length_map, hn]
    have key : ∀ (s w : ByteArray) (n d m : Int), gs.map Mv.row ++ [[Tr.str s, Tr.int n, Tr.int d, Tr.str w, Tr.int m]] = (gs ++ [Mv.mk s n d w m]).map Mv.row := by intro s w n d m; rw [List.map_append]; rfl
    by_cases hjl : (j : Int) < w
    · repeat' (first | refine goH ?_ | refine goV ?_ | refine goC (fun ad cap => ?_) | refine goI ?_ | (refine Cw.k_cond ?_; first | (refine Cw.cond_dec rfl (fun hc => ?_) (fun hc => ?_) <;> try (exfalso; omega)) | refine Cw.cond_bool rfl (fun hc => ?_) (fun hc => ?_)) | (refine Ops.k_calla ?_; first | (refine Ops.k_callf 32 ?_; (refine Ops.callG (next_gen _ (by omega)) (Evs.cons rfl (Evs.cons rfl Evs.nil)) goPk (by omega) rfl ?_; rintro r ⟨d, rfl, hd⟩; clear hd)) | (refine Ops.k_callf 33 ?_; (refine Ops.callG (one_gen (by repeat' (first | exact IsStrs.nil | apply IsStrs.cons)) (by simp)) (Evs.cons rfl (Evs.cons rfl Evs.nil)) goPk (by omega) rfl ?_; rintro r ⟨u, rfl, hu⟩; clear hu)) | (refine Ops.k_callf 35 ?_; (refine Ops.callG (pick_gen (by repeat' (first | exact IsInts.nil | apply IsInts.cons)) (by simp)) (Evs.cons rfl (Evs.cons rfl Evs.nil)) goPk (by omega) rfl ?_; rintro r ⟨v, rfl, hv⟩; clear hv))) | fail)
      have hb2 : ∀ x ∈ gs ++ [Mv.mk y ((j : Int) + 1) d u v], 0 ≤ x.no ∧ x.no ≤ 10 := fun x hx => by
        rcases List.mem_append.1 hx with hx | hx
        · exact hb x hx
        · rw [List.mem_singleton] at hx
          subst hx
          show 0 ≤ (j : Int) + 1 ∧ (j : Int) + 1 ≤ 10
          omega
      rw [key]
      exact ⟨_, _, _, (Ent.mk goSub goTk), ⟨j + 1, _, _, _, gs ++ [Mv.mk y ((j : Int) + 1) d u v], _, rfl, ⟨by omega, List.length_map _, by rw [List.length_append]; simp; omega, by omega, hb2⟩, rfl, rfl⟩, by omega⟩
    · repeat' (first | refine goH ?_ | refine goV ?_ | refine goC (fun ad cap => ?_) | refine goI ?_ | (refine Cw.k_cond ?_; first | (refine Cw.cond_dec rfl (fun hc => ?_) (fun hc => ?_) <;> try (exfalso; omega)) | refine Cw.cond_bool rfl (fun hc => ?_) (fun hc => ?_)) | fail)
      exact ⟨_, _, _, (Ent.mk goSub goTk), ⟨k + 1, _, _, _, gs, _, rfl, ⟨by omega, hn, by omega, by omega, hb⟩, rfl, rfl⟩, by omega⟩
  · repeat' (first | refine goH ?_ | refine goV ?_ | refine goC (fun ad cap => ?_) | refine goI ?_ | (refine Cw.k_cond ?_; first | (refine Cw.cond_dec rfl (fun hc => ?_) (fun hc => ?_) <;> try (exfalso; omega)) | refine Cw.cond_bool rfl (fun hc => ?_) (fun hc => ?_)) | fail)
    rw [show n = (gs.map Mv.row).length by rw [List.length_map, hn]]
    exact Fin.ret (Ent.own_strm goPk goPk (by omega)) (Outs.one rfl rfl) ⟨ad, cap, _, rfl, rfl, gs, rfl, by omega, hb⟩
theorem partMoves_gen (l : List Mv) (hl : l.length ≤ 1000) : Gen Tryz.prog 25 6 [.mvs l] 3 (fun r => ∃ g : List Mv, r = .mvs g ∧ g.length ≤ l.length ∧ ∀ x ∈ g, x ∈ l) := by
  have hL : (l.map Mv.row).length = l.length := List.length_map _
  unfold Gen
  intro b xs N hN
  refine Spec.body Tryz.func6 rfl rfl (Tryz.ntmps6) rfl fun w0 own0 M => ?_
  repeat' (first | refine goH ?_ | (refine Ops.k_makeMap ?_; first | (refine Ops.makeMap Value.string rfl (fun b2 => ?_); rw [show ([] : List (ByteArray × Tr)) = tkv [] from rfl])) | refine goV ?_ | refine goB (fun b => ?_) | refine goC (fun ad cap => ?_) | refine goI ?_ | (refine Cw.k_cond ?_; first | (refine Cw.cond_dec rfl (fun hc => ?_) (fun hc => ?_) <;> try (exfalso; omega)) | refine Cw.cond_bool rfl (fun hc => ?_) (fun hc => ?_)) | (refine Ops.insertM rfl rfl rfl goPk ?_; rw [tkv_set]) | (refine Ops.k_calla ?_; first | (refine Ops.k_callf 32 ?_; (refine Ops.callG (next_gen _ (by omega)) (Evs.cons rfl (Evs.cons rfl Evs.nil)) goPk (by omega) rfl ?_; rintro r ⟨w, rfl, hw⟩; clear hw))) | fail)
  generalize mUp (α := ByteArray) _ _ _ = mm
  refine Cw.loopI [(6, _), (17, _), (18, _)] _ (fun q e cc => ∃ (k : Nat) (ad : Option Addr) (cap n : Nat) (gs : List Mv), q = l.length - k ∧ (k ≤ l.length ∧ n = gs.length ∧ gs.length ≤ k ∧ ∀ x ∈ gs, x ∈ l) ∧ e = [(5, Tr.raw (.slice ad n cap)), (19, .int k)] ∧ cc = [Chunk.own ad cap 5 48 (gs.map Mv.row)])
    ⟨_, _, _, Ent.trans (Ent.nil 5 48) (Ent.mkP goSub goPm), 0, none, 0, 0, [], rfl, ⟨by omega, rfl, Nat.le_refl _, fun x hx => by cases hx⟩, rfl, rfl⟩ ?_
  rintro _ _ _ ⟨k, ad, cap, n, gs, rfl, ⟨hk, hn, hlen, hs⟩, rfl, rfl⟩
  have hrl : (gs.map Mv.row).length = n := by rw [List.length_map, hn]
  by_cases hkl : k < l.length
  · obtain ⟨x, hx⟩ := at_lt hkl
    have hrow : (l.map Mv.row)[k]? = some [.str x.site, .int x.no, .int x.day, .str x.ware, .int x.many] := rows_at hx
    have key : gs.map Mv.row ++ [[.str x.site, .int x.no, .int x.day, .str x.ware, .int x.many]] = (gs ++ [x]).map Mv.row := by rw [List.map_append]; rfl
    have hs2 : ∀ y ∈ gs ++ [x], y ∈ l := fun y hy => by
      rcases List.mem_append.1 hy with hy | hy
      · exact hs y hy
      · rw [List.mem_singleton] at hy
        subst hy
        exact List.mem_of_getElem? hx
    repeat' (first | refine goH ?_ | (refine Ops.k_lookup ?_; first | (refine Ops.lookup rfl rfl goPk rfl ?_; rw [tkv_read])) | refine goV ?_ | refine goB (fun b => ?_) | refine goC (fun ad cap => ?_) | refine goI ?_ | (refine Cw.k_cond ?_; first | (refine Cw.cond_dec rfl (fun hc => ?_) (fun hc => ?_) <;> try (exfalso; omega)) | refine Cw.cond_bool rfl (fun hc => ?_) (fun hc => ?_)) | fail)
    all_goals first
      | exact ⟨_, _, _, (Ent.mk goSub goTk), ⟨k + 1, _, _, _, gs, rfl, ⟨by omega, hn, by omega, hs⟩, rfl, rfl⟩, by omega⟩
      | (rw [key]; exact ⟨_, _, _, (Ent.mk goSub goTk), ⟨k + 1, _, _, _, gs ++ [x], rfl, ⟨by omega, List.length_map _, by rw [List.length_append]; simp; omega, hs2⟩, rfl, rfl⟩, by omega⟩)
  · repeat' (first | refine goH ?_ | refine goV ?_ | refine goB (fun b => ?_) | refine goC (fun ad cap => ?_) | refine goI ?_ | (refine Cw.k_cond ?_; first | (refine Cw.cond_dec rfl (fun hc => ?_) (fun hc => ?_) <;> try (exfalso; omega)) | refine Cw.cond_bool rfl (fun hc => ?_) (fun hc => ?_)) | fail)
    rw [show n = (gs.map Mv.row).length from hrl.symm]
    refine Fin.ret (Ent.trans (Ent.settle (s := 4) rfl goPk rfl) (Ent.strm_only goPk (by omega))) (Outs.one rfl rfl) ⟨rfl, _, rfl, by omega, hs⟩
end Lg
end
