/- A part of the proof of a law of this seat: it adds no condition. By an AI agent. -/
import Derived.Test.YtlofkdnjcneeiaaDoorSt5
set_option linter.all false
set_option maxRecDepth 100000
set_option maxHeartbeats 8000000
namespace Lg
open Go Go.Proofs

/-! ### the versions that are drawn -/
abbrev VL := List (Int × In1)
def rowsS (L : VL) : List (List Tr) := L.map fun p => [Tr.int p.1, Tr.raw p.2.val]
def ownsS (L : VL) : List Chunk := L.map fun p => p.2.own 1 9
theorem rowsS_len (L : VL) : (rowsS L).length = L.length := by simp [rowsS]
theorem rowsS_snoc (L : VL) (f : Int) (p : In1) : rowsS L ++ [[Tr.int f, Tr.raw p.val]] = rowsS (L ++ [(f, p)]) := by simp [rowsS]
theorem ownsS_snoc (L : VL) (f : Int) (p : In1) : ownsS L ++ [p.own 1 9] = ownsS (L ++ [(f, p)]) := by simp [ownsS]
def SOk (m : Nat) (L : VL) : Prop := ∀ p ∈ L, ∃ x : List ByteArray, p.2.rows = strRows x ∧ x.length ≤ m
theorem SOk.snoc {m : Nat} {L : VL} (h : SOk m L) (f : Int) (p : In1) (hp : ∃ x : List ByteArray, p.rows = strRows x ∧ x.length ≤ m) : SOk m (L ++ [(f, p)]) := by
  intro q hq
  rcases List.mem_append.1 hq with hq | hq
  · exact h q hq
  · rw [List.mem_singleton] at hq; subst hq; exact hp
noncomputable def toVers (L : VL) (h : SOk 6 L) : List Ver := L.attach.map fun p => ⟨p.1.1, (h p.1 p.2).choose⟩
theorem toVers_len (L : VL) (h : SOk 6 L) : (toVers L h).length = L.length := by simp [toVers]
theorem toVers_bd (L : VL) (h : SOk 6 L) : ∀ v ∈ toVers L h, v.x.length ≤ 6 := by
  intro v hv
  unfold toVers at hv
  obtain ⟨p, _, rfl⟩ := List.mem_map.1 hv
  exact (h p.1 p.2).choose_spec.2
theorem toVers_rows (L : VL) (h : SOk 6 L) : (L.map fun p => (fun f : Int => [Tr.int f]) p.1 ++ Tr.sl 1 p.2.rows :: (fun _ : Int => ([] : List Tr)) p.1) = (toVers L h).map Ver.row := by
  unfold toVers
  rw [List.map_map]
  have : ∀ p : {p // p ∈ L}, (Ver.row ∘ fun p : {p // p ∈ L} => (⟨p.1.1, (h p.1 p.2).choose⟩ : Ver)) p = [Tr.int p.1.1] ++ Tr.sl 1 p.1.2.rows :: [] := by
    intro p
    have e : p.1.2.rows = strRows (h p.1 p.2).choose := (h p.1 p.2).choose_spec.1
    exact congrArg (fun z => [Tr.int p.1.1, Tr.sl 1 z]) e.symm
  rw [List.map_congr_left (fun p _ => this p)]
  conv => lhs; rw [← List.attach_map_subtype_val L]
  rw [List.map_map]
  rfl
/-- all inner slices are written no more -/
theorem ent_vers {Γ : Ctx} {env : Env} {cs cf cf' : List Chunk} {E : TypeId} {L : VL} (h : SOk 6 L) {ad : Option Addr} {cap : Nat} (h1 : cs.Perm (Chunk.own ad cap 2 E (rowsS L) :: cf')) (h2 : cf'.Perm (Chunk.bun (ownsS L) :: cf)) : Ent Γ env cs env (Chunk.own ad cap 2 E ((toVers L h).map Ver.row) :: cf) := by
  rw [← toVers_rows L h]
  exact Ent.settle_nest (fun f : Int => [Tr.int f]) (fun _ => []) h1 h2 rfl rfl
theorem vl_split {L : VL} {i : Nat} (hi : i < L.length) : ∃ A B f p, L = A ++ (f, p) :: B ∧ A.length = i := by
  refine ⟨L.take i, L.drop (i + 1), L[i].1, L[i].2, ?_, by rw [List.length_take]; omega⟩
  have : L.drop i = L[i] :: L.drop (i + 1) := List.drop_eq_getElem_cons hi
  conv => lhs; rw [← List.take_append_drop i L, this]
theorem rowsS_at (A B : VL) (f : Int) (p : In1) : (rowsS (A ++ (f, p) :: B))[A.length]? = some [Tr.int f, Tr.raw p.val] := by
  unfold rowsS
  rw [List.map_append, List.getElem?_append_right (by simp)]
  simp
theorem rowsS_set (A B : VL) (f f' : Int) (p p' : In1) : (rowsS (A ++ (f, p) :: B)).set A.length [Tr.int f', Tr.raw p'.val] = rowsS (A ++ (f', p') :: B) := by
  unfold rowsS
  rw [List.map_append, List.set_append, if_neg (by simp)]
  simp
theorem SOk.mid {A B : VL} {f f' : Int} {p p' : In1} (h : SOk 3 (A ++ (f, p) :: B)) (hp : ∃ x : List ByteArray, p'.rows = strRows x ∧ x.length ≤ 6) : SOk 6 (A ++ (f', p') :: B) := by
  intro q hq
  rcases List.mem_append.1 hq with hq | hq
  · obtain ⟨x, e1, e2⟩ := h q (List.mem_append.2 (.inl hq)); exact ⟨x, e1, by omega⟩
  · rcases List.mem_cons.1 hq with rfl | hq
    · exact hp
    · obtain ⟨x, e1, e2⟩ := h q (List.mem_append.2 (.inr (List.mem_cons_of_mem _ hq))); exact ⟨x, e1, by omega⟩
theorem SOk.up {L : VL} (h : SOk 3 L) : SOk 6 L := fun q hq => by obtain ⟨x, e1, e2⟩ := h q hq; exact ⟨x, e1, by omega⟩
theorem Fin.entS {P : Program} {fn : Func} {Γ : Ctx} {post : Tr → List Chunk → Prop} {e : Exit} {env env' : Env} {cs cs' : List Chunk} (h1 : Ent Γ env cs env' cs') (h2 : Fin P fn Γ post e env' cs') : Fin P fn Γ post e env cs := by
  unfold Fin at *
  obtain ⟨he, env2, cs2, r, h3, h4, h5⟩ := h2
  exact ⟨he, env2, cs2, r, Ent.trans h1 h3, h4, h5⟩
theorem ownsS_mid (A B : VL) (f : Int) (p : In1) : ownsS (A ++ (f, p) :: B) = ownsS A ++ p.own 1 9 :: ownsS B := by simp [ownsS]
/-- a copy of an owned slice: one of its own, or a settled one -/
theorem cloneOO_str {ad : Option Addr} {n cap : Nat} (rows : List (List Tr)) (hn : n = rows.length) (hl : rows.length ≤ 1000000) : Spec Tryd.prog 20 [Tr.raw (.slice ad n cap)] [Chunk.own ad cap 1 9 rows] (fun r cs => ∃ ad2 cap2, r = Tr.raw (.slice ad2 n cap2) ∧ cs = Chunk.own ad2 cap2 1 9 rows :: [Chunk.own ad cap 1 9 rows]) := by
  refine Spec.body Tryd.func20 rfl rfl (Tryd.ntmps20) rfl fun w0 own0 M => ?_
  cases ad with
  | none =>
    refine Cw.own_none (List.Perm.refl _) fun h1 h2 => ?_
    subst h1
    subst h2
    subst hn
    refine Cw.ent (Ent.nil 1 9) ?_
    repeat' (first | refine goH ?_ | (refine Ops.k_b_eql ?_; first | (refine Ops.eql_nilR rfl rfl ?_)) | refine goV ?_ | refine goC (fun ad cap => ?_) | refine goI ?_ | (refine Cw.k_cond ?_; first | (refine Cw.cond_dec rfl (fun hc => ?_) (fun hc => ?_) <;> try (exfalso; omega)) | refine Cw.cond_bool rfl (fun hc => ?_) (fun hc => ?_)) | fail)
    exact Fin.ret Ent.refl (Outs.one rfl rfl) ⟨_, _, rfl, rfl⟩
  | some a =>
    repeat' (first | refine goH ?_ | (refine Ops.k_b_eql ?_; first | (refine Ops.eql_nilR rfl rfl ?_)) | ((fail_if_success refine Ops.k_buildSlice ?_); refine goV ?_) | ((fail_if_success refine Ops.k_buildSlice ?_); refine goC (fun ad cap => ?_)) | refine goI ?_ | (refine Cw.k_cond ?_; first | (refine Cw.cond_dec rfl (fun hc => ?_) (fun hc => ?_) <;> try (exfalso; omega)) | refine Cw.cond_bool rfl (fun hc => ?_) (fun hc => ?_)) | fail)
    refine Ops.buildSlice_own (by exact Parts.nil) rfl rfl rfl (fun ad2 cap2 => ?_)
    repeat' (first | refine goH ?_ | ((fail_if_success refine Ops.k_c_append ?_); refine goV ?_) | ((fail_if_success refine Ops.k_c_append ?_); refine goC (fun ad cap => ?_)) | refine goI ?_ | (refine Cw.k_cond ?_; first | (refine Cw.cond_dec rfl (fun hc => ?_) (fun hc => ?_) <;> try (exfalso; omega)) | refine Cw.cond_bool rfl (fun hc => ?_) (fun hc => ?_)) | fail)
    refine Ops.append_ownR rfl rfl (List.Perm.refl _) rfl hn (by simp; omega) (by simp; omega) rfl (fun ad3 cap3 => ?_)
    rw [show ∀ z : List (List Tr), z = [] → z ++ rows = rows from fun z h => by rw [h]; rfl]
    rotate_left
    · rfl
    repeat' (first | refine goH ?_ | refine goV ?_ | refine goC (fun ad cap => ?_) | refine goI ?_ | (refine Cw.k_cond ?_; first | (refine Cw.cond_dec rfl (fun hc => ?_) (fun hc => ?_) <;> try (exfalso; omega)) | refine Cw.cond_bool rfl (fun hc => ?_) (fun hc => ?_)) | fail)
    rw [hn]
    exact Fin.ret Ent.refl (Outs.one rfl rfl) ⟨_, _, rfl, rfl⟩
theorem cloneS_str {ad : Option Addr} {n cap : Nat} (rows : List (List Tr)) (hn : n = rows.length) (hl : rows.length ≤ 1000000) : Spec Tryd.prog 20 [Tr.raw (.slice ad n cap)] [Chunk.own ad cap 1 9 rows] (fun r cs => r = .sl 1 rows ∧ cs = [Chunk.own ad cap 1 9 rows]) := by
  refine Spec.body Tryd.func20 rfl rfl (Tryd.ntmps20) rfl fun w0 own0 M => ?_
  cases ad with
  | none =>
    refine Cw.own_none (List.Perm.refl _) fun h1 h2 => ?_
    subst h1
    subst h2
    subst hn
    repeat' (first | refine goH ?_ | (refine Ops.k_b_eql ?_; first | (refine Ops.eql_nilR rfl rfl ?_)) | refine goV ?_ | refine goC (fun ad cap => ?_) | refine goI ?_ | (refine Cw.k_cond ?_; first | (refine Cw.cond_dec rfl (fun hc => ?_) (fun hc => ?_) <;> try (exfalso; omega)) | refine Cw.cond_bool rfl (fun hc => ?_) (fun hc => ?_)) | fail)
    exact Fin.ret (Ent.nilsl 1 (s := 2) rfl) (Outs.one rfl rfl) ⟨rfl, rfl⟩
  | some a =>
    repeat' (first | refine goH ?_ | (refine Ops.k_b_eql ?_; first | (refine Ops.eql_nilR rfl rfl ?_)) | ((fail_if_success refine Ops.k_buildSlice ?_); refine goV ?_) | ((fail_if_success refine Ops.k_buildSlice ?_); refine goC (fun ad cap => ?_)) | refine goI ?_ | (refine Cw.k_cond ?_; first | (refine Cw.cond_dec rfl (fun hc => ?_) (fun hc => ?_) <;> try (exfalso; omega)) | refine Cw.cond_bool rfl (fun hc => ?_) (fun hc => ?_)) | fail)
    refine Ops.buildSlice_own (by exact Parts.nil) rfl rfl rfl (fun ad2 cap2 => ?_)
    repeat' (first | refine goH ?_ | ((fail_if_success refine Ops.k_c_append ?_); refine goV ?_) | ((fail_if_success refine Ops.k_c_append ?_); refine goC (fun ad cap => ?_)) | refine goI ?_ | (refine Cw.k_cond ?_; first | (refine Cw.cond_dec rfl (fun hc => ?_) (fun hc => ?_) <;> try (exfalso; omega)) | refine Cw.cond_bool rfl (fun hc => ?_) (fun hc => ?_)) | fail)
    refine Ops.append_ownR rfl rfl (List.Perm.refl _) rfl hn (by simp; omega) (by simp; omega) rfl (fun ad3 cap3 => ?_)
    rw [show ∀ z : List (List Tr), z = [] → z ++ rows = rows from fun z h => by rw [h]; rfl]
    rotate_left
    · rfl
    repeat' (first | refine goH ?_ | refine goV ?_ | refine goC (fun ad cap => ?_) | refine goI ?_ | (refine Cw.k_cond ?_; first | (refine Cw.cond_dec rfl (fun hc => ?_) (fun hc => ?_) <;> try (exfalso; omega)) | refine Cw.cond_bool rfl (fun hc => ?_) (fun hc => ?_)) | fail)
    exact Fin.ret (Ent.settle (s := 2) (ad := ad3) (cap := cap3) (cf := [Chunk.own (some a) cap 1 9 rows]) rfl (List.Perm.refl _) rfl) (Outs.one rfl rfl) ⟨rfl, rfl⟩

theorem versions_gen : Gen Tryd.prog 25 4 [] 60 (fun r => ∃ l : List Ver, r = .vers l ∧ l.length ≤ 4 ∧ ∀ v ∈ l, v.x.length ≤ 10) := by
  unfold Gen
  intro bs xs N hN
  refine Spec.body Tryd.func4 rfl rfl (Tryd.ntmps4) rfl fun w0 own0 M => ?_
  repeat' (first | refine goH ?_ | refine goV ?_ | refine goB (fun b => ?_) | refine goC (fun ad cap => ?_) | refine goG ?_ | (refine Ops.k_guard ?_; first | (refine Ops.guard_dec rfl rfl (fun hc => ?_) (fun hc => ?_) <;> try (exfalso; omega)) | refine Ops.guard_split rfl rfl (fun hc => ?_) (fun hc => ?_)) | refine goI ?_ | (refine Cw.k_cond ?_; first | (refine Cw.cond_dec rfl (fun hc => ?_) (fun hc => ?_) <;> try (exfalso; omega)) | refine Cw.cond_bool rfl (fun hc => ?_) (fun hc => ?_)) | (refine Ops.k_calla ?_; first | (refine Ops.k_callf 17 ?_; (refine Ops.callG (next_gen _ (by omega)) (Evs.cons rfl (Evs.cons rfl Evs.nil)) goPk (by omega) rfl ?_; rintro r ⟨v, rfl, hv⟩; unfold InRange at hv))) | refine goR ?_ | refine goP ?_ | apply PSeq.cons | apply PSeq.yes rfl rfl rfl | exact goW | fail)
  rename_i w hw f0 hf0
  refine Cw.loopI [(0, _), (4, _), (13, _)] _ (fun q e cc => ∃ (k : Nat) (ad : Option Addr) (cap : Nat) (L : VL) (fr : Int) (c : Nat), q = 4 - k ∧ ((k : Int) ≤ v ∧ L.length = k ∧ SOk 3 L ∧ 0 ≤ fr ∧ fr ≤ 4 + 5 * k ∧ c ≤ N + 3 + 5 * k) ∧ e = [(3, Tr.raw (.slice ad k cap)), (5, .int fr), (14, .int k)] ∧ cc = [Chunk.own ad cap 2 48 (rowsS L), Chunk.bun (ownsS L), Chunk.strm 25 bs (intRows xs) c])
    ⟨_, _, _, Ent.trans (Ent.nil 2 48) (Ent.trans Ent.bun0 (Ent.mkP goSub goPm)), 0, none, 0, [], f0, N + 3, rfl, ⟨by omega, rfl, fun p hp => (by cases hp), by omega, by omega, by omega⟩, rfl, rfl⟩ ?_
  rintro _ _ _ ⟨k, ad, cap, L, fr, c, rfl, ⟨hk, hL, hok, hf1, hf2, h3⟩, rfl, rfl⟩
  have hRl : (rowsS L).length = k := by rw [rowsS_len, hL]
  by_cases hkl : (k : Int) < v
  · repeat' (first | refine goH ?_ | refine goV ?_ | refine goB (fun b => ?_) | refine goC (fun ad cap => ?_) | refine goG ?_ | (refine Ops.k_guard ?_; first | (refine Ops.guard_dec rfl rfl (fun hc => ?_) (fun hc => ?_) <;> try (exfalso; omega)) | refine Ops.guard_split rfl rfl (fun hc => ?_) (fun hc => ?_)) | refine goI ?_ | (refine Cw.k_cond ?_; first | (refine Cw.cond_dec rfl (fun hc => ?_) (fun hc => ?_) <;> try (exfalso; omega)) | refine Cw.cond_bool rfl (fun hc => ?_) (fun hc => ?_)) | refine goR ?_ | refine goP ?_ | apply PSeq.cons | apply PSeq.yes rfl rfl rfl | exact goW | fail)
    rename Nat => b6
    refine Cw.loopI [(0, _), (3, _), (4, _), (5, _), (6, _), (13, _), (14, _), (18, _)] _ (fun q e cc => ∃ (j : Nat) (adx : Option Addr) (capx : Nat) (x : List ByteArray) (c2 : Nat), q = 4 - j ∧ ((j : Int) ≤ w ∧ x.length = j ∧ c2 ≤ c + j) ∧ e = [(19, .int j)] ∧ cc = [Chunk.box b6 48 [.int fr, Tr.raw (.slice adx j capx)], Chunk.own adx capx 1 9 (strRows x), Chunk.strm 25 bs (intRows xs) c2])
      ⟨_, _, _, Ent.trans (Ent.nil 1 9) (Ent.mkP goSub goPm), 0, none, 0, [], c, rfl, ⟨by omega, rfl, by omega⟩, rfl, rfl⟩ ?_
    rintro _ _ _ ⟨j, adx, capx, x, c2, rfl, ⟨hj, hx, hc2⟩, rfl, rfl⟩
    have hxl := strRows_len x
    by_cases hjl : (j : Int) < w
    · repeat' (first | refine goH ?_ | refine goV ?_ | refine goB (fun b => ?_) | refine goC (fun ad cap => ?_) | refine goG ?_ | (refine Ops.k_guard ?_; first | (refine Ops.guard_dec rfl rfl (fun hc => ?_) (fun hc => ?_) <;> try (exfalso; omega)) | refine Ops.guard_split rfl rfl (fun hc => ?_) (fun hc => ?_)) | refine goI ?_ | (refine Cw.k_cond ?_; first | (refine Cw.cond_dec rfl (fun hc => ?_) (fun hc => ?_) <;> try (exfalso; omega)) | refine Cw.cond_bool rfl (fun hc => ?_) (fun hc => ?_)) | fail)
      first | refine Cw.region_YP (fun ξ S => Chunk.strm 25 bs (intRows xs) (c2 + b2n (S 4)) :: Chunk.box b6 48 [.int fr, stg (S 8) (Tr.raw (.slice adx j capx)) (Tr.raw (.slice (vAd (ξ 6)) (j + 1) (vCap (ξ 6))))] :: stg (S 6) (Chunk.own adx capx 1 9 (strRows x)) (ownV (ξ 6) 1 9 (strRows x ++ [[.str (vStr (ξ 4))]])) :: Chunk.own ad cap 2 48 (rowsS L) :: Chunk.bun (ownsS L) :: []) rfl (by decide +kernel) rfl ((fun (ξ : Nat → Value) (S : Nat → Bool) => Chunk.strm 25 bs (intRows xs) (c2 + b2n (S 4)) :: Chunk.box b6 48 [.int fr, stg (S 8) (Tr.raw (.slice adx j capx)) (Tr.raw (.slice (vAd (ξ 6)) (j + 1) (vCap (ξ 6))))] :: stg (S 6) (Chunk.own adx capx 1 9 (strRows x)) (ownV (ξ 6) 1 9 (strRows x ++ [[.str (vStr (ξ 4))]])) :: Chunk.own ad cap 2 48 (rowsS L) :: Chunk.bun (ownsS L) :: []) (fun _ => undef) (fun _ => false)) (by simp only [upd_same, updD_same, upd_ne, updD_ne, ne_eq, Nat.reduceEqDiff, not_false_eq_true, stg_t, stg_f, vAd_s, vCap_s, blk_p, List.cons_append, List.nil_append, b2n_t, b2n_f]; exact goXm) (fun _ => rfl) ?_ | fail
      apply YSeq.w (by intro _ _ _; rfl)
      · intro ξ S h1 h2 h3 h4
        have hN0_1 := closed_false h1 h3 (k := 1) rfl (by decide)
        have hN0_6 := closed_false hN0_1 h3 (k := 6) rfl (by decide)
        have hN0_8 := closed_false h1 h3 (k := 8) rfl (by decide)
        try simp only [upd_same, updD_same, upd_ne, updD_ne, ne_eq, Nat.reduceEqDiff, not_false_eq_true, stg_t, stg_f, vAd_s, vCap_s, blk_p, List.cons_append, List.nil_append, b2n_t, b2n_f, hN0_6, hN0_8]
        exact goW
      · intro ξ v; rfl
      · intro ξ k v S h3 hn hk
        first
        | rfl
      apply YSeq.w (by intro _ _ _; rfl)
      · intro ξ S h1 h2 h3 h4
        have hN1_6 := closed_false h1 h3 (k := 6) rfl (by decide)
        have hN1_8 := closed_false h1 h3 (k := 8) rfl (by decide)
        try simp only [upd_same, updD_same, upd_ne, updD_ne, ne_eq, Nat.reduceEqDiff, not_false_eq_true, stg_t, stg_f, vAd_s, vCap_s, blk_p, List.cons_append, List.nil_append, b2n_t, b2n_f, hN1_6, hN1_8]
        exact goW
      · intro ξ v; rfl
      · intro ξ k v S h3 hn hk
        first
        | rfl
      apply YSeq.w (by intro _ _ _; rfl)
      · intro ξ S h1 h2 h3 h4
        have hN2_4 := closed_false h1 h3 (k := 4) rfl (by decide)
        have hN2_6 := closed_false hN2_4 h3 (k := 6) rfl (by decide)
        have hN2_8 := closed_false h1 h3 (k := 8) rfl (by decide)
        try simp only [upd_same, updD_same, upd_ne, updD_ne, ne_eq, Nat.reduceEqDiff, not_false_eq_true, stg_t, stg_f, vAd_s, vCap_s, blk_p, List.cons_append, List.nil_append, b2n_t, b2n_f, hN2_4, hN2_6, hN2_8]
        exact goW
      · intro ξ v; rfl
      · intro ξ k v S h3 hn hk
        first
        | rfl
      apply YSeq.w (by intro _ _ _; rfl)
      · intro ξ S h1 h2 h3 h4
        have hN3_4 := closed_false h1 h3 (k := 4) rfl (by decide)
        have hN3_6 := closed_false hN3_4 h3 (k := 6) rfl (by decide)
        have hN3_8 := closed_false h1 h3 (k := 8) rfl (by decide)
        try simp only [upd_same, updD_same, upd_ne, updD_ne, ne_eq, Nat.reduceEqDiff, not_false_eq_true, stg_t, stg_f, vAd_s, vCap_s, blk_p, List.cons_append, List.nil_append, b2n_t, b2n_f, hN3_4, hN3_6, hN3_8]
        exact goW
      · intro ξ v; rfl
      · intro ξ k v S h3 hn hk
        first
        | rfl
      apply YSeq.callS (one_gen (l := [⟨#[]⟩, ⟨#[97]⟩, ⟨#[98]⟩]) (by repeat' (first | exact IsStrs.nil | apply IsStrs.cons)) (by simp)) (fun _ => (Evs.cons rfl (Evs.cons rfl Evs.nil)))
      · intro ξ S h1 h3
        have hN4_6 := closed_false h1 h3 (k := 6) rfl (by decide)
        have hN4_8 := closed_false h1 h3 (k := 8) rfl (by decide)
        have hq4 := b2n_le (S 4)
        simp only [upd_same, updD_same, upd_ne, updD_ne, ne_eq, Nat.reduceEqDiff, not_false_eq_true, stg_t, stg_f, vAd_s, vCap_s, blk_p, List.cons_append, List.nil_append, b2n_t, b2n_f, h1, hN4_6, hN4_8]
        refine ⟨_, _, ?_, goXp, fun v => ?_⟩
        · omega
        · refine List.Perm.trans goXp (perm_strm ?_)
          omega
      apply YSeq.w (by intro _ _ _; rfl)
      · intro ξ S h1 h2 h3 h4
        have hY5_4 : S 4 = true := h2 4 (by decide)
        have hN5_6 := closed_false h1 h3 (k := 6) rfl (by decide)
        have hN5_8 := closed_false h1 h3 (k := 8) rfl (by decide)
        have hR25 := pf_str (one_gen (l := [⟨#[]⟩, ⟨#[97]⟩, ⟨#[98]⟩]) (by repeat' (first | exact IsStrs.nil | apply IsStrs.cons)) (by simp)) (h4 4 hY5_4)
        try simp only [InRange] at hR25
        have hRn25 := hR25
        try simp only [Nat.zero_add, Nat.reduceAdd] at hRn25
        try simp only [upd_same, updD_same, upd_ne, updD_ne, ne_eq, Nat.reduceEqDiff, not_false_eq_true, stg_t, stg_f, vAd_s, vCap_s, blk_p, List.cons_append, List.nil_append, b2n_t, b2n_f, hY5_4, hN5_6, hN5_8]
        exact goW
      · intro ξ v; rfl
      · intro ξ k v S h3 hn hk
        first
        | rfl
        | skip
          have hY5_4 : S 4 = true := h3 5 _ rfl hn 4 (by decide)
          simp only [upd_S hY5_4 hk]
      apply YSeq.append (j + 1)
      · intro ξ S h1 h2 h3 h4
        have hY6_4 : S 4 = true := h2 4 (by decide)
        have hN6_8 := closed_false h1 h3 (k := 8) rfl (by decide)
        have hR25 := pf_str (one_gen (l := [⟨#[]⟩, ⟨#[97]⟩, ⟨#[98]⟩]) (by repeat' (first | exact IsStrs.nil | apply IsStrs.cons)) (by simp)) (h4 4 hY6_4)
        try simp only [InRange] at hR25
        have hRn25 := hR25
        try simp only [Nat.zero_add, Nat.reduceAdd] at hRn25
        simp only [upd_same, updD_same, upd_ne, updD_ne, ne_eq, Nat.reduceEqDiff, not_false_eq_true, stg_t, stg_f, vAd_s, vCap_s, blk_p, List.cons_append, List.nil_append, b2n_t, b2n_f, hY6_4, h1, hN6_8]
        refine ⟨_, _, _, _, _, _, rfl, rfl, goXp, (by first | rfl | (simp; done) | omega), (by first | rfl | omega | (simp; done) | (simp; omega)), (by first | omega | (simp; done) | (simp; omega)), (by first | omega | (simp; done) | (simp; omega)), fun ad' cap' => ?_⟩
        exact goXm
      apply YSeq.w (by intro _ _ _; rfl)
      · intro ξ S h1 h2 h3 h4
        have hY7_4 : S 4 = true := h2 4 (by decide)
        have hY7_6 : S 6 = true := h2 6 (by decide)
        have hN7_8 := closed_false h1 h3 (k := 8) rfl (by decide)
        have hR25 := pf_str (one_gen (l := [⟨#[]⟩, ⟨#[97]⟩, ⟨#[98]⟩]) (by repeat' (first | exact IsStrs.nil | apply IsStrs.cons)) (by simp)) (h4 4 hY7_4)
        try simp only [InRange] at hR25
        have hRn25 := hR25
        try simp only [Nat.zero_add, Nat.reduceAdd] at hRn25
        try simp only [upd_same, updD_same, upd_ne, updD_ne, ne_eq, Nat.reduceEqDiff, not_false_eq_true, stg_t, stg_f, vAd_s, vCap_s, blk_p, List.cons_append, List.nil_append, b2n_t, b2n_f, hY7_4, hY7_6, hN7_8]
        exact goW
      · intro ξ v; rfl
      · intro ξ k v S h3 hn hk
        first
        | rfl
        | skip
          have hY7_4 : S 4 = true := h3 7 _ rfl hn 4 (by decide)
          have hY7_6 : S 6 = true := h3 7 _ rfl hn 6 (by decide)
          simp only [upd_S hY7_4 hk, upd_S hY7_6 hk]
      apply YSeq.store
      · intro ξ S h1 h2 h3 h4
        have hY8_4 : S 4 = true := h2 4 (by decide)
        have hY8_6 : S 6 = true := h2 6 (by decide)
        have hR25 := pf_str (one_gen (l := [⟨#[]⟩, ⟨#[97]⟩, ⟨#[98]⟩]) (by repeat' (first | exact IsStrs.nil | apply IsStrs.cons)) (by simp)) (h4 4 hY8_4)
        try simp only [InRange] at hR25
        have hRn25 := hR25
        try simp only [Nat.zero_add, Nat.reduceAdd] at hRn25
        simp only [upd_same, updD_same, upd_ne, updD_ne, ne_eq, Nat.reduceEqDiff, not_false_eq_true, stg_t, stg_f, vAd_s, vCap_s, blk_p, List.cons_append, List.nil_append, b2n_t, b2n_f, hY8_4, hY8_6, h1]
        refine ⟨_, _, _, _, _, _, _, rfl, rfl, inferInstance, goXp, rfl, Nat.le_of_ble_eq_true rfl, ?_⟩
        exact goXm
      refine YSeq.nil fun ξ hf => ?_
      have hR25 := pf_str (one_gen (l := [⟨#[]⟩, ⟨#[97]⟩, ⟨#[98]⟩]) (by repeat' (first | exact IsStrs.nil | apply IsStrs.cons)) (by simp)) (hf 4)
      try simp only [InRange] at hR25
      refine ⟨[(0, _), (3, _), (4, _), (5, _), (6, _), (13, _), (14, _), (18, _), (19, _)], _, Ent.trans (Ent.eqc rfl (by first | (simp only [upd_same, updD_same, upd_ne, updD_ne, ne_eq, Nat.reduceEqDiff, not_false_eq_true, stg_t, stg_f, vAd_s, vCap_s, blk_p, List.cons_append, List.nil_append, b2n_t, b2n_f, ownV, slV, ptV] <;> rfl) | rfl)) (Ent.sub goSub), ?_⟩
      clear hf
      generalize vStr (ξ 4) = x25 at hR25 ⊢
      generalize vAd (ξ 6) = ad27
      generalize vCap (ξ 6) = cap27
      rw [show strRows x ++ [[Tr.str x25]] = strRows (x ++ [x25]) by rw [strRows_app]; rfl]
      repeat' (first | refine goH ?_ | refine goV ?_ | refine goB (fun b => ?_) | refine goC (fun ad cap => ?_) | refine goG ?_ | (refine Ops.k_guard ?_; first | (refine Ops.guard_dec rfl rfl (fun hc => ?_) (fun hc => ?_) <;> try (exfalso; omega)) | refine Ops.guard_split rfl rfl (fun hc => ?_) (fun hc => ?_)) | refine goI ?_ | (refine Cw.k_cond ?_; first | (refine Cw.cond_dec rfl (fun hc => ?_) (fun hc => ?_) <;> try (exfalso; omega)) | refine Cw.cond_bool rfl (fun hc => ?_) (fun hc => ?_)) | refine goR ?_ | refine goP ?_ | apply PSeq.cons | apply PSeq.yes rfl rfl rfl | exact goW | fail)
      exact ⟨_, _, _, (Ent.mk goSub goTk), ⟨j + 1, _, _, x ++ [x25], _, rfl, ⟨by omega, by simp [hx], by omega⟩, rfl, rfl⟩, by omega⟩
    · refine Cw.ent (Ent.push (c := (⟨adx, capx, strRows x⟩ : In1).own 1 9) (L := ownsS L) (by exact goPk) (by exact goPk)) ?_
      rw [ownsS_snoc L fr]
      have hv1 : (Value.slice adx j capx) = (⟨adx, capx, strRows x⟩ : In1).val := by unfold In1.val; rw [hxl, hx]
      rw [hv1]
      have hap := rowsS_snoc L fr ⟨adx, capx, strRows x⟩
      have hsn := hok.snoc fr ⟨adx, capx, strRows x⟩ ⟨x, rfl, by omega⟩
      have hll : (rowsS L ++ [[Tr.int fr, Tr.raw (⟨adx, capx, strRows x⟩ : In1).val]]).length = k + 1 := by rw [List.length_append, hRl]; rfl
      repeat' (first | refine goH ?_ | refine goV ?_ | refine goB (fun b => ?_) | refine goC (fun ad cap => ?_) | refine goG ?_ | (refine Ops.k_guard ?_; first | (refine Ops.guard_dec rfl rfl (fun hc => ?_) (fun hc => ?_) <;> try (exfalso; omega)) | refine Ops.guard_split rfl rfl (fun hc => ?_) (fun hc => ?_)) | refine goI ?_ | (refine Cw.k_cond ?_; first | (refine Cw.cond_dec rfl (fun hc => ?_) (fun hc => ?_) <;> try (exfalso; omega)) | refine Cw.cond_bool rfl (fun hc => ?_) (fun hc => ?_)) | (refine Ops.k_calla ?_; first | (refine Ops.k_callf 6 ?_; (refine Ops.callG (pick_gen (by repeat' (first | exact IsInts.nil | apply IsInts.cons)) (by simp)) (Evs.cons rfl (Evs.cons rfl Evs.nil)) goPk (by omega) rfl ?_; rintro r ⟨u, rfl, hu⟩; have hub : 1 ≤ u ∧ u ≤ 5 := (by simp at hu; omega); clear hu))) | refine goR ?_ | refine goP ?_ | apply PSeq.cons | apply PSeq.yes rfl rfl rfl | exact goW | fail)
      rw [hll, hap]
      exact ⟨_, _, _, (Ent.mk goSub goTk), ⟨k + 1, _, _, L ++ [(fr, ⟨adx, capx, strRows x⟩)], _, _, rfl, ⟨by omega, by simp [hL], hsn, by omega, by omega, by omega⟩, rfl, rfl⟩, by omega⟩
  · have hkv : k ≤ 4 := by omega
    have hvl : (rowsS L).length = ((toVers L hok.up).map Ver.row).length := by rw [hRl, List.length_map, toVers_len, hL]
    repeat' (first | refine goH ?_ | refine goV ?_ | refine goB (fun b => ?_) | refine goC (fun ad cap => ?_) | refine goG ?_ | (refine Ops.k_guard ?_; first | (refine Ops.guard_dec rfl rfl (fun hc => ?_) (fun hc => ?_) <;> try (exfalso; omega)) | refine Ops.guard_split rfl rfl (fun hc => ?_) (fun hc => ?_)) | refine goI ?_ | (refine Cw.k_cond ?_; first | (refine Cw.cond_dec rfl (fun hc => ?_) (fun hc => ?_) <;> try (exfalso; omega)) | refine Cw.cond_bool rfl (fun hc => ?_) (fun hc => ?_)) | (refine Ops.k_calla ?_; first | (refine Ops.k_callf 19 ?_; (refine Ops.callG (flip_gen _ (by omega)) (Evs.cons rfl (Evs.cons rfl Evs.nil)) goPk (by omega) rfl ?_; rintro r ⟨v2, rfl⟩))) | refine goR ?_ | refine goP ?_ | apply PSeq.cons | apply PSeq.yes rfl rfl rfl | exact goW | fail)
    all_goals try exact Fin.ret (Ent.trans (ent_vers hok.up goPk goPk) (Ent.trans (Ent.settle (s := 2) rfl goPk (by rw [← hvl, hRl])) (Ent.strm_only goPk (by omega)))) (Outs.one rfl rfl) ⟨rfl, toVers L hok.up, rfl, by rw [toVers_len]; omega, fun z hz => Nat.le_trans (toVers_bd L hok.up z hz) (by omega)⟩
    clear hvl
    refine Ops.k_calla ?_
    refine Ops.callG (next_gen _ (by omega)) (Evs.cons rfl (Evs.cons rfl Evs.nil)) goPk (by omega) rfl ?_
    rintro r ⟨u, rfl, hu⟩
    unfold InRange at hu
    obtain ⟨A, B, f1, ⟨ad1, cap1, rows1⟩, rfl, hA⟩ := vl_split (L := L) (i := u.toNat) (by omega)
    obtain ⟨x, hx, hxl⟩ := hok (f1, ⟨ad1, cap1, rows1⟩) (by simp)
    simp only at hx
    subst hx
    have hrow := rowsS_at A B f1 ⟨ad1, cap1, strRows x⟩
    have hset := fun f' p' => rowsS_set A B f1 f' ⟨ad1, cap1, strRows x⟩ p'
    have hmid := fun f' (p' : In1) (hp : ∃ x : List ByteArray, p'.rows = strRows x ∧ x.length ≤ 6) => hok.mid (f' := f') (p' := p') hp
    have hxs := strRows_len x
    have hval : (⟨ad1, cap1, strRows x⟩ : In1).val = .slice ad1 x.length cap1 := by unfold In1.val; rw [hxs]
    rw [hval, hA] at hrow
    rw [hA] at hset
    have hBl : ∀ f' p', (A ++ (f', p') :: B).length = k := fun f' p' => by rw [← hL]; simp
    rw [ownsS_mid]
    refine Ops.ent (Ent.pull (A := ownsS A) (B := ownsS B) (c := (⟨ad1, cap1, strRows x⟩ : In1).own 1 9) (by exact goPk)) ?_
    unfold In1.own
    simp only
    generalize hR : rowsS (A ++ (f1, ⟨ad1, cap1, strRows x⟩) :: B) = R at *
    have hu2 : u < (R.length : Int) := by omega
    repeat' (first | refine goH ?_ | (refine Ops.k_nilCheck ?_; first | (refine Ops.nilCheck_eptr rfl rfl ?_)) | (refine Ops.k_c_append ?_; first | (refine Ops.append rfl rfl goPk hxs.symm (by rw [hxs]; simp; omega) (by rw [hxs]; simp; omega) rfl (fun ad2 cap2 => ?_))) | refine goV ?_ | refine goB (fun b => ?_) | refine goC (fun ad cap => ?_) | refine goG ?_ | (refine Ops.k_guard ?_; first | (refine Ops.guard_dec rfl rfl (fun hc => ?_) (fun hc => ?_) <;> try (exfalso; omega)) | refine Ops.guard_split rfl rfl (fun hc => ?_) (fun hc => ?_)) | refine goI ?_ | (refine Cw.k_cond ?_; first | (refine Cw.cond_dec rfl (fun hc => ?_) (fun hc => ?_) <;> try (exfalso; omega)) | refine Cw.cond_bool rfl (fun hc => ?_) (fun hc => ?_)) | (refine Ops.k_calla ?_; first | (refine Ops.k_callf 17 ?_; (refine Ops.callG (next_gen 3 (by omega)) (Evs.cons rfl (Evs.cons rfl Evs.nil)) goPk (by omega) rfl ?_; rintro r ⟨t, rfl, ht⟩; unfold InRange at ht)) | (refine Ops.k_callf 6 ?_; (refine Ops.callG (pick_gen (by repeat' (first | exact IsInts.nil | apply IsInts.cons)) (by simp)) (Evs.cons rfl (Evs.cons rfl Evs.nil)) goPk (by omega) rfl ?_; rintro r ⟨g, rfl, hg⟩; clear hg))) | fail)
    · skip
      rw [show R.set u.toNat ([Tr.int f1, Tr.raw (Value.slice ad1 x.length cap1)].set (0 + 0) (Tr.int g)) = rowsS (A ++ (g, ⟨ad1, cap1, strRows x⟩) :: B) by rw [← hset, hval]; rfl]
      refine Fin.entS (Ent.putb (A := ownsS A) (B := ownsS B) (c := (⟨ad1, cap1, strRows x⟩ : In1).own 1 9) (by exact goPk) (by exact goPk)) ?_
      rw [← ownsS_mid A B g]
      have hok2 := hmid g ⟨ad1, cap1, strRows x⟩ ⟨x, rfl, by omega⟩
      exact Fin.ret (Ent.trans (ent_vers hok2 goPk goPk) (Ent.trans (Ent.settle (s := 2) rfl goPk (by rw [List.length_map, toVers_len, hBl])) (Ent.strm_only goPk (by omega)))) (Outs.one rfl rfl) ⟨rfl, toVers _ hok2, rfl, by rw [toVers_len, hBl]; omega, fun z hz => Nat.le_trans (toVers_bd _ hok2 z hz) (by omega)⟩
    · have hv2 : (⟨ad2, cap2, strRows (x ++ [⟨#[97]⟩])⟩ : In1).val = .slice ad2 (strRows x ++ [[Tr.str ⟨#[97]⟩]]).length cap2 := by unfold In1.val; rw [strRows_app]; rfl
      rw [show strRows x ++ [[Tr.str ⟨#[97]⟩]] = strRows (x ++ [⟨#[97]⟩]) by rw [strRows_app]; rfl] at *
      rw [show R.set u.toNat ([Tr.int f1, Tr.raw (Value.slice ad1 x.length cap1)].set (0 + 1) (Tr.raw (Value.slice ad2 (strRows (x ++ [⟨#[97]⟩])).length cap2))) = rowsS (A ++ (f1, ⟨ad2, cap2, strRows (x ++ [⟨#[97]⟩])⟩) :: B) by rw [← hset, hv2]; rfl]
      refine Fin.entS (Ent.putb (A := ownsS A) (B := ownsS B) (c := (⟨ad2, cap2, strRows (x ++ [⟨#[97]⟩])⟩ : In1).own 1 9) (by exact goPk) (by exact goPk)) ?_
      rw [← ownsS_mid A B f1]
      have hok2 := hmid f1 ⟨ad2, cap2, strRows (x ++ [⟨#[97]⟩])⟩ ⟨_, rfl, by simp; omega⟩
      exact Fin.ret (Ent.trans (ent_vers hok2 goPk goPk) (Ent.trans (Ent.settle (s := 2) rfl goPk (by rw [List.length_map, toVers_len, hBl])) (Ent.strm_only goPk (by omega)))) (Outs.one rfl rfl) ⟨rfl, toVers _ hok2, rfl, by rw [toVers_len, hBl]; omega, fun z hz => Nat.le_trans (toVers_bd _ hok2 z hz) (by omega)⟩
    · refine Cw.ent (Ent.putb (A := ownsS A) (B := ownsS B) (c := (⟨ad1, cap1, strRows x⟩ : In1).own 1 9) (by exact goPk) (by exact goPk)) ?_
      rw [← ownsS_mid A B f1, ← hR]
      refine Cw.ent (ent_vers hok.up goPk goPk) ?_
      have hVl := toVers_len _ hok.up
      have hVb := toVers_bd _ hok.up
      rw [hBl] at hVl
      generalize toVers _ hok.up = V at *
      clear hset hmid hrow hok hR
      obtain ⟨⟨vf, vx⟩, hvi⟩ := at_lt (l := V) (k := u.toNat) (by omega)
      have hvb := hVb _ (List.mem_of_getElem? hvi)
      have hrv : (V.map Ver.row)[u.toNat]? = some [.int vf, .strs vx] := rows_at hvi
      have hVr : (V.map Ver.row).length = k := by rw [List.length_map, hVl]
      have hvs := strRows_len vx
      have kcl := clone_str (strRows vx) (by intro r hr; obtain ⟨a, _, rfl⟩ := List.mem_map.1 hr; rfl) (by rw [strRows_len]; simp only at hvb; omega)
      simp only at hvb
      first | refine Cw.region_YP (fun ξ S => Chunk.strm 25 bs (intRows xs) (c + 1 + 1 + 1 + b2n (S 8)) :: Chunk.own ad cap 2 48 (stg (S 21) (V.map Ver.row) ((V.map Ver.row).set u.toNat [.int vf, Tr.raw (.slice (if vCap (ξ 10) = (1 - min ((strRows vx).length : Int) 1).toNat then vAd (ξ 10) else (vAd (ξ 10)).map (·.add ((1 - min ((strRows vx).length : Int) 1).toNat * 1))) (vx.length + 1 - (1 - min ((strRows vx).length : Int) 1).toNat) (vCap (ξ 10) - (1 - min ((strRows vx).length : Int) 1).toNat))])) :: (stg (S 5) [] (stg (S 10) [ownV (ξ 5) 1 9 (strRows vx)] [ownV (ξ 10) 1 9 (strRows vx ++ [[.str (vStr (ξ 8))]])]) ++ [])) rfl (by decide +kernel) rfl ((fun (ξ : Nat → Value) (S : Nat → Bool) => Chunk.strm 25 bs (intRows xs) (c + 1 + 1 + 1 + b2n (S 8)) :: Chunk.own ad cap 2 48 (stg (S 21) (V.map Ver.row) ((V.map Ver.row).set u.toNat [.int vf, Tr.raw (.slice (if vCap (ξ 10) = (1 - min ((strRows vx).length : Int) 1).toNat then vAd (ξ 10) else (vAd (ξ 10)).map (·.add ((1 - min ((strRows vx).length : Int) 1).toNat * 1))) (vx.length + 1 - (1 - min ((strRows vx).length : Int) 1).toNat) (vCap (ξ 10) - (1 - min ((strRows vx).length : Int) 1).toNat))])) :: (stg (S 5) [] (stg (S 10) [ownV (ξ 5) 1 9 (strRows vx)] [ownV (ξ 10) 1 9 (strRows vx ++ [[.str (vStr (ξ 8))]])]) ++ [])) (fun _ => undef) (fun _ => false)) (by simp only [upd_same, updD_same, upd_ne, updD_ne, ne_eq, Nat.reduceEqDiff, not_false_eq_true, stg_t, stg_f, vAd_s, vCap_s, blk_p, List.cons_append, List.nil_append, b2n_t, b2n_f]; exact goXm) (fun _ => rfl) ?_ | fail
      apply YSeq.w (by intro _ _ _; rfl)
      · intro ξ S h1 h2 h3 h4
        have hN0_21 := closed_false h1 h3 (k := 21) rfl (by decide)
        try simp only [upd_same, updD_same, upd_ne, updD_ne, ne_eq, Nat.reduceEqDiff, not_false_eq_true, stg_t, stg_f, vAd_s, vCap_s, blk_p, List.cons_append, List.nil_append, b2n_t, b2n_f, hN0_21]
        exact goW
      · intro ξ v; rfl
      · intro ξ k v S h3 hn hk
        first
        | rfl
      apply YSeq.w (by intro _ _ _; rfl)
      · intro ξ S h1 h2 h3 h4
        have hN1_2 := closed_false h1 h3 (k := 2) rfl (by decide)
        have hN1_3 := closed_false hN1_2 h3 (k := 3) rfl (by decide)
        have hN1_4 := closed_false hN1_3 h3 (k := 4) rfl (by decide)
        have hN1_5 := closed_false hN1_4 h3 (k := 5) rfl (by decide)
        have hN1_8 := closed_false hN1_5 h3 (k := 8) rfl (by decide)
        have hN1_10 := closed_false hN1_5 h3 (k := 10) rfl (by decide)
        have hN1_21 := closed_false h1 h3 (k := 21) rfl (by decide)
        try simp only [upd_same, updD_same, upd_ne, updD_ne, ne_eq, Nat.reduceEqDiff, not_false_eq_true, stg_t, stg_f, vAd_s, vCap_s, blk_p, List.cons_append, List.nil_append, b2n_t, b2n_f, hN1_5, hN1_8, hN1_10, hN1_21]
        exact goW
      · intro ξ v; rfl
      · intro ξ k v S h3 hn hk
        first
        | rfl
      apply YSeq.w (by intro _ _ _; rfl)
      · intro ξ S h1 h2 h3 h4
        have hN2_3 := closed_false h1 h3 (k := 3) rfl (by decide)
        have hN2_4 := closed_false hN2_3 h3 (k := 4) rfl (by decide)
        have hN2_5 := closed_false hN2_4 h3 (k := 5) rfl (by decide)
        have hN2_8 := closed_false hN2_5 h3 (k := 8) rfl (by decide)
        have hN2_10 := closed_false hN2_5 h3 (k := 10) rfl (by decide)
        have hN2_21 := closed_false h1 h3 (k := 21) rfl (by decide)
        try simp only [upd_same, updD_same, upd_ne, updD_ne, ne_eq, Nat.reduceEqDiff, not_false_eq_true, stg_t, stg_f, vAd_s, vCap_s, blk_p, List.cons_append, List.nil_append, b2n_t, b2n_f, hN2_5, hN2_8, hN2_10, hN2_21]
        exact OpV.w (OpV.nilCheck_eptr rfl)
      · intro ξ v; rfl
      · intro ξ k v S h3 hn hk
        first
        | rfl
      apply YSeq.w (by intro _ _ _; rfl)
      · intro ξ S h1 h2 h3 h4
        have hN3_4 := closed_false h1 h3 (k := 4) rfl (by decide)
        have hN3_5 := closed_false hN3_4 h3 (k := 5) rfl (by decide)
        have hN3_8 := closed_false hN3_5 h3 (k := 8) rfl (by decide)
        have hN3_10 := closed_false hN3_5 h3 (k := 10) rfl (by decide)
        have hN3_21 := closed_false h1 h3 (k := 21) rfl (by decide)
        try simp only [upd_same, updD_same, upd_ne, updD_ne, ne_eq, Nat.reduceEqDiff, not_false_eq_true, stg_t, stg_f, vAd_s, vCap_s, blk_p, List.cons_append, List.nil_append, b2n_t, b2n_f, hN3_5, hN3_8, hN3_10, hN3_21]
        exact goW
      · intro ξ v; rfl
      · intro ξ k v S h3 hn hk
        first
        | rfl
      apply YSeq.w (by intro _ _ _; rfl)
      · intro ξ S h1 h2 h3 h4
        have hN4_5 := closed_false h1 h3 (k := 5) rfl (by decide)
        have hN4_8 := closed_false hN4_5 h3 (k := 8) rfl (by decide)
        have hN4_10 := closed_false hN4_5 h3 (k := 10) rfl (by decide)
        have hN4_21 := closed_false h1 h3 (k := 21) rfl (by decide)
        try simp only [upd_same, updD_same, upd_ne, updD_ne, ne_eq, Nat.reduceEqDiff, not_false_eq_true, stg_t, stg_f, vAd_s, vCap_s, blk_p, List.cons_append, List.nil_append, b2n_t, b2n_f, hN4_5, hN4_8, hN4_10, hN4_21]
        exact goW
      · intro ξ v; rfl
      · intro ξ k v S h3 hn hk
        first
        | rfl
      apply YSeq.callO (vx.length)
      · intro ξ S h1 h2 h3 h4
        have hN5_8 := closed_false h1 h3 (k := 8) rfl (by decide)
        have hN5_10 := closed_false h1 h3 (k := 10) rfl (by decide)
        have hN5_21 := closed_false h1 h3 (k := 21) rfl (by decide)
        refine ⟨_, _, kcl, (Evs.cons rfl Evs.nil), (by first | rfl | simp | omega), fun ad cap => ?_⟩
        simp only [upd_same, updD_same, upd_ne, updD_ne, ne_eq, Nat.reduceEqDiff, not_false_eq_true, stg_t, stg_f, vAd_s, vCap_s, blk_p, List.cons_append, List.nil_append, b2n_t, b2n_f, h1, hN5_8, hN5_10, hN5_21]
        exact goXm
      apply YSeq.w (by intro _ _ _; rfl)
      · intro ξ S h1 h2 h3 h4
        have hN6_8 := closed_false h1 h3 (k := 8) rfl (by decide)
        have hN6_10 := closed_false hN6_8 h3 (k := 10) rfl (by decide)
        have hN6_21 := closed_false h1 h3 (k := 21) rfl (by decide)
        try simp only [upd_same, updD_same, upd_ne, updD_ne, ne_eq, Nat.reduceEqDiff, not_false_eq_true, stg_t, stg_f, vAd_s, vCap_s, blk_p, List.cons_append, List.nil_append, b2n_t, b2n_f, hN6_8, hN6_10, hN6_21]
        exact goW
      · intro ξ v; rfl
      · intro ξ k v S h3 hn hk
        first
        | rfl
      apply YSeq.w (by intro _ _ _; rfl)
      · intro ξ S h1 h2 h3 h4
        have hN7_8 := closed_false h1 h3 (k := 8) rfl (by decide)
        have hN7_10 := closed_false hN7_8 h3 (k := 10) rfl (by decide)
        have hN7_21 := closed_false h1 h3 (k := 21) rfl (by decide)
        try simp only [upd_same, updD_same, upd_ne, updD_ne, ne_eq, Nat.reduceEqDiff, not_false_eq_true, stg_t, stg_f, vAd_s, vCap_s, blk_p, List.cons_append, List.nil_append, b2n_t, b2n_f, hN7_8, hN7_10, hN7_21]
        exact goW
      · intro ξ v; rfl
      · intro ξ k v S h3 hn hk
        first
        | rfl
      apply YSeq.callS (one_gen (l := [⟨#[]⟩, ⟨#[90]⟩]) (by repeat' (first | exact IsStrs.nil | apply IsStrs.cons)) (by simp)) (fun _ => (Evs.cons rfl (Evs.cons rfl Evs.nil)))
      · intro ξ S h1 h3
        have hN8_10 := closed_false h1 h3 (k := 10) rfl (by decide)
        have hN8_21 := closed_false h1 h3 (k := 21) rfl (by decide)
        have hq8 := b2n_le (S 8)
        simp only [upd_same, updD_same, upd_ne, updD_ne, ne_eq, Nat.reduceEqDiff, not_false_eq_true, stg_t, stg_f, vAd_s, vCap_s, blk_p, List.cons_append, List.nil_append, b2n_t, b2n_f, h1, hN8_10, hN8_21]
        refine ⟨_, _, ?_, goXp, fun v => ?_⟩
        · omega
        · refine List.Perm.trans goXp (perm_strm ?_)
          omega
      apply YSeq.w (by intro _ _ _; rfl)
      · intro ξ S h1 h2 h3 h4
        have hY9_8 : S 8 = true := h2 8 (by decide)
        have hY9_5 : S 5 = true := h3 8 _ rfl hY9_8 5 (by decide)
        have hN9_10 := closed_false h1 h3 (k := 10) rfl (by decide)
        have hN9_21 := closed_false h1 h3 (k := 21) rfl (by decide)
        have hR63 := pf_str (one_gen (l := [⟨#[]⟩, ⟨#[90]⟩]) (by repeat' (first | exact IsStrs.nil | apply IsStrs.cons)) (by simp)) (h4 8 hY9_8)
        try simp only [InRange] at hR63
        have hRn63 := hR63
        try simp only [Nat.zero_add, Nat.reduceAdd] at hRn63
        try simp only [upd_same, updD_same, upd_ne, updD_ne, ne_eq, Nat.reduceEqDiff, not_false_eq_true, stg_t, stg_f, vAd_s, vCap_s, blk_p, List.cons_append, List.nil_append, b2n_t, b2n_f, hY9_5, hY9_8, hN9_10, hN9_21]
        exact goW
      · intro ξ v; rfl
      · intro ξ k v S h3 hn hk
        first
        | rfl
        | skip
          have hY9_8 : S 8 = true := h3 9 _ rfl hn 8 (by decide)
          have hY9_5 : S 5 = true := h3 8 _ rfl hY9_8 5 (by decide)
          simp only [upd_S hY9_5 hk, upd_S hY9_8 hk]
      apply YSeq.append (vx.length + 1)
      · intro ξ S h1 h2 h3 h4
        have hY10_5 : S 5 = true := h2 5 (by decide)
        have hY10_8 : S 8 = true := h2 8 (by decide)
        have hN10_21 := closed_false h1 h3 (k := 21) rfl (by decide)
        have hR63 := pf_str (one_gen (l := [⟨#[]⟩, ⟨#[90]⟩]) (by repeat' (first | exact IsStrs.nil | apply IsStrs.cons)) (by simp)) (h4 8 hY10_8)
        try simp only [InRange] at hR63
        have hRn63 := hR63
        try simp only [Nat.zero_add, Nat.reduceAdd] at hRn63
        simp only [upd_same, updD_same, upd_ne, updD_ne, ne_eq, Nat.reduceEqDiff, not_false_eq_true, stg_t, stg_f, vAd_s, vCap_s, blk_p, List.cons_append, List.nil_append, b2n_t, b2n_f, hY10_5, hY10_8, h1, hN10_21]
        refine ⟨_, _, _, _, _, _, rfl, rfl, goXp, (by first | rfl | (simp; done) | omega), (by first | rfl | omega | (simp; done) | (simp; omega)), (by first | omega | (simp; done) | (simp; omega)), (by first | omega | (simp; done) | (simp; omega)), fun ad' cap' => ?_⟩
        exact goXm
      apply YSeq.w (by intro _ _ _; rfl)
      · intro ξ S h1 h2 h3 h4
        have hN11_21 := closed_false h1 h3 (k := 21) rfl (by decide)
        try simp only [upd_same, updD_same, upd_ne, updD_ne, ne_eq, Nat.reduceEqDiff, not_false_eq_true, stg_t, stg_f, vAd_s, vCap_s, blk_p, List.cons_append, List.nil_append, b2n_t, b2n_f, hN11_21]
        exact goW
      · intro ξ v; rfl
      · intro ξ k v S h3 hn hk
        first
        | rfl
      apply YSeq.w (by intro _ _ _; rfl)
      · intro ξ S h1 h2 h3 h4
        have hN12_21 := closed_false h1 h3 (k := 21) rfl (by decide)
        try simp only [upd_same, updD_same, upd_ne, updD_ne, ne_eq, Nat.reduceEqDiff, not_false_eq_true, stg_t, stg_f, vAd_s, vCap_s, blk_p, List.cons_append, List.nil_append, b2n_t, b2n_f, hN12_21]
        exact OpV.w (OpV.nilCheck_eptr rfl)
      · intro ξ v; rfl
      · intro ξ k v S h3 hn hk
        first
        | rfl
      apply YSeq.w (by intro _ _ _; rfl)
      · intro ξ S h1 h2 h3 h4
        have hN13_21 := closed_false h1 h3 (k := 21) rfl (by decide)
        try simp only [upd_same, updD_same, upd_ne, updD_ne, ne_eq, Nat.reduceEqDiff, not_false_eq_true, stg_t, stg_f, vAd_s, vCap_s, blk_p, List.cons_append, List.nil_append, b2n_t, b2n_f, hN13_21]
        exact goW
      · intro ξ v; rfl
      · intro ξ k v S h3 hn hk
        first
        | rfl
      apply YSeq.w (by intro _ _ _; rfl)
      · intro ξ S h1 h2 h3 h4
        have hN14_21 := closed_false h1 h3 (k := 21) rfl (by decide)
        try simp only [upd_same, updD_same, upd_ne, updD_ne, ne_eq, Nat.reduceEqDiff, not_false_eq_true, stg_t, stg_f, vAd_s, vCap_s, blk_p, List.cons_append, List.nil_append, b2n_t, b2n_f, hN14_21]
        exact goW
      · intro ξ v; rfl
      · intro ξ k v S h3 hn hk
        first
        | rfl
      apply YSeq.w (by intro _ _ _; rfl)
      · intro ξ S h1 h2 h3 h4
        have hN15_21 := closed_false h1 h3 (k := 21) rfl (by decide)
        try simp only [upd_same, updD_same, upd_ne, updD_ne, ne_eq, Nat.reduceEqDiff, not_false_eq_true, stg_t, stg_f, vAd_s, vCap_s, blk_p, List.cons_append, List.nil_append, b2n_t, b2n_f, hN15_21]
        exact goW
      · intro ξ v; rfl
      · intro ξ k v S h3 hn hk
        first
        | rfl
      apply YSeq.w (by intro _ _ _; rfl)
      · intro ξ S h1 h2 h3 h4
        have hN16_21 := closed_false h1 h3 (k := 21) rfl (by decide)
        try simp only [upd_same, updD_same, upd_ne, updD_ne, ne_eq, Nat.reduceEqDiff, not_false_eq_true, stg_t, stg_f, vAd_s, vCap_s, blk_p, List.cons_append, List.nil_append, b2n_t, b2n_f, hN16_21]
        exact goW
      · intro ξ v; rfl
      · intro ξ k v S h3 hn hk
        first
        | rfl
      apply YSeq.w (by intro _ _ _; rfl)
      · intro ξ S h1 h2 h3 h4
        have hN17_21 := closed_false h1 h3 (k := 21) rfl (by decide)
        try simp only [upd_same, updD_same, upd_ne, updD_ne, ne_eq, Nat.reduceEqDiff, not_false_eq_true, stg_t, stg_f, vAd_s, vCap_s, blk_p, List.cons_append, List.nil_append, b2n_t, b2n_f, hN17_21]
        exact goW
      · intro ξ v; rfl
      · intro ξ k v S h3 hn hk
        first
        | rfl
      apply YSeq.w (by intro _ _ _; rfl)
      · intro ξ S h1 h2 h3 h4
        have hY18_10 : S 10 = true := h2 10 (by decide)
        have hY18_5 : S 5 = true := h3 10 _ rfl hY18_10 5 (by decide)
        have hY18_8 : S 8 = true := h3 10 _ rfl hY18_10 8 (by decide)
        have hN18_21 := closed_false h1 h3 (k := 21) rfl (by decide)
        have hR63 := pf_str (one_gen (l := [⟨#[]⟩, ⟨#[90]⟩]) (by repeat' (first | exact IsStrs.nil | apply IsStrs.cons)) (by simp)) (h4 8 hY18_8)
        try simp only [InRange] at hR63
        have hRn63 := hR63
        try simp only [Nat.zero_add, Nat.reduceAdd] at hRn63
        try simp only [upd_same, updD_same, upd_ne, updD_ne, ne_eq, Nat.reduceEqDiff, not_false_eq_true, stg_t, stg_f, vAd_s, vCap_s, blk_p, List.cons_append, List.nil_append, b2n_t, b2n_f, hY18_5, hY18_8, hY18_10, hN18_21]
        exact OpV.w (OpV.slice_rawl rfl rfl (by omega))
      · intro ξ v; rfl
      · intro ξ k v S h3 hn hk
        first
        | rfl
        | skip
          have hY18_10 : S 10 = true := h3 18 _ rfl hn 10 (by decide)
          have hY18_5 : S 5 = true := h3 10 _ rfl hY18_10 5 (by decide)
          have hY18_8 : S 8 = true := h3 10 _ rfl hY18_10 8 (by decide)
          simp only [upd_S hY18_5 hk, upd_S hY18_8 hk, upd_S hY18_10 hk]
      apply YSeq.w (by intro _ _ _; rfl)
      · intro ξ S h1 h2 h3 h4
        have hY19_5 : S 5 = true := h2 5 (by decide)
        have hY19_8 : S 8 = true := h2 8 (by decide)
        have hY19_10 : S 10 = true := h2 10 (by decide)
        have hN19_20 := closed_false h1 h3 (k := 20) rfl (by decide)
        have hN19_21 := closed_false hN19_20 h3 (k := 21) rfl (by decide)
        have hR63 := pf_str (one_gen (l := [⟨#[]⟩, ⟨#[90]⟩]) (by repeat' (first | exact IsStrs.nil | apply IsStrs.cons)) (by simp)) (h4 8 hY19_8)
        try simp only [InRange] at hR63
        have hRn63 := hR63
        try simp only [Nat.zero_add, Nat.reduceAdd] at hRn63
        try simp only [upd_same, updD_same, upd_ne, updD_ne, ne_eq, Nat.reduceEqDiff, not_false_eq_true, stg_t, stg_f, vAd_s, vCap_s, blk_p, List.cons_append, List.nil_append, b2n_t, b2n_f, hY19_5, hY19_8, hY19_10, hN19_21]
        exact OpV.w (OpV.nilCheck_eptr rfl)
      · intro ξ v; rfl
      · intro ξ k v S h3 hn hk
        first
        | rfl
        | skip
          have hY19_5 : S 5 = true := h3 19 _ rfl hn 5 (by decide)
          have hY19_8 : S 8 = true := h3 19 _ rfl hn 8 (by decide)
          have hY19_10 : S 10 = true := h3 19 _ rfl hn 10 (by decide)
          simp only [upd_S hY19_5 hk, upd_S hY19_8 hk, upd_S hY19_10 hk]
      apply YSeq.w (by intro _ _ _; rfl)
      · intro ξ S h1 h2 h3 h4
        have hY20_5 : S 5 = true := h2 5 (by decide)
        have hY20_8 : S 8 = true := h2 8 (by decide)
        have hY20_10 : S 10 = true := h2 10 (by decide)
        have hN20_21 := closed_false h1 h3 (k := 21) rfl (by decide)
        have hR63 := pf_str (one_gen (l := [⟨#[]⟩, ⟨#[90]⟩]) (by repeat' (first | exact IsStrs.nil | apply IsStrs.cons)) (by simp)) (h4 8 hY20_8)
        try simp only [InRange] at hR63
        have hRn63 := hR63
        try simp only [Nat.zero_add, Nat.reduceAdd] at hRn63
        try simp only [upd_same, updD_same, upd_ne, updD_ne, ne_eq, Nat.reduceEqDiff, not_false_eq_true, stg_t, stg_f, vAd_s, vCap_s, blk_p, List.cons_append, List.nil_append, b2n_t, b2n_f, hY20_5, hY20_8, hY20_10, hN20_21]
        exact goW
      · intro ξ v; rfl
      · intro ξ k v S h3 hn hk
        first
        | rfl
        | skip
          have hY20_5 : S 5 = true := h3 20 _ rfl hn 5 (by decide)
          have hY20_8 : S 8 = true := h3 20 _ rfl hn 8 (by decide)
          have hY20_10 : S 10 = true := h3 20 _ rfl hn 10 (by decide)
          simp only [upd_S hY20_5 hk, upd_S hY20_8 hk, upd_S hY20_10 hk]
      apply YSeq.storeO
      · intro ξ S h1 h2 h3 h4
        have hY21_5 : S 5 = true := h2 5 (by decide)
        have hY21_8 : S 8 = true := h2 8 (by decide)
        have hY21_10 : S 10 = true := h2 10 (by decide)
        have hR63 := pf_str (one_gen (l := [⟨#[]⟩, ⟨#[90]⟩]) (by repeat' (first | exact IsStrs.nil | apply IsStrs.cons)) (by simp)) (h4 8 hY21_8)
        try simp only [InRange] at hR63
        have hRn63 := hR63
        try simp only [Nat.zero_add, Nat.reduceAdd] at hRn63
        simp only [upd_same, updD_same, upd_ne, updD_ne, ne_eq, Nat.reduceEqDiff, not_false_eq_true, stg_t, stg_f, vAd_s, vCap_s, blk_p, List.cons_append, List.nil_append, b2n_t, b2n_f, hY21_5, hY21_8, hY21_10, h1]
        refine ⟨_, _, _, _, _, _, _, _, _, _, rfl, rfl, inferInstance, goXp, (by first | rfl | assumption | (simp [*]; done)), (by decide), ?_⟩
        exact goXm
      refine YSeq.nil fun ξ hf => ?_
      have hR63 := pf_str (one_gen (l := [⟨#[]⟩, ⟨#[90]⟩]) (by repeat' (first | exact IsStrs.nil | apply IsStrs.cons)) (by simp)) (hf 8)
      try simp only [InRange] at hR63
      refine ⟨[(0, _), (3, _), (73, _)], _, Ent.trans (Ent.eqc rfl (by first | (simp only [upd_same, updD_same, upd_ne, updD_ne, ne_eq, Nat.reduceEqDiff, not_false_eq_true, stg_t, stg_f, vAd_s, vCap_s, blk_p, List.cons_append, List.nil_append, b2n_t, b2n_f, ownV, slV, ptV] <;> rfl) | rfl)) (Ent.sub goSub), ?_⟩
      clear hf
      generalize vAd (ξ 5) = ad60
      generalize vCap (ξ 5) = cap60
      generalize vStr (ξ 8) = x63 at hR63 ⊢
      generalize vAd (ξ 10) = ad65
      generalize vCap (ξ 10) = cap65
      obtain ⟨q, hq⟩ : ∃ q, q = (1 - min ((strRows vx).length : Int) 1).toNat := ⟨_, rfl⟩
      rw [← hq]
      have hq1 : q ≤ 1 := by omega
      have hql : q + (vx.length + 1 - q) = (strRows vx ++ [[Tr.str x63]]).length := by rw [List.length_append, hvs]; simp; omega
      have hset2 : ∀ r0 : List Tr, (((V.map Ver.row).set u.toNat r0).set u.toNat [Tr.int vf, .sl 1 ((strRows vx ++ [[Tr.str x63]]).drop q)]) = (V.set u.toNat ⟨vf, (vx ++ [x63]).drop q⟩).map Ver.row := by
        intro r0
        rw [List.set_set, List.map_set]
        unfold Ver.row
        rw [show strRows vx ++ [[Tr.str x63]] = strRows (vx ++ [x63]) by rw [strRows_app]; rfl]
        simp only [Tr.strs]
        rw [show (strRows (vx ++ [x63])).drop q = strRows ((vx ++ [x63]).drop q) from List.map_drop.symm]
      have hVs : ((V.set u.toNat ⟨vf, (vx ++ [x63]).drop q⟩).map Ver.row).length = k := by rw [List.length_map, List.length_set, hVl]
      repeat (first | refine InB.norm ?_ | refine Then.norm ?_)
      refine Cw.ent (Ent.settle_cell (s := 73) (p := q) (kk := 1) (ad := ad65) (cap := cap65) (rows := strRows vx ++ [[Tr.str x63]]) (e := 9) (ad2 := ad) (cap2 := cap) (k2 := 2) (e2 := 48) (i := u.toNat) (j := 1) rfl (by exact Perm.cons' goPk (Perm.cons' goPk (List.Perm.refl _))) hql rfl (by rw [List.getElem?_set_self (by rw [hVr]; omega)]) rfl) ?_
      refine Cw.ent (Ent.eqc rfl (congrArg (fun z => Chunk.own ad cap 2 48 z :: _) (hset2 _))) ?_
      repeat' (first | refine goH ?_ | refine goV ?_ | refine goB (fun b => ?_) | refine goC (fun ad cap => ?_) | refine goG ?_ | (refine Ops.k_guard ?_; first | (refine Ops.guard_dec rfl rfl (fun hc => ?_) (fun hc => ?_) <;> try (exfalso; omega)) | refine Ops.guard_split rfl rfl (fun hc => ?_) (fun hc => ?_)) | refine goI ?_ | (refine Cw.k_cond ?_; first | (refine Cw.cond_dec rfl (fun hc => ?_) (fun hc => ?_) <;> try (exfalso; omega)) | refine Cw.cond_bool rfl (fun hc => ?_) (fun hc => ?_)) | refine goR ?_ | refine goP ?_ | apply PSeq.cons | apply PSeq.yes rfl rfl rfl | exact goW | fail)
      refine Fin.ret (Ent.trans (Ent.settle (s := 2) rfl goPk hVs.symm) (Ent.strm_only goPk (by omega))) (Outs.one rfl rfl) ⟨rfl, _, rfl, by rw [List.length_set, hVl]; omega, ?_⟩
      intro z hz
      rcases List.mem_or_eq_of_mem_set hz with h | h
      · exact Nat.le_trans (hVb z h) (by omega)
      · rw [h]
        simp only [List.length_drop, List.length_append, List.length_cons, List.length_nil]
        omega
end Lg
