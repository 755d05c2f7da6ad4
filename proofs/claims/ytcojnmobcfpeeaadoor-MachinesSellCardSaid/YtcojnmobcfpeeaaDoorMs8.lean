/- A part of the proof of a law of this seat: it adds no condition. By an AI agent. -/
import Derived.Test.YtcojnmobcfpeeaaDoorMs7
section
set_option linter.all false
set_option maxRecDepth 100000
set_option maxHeartbeats 1000000
namespace Lg
open Go Go.Proofs

theorem flat1 : ∀ {rows : List (List Tr)} {j : Nat} {t t' : Tr}, (∀ r ∈ rows, r.length = 1) → rows[j]? = some [t] → rows.flatten[j]? = some t ∧ (rows.set j [t']).flatten = rows.flatten.set j t'
 |[], j, t, t', _, h => by simp at h
 |r :: rows, j, t, t', hk, h => by
  obtain ⟨x, hx⟩ : ∃ x, r = [x] := List.length_eq_one_iff.1 (hk r (by simp))
  subst hx
  cases j with
  |zero =>
   simp only [List.getElem?_cons_zero, Option.some.injEq, List.cons.injEq, and_true] at h
   subst h
   simp
  |succ j =>
   rw [List.getElem?_cons_succ] at h
   obtain ⟨h1, h2⟩ := flat1 (t' := t') (fun r hr => hk r (by simp [hr])) h
   simp only [List.set_cons_succ, List.flatten_cons, List.cons_append, List.nil_append, List.getElem?_cons_succ]
   exact ⟨h1, by rw [h2]⟩

/-- an owned slice that another owned slice holds is written no more -/
theorem Ent.settle_own {Γ : Ctx} {env : Env} {cs cf : List Chunk} {ad ad2 : Option Addr} {n cap kk cap2 j s : Nat} {e e2 : TypeId} {rows rows2 : List (List Tr)} (hl : Lg.look env s = some (.raw (.slice ad n cap))) (hp : cs.Perm (Chunk.own ad cap kk e rows :: Chunk.own ad2 cap2 1 e2 rows2 :: cf)) (hn : n = rows.length) (hj : rows2[j]? = some [Tr.raw (.slice ad n cap)]) :
  Ent Γ env cs env (Chunk.own ad2 cap2 1 e2 (rows2.set j [Tr.sl kk rows]) :: cf) := by
 have hst := Ent.settle (Γ := Γ) hl hp hn
 unfold Ent at hst ⊢
 intro a w d
 have hv := rd_raw (d.env s _ hl)
 have d2 := hst a w d
 have hr := d2.env s _ (look_cons_same _ _ _)
 rw [hv] at hr
 have d3 : Den Γ env (Chunk.own ad2 cap2 1 e2 rows2 :: cf) a w := by
  have hd := (d.perm hp).dropc
  exact hd
 have hfp : (Chunk.own ad2 cap2 1 e2 (rows2.set j [Tr.sl kk rows])).fp = (Chunk.own ad2 cap2 1 e2 rows2).fp := by
  unfold Chunk.own
  simp [Value.ownBlock]
 have hfps : fps (Chunk.own ad2 cap2 1 e2 (rows2.set j [Tr.sl kk rows]) :: cf) = fps (Chunk.own ad2 cap2 1 e2 rows2 :: cf) := by simp only [fps, List.flatMap_cons, hfp]
 have hav : av Γ.M (Chunk.own ad2 cap2 1 e2 (rows2.set j [Tr.sl kk rows]) :: cf) = av Γ.M (Chunk.own ad2 cap2 1 e2 rows2 :: cf) := by funext b; simp only [av, hfps]
 refine ⟨d3.nodefer, d3.tmps, by rw [hav]; exact d3.env, ?_, by rw [hfps]; exact d3.nodup, by rw [hfps]; exact d3.fresh, d3.below, d3.frame⟩
 intro c hc
 rw [hav]
 rcases List.mem_cons.1 hc with rfl | hc
 ·have h := d3.chunks (Chunk.own ad2 cap2 1 e2 rows2) (by simp)
  generalize av Γ.M (Chunk.own ad2 cap2 1 e2 rows2 :: cf) = A at *
  unfold Chunk.own at h ⊢
  obtain ⟨hk, xs, ho, hrd⟩ := h
  obtain ⟨f1, f2⟩ := flat1 (t' := Tr.sl kk rows) hk hj
  obtain ⟨v, hv1, hv2, hv3⟩ := hrd.get f1
  have hv2 := rd_raw hv2
  refine ⟨?_, xs, by rw [List.length_set]; exact ho, ?_⟩
  ·intro r hr'
   rcases List.mem_or_eq_of_mem_set hr' with h | h
   ·exact hk r h
   ·rw [h]; rfl
  ·rw [f2]
   have := hrd.set j (t := Tr.sl kk rows) (v := v) (by rw [hv2]; exact hr) hv3
   rwa [show xs.set j v = xs by
    apply List.ext_getElem?
    intro i
    rw [List.getElem?_set]
    by_cases ei : j = i
    ·subst ei
     have hlt := (List.getElem?_eq_some_iff.1 hv1).1
     rw [if_pos rfl, if_pos hlt, hv1]
    ·rw [if_neg ei]] at this
 ·exact d3.chunks c (by simp [hc])
end Lg
end
section
set_option linter.all false
set_option maxRecDepth 100000
set_option maxHeartbeats 4000000
namespace Lg
open Go Go.Proofs

/-- the least so far: n numbers of coins were tried -/
def accR (F : Nat → Int) : Nat → Int
 |0 => nevR
 |n + 1 => min nevR (minTo F n)
theorem accR_next (F : Nat → Int) (n : Nat) : min (accR F n) (F n) = accR F (n + 1) := by
 cases n with
 |zero => show min nevR (F 0) = min nevR (F 0); rfl
 |succ n =>
  show min (min nevR (minTo F n)) (F (n + 1)) = min nevR (min (minTo F n) (F (n + 1)))
  omega
theorem accR_bd (F : Nat → Int) (h : ∀ n, 0 ≤ F n) : ∀ n, 0 ≤ accR F n ∧ accR F n ≤ nevR
 |0 => by show 0 ≤ nevR ∧ nevR ≤ nevR; unfold nevR; omega
 |n + 1 => by
  obtain ⟨m, _, h2⟩ := minTo_mem (f := F) n
  have := h m
  show 0 ≤ min nevR (minTo F n) ∧ min nevR (minTo F n) ≤ nevR
  unfold nevR
  omega

theorem changeO_fn (l : List Tube) (ho : TbOk l) (a : Nat) (ha : a ≤ 20000) : Spec Tryd.prog 58 [.tubes l, .int a] [] (fun r cs => if payK nev l l.length a < nev then ∃ (ad : Option Addr) (cap : Nat), r = .tup [Tr.raw (.slice ad l.length cap), .int 0] ∧ cs = [Chunk.own ad cap 1 3 (intRows (gl (chg (pk nevR l) l a) l.length))] else r = .tup [Tr.raw (.slice none 0 0), .int 8] ∧ cs = []) := by
 refine Spec.body Tryd.func58 rfl rfl (Tryd.ntmps58) rfl fun w0 own0 M => ?_
 have hL : (l.map Tube.row).length = l.length := List.length_map _
 have hlen := ho.len
 repeat' (first | refine goH ?_ | ((fail_if_success refine Ops.k_buildSlice ?_); refine goV ?_) | ((fail_if_success refine Ops.k_buildSlice ?_); refine goB (fun b => ?_)) | ((fail_if_success refine Ops.k_buildSlice ?_); refine goC (fun ad cap => ?_)) | refine goG ?_ | (refine Ops.k_guard ?_; first | (refine Ops.guard_dec rfl rfl ?_ ?_ <;> intro hc <;> try omega) | refine Ops.guard_split rfl rfl ?_ ?_ <;> intro hc) | refine goI ?_ | (refine Cw.k_cond ?_; first | (refine Cw.cond_dec rfl ?_ ?_ <;> intro hc <;> try omega) | refine Cw.cond_bool rfl ?_ ?_ <;> intro hc) | refine goR ?_ | refine goP ?_ | apply PSeq.cons | apply PSeq.yes rfl rfl rfl | exact goW | fail)
 rw [show ((a : Int) + 1).toNat = a + 1 by omega, glR_rep']
 refine Ops.buildSlice_own (by exact Parts.cons rfl rfl rfl (by exact Parts.nil)) rfl rfl rfl (fun ad2 cap2 => ?_)
 repeat' (first | refine goH ?_ | refine goV ?_ | refine goB (fun b => ?_) | refine goC (fun ad cap => ?_) | refine goG ?_ | (refine Ops.k_guard ?_; first | (refine Ops.guard_dec rfl rfl ?_ ?_ <;> intro hc <;> try omega) | refine Ops.guard_split rfl rfl ?_ ?_ <;> intro hc) | refine goI ?_ | (refine Cw.k_cond ?_; first | (refine Cw.cond_dec rfl ?_ ?_ <;> intro hc <;> try omega) | refine Cw.cond_bool rfl ?_ ?_ <;> intro hc) | refine goR ?_ | refine goP ?_ | apply PSeq.cons | apply PSeq.yes rfl rfl rfl | exact goW | fail)
 refine Cw.loop (ι := Nat × List (List Tr)) (fun s => 1 ≤ s.1 ∧ s.1 ≤ a + 1 ∧ ∃ g, s.2 = intRows (gl g (a + 1)) ∧ ∀ k, k < s.1 → g k = zeroPay nevR k)
  (fun s => [(0, .tubes l), (1, .int a), (6, Tr.raw (.slice ad2 1 cap2)), (7, .int s.1), (19, Tr.raw (.slice ad (a + 1) cap))])
  (fun s => [Chunk.own ad cap 1 3 s.2, Chunk.own ad2 cap2 1 22 [[Tr.raw (.slice ad (a + 1) cap)]]]) (fun s => a + 1 - s.1) ⟨(1, intRows (gl (fun _ => 0) (a + 1))), ⟨by simp only; omega, by simp only; omega, (fun _ => 0), rfl, fun k h => by simp only at h; have : k = 0 := (by omega); subst this; rfl⟩, (Ent.mk goSub goTk)⟩ ?_
 rintro ⟨k, rows⟩ ⟨hk0, hk, g, hg, hdone⟩
 simp only at hk0 hk hg hdone ⊢
 have hrl : rows.length = a + 1 := by rw [hg]; simp
 by_cases hkl : k ≤ a
 ·have hrow : rows[((k : Nat) : Int).toNat]? = some [Tr.int (g k)] := by rw [hg]; exact glR_get (by omega)
  repeat' (first | refine goH ?_ | refine goV ?_ | refine goB (fun b => ?_) | refine goC (fun ad cap => ?_) | refine goG ?_ | (refine Ops.k_guard ?_; first | (refine Ops.guard_dec rfl rfl ?_ ?_ <;> intro hc <;> try omega) | refine Ops.guard_split rfl rfl ?_ ?_ <;> intro hc) | refine goI ?_ | (refine Cw.k_cond ?_; first | (refine Cw.cond_dec rfl ?_ ?_ <;> intro hc <;> try omega) | refine Cw.cond_bool rfl ?_ ?_ <;> intro hc) | refine goR ?_ | refine goP ?_ | apply PSeq.cons | apply PSeq.yes rfl rfl rfl | exact goW | fail)
  refine ⟨(k + 1, _), ?_, ?_, (Ent.mk goSub goTk)⟩
  ·refine ⟨by simp only; omega, by simp only; omega, (fun i => if i = k then nevR else g i), ?_, ?_⟩
   ·simp only
    rw [hg]
    exact glR_set
   ·intro y hy
    simp only at hy ⊢
    by_cases e : y = k
    ·subst e
     rw [if_pos rfl]
     unfold zeroPay
     rw [if_neg (by omega)]
    ·rw [if_neg e]
     exact hdone y (by omega)
  ·simp only; omega
 have h0 : rows = intRows (gl (payK nevR l 0) (a + 1)) := by
  rw [hg]
  refine congrArg intRows (gl_ext fun j hj => ?_)
  rw [hdone j (by omega)]
  rfl
 repeat' (first | refine goH ?_ | refine goV ?_ | refine goB (fun b => ?_) | refine goC (fun ad cap => ?_) | refine goG ?_ | (refine Ops.k_guard ?_; first | (refine Ops.guard_dec rfl rfl ?_ ?_ <;> intro hc <;> try omega) | refine Ops.guard_split rfl rfl ?_ ?_ <;> intro hc) | refine goI ?_ | (refine Cw.k_cond ?_; first | (refine Cw.cond_dec rfl ?_ ?_ <;> intro hc <;> try omega) | refine Cw.cond_bool rfl ?_ ?_ <;> intro hc) | refine goR ?_ | refine goP ?_ | apply PSeq.cons | apply PSeq.yes rfl rfl rfl | exact goW | fail)
 refine Cw.loop (ι := Nat × Option Addr × Nat × List (List Tr) × Nat) (fun s => s.1 ≤ l.length ∧ s.2.2.2.1 = tabRows nevR l (a + 1) s.1 ∧ s.2.2.2.2 = s.2.2.2.1.length)
  (fun s => [(0, .tubes l), (1, .int a), (6, Tr.raw (.slice s.2.1 s.2.2.2.2 s.2.2.1)), (31, .tubes l), (32, .int (l.map Tube.row).length), (33, .int s.1)])
  (fun s => [Chunk.own s.2.1 s.2.2.1 1 22 s.2.2.2.1]) (fun s => l.length - s.1) ⟨(0, ad2, cap2, [[Tr.sl 1 rows]], 1), ⟨by simp only; omega, by simp only; rw [h0]; rfl, rfl⟩, Ent.trans (Ent.settle_own (s := 19) (j := 0) (kk := 1) (rows := rows) (e := 3) (ad2 := ad2) (cap2 := cap2) (e2 := 22) (rows2 := [[Tr.raw (.slice ad (a + 1) cap)]]) rfl (List.Perm.refl _) (by omega) rfl) (Ent.mk goSub goTk)⟩ ?_
 clear h0 hkl hrl hdone hg hk hk0
 rintro ⟨k, ad2, cap2, rows2, L⟩ ⟨hk, hr2, hL2⟩
 simp only at hk hr2 hL2 ⊢
 have hLk : L = k + 1 := by rw [hL2, hr2]; simp
 have hr2l : rows2.length = L := hL2.symm
 by_cases hkl : k < l.length
 ·obtain ⟨_, hv1, hv2, hc1, _⟩ := tube_at ho hkl
  have hrow := tube_row ho hkl
  have ht0 : rows2[((k : Nat) : Int).toNat]? = some [Tr.ints (gl (payK nevR l k) (a + 1))] := by rw [hr2]; exact tabRows_get (Nat.le_refl _)
  have hl0 := glR_len (payK nevR l k) (a + 1)
  repeat' (first | refine goH ?_ | refine goV ?_ | refine goB (fun b => ?_) | refine goC (fun ad cap => ?_) | refine goG ?_ | (refine Ops.k_guard ?_; first | (refine Ops.guard_dec rfl rfl ?_ ?_ <;> intro hc <;> try omega) | refine Ops.guard_split rfl rfl ?_ ?_ <;> intro hc) | refine goI ?_ | (refine Cw.k_cond ?_; first | (refine Cw.cond_dec rfl ?_ ?_ <;> intro hc <;> try omega) | refine Cw.cond_bool rfl ?_ ?_ <;> intro hc) | refine goR ?_ | refine goP ?_ | apply PSeq.cons | apply PSeq.yes rfl rfl rfl | exact goW | fail)
  rw [show ((a : Int) + 1).toNat = a + 1 by omega, glR_rep']
  refine Cw.loop (ι := Nat × List (List Tr)) (fun s => s.1 ≤ a + 1 ∧ ∃ g, s.2 = intRows (gl g (a + 1)) ∧ ∀ y, y < s.1 → g y = payK nevR l (k + 1) y)
   (fun s => [(0, .tubes l), (1, .int a), (6, Tr.raw (.slice ad2 L cap2)), (8, .int k), (9, .ptr b), (10, Tr.raw (.slice ad (a + 1) cap)), (31, .tubes l), (32, .int (l.map Tube.row).length), (33, .int k), (42, .int ((a + 1 : Nat) : Int)), (43, .int s.1)])
   (fun s => [Chunk.own ad cap 1 3 s.2, Chunk.own ad2 cap2 1 22 rows2, Chunk.box b 65 [Tr.int (tv l k), Tr.int (tc l k), Tr.int (tAt l k).most]]) (fun s => a + 1 - s.1) ⟨(0, intRows (gl (fun _ => 0) (a + 1))), ⟨by simp only; omega, (fun _ => 0), rfl, fun y h => absurd h (by simp only; omega)⟩, (Ent.mk goSub goTk)⟩ ?_
  rintro ⟨x, rows3⟩ ⟨hx, g3, hg3, hd3⟩
  simp only at hx hg3 hd3 ⊢
  have hr3l : rows3.length = a + 1 := by rw [hg3]; simp
  by_cases hxa : x < a + 1
  ·have hrx : rows3[((x : Nat) : Int).toNat]? = some [Tr.int (g3 x)] := by rw [hg3]; exact glR_get hxa
   repeat' (first | refine goH ?_ | refine goV ?_ | refine goB (fun b => ?_) | refine goC (fun ad cap => ?_) | refine goG ?_ | (refine Ops.k_guard ?_; first | (refine Ops.guard_dec rfl rfl ?_ ?_ <;> intro hc <;> try omega) | refine Ops.guard_split rfl rfl ?_ ?_ <;> intro hc) | refine goI ?_ | (refine Cw.k_cond ?_; first | (refine Cw.cond_dec rfl ?_ ?_ <;> intro hc <;> try omega) | refine Cw.cond_bool rfl ?_ ?_ <;> intro hc) | refine goR ?_ | refine goP ?_ | apply PSeq.cons | apply PSeq.yes rfl rfl rfl | exact goW | fail)
   refine Cw.loop (ι := Nat × List (List Tr)) (fun s => s.1 ≤ mostOf l k x + 1 ∧ ∃ g, s.2 = intRows (gl g (a + 1)) ∧ g x = accR (fun n => (n : Int) + payK nevR l k (x - n * tv l k)) s.1 ∧ ∀ y, y < x → g y = payK nevR l (k + 1) y)
    (fun s => [(0, .tubes l), (1, .int a), (6, Tr.raw (.slice ad2 L cap2)), (8, .int k), (9, .ptr b), (10, Tr.raw (.slice ad (a + 1) cap)), (11, .int x), (12, .int s.1), (31, .tubes l), (32, .int (l.map Tube.row).length), (33, .int k), (42, .int ((a + 1 : Nat) : Int)), (43, .int x)])
    (fun s => [Chunk.own ad cap 1 3 s.2, Chunk.own ad2 cap2 1 22 rows2, Chunk.box b 65 [Tr.int (tv l k), Tr.int (tc l k), Tr.int (tAt l k).most]]) (fun s => mostOf l k x + 1 - s.1) ⟨(0, _), ⟨by simp only; omega, (fun i => if i = x then nevR else g3 i), ?_, ?_, ?_⟩, (Ent.mk goSub goTk)⟩ ?_
   ·simp only
    rw [hg3]
    exact glR_set
   ·simp only
    rw [if_pos trivial]
    rfl
   ·intro y hy
    simp only
    rw [if_neg (by omega)]
    exact hd3 y hy
   clear hrx hr3l hd3 hg3
   rintro ⟨n, rows4⟩ ⟨hn, g4, hg4, hacc, hd4⟩
   simp only at hn hg4 hacc hd4 ⊢
   have hr4l : rows4.length = a + 1 := by rw [hg4]; simp
   have hrx : rows4[((x : Nat) : Int).toNat]? = some [Tr.int (g4 x)] := by rw [hg4]; exact glR_get hxa
   have hmc : mostOf l k x ≤ tc l k := by unfold mostOf; omega
   have hm := mul_bd (a := (n : Int)) (b := (tv l k : Int)) (A := 1001) (B := 10000) (by omega) (by omega)
   have hm2 : -9223372036854775808 ≤ (n : Int) * (tv l k : Int) ∧ (n : Int) * (tv l k : Int) ≤ 9223372036854775807 := by omega
   have hme : (n : Int) * (tv l k : Int) = ((n * tv l k : Nat) : Int) := (Int.natCast_mul n (tv l k)).symm
   have hdiv : n ≤ x / tv l k ↔ n * tv l k ≤ x := Nat.le_div_iff_mul_le (by omega)
   have hiff : n ≤ mostOf l k x ↔ (n ≤ tc l k ∧ n * tv l k ≤ x) := by unfold mostOf; omega
   have hab := accR_bd (fun n => (n : Int) + payK nevR l k (x - n * tv l k)) (fun n => by have := payKR_bd l k (x - n * tv l k); omega) n
   rw [← hacc] at hab
   unfold nevR at hab
   by_cases hc : n ≤ mostOf l k x
   ·obtain ⟨c1, c2⟩ := hiff.1 hc
    obtain ⟨m1, _, m3⟩ := mul_side c2 (by omega)
    have hb0 := payKR_bd l k (x - n * tv l k)
    have hg0 : (intRows (gl (payK nevR l k) (a + 1)))[((x : Int) - (n : Int) * (tv l k : Int)).toNat]? = some [Tr.int (payK nevR l k (x - n * tv l k))] := by
     rw [m3]
     exact glR_get (by omega)
    repeat' (first | refine goH ?_ | refine goV ?_ | refine goB (fun b => ?_) | refine goC (fun ad cap => ?_) | refine goG ?_ | (refine Ops.k_guard ?_; first | (refine Ops.guard_dec rfl rfl ?_ ?_ <;> intro hc <;> try omega) | refine Ops.guard_split rfl rfl ?_ ?_ <;> intro hc) | refine goI ?_ | (refine Cw.k_cond ?_; first | (refine Cw.cond_dec rfl ?_ ?_ <;> intro hc <;> try omega) | refine Cw.cond_bool rfl ?_ ?_ <;> intro hc) | refine goR ?_ | refine goP ?_ | apply PSeq.cons | apply PSeq.yes rfl rfl rfl | exact goW | fail)
    refine ⟨(n + 1, _), ⟨by simp only; omega, (fun i => if i = x then min (g4 x) ((n : Int) + payK nevR l k (x - n * tv l k)) else g4 i), ?_, ?_, ?_⟩, by simp only; omega, (Ent.mk goSub goTk)⟩
    ·simp only
     rw [hg4]
     exact glR_set
    ·simp only
     rw [if_pos trivial, hacc]
     exact accR_next (fun n => (n : Int) + payK nevR l k (x - n * tv l k)) n
    ·intro y hy
     simp only
     rw [if_neg (by omega)]
     exact hd4 y hy
   ·have hne : n = mostOf l k x + 1 := by omega
    have hfin : g4 x = payK nevR l (k + 1) x := by
     rw [hacc, hne, payK_nextT ho hkl]
     rfl
    have hno : ¬ (n ≤ tc l k ∧ n * tv l k ≤ x) := fun h => hc (hiff.2 h)
    by_cases c1 : n ≤ tc l k
    ·have c2 : ¬ (n : Int) * (tv l k : Int) ≤ x := by rw [hme]; intro h; exact hno ⟨c1, by omega⟩
     repeat' (first | refine goH ?_ | refine goV ?_ | refine goB (fun b => ?_) | refine goC (fun ad cap => ?_) | refine goG ?_ | (refine Ops.k_guard ?_; first | (refine Ops.guard_dec rfl rfl ?_ ?_ <;> intro hc <;> try omega) | refine Ops.guard_split rfl rfl ?_ ?_ <;> intro hc) | refine goI ?_ | (refine Cw.k_cond ?_; first | (refine Cw.cond_dec rfl ?_ ?_ <;> intro hc <;> try omega) | refine Cw.cond_bool rfl ?_ ?_ <;> intro hc) | refine goR ?_ | refine goP ?_ | apply PSeq.cons | apply PSeq.yes rfl rfl rfl | exact goW | fail)
     refine ⟨(x + 1, _), ⟨by simp only; omega, g4, hg4, fun y hy => ?_⟩, by simp only; omega, (Ent.mk goSub goTk)⟩
     simp only at hy
     by_cases e : y = x
     ·subst e; exact hfin
     ·exact hd4 y (by omega)
    ·repeat' (first | refine goH ?_ | refine goV ?_ | refine goB (fun b => ?_) | refine goC (fun ad cap => ?_) | refine goG ?_ | (refine Ops.k_guard ?_; first | (refine Ops.guard_dec rfl rfl ?_ ?_ <;> intro hc <;> try omega) | refine Ops.guard_split rfl rfl ?_ ?_ <;> intro hc) | refine goI ?_ | (refine Cw.k_cond ?_; first | (refine Cw.cond_dec rfl ?_ ?_ <;> intro hc <;> try omega) | refine Cw.cond_bool rfl ?_ ?_ <;> intro hc) | refine goR ?_ | refine goP ?_ | apply PSeq.cons | apply PSeq.yes rfl rfl rfl | exact goW | fail)
     refine ⟨(x + 1, _), ⟨by simp only; omega, g4, hg4, fun y hy => ?_⟩, by simp only; omega, (Ent.mk goSub goTk)⟩
     simp only at hy
     by_cases e : y = x
     ·subst e; exact hfin
     ·exact hd4 y (by omega)
  ·have hxe : x = a + 1 := by omega
   repeat' (first | refine goH ?_ | ((fail_if_success refine Ops.k_buildSlice ?_); refine goV ?_) | ((fail_if_success refine Ops.k_buildSlice ?_); refine goB (fun b => ?_)) | ((fail_if_success refine Ops.k_buildSlice ?_); refine goC (fun ad cap => ?_)) | refine goG ?_ | (refine Ops.k_guard ?_; first | (refine Ops.guard_dec rfl rfl ?_ ?_ <;> intro hc <;> try omega) | refine Ops.guard_split rfl rfl ?_ ?_ <;> intro hc) | refine goI ?_ | (refine Cw.k_cond ?_; first | (refine Cw.cond_dec rfl ?_ ?_ <;> intro hc <;> try omega) | refine Cw.cond_bool rfl ?_ ?_ <;> intro hc) | refine goR ?_ | refine goP ?_ | apply PSeq.cons | apply PSeq.yes rfl rfl rfl | exact goW | fail)
   refine Ops.ent (Ent.settle (s := 87) rfl goPk (by omega)) ?_
   repeat' (first | refine goH ?_ | refine goV ?_ | refine goB (fun b => ?_) | refine goC (fun ad cap => ?_) | refine goG ?_ | (refine Ops.k_guard ?_; first | (refine Ops.guard_dec rfl rfl ?_ ?_ <;> intro hc <;> try omega) | refine Ops.guard_split rfl rfl ?_ ?_ <;> intro hc) | refine goI ?_ | (refine Cw.k_cond ?_; first | (refine Cw.cond_dec rfl ?_ ?_ <;> intro hc <;> try omega) | refine Cw.cond_bool rfl ?_ ?_ <;> intro hc) | refine goR ?_ | refine goP ?_ | apply PSeq.cons | apply PSeq.yes rfl rfl rfl | exact goW | fail)
   refine ⟨(k + 1, _, _, _, _), ⟨by simp only; omega, ?_, ?_⟩, by simp only; omega, (Ent.mk goSub goTk)⟩
   ·simp only
    rw [tabRows_next, ← hr2]
    have : rows3 = intRows (gl (payK nevR l (k + 1)) (a + 1)) := by
     rw [hg3]
     exact congrArg intRows (gl_ext fun j hj => hd3 j (by omega))
    rw [this]
    all_goals rfl
   ·rfl
 have hke : k = l.length := by omega
 subst hke
 have htl : rows2[((l.map Tube.row).length : Int).toNat]? = some [Tr.ints (gl (payK nevR l l.length) (a + 1))] := by
  rw [hL, hr2]
  exact tabRows_get (Nat.le_refl _)
 have hla : (intRows (gl (payK nevR l l.length) (a + 1)))[((a : Nat) : Int).toNat]? = some [Tr.int (payK nevR l l.length a)] := glR_get (by omega)
 have hll := glR_len (payK nevR l l.length) (a + 1)
 have hrel := payK_relR ho (Nat.le_refl l.length) a
 by_cases hy : ¬ payK nev l l.length a < nev
 ·have hno : ¬ payK nevR l l.length a < 1099511627776 := by have e1 : nev = 1073741824 := rfl; have e2 : nevR = 1099511627776 := rfl; unfold PRel at hrel; omega
  clear hrel
  repeat' (first | refine goH ?_ | refine goV ?_ | refine goB (fun b => ?_) | refine goC (fun ad cap => ?_) | refine goG ?_ | (refine Ops.k_guard ?_; first | (refine Ops.guard_dec rfl rfl ?_ ?_ <;> intro hc <;> try omega) | refine Ops.guard_split rfl rfl ?_ ?_ <;> intro hc) | refine goI ?_ | (refine Cw.k_cond ?_; first | (refine Cw.cond_dec rfl ?_ ?_ <;> intro hc <;> try omega) | refine Cw.cond_bool rfl ?_ ?_ <;> intro hc) | refine goR ?_ | refine goP ?_ | apply PSeq.cons | apply PSeq.yes rfl rfl rfl | exact goW | fail)
  refine Fin.ret (Ent.take goTk) (Outs.two rfl rfl rfl) ?_
  rw [if_neg hy]
  exact ⟨rfl, rfl⟩
 replace hy : payK nev l l.length a < nev := Classical.not_not.1 hy
 have hyes : payK nevR l l.length a < 1099511627776 := by have e1 : nev = 1073741824 := rfl; have e2 : nevR = 1099511627776 := rfl; unfold PRel at hrel; omega
 clear hrel
 repeat' (first | refine goH ?_ | refine goV ?_ | refine goB (fun b => ?_) | refine goC (fun ad cap => ?_) | refine goG ?_ | (refine Ops.k_guard ?_; first | (refine Ops.guard_dec rfl rfl ?_ ?_ <;> intro hc <;> try omega) | refine Ops.guard_split rfl rfl ?_ ?_ <;> intro hc) | refine goI ?_ | (refine Cw.k_cond ?_; first | (refine Cw.cond_dec rfl ?_ ?_ <;> intro hc <;> try omega) | refine Cw.cond_bool rfl ?_ ?_ <;> intro hc) | refine goR ?_ | refine goP ?_ | apply PSeq.cons | apply PSeq.yes rfl rfl rfl | exact goW | fail)
 rw [show ((l.map Tube.row).length : Int).toNat = l.length by omega, glR_rep']
 clear htl hla hll hyes
 refine Cw.loop (ι := Nat × List (List Tr)) (fun s => s.1 ≤ l.length ∧ ∃ g, s.2 = intRows (gl g l.length) ∧ ∀ k, s.1 ≤ k → k < l.length → g k = chg (pk nevR l) l a k)
  (fun s => [(0, .tubes l), (1, .int (leftK (pk nevR l) l a s.1)), (6, Tr.raw (.slice ad2 L cap2)), (13, Tr.raw (.slice ad l.length cap)), (14, .int ((s.1 : Int) - 1))])
  (fun s => [Chunk.own ad cap 1 3 s.2, Chunk.own ad2 cap2 1 22 rows2]) (fun s => s.1) ⟨(l.length, intRows (gl (fun _ => 0) l.length)), ⟨Nat.le_refl _, _, rfl, fun k h1 h2 => absurd h2 (by simp only at h1; omega)⟩, ?_⟩ ?_
 ·simp only
  rw [leftK_top, ← hL]
  exact (Ent.mk goSub goTk)
 rintro ⟨i, rows⟩ ⟨hi, g, hg, hdone⟩
 simp only at hi hg hdone ⊢
 have hrl : rows.length = l.length := by rw [hg]; simp
 cases i with
 |zero =>
  repeat' (first | refine goH ?_ | refine goV ?_ | refine goB (fun b => ?_) | refine goC (fun ad cap => ?_) | refine goG ?_ | (refine Ops.k_guard ?_; first | (refine Ops.guard_dec rfl rfl ?_ ?_ <;> intro hc <;> try omega) | refine Ops.guard_split rfl rfl ?_ ?_ <;> intro hc) | refine goI ?_ | (refine Cw.k_cond ?_; first | (refine Cw.cond_dec rfl ?_ ?_ <;> intro hc <;> try omega) | refine Cw.cond_bool rfl ?_ ?_ <;> intro hc) | refine goR ?_ | refine goP ?_ | apply PSeq.cons | apply PSeq.yes rfl rfl rfl | exact goW | fail)
  refine Fin.ret (Ent.take (Take.cons goPk Take.nil)) (Outs.two rfl rfl rfl) ?_
  rw [if_pos hy]
  refine ⟨_, _, rfl, ?_⟩
  rw [hg, gl_ext (f := g) (g := chg (pk nevR l) l a) fun j hj => hdone j (Nat.zero_le _) hj]
 |succ j =>
  obtain ⟨x, hx⟩ : ∃ x, x = leftK (pk nevR l) l a (j + 1) := ⟨_, rfl⟩
  have hxa : x ≤ a := by rw [hx]; exact leftK_le _ _ _ _
  have hcan : payK nev l (j + 1) x < nev := by
   rw [hx]
   unfold leftK
   rw [left_same ho hy _ (by omega)]
   exact leftK_can' ho hy (by omega)
  obtain ⟨_, hv1, hv2, hc1, _⟩ := tube_at ho (k := j) (by omega)
  have hok := pk_okR ho (k := j) (x := x) (by omega) hcan
  have hstep := leftK_step (pk nevR l) l a j (by omega)
  rw [← hx] at hstep
  have hchg : chg (pk nevR l) l a j = (pk nevR l j x : Nat) := by unfold chg; rw [← hx]
  have hrow := tube_row ho (k := j) (by omega)
  have hmi := most_int l j x
  rw [← hx, show ((j + 1 : Nat) : Int) - 1 = (j : Int) by omega]
  have hdiv : (0 : Int) ≤ (x : Int) / (tv l j : Int) := Int.ediv_nonneg (by omega) (by omega)
  repeat' (first | refine goH ?_ | refine goV ?_ | refine goB (fun b => ?_) | refine goC (fun ad cap => ?_) | refine goG ?_ | (refine Ops.k_guard ?_; first | (refine Ops.guard_dec rfl rfl ?_ ?_ <;> intro hc <;> try omega) | refine Ops.guard_split rfl rfl ?_ ?_ <;> intro hc) | refine goI ?_ | (refine Cw.k_cond ?_; first | (refine Cw.cond_dec rfl ?_ ?_ <;> intro hc <;> try omega) | refine Cw.cond_bool rfl ?_ ?_ <;> intro hc) | refine goR ?_ | refine goP ?_ | apply PSeq.cons | apply PSeq.yes rfl rfl rfl | exact goW | fail)
  rw [hmi]
  refine Cw.loop (ι := Nat) (fun n => n ≤ mostOf l j x ∧ lastOk (okB nevR l j x) n = pk nevR l j x)
   (fun n => [(0, .tubes l), (1, .int x), (6, Tr.raw (.slice ad2 L cap2)), (13, Tr.raw (.slice ad l.length cap)), (14, .int j), (15, .ptr b), (16, .int n)])
   (fun _ => [Chunk.own ad cap 1 3 rows, Chunk.own ad2 cap2 1 22 rows2, Chunk.box b 65 [Tr.int (tv l j), Tr.int (tc l j), Tr.int (tAt l j).most]]) (fun n => n) ⟨mostOf l j x, ⟨Nat.le_refl _, rfl⟩, (Ent.mk goSub goTk)⟩ ?_
  rintro n ⟨hn, hlast⟩
  have hnx := most_le hv1 hn
  obtain ⟨m1, m2, m3⟩ := mul_side hnx (by omega)
  have hnc : n ≤ 1000 := by unfold mostOf at hn; omega
  have hb0 := payKR_bd l j (x - n * tv l j)
  have hb1 := payKR_bd l (j + 1) x
  have ht0 : rows2[((j : Nat) : Int).toNat]? = some [Tr.ints (gl (payK nevR l j) (a + 1))] := by rw [hr2]; exact tabRows_get (by omega)
  have ht1 : rows2[((j : Int) + 1).toNat]? = some [Tr.ints (gl (payK nevR l (j + 1)) (a + 1))] := by rw [hr2]; exact tabRows_get (j := j + 1) (by omega)
  have hg0 : (intRows (gl (payK nevR l j) (a + 1)))[((x : Int) - (n : Int) * (tv l j : Int)).toNat]? = some [Tr.int (payK nevR l j (x - n * tv l j))] := by
   rw [m3]
   exact glR_get (by omega)
  have hg1 : (intRows (gl (payK nevR l (j + 1)) (a + 1)))[((x : Nat) : Int).toNat]? = some [Tr.int (payK nevR l (j + 1) x)] := glR_get (by omega)
  have hl0 := glR_len (payK nevR l j) (a + 1)
  have hl1 := glR_len (payK nevR l (j + 1)) (a + 1)
  by_cases hkn : payK nevR l j (x - n * tv l j) + n = payK nevR l (j + 1) x
  ·have hpk : pk nevR l j x = n := by
    rw [← hlast]
    exact lastOk_yes (decide_eq_true hkn)
   have hrj : rows[((j : Nat) : Int).toNat]? = some [Tr.int (g j)] := by rw [hg]; exact glR_get (by omega)
   repeat' (first | refine goH ?_ | refine goV ?_ | refine goB (fun b => ?_) | refine goC (fun ad cap => ?_) | refine goG ?_ | (refine Ops.k_guard ?_; first | (refine Ops.guard_dec rfl rfl ?_ ?_ <;> intro hc <;> try omega) | refine Ops.guard_split rfl rfl ?_ ?_ <;> intro hc) | refine goI ?_ | (refine Cw.k_cond ?_; first | (refine Cw.cond_dec rfl ?_ ?_ <;> intro hc <;> try omega) | refine Cw.cond_bool rfl ?_ ?_ <;> intro hc) | refine goR ?_ | refine goP ?_ | apply PSeq.cons | apply PSeq.yes rfl rfl rfl | exact goW | fail)
   rw [m3, show x - n * tv l j = leftK (pk nevR l) l a j by rw [hstep, hpk]]
   refine ⟨(j, _), ?_, ?_, (Ent.mk goSub goTk)⟩
   ·refine ⟨by simp only; omega, (fun i => if i = j then (n : Int) else g i), ?_, ?_⟩
    ·simp only
     rw [hg]
     exact glR_set
    ·intro k h1 h2
     simp only at h1 ⊢
     by_cases e : k = j
     ·subst e; rw [if_pos rfl, hchg, hpk]
     ·rw [if_neg e]; exact hdone k (by omega) h2
   ·simp only; omega
  ·have hn0 : n ≠ 0 := fun e => by
    subst e
    have h0 : pk nevR l j x = 0 := by rw [← hlast]; rfl
    rw [h0] at hok
    exact hkn (of_decide_eq_true hok)
   obtain ⟨m, rfl⟩ : ∃ m, n = m + 1 := ⟨n - 1, by omega⟩
   repeat' (first | refine goH ?_ | refine goV ?_ | refine goB (fun b => ?_) | refine goC (fun ad cap => ?_) | refine goG ?_ | (refine Ops.k_guard ?_; first | (refine Ops.guard_dec rfl rfl ?_ ?_ <;> intro hc <;> try omega) | refine Ops.guard_split rfl rfl ?_ ?_ <;> intro hc) | refine goI ?_ | (refine Cw.k_cond ?_; first | (refine Cw.cond_dec rfl ?_ ?_ <;> intro hc <;> try omega) | refine Cw.cond_bool rfl ?_ ?_ <;> intro hc) | refine goR ?_ | refine goP ?_ | apply PSeq.cons | apply PSeq.yes rfl rfl rfl | exact goW | fail)
   refine ⟨m, ⟨by omega, ?_⟩, by omega, ?_⟩
   ·rw [← hlast]
    exact (lastOk_no (decide_eq_false hkn)).symm
   ·rw [show ((m + 1 : Nat) : Int) - 1 = (m : Int) by omega]
    exact (Ent.mk goSub goTk)
end Lg
end
section
set_option linter.all false
set_option maxRecDepth 100000
set_option maxHeartbeats 8000000
namespace Lg
open Go Go.Proofs

/-! ### machines: the coins of the escrow go into the tubes (the program's side) -/
/-- a copy of its own -/
theorem clone_tube (rows : List (List Tr)) (hk : ∀ r ∈ rows, r.length = 3) (hl : rows.length ≤ 1000000) : PFnO Tryd.prog 41 [.sl 3 rows] 3 65 (· = rows) := by
 unfold PFnO
 refine Spec.body Tryd.func41 rfl rfl (Tryd.ntmps41) rfl fun w0 own0 M => ?_
 repeat' (first | refine goH ?_ | ((fail_if_success refine Ops.k_b_eql ?_); (fail_if_success refine Ops.k_buildSlice ?_); refine goV ?_) | ((fail_if_success refine Ops.k_b_eql ?_); (fail_if_success refine Ops.k_buildSlice ?_); refine goB (fun b => ?_)) | ((fail_if_success refine Ops.k_b_eql ?_); (fail_if_success refine Ops.k_buildSlice ?_); refine goC (fun ad cap => ?_)) | refine goG ?_ | (refine Ops.k_guard ?_; first | (refine Ops.guard_dec rfl rfl ?_ ?_ <;> intro hc <;> try omega) | refine Ops.guard_split rfl rfl ?_ ?_ <;> intro hc) | refine goI ?_ | (refine Cw.k_cond ?_; first | (refine Cw.cond_dec rfl ?_ ?_ <;> intro hc <;> try omega) | refine Cw.cond_bool rfl ?_ ?_ <;> intro hc) | refine goR ?_ | refine goP ?_ | apply PSeq.cons | apply PSeq.yes rfl rfl rfl | exact goW | fail)
 refine Ops.eql_nilS rfl rfl (fun b hb => ?_)
 cases b
 ·repeat' (first | refine goH ?_ | ((fail_if_success refine Ops.k_buildSlice ?_); refine goV ?_) | ((fail_if_success refine Ops.k_buildSlice ?_); refine goB (fun b => ?_)) | ((fail_if_success refine Ops.k_buildSlice ?_); refine goC (fun ad cap => ?_)) | refine goG ?_ | (refine Ops.k_guard ?_; first | (refine Ops.guard_dec rfl rfl ?_ ?_ <;> intro hc <;> try omega) | refine Ops.guard_split rfl rfl ?_ ?_ <;> intro hc) | refine goI ?_ | (refine Cw.k_cond ?_; first | (refine Cw.cond_dec rfl ?_ ?_ <;> intro hc <;> try omega) | refine Cw.cond_bool rfl ?_ ?_ <;> intro hc) | refine goR ?_ | refine goP ?_ | apply PSeq.cons | apply PSeq.yes rfl rfl rfl | exact goW | fail)
  refine Ops.buildSlice_own (by exact Parts.nil) rfl rfl rfl (fun ad cap => ?_)
  repeat' (first | refine goH ?_ | refine goV ?_ | refine goB (fun b => ?_) | refine goC (fun ad cap => ?_) | refine goG ?_ | (refine Ops.k_guard ?_; first | (refine Ops.guard_dec rfl rfl ?_ ?_ <;> intro hc <;> try omega) | refine Ops.guard_split rfl rfl ?_ ?_ <;> intro hc) | refine goI ?_ | (refine Cw.k_cond ?_; first | (refine Cw.cond_dec rfl ?_ ?_ <;> intro hc <;> try omega) | refine Cw.cond_bool rfl ?_ ?_ <;> intro hc) | refine goR ?_ | refine goP ?_ | apply PSeq.cons | apply PSeq.yes rfl rfl rfl | exact goW | fail)
  exact Fin.ret (Ent.take goTk) (Outs.one rfl rfl) ⟨_, _, _, rfl, rfl, rfl⟩
 ·have hr := hb rfl
  subst hr
  repeat' (first | refine goH ?_ | refine goV ?_ | refine goB (fun b => ?_) | refine goC (fun ad cap => ?_) | refine goG ?_ | (refine Ops.k_guard ?_; first | (refine Ops.guard_dec rfl rfl ?_ ?_ <;> intro hc <;> try omega) | refine Ops.guard_split rfl rfl ?_ ?_ <;> intro hc) | refine goI ?_ | (refine Cw.k_cond ?_; first | (refine Cw.cond_dec rfl ?_ ?_ <;> intro hc <;> try omega) | refine Cw.cond_bool rfl ?_ ?_ <;> intro hc) | refine goR ?_ | refine goP ?_ | apply PSeq.cons | apply PSeq.yes rfl rfl rfl | exact goW | fail)
  exact Fin.ret (Ent.trans (Ent.nil 3 65) (Ent.take goTk)) (Outs.one rfl rfl) ⟨none, 0, [], rfl, rfl, rfl⟩

def stl1 (d : Tube) (a : Int) : Tube := { d with cnt := d.cnt + min a (d.most - d.cnt) }
def stlO (d : Tube) (a : Int) : Int := (a - min a (d.most - d.cnt)) * d.val
def stlT (T : List Tube) (A : List Int) : List Tube := T.zipWith stl1 A
def stlR (T : List Tube) (A : List Int) : Int := sumF id (T.zipWith stlO A)
theorem stlT_len (T : List Tube) (A : List Int) (h : A.length = T.length) : (stlT T A).length = T.length := by unfold stlT; rw [List.length_zipWith, h]; omega
theorem stlT_snoc {T : List Tube} {A : List Int} {k : Nat} {d : Tube} {a : Int} (hd : T[k]? = some d) (ha : A[k]? = some a) : stlT (T.take (k + 1)) (A.take (k + 1)) = stlT (T.take k) (A.take k) ++ [stl1 d a] := by
 have h1 := (List.getElem?_eq_some_iff.1 hd).1
 have h2 := (List.getElem?_eq_some_iff.1 ha).1
 unfold stlT
 rw [take_at hd, take_at ha, List.zipWith_append (by rw [List.length_take, List.length_take]; omega)]
 rfl
theorem stlR_snoc {T : List Tube} {A : List Int} {k : Nat} {d : Tube} {a : Int} (hd : T[k]? = some d) (ha : A[k]? = some a) : stlR (T.take (k + 1)) (A.take (k + 1)) = stlR (T.take k) (A.take k) + stlO d a := by
 have h1 := (List.getElem?_eq_some_iff.1 hd).1
 have h2 := (List.getElem?_eq_some_iff.1 ha).1
 unfold stlR
 rw [take_at hd, take_at ha, List.zipWith_append (by rw [List.length_take, List.length_take]; omega), sumF_app]
 simp [sumF]
/-- the first k tubes have their coins -/
def stlW (T : List Tube) (A : List Int) (k : Nat) : List Tube := stlT (T.take k) (A.take k) ++ T.drop k
theorem stlW_zero (T : List Tube) (A : List Int) : stlW T A 0 = T := by unfold stlW stlT; simp
theorem stlW_end (T : List Tube) (A : List Int) (h : A.length = T.length) : stlW T A T.length = stlT T A := by unfold stlW; rw [List.take_length, List.drop_length, List.append_nil, ← h, List.take_length]
theorem stlW_at {T : List Tube} {A : List Int} {k : Nat} {d : Tube} {a : Int} (hd : T[k]? = some d) (ha : A[k]? = some a) : (stlW T A k)[k]? = some d ∧ (stlW T A k).set k (stl1 d a) = stlW T A (k + 1) := by
 have h1 := (List.getElem?_eq_some_iff.1 hd).1
 have h2 := (List.getElem?_eq_some_iff.1 ha).1
 have hl : (stlT (T.take k) (A.take k)).length = k := by rw [stlT_len _ _ (by rw [List.length_take, List.length_take]; omega), List.length_take]; omega
 unfold stlW
 rw [stlT_snoc hd ha, drop_at hd]
 constructor
 ·rw [List.getElem?_append_right (by omega), hl, Nat.sub_self]
  rfl
 ·rw [List.set_append_right _ _ (by omega), hl, Nat.sub_self, List.append_assoc]
  rfl
theorem stlW_len {T : List Tube} {A : List Int} {k : Nat} (h : A.length = T.length) (hk : k ≤ T.length) : (stlW T A k).length = T.length := by
 unfold stlW
 rw [List.length_append, stlT_len _ _ (by rw [List.length_take, List.length_take]; omega), List.length_take, List.length_drop]
 omega
attribute [local irreducible] intRows
theorem settled_fn (T : List Tube) (A : List Int) (hl : T.length ≤ 10) (hA : A.length = T.length) (hT : ∀ d ∈ T, 1 ≤ d.val ∧ d.val ≤ 10000 ∧ 0 ≤ d.cnt ∧ d.cnt ≤ d.most ∧ d.most ≤ 1000) (hAb : ∀ a ∈ A, 0 ≤ a ∧ a ≤ 20000) :
  Spec Tryd.prog 71 [.tubes T, .ints A] [] (fun y cs => ∃ (ad : Option Addr) (cap : Nat), y = .tup [Tr.raw (.slice ad T.length cap), .int (stlR T A)] ∧ cs = [ownT ad cap (stlT T A)]) := by
 have kCl := clone_tube (T.map Tube.row) (by intro r hr; obtain ⟨d, _, rfl⟩ := List.mem_map.1 hr; rfl) (by rw [List.length_map]; omega)
 have hTr : (T.map Tube.row).length = T.length := List.length_map _
 refine Spec.body Tryd.func71 rfl rfl (Tryd.ntmps71) rfl fun w0 own0 M => ?_
 repeat' (first | refine goH ?_ | refine goV ?_ | refine goB (fun b => ?_) | refine goC (fun ad cap => ?_) | refine goG ?_ | (refine Ops.k_guard ?_; first | (refine Ops.guard_dec rfl rfl ?_ ?_ <;> intro hc <;> try omega) | refine Ops.guard_split rfl rfl ?_ ?_ <;> intro hc) | refine goI ?_ | (refine Cw.k_cond ?_; first | (refine Cw.cond_dec rfl ?_ ?_ <;> intro hc <;> try omega) | refine Cw.cond_bool rfl ?_ ?_ <;> intro hc) | (refine Ops.k_calla ?_; first | (refine Ops.k_callf 41 ?_; (refine Ops.callO kCl (Evs.cons rfl Evs.nil) rfl ?_; rintro ad cap rows rfl))) | refine goR ?_ | refine goP ?_ | apply PSeq.cons | apply PSeq.yes rfl rfl rfl | exact goW | fail)
 rw [hTr]
 refine Cw.loopI [(1, _), (6, _), (13, _)] _ (fun q e cc => ∃ (k : Nat) (s : Int) (W : List Tube), q = T.length - k ∧ (k ≤ T.length ∧ W = stlW T A k ∧ s = stlR (T.take k) (A.take k) ∧ 0 ≤ s ∧ s ≤ 200000000 * (k : Int)) ∧ e = [(7, .int s), (14, .int k)] ∧ cc = [ownT ad cap W])
  ⟨_, _, _, (Ent.mkP goSub goPm), 0, 0, T, rfl, ⟨by omega, (stlW_zero T A).symm, rfl, by omega, by omega⟩, rfl, rfl⟩ ?_
 rintro _ _ _ ⟨k, s, W, rfl, ⟨hk, hW, hs, hs1, hs2⟩, rfl, rfl⟩
 have hWl : W.length = T.length := by rw [hW]; exact stlW_len hA hk
 have hWr : (W.map Tube.row).length = T.length := by rw [List.length_map, hWl]
 by_cases hkl : k < T.length
 ·obtain ⟨d, hd⟩ := at_lt hkl
  obtain ⟨a, ha⟩ := at_lt (l := A) (k := k) (by omega)
  obtain ⟨hw1, hw2⟩ := stlW_at hd ha
  rw [← hW] at hw1 hw2
  have hTd := hT d (List.mem_of_getElem? hd)
  have hAa := hAb a (List.mem_of_getElem? ha)
  have hrow : (W.map Tube.row)[((k : Nat) : Int).toNat]? = some [.int d.val, .int d.cnt, .int d.most] := by rw [Int.toNat_natCast]; exact rows_at hw1
  have hrowA : (intRows A)[((k : Nat) : Int).toNat]? = some [.int a] := by rw [Int.toNat_natCast]; exact intRows_at ha
  have hAl : (intRows A).length = T.length := by rw [intRows_len, hA]
  have hsn := stlR_snoc hd ha
  rw [← hs] at hsn
  unfold stlO at hsn
  have hset : (W.map Tube.row).set k [.int d.val, .int (d.cnt + min a (d.most - d.cnt)), .int d.most] = (stlW T A (k + 1)).map Tube.row := by rw [← hw2, List.map_set]; rfl
  have hrow2 : ((stlW T A (k + 1)).map Tube.row)[((k : Nat) : Int).toNat]? = some [.int d.val, .int (d.cnt + min a (d.most - d.cnt)), .int d.most] := by
   rw [Int.toNat_natCast, ← hset, List.getElem?_set_self (by rw [hWr]; exact hkl)]
  have hmn : 0 ≤ min a (d.most - d.cnt) ∧ min a (d.most - d.cnt) ≤ a ∧ d.cnt + min a (d.most - d.cnt) ≤ d.most := by omega
  have hpr := mul_bd (a := a - min a (d.most - d.cnt)) (b := d.val) (A := 20000) (B := 10000) (by omega) (by omega)
  have hW2l : ((stlW T A (k + 1)).map Tube.row).length = T.length := by rw [List.length_map]; exact stlW_len hA (by omega)
  have e1 : (W.map Tube.row).set ((k : Nat) : Int).toNat ([Tr.int d.val, Tr.int d.cnt, Tr.int d.most].set (0 + 1) (Tr.int (d.cnt + min a (d.most - d.cnt)))) = (stlW T A (k + 1)).map Tube.row := by rw [Int.toNat_natCast]; exact hset
  clear hT hAb hw1 hw2 hd ha hW hs hset
  repeat' (first | refine goH ?_ | (refine Ops.k_store ?_; first | (refine Ops.store_own1 rfl rfl goPk (by first | rfl | assumption | (simp [*]; done)) (by decide) ?_; rw [e1])) | refine goV ?_ | refine goB (fun b => ?_) | refine goC (fun ad cap => ?_) | refine goG ?_ | (refine Ops.k_guard ?_; first | (refine Ops.guard_dec rfl rfl ?_ ?_ <;> intro hc <;> try omega) | refine Ops.guard_split rfl rfl ?_ ?_ <;> intro hc) | refine goI ?_ | (refine Cw.k_cond ?_; first | (refine Cw.cond_dec rfl ?_ ?_ <;> intro hc <;> try omega) | refine Cw.cond_bool rfl ?_ ?_ <;> intro hc) | refine goR ?_ | refine goP ?_ | apply PSeq.cons | apply PSeq.yes rfl rfl rfl | exact goW | fail)
  have hsn2 : stlR (T.take (k + 1)) (A.take (k + 1)) = s + (a - min a (d.most - d.cnt)) * d.val := hsn
  clear hsn hrow hrow2 hrowA e1
  generalize (a - min a (d.most - d.cnt)) * d.val = pr at *
  exact ⟨_, _, _, (Ent.mk goSub goTk), ⟨k + 1, _, _, rfl, ⟨by omega, rfl, hsn2.symm, by omega, by omega⟩, rfl, rfl⟩, by omega⟩
 ·have hke : k = T.length := by omega
  subst hke
  rw [stlW_end T A hA] at hW
  rw [List.take_length, ← hA, List.take_length] at hs
  subst hW
  rw [← hs]
  repeat' (first | refine goH ?_ | refine goV ?_ | refine goB (fun b => ?_) | refine goC (fun ad cap => ?_) | refine goG ?_ | (refine Ops.k_guard ?_; first | (refine Ops.guard_dec rfl rfl ?_ ?_ <;> intro hc <;> try omega) | refine Ops.guard_split rfl rfl ?_ ?_ <;> intro hc) | refine goI ?_ | (refine Cw.k_cond ?_; first | (refine Cw.cond_dec rfl ?_ ?_ <;> intro hc <;> try omega) | refine Cw.cond_bool rfl ?_ ?_ <;> intro hc) | refine goR ?_ | refine goP ?_ | apply PSeq.cons | apply PSeq.yes rfl rfl rfl | exact goW | fail)
  exact Fin.ret (Ent.take (Take.cons goPk Take.nil)) (Outs.two rfl rfl rfl) ⟨_, _, rfl, rfl⟩
end Lg
end
