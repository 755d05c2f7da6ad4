/- A part of the proof of a law of this seat: it adds no condition. By an AI agent. -/
import Derived.Test.YthgcdnfhfejijaaGreatDoorOrdP
section
set_option linter.all false
set_option maxRecDepth 100000
set_option maxHeartbeats 4000000
namespace Lg
open Go Go.Proofs

def strRows (l : List ByteArray) : List (List Tr) := l.map fun x => [Tr.str x]
abbrev Tr.strs (l : List ByteArray) : Tr := Tr.sl 1 (strRows l)
theorem strRows_len (l : List ByteArray) : (strRows l).length = l.length := by simp [strRows]
theorem strRows_at {l : List ByteArray} {j : Nat} {x : ByteArray} (h : l[j]? = some x) : (strRows l)[j]? = some [Tr.str x] := rows_at h
theorem strRows_app (a b : List ByteArray) : strRows (a ++ b) = strRows a ++ strRows b := by simp [strRows]
theorem strRows_get {l : List ByteArray} {j : Nat} (h : j < l.length) : (strRows l)[j]? = some [Tr.str l[j]] := strRows_at (List.getElem?_eq_getElem h)
inductive IsStrs : List (List Tr) → List ByteArray → Prop
 |nil : IsStrs [] []
 |cons {rows : List (List Tr)} {l : List ByteArray} {x : ByteArray} (h : IsStrs rows l) : IsStrs ([Tr.str x] :: rows) (x :: l)
theorem IsStrs.eq {rows : List (List Tr)} {l : List ByteArray} (h : IsStrs rows l) : rows = strRows l := by
 induction h with
 |nil => rfl
 |cons h ih => rw [ih]; rfl
/-- one of some strings -/
theorem one_gen {rows : List (List Tr)} {l : List ByteArray} (hr : IsStrs rows l) (h : 0 < l.length ∧ l.length ≤ 100000) :
  Gen Tryz.prog 25 28 [.sl 1 rows] 1 (fun r => ∃ v, r = .str v ∧ v ∈ l) := by
 have h := hr.eq
 subst h
 unfold Gen
 intro b xs N hN
 refine Spec.body Tryz.func28 rfl rfl (Tryz.ntmps28) rfl fun w0 own0 M => ?_
 have hl := strRows_len l
 repeat' (first | refine goH ?_ | refine goV ?_ | refine goI ?_ | (refine Cw.k_cond ?_; first | (refine Cw.cond_dec rfl ?_ ?_ <;> intro hc <;> try omega) | refine Cw.cond_bool rfl ?_ ?_ <;> intro hc) | (refine Ops.k_calla ?_; first | (refine Ops.k_callf 5 ?_; (refine Ops.callG (next_gen _ (by omega)) (Evs.cons rfl (Evs.cons rfl Evs.nil)) goPk (by omega) rfl ?_; rintro r ⟨v, rfl, hv⟩; unfold InRange at hv; have hj : v.toNat < l.length := (by omega); have hj2 := strRows_get hj))) | fail)
 exact Fin.ret Ent.refl (Outs.one rfl rfl) ⟨rfl, _, rfl, List.getElem_mem hj⟩
end Lg
end
section
set_option linter.all false
set_option maxRecDepth 100000
set_option maxHeartbeats 4000000
namespace Lg
open Go Go.Proofs

theorem oneU_gen {rows : List (List Tr)} {l : List ByteArray} (hr : IsStrs rows l) (h : 0 < l.length ∧ l.length ≤ 100000) :
  Gen Tryz.prog 25 11 [.sl 1 rows] 1 (fun r => ∃ v, r = .str v ∧ v ∈ l) := by
 unfold Gen
 intro bs xs N hN
 refine Spec.body Tryz.func11 rfl rfl (Tryz.ntmps11) rfl fun w0 own0 M => ?_
 repeat' (first | refine goH ?_ | refine goV ?_ | refine goI ?_ | (refine Cw.k_cond ?_; first | (refine Cw.cond_dec rfl ?_ ?_ <;> intro hc <;> try omega) | refine Cw.cond_bool rfl ?_ ?_ <;> intro hc) | (refine Ops.k_calla ?_; first | (refine Ops.k_callf 28 ?_; (refine Ops.callG (one_gen hr h) (Evs.cons rfl (Evs.cons rfl Evs.nil)) goPk (by omega) rfl ?_; rintro r ⟨v, rfl, hv⟩))) | fail)
 refine Fin.ret (Ent.strm_only goPk (by omega)) (Outs.sole rfl goOe) ⟨rfl, v, rfl, hv⟩
end Lg
end
section
set_option linter.all false
set_option maxRecDepth 100000
set_option maxHeartbeats 8000000
namespace Lg
open Go Go.Proofs

/-! ### a note of the counters -/
abbrev ntRow (x : Int × Int × Int) : List Tr := [.int x.1, .sl 1 [[.int (x.2.1 % 10)], [.int (x.2.2 % 10)]]]
theorem tm10 {p : Int} (h : 0 ≤ p) : p.tmod 10 = p % 10 := Int.tmod_eq_emod_of_nonneg h
theorem note_fn {bm b5 b8 b9 b3 bs k n c cap : Nat} {p q t : Int} {ch : Chunk} {ad : Option Addr} {rows : List (List Tr)} {xs : List Int} (hM : MX bm k p q [] ch) (hk : k ≤ 1000) (hn : rows.length = n) (hn2 : n ≤ 1000) (ht : 0 ≤ t ∧ t ≤ 1000000) (hp : 0 ≤ p ∧ p ≤ 1000) (hq : 0 ≤ q ∧ q ≤ 1000) (hc : c ≤ 1000000) :
  Spec Tryz.prog 6 ([] ++ [Value.pointer (some ⟨b5, 0, none⟩), Value.pointer (some ⟨b8, 0, none⟩), Value.pointer (some ⟨b9, 0, none⟩), Value.pointer (some ⟨b3, 0, none⟩)].map Tr.raw) [Chunk.box b5 34 [.ptr bm], ch, Chunk.box b8 40 [Tr.raw (.slice ad n cap)], Chunk.own ad cap 2 49 rows, Chunk.box b9 3 [.int t], Chunk.box b3 23 [.ptr bs], Chunk.strm 25 bs (intRows xs) c]
   (fun r cs => ∃ (ch' : Chunk) (ad' : Option Addr) (cap' : Nat) (v : Int), MX bm k p q [] ch' ∧ (1 ≤ v ∧ v ≤ 900) ∧ r = .bool true ∧ cs = [Chunk.box b5 34 [.ptr bm], ch', Chunk.box b8 40 [Tr.raw (.slice ad' (n + 1) cap')], Chunk.own ad' cap' 2 49 (rows ++ [ntRow (t, p, q)]), Chunk.box b9 3 [.int (t + v)], Chunk.box b3 23 [.ptr bs], Chunk.strm 25 bs (intRows xs) (c + 1)]) := by
 obtain ⟨va, vb, i, o, x, r, T, hA⟩ := hM.audit hk
 have e1 := tm10 hp.1
 have e2 := tm10 hq.1
 refine Spec.body Tryz.func6 rfl rfl (Tryz.ntmps6) rfl fun w0 own0 M => ?_
 repeat' (first | refine goH ?_ | refine goV ?_ | refine goB (fun b => ?_) | refine goC (fun ad cap => ?_) | refine goI ?_ | (refine Cw.k_cond ?_; first | (refine Cw.cond_dec rfl ?_ ?_ <;> intro hc <;> try omega) | refine Cw.cond_bool rfl ?_ ?_ <;> intro hc) | (refine Ops.k_calla ?_; first | (refine Ops.call hA (Evs.cons rfl Evs.nil) goPm rfl ?_; rintro y cs' ⟨ch', hM', rfl, rfl⟩)) | fail)
 refine goR ?_
 repeat' (first | refine goH ?_ | refine goV ?_ | refine goB (fun b => ?_) | refine goC (fun ad cap => ?_) | refine goI ?_ | (refine Cw.k_cond ?_; first | (refine Cw.cond_dec rfl ?_ ?_ <;> intro hc <;> try omega) | refine Cw.cond_bool rfl ?_ ?_ <;> intro hc) | refine goP ?_ | apply PSeq.cons | apply PSeq.yes rfl rfl rfl | exact goW | fail)
 have hrl : (rows ++ [[Tr.int t, Tr.sl 1 [[Tr.int (p % 10)], [Tr.int (q % 10)]]]]).length = n + 1 := by rw [List.length_append, hn]; rfl
 rw [hrl]
 first | refine Cw.region_YP (fun ξ S => Chunk.strm 25 bs (intRows xs) (c + b2n (S 2)) :: Chunk.box b9 3 [stg (S 4) (.int t) (.int (t + vInt (ξ 2)))] :: Chunk.box b8 40 [Tr.raw (.slice ad (n + 1) cap)] :: Chunk.own ad cap 2 49 (rows ++ [[.int t, .sl 1 [[.int (p % 10)], [.int (q % 10)]]]]) :: Chunk.box b 44 [.sl 3 [[.str kyA, .int p, .int va], [.str kyB, .int q, .int vb]], .int i, .int o, .int 0, .int 0, .int x, .int r, .tubes T] :: Chunk.box b5 34 [.ptr bm] :: ch' :: Chunk.box b3 23 [.ptr bs] :: []) rfl (by decide +kernel) rfl ((fun (ξ : Nat → Value) (S : Nat → Bool) => Chunk.strm 25 bs (intRows xs) (c + b2n (S 2)) :: Chunk.box b9 3 [stg (S 4) (.int t) (.int (t + vInt (ξ 2)))] :: Chunk.box b8 40 [Tr.raw (.slice ad (n + 1) cap)] :: Chunk.own ad cap 2 49 (rows ++ [[.int t, .sl 1 [[.int (p % 10)], [.int (q % 10)]]]]) :: Chunk.box b 44 [.sl 3 [[.str kyA, .int p, .int va], [.str kyB, .int q, .int vb]], .int i, .int o, .int 0, .int 0, .int x, .int r, .tubes T] :: Chunk.box b5 34 [.ptr bm] :: ch' :: Chunk.box b3 23 [.ptr bs] :: []) (fun _ => undef) (fun _ => false)) (by simp only [upd_same, updD_same, upd_ne, updD_ne, ne_eq, Nat.reduceEqDiff, not_false_eq_true, stg_t, stg_f, vAd_s, vCap_s, blk_p, List.cons_append, List.nil_append, b2n_t, b2n_f]; exact goXm) (fun _ => rfl) ?_ | fail
 apply YSeq.w (by intro _ _ _; rfl)
 ·intro ξ S h1 h2 h3 h4
  have hN0_4 := closed_false h1 h3 (k := 4) rfl (by decide)
  try simp only [upd_same, updD_same, upd_ne, updD_ne, ne_eq, Nat.reduceEqDiff, not_false_eq_true, stg_t, stg_f, vAd_s, vCap_s, blk_p, List.cons_append, List.nil_append, b2n_t, b2n_f, hN0_4]
  exact goW
 ·intro ξ v; rfl
 ·intro ξ k v S h3 hn hk
  first
  |rfl
 apply YSeq.w (by intro _ _ _; rfl)
 ·intro ξ S h1 h2 h3 h4
  have hN1_2 := closed_false h1 h3 (k := 2) rfl (by decide)
  have hN1_4 := closed_false h1 h3 (k := 4) rfl (by decide)
  try simp only [upd_same, updD_same, upd_ne, updD_ne, ne_eq, Nat.reduceEqDiff, not_false_eq_true, stg_t, stg_f, vAd_s, vCap_s, blk_p, List.cons_append, List.nil_append, b2n_t, b2n_f, hN1_2, hN1_4]
  exact goW
 ·intro ξ v; rfl
 ·intro ξ k v S h3 hn hk
  first
  |rfl
 apply YSeq.callI (range_gen 1 900 (by omega)) (fun _ => (Evs.cons rfl (Evs.cons rfl (Evs.cons rfl Evs.nil))))
 ·intro ξ S h1 h3
  have hN2_4 := closed_false h1 h3 (k := 4) rfl (by decide)
  have hq2 := b2n_le (S 2)
  simp only [upd_same, updD_same, upd_ne, updD_ne, ne_eq, Nat.reduceEqDiff, not_false_eq_true, stg_t, stg_f, vAd_s, vCap_s, blk_p, List.cons_append, List.nil_append, b2n_t, b2n_f, h1, hN2_4]
  refine ⟨_, _, ?_, goXp, fun v => ?_⟩
  ·omega
  ·refine List.Perm.trans goXp (perm_strm ?_)
   omega
 apply YSeq.w (by intro _ _ _; rfl)
 ·intro ξ S h1 h2 h3 h4
  have hY3_2 : S 2 = true := h2 2 (by decide)
  have hN3_4 := closed_false h1 h3 (k := 4) rfl (by decide)
  have hR32 := pf_int (range_gen 1 900 (by omega)) (h4 2 hY3_2)
  try simp only [InRange] at hR32
  have hRn32 := hR32
  try simp only [Nat.zero_add, Nat.reduceAdd] at hRn32
  try simp only [upd_same, updD_same, upd_ne, updD_ne, ne_eq, Nat.reduceEqDiff, not_false_eq_true, stg_t, stg_f, vAd_s, vCap_s, blk_p, List.cons_append, List.nil_append, b2n_t, b2n_f, hY3_2, hN3_4]
  exact goW
 ·intro ξ v; rfl
 ·intro ξ k v S h3 hn hk
  first
  |rfl
  |skip
   have hY3_2 : S 2 = true := h3 3 _ rfl hn 2 (by decide)
   simp only [upd_S hY3_2 hk]
 apply YSeq.store
 ·intro ξ S h1 h2 h3 h4
  have hY4_2 : S 2 = true := h2 2 (by decide)
  have hR32 := pf_int (range_gen 1 900 (by omega)) (h4 2 hY4_2)
  try simp only [InRange] at hR32
  have hRn32 := hR32
  try simp only [Nat.zero_add, Nat.reduceAdd] at hRn32
  simp only [upd_same, updD_same, upd_ne, updD_ne, ne_eq, Nat.reduceEqDiff, not_false_eq_true, stg_t, stg_f, vAd_s, vCap_s, blk_p, List.cons_append, List.nil_append, b2n_t, b2n_f, hY4_2, h1]
  refine ⟨_, _, _, _, _, _, _, rfl, rfl, inferInstance, goXp, rfl, Nat.le_of_ble_eq_true rfl, ?_⟩
  exact goXm
 refine YSeq.nil fun ξ hf => ?_
 have hR32 := pf_int (range_gen 1 900 (by omega)) (hf 2)
 try simp only [InRange] at hR32
 refine ⟨[(0, _), (1, _), (2, _), (3, _)], _, Ent.trans (Ent.eqc rfl (by first | (simp only [upd_same, updD_same, upd_ne, updD_ne, ne_eq, Nat.reduceEqDiff, not_false_eq_true, stg_t, stg_f, vAd_s, vCap_s, blk_p, List.cons_append, List.nil_append, b2n_t, b2n_f, ownV, slV, ptV] <;> rfl) | rfl)) (Ent.sub goSub), ?_⟩
 clear hf
 generalize vInt (ξ 2) = x32 at hR32 ⊢
 repeat (first | refine InB.norm ?_ | refine Then.norm ?_)
 repeat' (first | refine goH ?_ | refine goV ?_ | refine goB (fun b => ?_) | refine goC (fun ad cap => ?_) | refine goI ?_ | (refine Cw.k_cond ?_; first | (refine Cw.cond_dec rfl ?_ ?_ <;> intro hc <;> try omega) | refine Cw.cond_bool rfl ?_ ?_ <;> intro hc) | refine goR ?_ | refine goP ?_ | apply PSeq.cons | apply PSeq.yes rfl rfl rfl | exact goW | fail)
 exact Fin.ret (Ent.take goTk) (Outs.one rfl rfl) ⟨_, _, _, _, hM', by omega, rfl, rfl⟩
end Lg
end
