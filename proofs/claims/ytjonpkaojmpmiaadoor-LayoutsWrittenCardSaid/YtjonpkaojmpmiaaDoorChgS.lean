/- A part of the proof of a law of this seat: it adds no condition. By an AI agent. -/
import Derived.Test.YtjonpkaojmpmiaaDoorLgExs
import Derived.Test.YtjonpkaojmpmiaaDoorOff2
section
set_option linter.all false
set_option maxRecDepth 100000
set_option maxHeartbeats 4000000
namespace Lg
open Go Go.Proofs

theorem rack_gen : Gen Tryd.prog 25 4 [] 6 (fun x => ∃ r c : Int, x = .agg [.int r, .int c] ∧ (0 ≤ r ∧ r ≤ 11) ∧ 0 ≤ c ∧ c ≤ 10) := by
  unfold Gen
  intro bs xs N hN
  refine Spec.body Tryd.func4 rfl rfl (Tryd.ntmps4) rfl fun w0 own0 M => ?_
  repeat' (first | refine goH ?_ | refine goV ?_ | refine goB (fun b => ?_) | refine goI ?_ | (refine Cw.k_cond ?_; first | (refine Cw.cond_dec rfl (fun hc => ?_) (fun hc => ?_) <;> try (exfalso; omega)) | refine Cw.cond_bool rfl (fun hc => ?_) (fun hc => ?_)) | (refine Ops.k_calla ?_; first | (refine Ops.k_callf 24 ?_; (refine Ops.callG (pick_gen (by repeat' (first | exact IsInts.nil | apply IsInts.cons)) (by simp)) (Evs.cons rfl (Evs.cons rfl Evs.nil)) goPk (by omega) rfl ?_; rintro r ⟨u, rfl, hu⟩; simp only [List.mem_cons, List.mem_nil_iff, or_false] at hu; have hub : 0 ≤ u ∧ u ≤ 11 := (by omega); have hub2 : u = 11 ∨ u ≤ 10 := (by omega))) | (refine Ops.k_callf 22 ?_; (refine Ops.callG (range_gen _ _ (by omega)) (Evs.cons rfl (Evs.cons rfl (Evs.cons rfl Evs.nil))) goPk (by omega) rfl ?_; rintro r ⟨v, rfl, hv⟩)) | (refine Ops.k_callf 23 ?_; (refine Ops.callG (flip_gen _ (by omega)) (Evs.cons rfl (Evs.cons rfl Evs.nil)) goPk (by omega) rfl ?_; rintro r ⟨v, rfl⟩))) | fail)
  all_goals (refine Fin.ret (Ent.trans (Ent.setbox (s := 2) rfl goPk) (Ent.strm_only goPk (by omega))) (Outs.sole rfl goOe) ⟨rfl, _, _, rfl, ?_⟩; omega)

theorem some_gen (odds : Int) (ho : 0 ≤ odds ∧ odds ≤ 1000) (l : List ByteArray) (hl : l.length ≤ 10) : Gen Tryd.prog 25 27 [.int odds, .strs l] 10 (fun x => ∃ m : List ByteArray, x = .strs m ∧ m.length ≤ 10) := by
  unfold Gen
  intro bs xs N hN
  refine Spec.body Tryd.func27 rfl rfl (Tryd.ntmps27) rfl fun w0 own0 M => ?_
  have hL := strRows_len l
  repeat' (first | refine goH ?_ | refine goV ?_ | refine goC (fun ad cap => ?_) | refine goI ?_ | (refine Cw.k_cond ?_; first | (refine Cw.cond_dec rfl (fun hc => ?_) (fun hc => ?_) <;> try (exfalso; omega)) | refine Cw.cond_bool rfl (fun hc => ?_) (fun hc => ?_)) | fail)
  refine Cw.loopI [(0, _), (1, _), (10, _), (11, _)] _ (fun q e cc => ∃ (k : Nat) (ad : Option Addr) (cap : Nat) (m : List ByteArray) (c : Nat), q = l.length - k ∧ (k ≤ l.length ∧ m.length ≤ k ∧ c ≤ N + k) ∧ e = [(7, Tr.raw (.slice ad (strRows m).length cap)), (12, .int k)] ∧ cc = [Chunk.own ad cap 1 9 (strRows m), Chunk.strm 25 bs (intRows xs) c])
    ⟨_, _, _, Ent.trans (Ent.nil 1 9) (Ent.mkP goSub goPm), 0, none, 0, [], N, rfl, ⟨by omega, by simp, by omega⟩, rfl, rfl⟩ ?_
  rintro _ _ _ ⟨k, ad, cap, m, c, rfl, ⟨hk, hml, h3⟩, rfl, rfl⟩
  have hmr := strRows_len m
  by_cases hkl : k < l.length
  · obtain ⟨x, hx⟩ := at_lt hkl
    have hrow := strRows_at hx
    have key : strRows m ++ [[Tr.str x]] = strRows (m ++ [x]) := by rw [strRows_app]; rfl
    repeat' (first | refine goH ?_ | refine goV ?_ | refine goC (fun ad cap => ?_) | refine goI ?_ | (refine Cw.k_cond ?_; first | (refine Cw.cond_dec rfl (fun hc => ?_) (fun hc => ?_) <;> try (exfalso; omega)) | refine Cw.cond_bool rfl (fun hc => ?_) (fun hc => ?_)) | (refine Ops.k_calla ?_; first | (refine Ops.k_callf 23 ?_; (refine Ops.callG (flip_gen _ (by omega)) (Evs.cons rfl (Evs.cons rfl Evs.nil)) goPk (by omega) rfl ?_; rintro r ⟨v, rfl⟩))) | fail)
    · rw [key]
      exact ⟨_, _, _, (Ent.mk goSub goTk), ⟨k + 1, _, _, m ++ [x], _, rfl, ⟨by omega, by simp; omega, by omega⟩, rfl, rfl⟩, by omega⟩
    · exact ⟨_, _, _, (Ent.mk goSub goTk), ⟨k + 1, _, _, m, _, rfl, ⟨by omega, by omega, by omega⟩, rfl, rfl⟩, by omega⟩
  · repeat' (first | refine goH ?_ | refine goV ?_ | refine goC (fun ad cap => ?_) | refine goI ?_ | (refine Cw.k_cond ?_; first | (refine Cw.cond_dec rfl (fun hc => ?_) (fun hc => ?_) <;> try (exfalso; omega)) | refine Cw.cond_bool rfl (fun hc => ?_) (fun hc => ?_)) | fail)
    refine Fin.ret (Ent.trans (Ent.settle (s := 6) rfl goPk rfl) (Ent.strm_only goPk (by omega))) (Outs.sole rfl goOe) ⟨rfl, m, rfl, by omega⟩

def OGd (x : Offer) : Prop := x.pr.length ≤ 20 ∧ x.has.length ≤ 20 ∧ x.hates.length ≤ 20
theorem off_more {rows : List (List Tr)} {l : List Offer} (hrows : rows = l.map Offer.row) (hl : ∀ x ∈ l, OGd x) (x : Offer) (hx : OGd x) : ∃ l' : List Offer, rows ++ [[Tr.str x.key, Tr.str x.group, .ints x.pr, .strs x.has, .strs x.hates]] = l'.map Offer.row ∧ ∀ y ∈ l', OGd y := by
  refine ⟨l ++ [x], by rw [hrows, List.map_append]; rfl, fun y hy => ?_⟩
  rcases List.mem_append.1 hy with h | h
  · exact hl y h
  · rw [List.mem_singleton.1 h]; exact hx
theorem rightOffers_gen (most : Int) (hm : 0 ≤ most ∧ most ≤ 10) : GenO Tryd.prog 25 5 [.int most] 400 5 60 (fun rows => ∃ l : List Offer, rows = l.map Offer.row ∧ l.length ≤ 10 ∧ ∀ x ∈ l, OGd x) := by
  unfold GenO
  intro bs xs N hN
  refine Spec.body Tryd.func5 rfl rfl (Tryd.ntmps5) rfl fun w0 own0 M => ?_
  repeat' (first | refine goH ?_ | refine goV ?_ | refine goB (fun b => ?_) | refine goC (fun ad cap => ?_) | refine goI ?_ | (refine Cw.k_cond ?_; first | (refine Cw.cond_dec rfl (fun hc => ?_) (fun hc => ?_) <;> try (exfalso; omega)) | refine Cw.cond_bool rfl (fun hc => ?_) (fun hc => ?_)) | (refine Ops.k_calla ?_; first | (refine Ops.k_callf 25 ?_; (refine Ops.callG (next_gen _ (by omega)) (Evs.cons rfl (Evs.cons rfl Evs.nil)) goPk (by omega) rfl ?_; rintro r ⟨v, rfl, hv⟩; unfold InRange at hv))) | fail)
  refine Cw.loopI [(0, _), (12, _)] _ (fun q e cc => ∃ (k : Nat) (ad : Option Addr) (cap : Nat) (rows : List (List Tr)) (c : Nat), q = 10 - k ∧ ((k : Int) ≤ v ∧ (∃ l : List Offer, rows = l.map Offer.row ∧ ∀ x ∈ l, OGd x) ∧ rows.length ≤ k ∧ c ≤ N + 1 + 30 * k) ∧ e = [(5, Tr.raw (.slice ad rows.length cap)), (13, .int k)] ∧ cc = [Chunk.own ad cap 5 60 rows, Chunk.strm 25 bs (intRows xs) c])
    ⟨_, _, _, Ent.trans (Ent.nil 5 60) (Ent.mkP goSub goPm), 0, none, 0, [], N + 1, rfl, ⟨by omega, ⟨[], rfl, by simp⟩, by simp, by omega⟩, rfl, rfl⟩ ?_
  rintro _ _ _ ⟨k, ad, cap, rows, c, rfl, ⟨hk, ⟨l, hrows, hl⟩, hrl, h3⟩, rfl, rfl⟩
  have hll : rows.length = l.length := by rw [hrows]; simp
  by_cases hkl : (k : Int) < v
  rotate_left
  · repeat' (first | refine goH ?_ | refine goV ?_ | refine goB (fun b => ?_) | refine goC (fun ad cap => ?_) | refine goI ?_ | (refine Cw.k_cond ?_; first | (refine Cw.cond_dec rfl (fun hc => ?_) (fun hc => ?_) <;> try (exfalso; omega)) | refine Cw.cond_bool rfl (fun hc => ?_) (fun hc => ?_)) | fail)
    exact Fin.ret (Ent.own_strm goPk goPk (by omega)) (Outs.one rfl rfl) ⟨ad, cap, rows, rfl, rfl, l, hrows, by omega, hl⟩
  repeat' (first | refine goH ?_ | (refine Ops.k_convert ?_; first | (refine Ops.val' rfl (OpV.convI Tryd.underlying3 Tryd.underlying21 rfl) ?_) | (refine Ops.val' rfl (OpV.convS Tryd.underlying21 Tryd.underlying9 rfl) ?_)) | refine goV ?_ | refine goB (fun b => ?_) | refine goC (fun ad cap => ?_) | refine goI ?_ | (refine Cw.k_cond ?_; first | (refine Cw.cond_dec rfl (fun hc => ?_) (fun hc => ?_) <;> try (exfalso; omega)) | refine Cw.cond_bool rfl (fun hc => ?_) (fun hc => ?_)) | (refine Ops.k_calla ?_; first | (refine Ops.k_callf 24 ?_; (refine Ops.callG (pick_gen (by repeat' (first | exact IsInts.nil | apply IsInts.cons)) (by simp)) (Evs.cons rfl (Evs.cons rfl Evs.nil)) goPk (by omega) rfl ?_; rintro r ⟨u, rfl, hu⟩; have hub : 0 ≤ u ∧ u ≤ 9 := (by simp at hu; omega); clear hu)) | (refine Ops.k_callf 22 ?_; (refine Ops.callG (range_gen _ _ (by omega)) (Evs.cons rfl (Evs.cons rfl (Evs.cons rfl Evs.nil))) goPk (by omega) rfl ?_; rintro r ⟨w, rfl, hw⟩)) | (refine Ops.k_callf 26 ?_; (refine Ops.callG (one_gen (by repeat' (first | exact IsStrs.nil | apply IsStrs.cons)) (by simp)) (Evs.cons rfl (Evs.cons rfl Evs.nil)) goPk (by omega) rfl ?_; rintro r ⟨g, rfl, hg⟩; clear hg))) | fail)
  generalize Utf8.encode (IntKind.i32.wrap (97 + (k : Int))) = ky
  refine Cw.loopI [(0, _), (5, _), (7, _), (12, _), (13, _), (28, _)] _ (fun q e cc => ∃ (i : Nat) (ad2 : Option Addr) (cap2 : Nat) (gs : List Int) (c2 : Nat) (p : Int), q = 3 - i ∧ ((i : Int) ≤ w ∧ gs.length = i ∧ c2 ≤ c + 3 + i ∧ -100 * (i : Int) ≤ p ∧ p ≤ 9) ∧ e = [(8, .int p), (29, .int i)] ∧ cc = [Chunk.box b 60 [.str ky, .str g, Tr.raw (.slice ad2 (intRows gs).length cap2), Tr.raw (.slice none 0 0), Tr.raw (.slice none 0 0)], Chunk.own ad2 cap2 1 3 (intRows gs), Chunk.strm 25 bs (intRows xs) c2])
    ⟨_, _, _, Ent.trans (Ent.nil 1 3) (Ent.mkP goSub goPm), 0, none, 0, [], _, u, rfl, ⟨by omega, rfl, by omega, by omega, by omega⟩, rfl, rfl⟩ ?_
  rintro _ _ _ ⟨i, ad2, cap2, gs, c2, p, rfl, ⟨hi, hgl, hc2, hp1, hp2⟩, rfl, rfl⟩
  have hgr := intRows_len gs
  by_cases hil : (i : Int) < w
  · have key : intRows gs ++ [[Tr.int p]] = intRows (gs ++ [p]) := by rw [intRows_app]; rfl
    repeat' (first | refine goH ?_ | refine goV ?_ | refine goB (fun b => ?_) | refine goC (fun ad cap => ?_) | refine goI ?_ | (refine Cw.k_cond ?_; first | (refine Cw.cond_dec rfl (fun hc => ?_) (fun hc => ?_) <;> try (exfalso; omega)) | refine Cw.cond_bool rfl (fun hc => ?_) (fun hc => ?_)) | (refine Ops.k_calla ?_; first | (refine Ops.k_callf 24 ?_; (refine Ops.callG (pick_gen (by repeat' (first | exact IsInts.nil | apply IsInts.cons)) (by simp)) (Evs.cons rfl (Evs.cons rfl Evs.nil)) goPk (by omega) rfl ?_; rintro r ⟨y, rfl, hy⟩; have hyb : 0 ≤ y ∧ y ≤ 4 := (by simp at hy; omega); clear hy))) | fail)
    rw [key]
    exact ⟨_, _, _, (Ent.mk goSub goTk), ⟨i + 1, _, _, gs ++ [p], _, _, rfl, ⟨by omega, by simp [hgl], by omega, by omega, by omega⟩, rfl, rfl⟩, by omega⟩
  · refine Cw.ent (Ent.settle_box (b := b) (ty := 60) (i := 2) (kk := 1) (rows := intRows gs) (ts' := [.str ky, .str g, .ints gs, Tr.raw (.slice none 0 0), Tr.raw (.slice none 0 0)]) (by exact Perm.cons' goPk (Perm.cons' goPk (List.Perm.refl _))) rfl rfl rfl) ?_
    repeat' (first | refine goH ?_ | refine goV ?_ | refine goB (fun b => ?_) | refine goC (fun ad cap => ?_) | refine goI ?_ | (refine Cw.k_cond ?_; first | (refine Cw.cond_dec rfl (fun hc => ?_) (fun hc => ?_) <;> try (exfalso; omega)) | refine Cw.cond_bool rfl (fun hc => ?_) (fun hc => ?_)) | (refine Ops.k_calla ?_; first | (refine Ops.k_callf 27 ?_; (refine Ops.callG (some_gen 4 (by omega) [_, _] (by simp)) (Evs.cons rfl (Evs.cons rfl (Evs.cons rfl Evs.nil))) goPk (by omega) rfl ?_; rintro r ⟨m, rfl, hm⟩))) | fail)
    rename_i m1 hm1 m2 hm2
    exact ⟨_, _, _, (Ent.mk goSub goTk), ⟨k + 1, _, _, _, _, rfl, ⟨by omega, off_more hrows hl ⟨ky, g, gs, m2, m⟩ ⟨by simp only; omega, by simp only; omega, by simp only; omega⟩, by simp only [List.length_append, List.length_cons, List.length_nil]; omega, by omega⟩, rfl, rfl⟩, by omega⟩

def prT : List Tr := [Tr.raw (.slice none 0 0), .ints [5], .ints [1000001], Tr.sl 1 (List.replicate 11 [Tr.raw (.int .i64 0)])]
instance : OneT (Tr.anyOf prT) := OneT.anyOf (by
  intro t ht
  simp only [prT, List.mem_cons, List.mem_nil_iff, or_false] at ht
  rcases ht with rfl | rfl | rfl | rfl
  · exact ⟨fun _ _ _ h => by rw [rd_raw h]; exact ⟨rfl, rfl⟩⟩
  · infer_instance
  · infer_instance
  · infer_instance)
end Lg
end
section
set_option linter.all false
set_option maxRecDepth 100000
set_option maxHeartbeats 4000000
namespace Lg
open Go Go.Proofs

theorem strRows_set (l : List ByteArray) (i : Nat) (v : ByteArray) : (strRows l).set i [Tr.str v] = strRows (l.set i v) := by
  unfold strRows
  rw [List.map_set]
theorem layout_gen (n : Int) (hn : -1000 ≤ n ∧ n ≤ 1000) (l : List Offer) (hl : l.length ≤ 1000) : Gen Tryd.prog 25 6 [.int n, .offers l] 150 (fun x => ∃ xs : List ByteArray, x = .strs xs ∧ xs.length ≤ 71) := by
  unfold Gen
  intro bs xs N hN
  refine Spec.body Tryd.func6 rfl rfl (Tryd.ntmps6) rfl fun w0 own0 M => ?_
  have hL : (l.map Offer.row).length = l.length := List.length_map _
  repeat' (first | refine goH ?_ | refine goV ?_ | refine goC (fun ad cap => ?_) | refine goG ?_ | (refine Ops.k_guard ?_; first | (refine Ops.guard_dec rfl rfl (fun hc => ?_) (fun hc => ?_) <;> try (exfalso; omega)) | refine Ops.guard_split rfl rfl (fun hc => ?_) (fun hc => ?_)) | refine goI ?_ | (refine Cw.k_cond ?_; first | (refine Cw.cond_dec rfl (fun hc => ?_) (fun hc => ?_) <;> try (exfalso; omega)) | refine Cw.cond_bool rfl (fun hc => ?_) (fun hc => ?_)) | fail)
  refine Cw.loopI [(0, _), (2, _), (11, _)] _ (fun q e cc => ∃ (k : Nat) (ad : Option Addr) (cap : Nat) (m : List ByteArray) (c : Nat), q = 70 - k ∧ ((k : Int) ≤ max (min n 70) 0 ∧ m.length = k ∧ c ≤ N + 2 * k) ∧ e = [(7, Tr.raw (.slice ad (strRows m).length cap)), (12, .int k)] ∧ cc = [Chunk.own ad cap 1 9 (strRows m), Chunk.strm 25 bs (intRows xs) c])
    ⟨_, _, _, Ent.trans (Ent.nil 1 9) (Ent.mkP goSub goPm), 0, none, 0, [], N, rfl, ⟨by omega, rfl, by omega⟩, rfl, rfl⟩ ?_
  rintro _ _ _ ⟨k, ad, cap, m, c, rfl, ⟨hk, hml, h3⟩, rfl, rfl⟩
  have hmr := strRows_len m
  have key : ∀ x : ByteArray, strRows m ++ [[Tr.str x]] = strRows (m ++ [x]) := by intro x; rw [strRows_app]; rfl
  by_cases hkl : (k : Int) < max (min n 70) 0
  · by_cases h0 : l = []
    · subst h0
      repeat' (first | refine goH ?_ | refine goV ?_ | refine goC (fun ad cap => ?_) | refine goG ?_ | (refine Ops.k_guard ?_; first | (refine Ops.guard_dec rfl rfl (fun hc => ?_) (fun hc => ?_) <;> try (exfalso; omega)) | refine Ops.guard_split rfl rfl (fun hc => ?_) (fun hc => ?_)) | refine goI ?_ | (refine Cw.k_cond ?_; first | (refine Cw.cond_dec rfl (fun hc => ?_) (fun hc => ?_) <;> try (exfalso; omega)) | refine Cw.cond_bool rfl (fun hc => ?_) (fun hc => ?_)) | (refine Ops.k_calla ?_; first | (refine Ops.k_callf 23 ?_; (refine Ops.callG (flip_gen _ (by omega)) (Evs.cons rfl (Evs.cons rfl Evs.nil)) goPk (by omega) rfl ?_; rintro r ⟨v, rfl⟩))) | fail)
      rw [key]
      exact ⟨_, _, _, (Ent.mk goSub goTk), ⟨k + 1, _, _, m ++ [⟨#[]⟩], _, rfl, ⟨by omega, by simp [hml], by omega⟩, rfl, rfl⟩, by omega⟩
    · have hpos : 0 < l.length := List.length_pos_iff.2 h0
      repeat' (first | refine goH ?_ | refine goV ?_ | refine goC (fun ad cap => ?_) | refine goG ?_ | (refine Ops.k_guard ?_; first | (refine Ops.guard_dec rfl rfl (fun hc => ?_) (fun hc => ?_) <;> try (exfalso; omega)) | refine Ops.guard_split rfl rfl (fun hc => ?_) (fun hc => ?_)) | refine goI ?_ | (refine Cw.k_cond ?_; first | (refine Cw.cond_dec rfl (fun hc => ?_) (fun hc => ?_) <;> try (exfalso; omega)) | refine Cw.cond_bool rfl (fun hc => ?_) (fun hc => ?_)) | (refine Ops.k_calla ?_; first | (refine Ops.k_callf 23 ?_; (refine Ops.callG (flip_gen _ (by omega)) (Evs.cons rfl (Evs.cons rfl Evs.nil)) goPk (by omega) rfl ?_; rintro r ⟨v, rfl⟩)) | (refine Ops.k_callf 25 ?_; (refine Ops.callG (next_gen _ (by omega)) (Evs.cons rfl (Evs.cons rfl Evs.nil)) goPk (by omega) rfl ?_; rintro r ⟨v, rfl, hv⟩; unfold InRange at hv; have hvl : v.toNat < l.length := (by omega); obtain ⟨o, ho⟩ := at_lt hvl; have hrow : (l.map Offer.row)[v.toNat]? = some [.str o.key, .str o.group, .ints o.pr, .strs o.has, .strs o.hates] := rows_at ho))) | fail)
      all_goals (rw [key]; exact ⟨_, _, _, (Ent.mk goSub goTk), ⟨k + 1, _, _, m ++ [_], _, rfl, ⟨by omega, by simp [hml], by omega⟩, rfl, rfl⟩, by omega⟩)
  · repeat' (first | refine goH ?_ | refine goV ?_ | refine goC (fun ad cap => ?_) | refine goG ?_ | (refine Ops.k_guard ?_; first | (refine Ops.guard_dec rfl rfl (fun hc => ?_) (fun hc => ?_) <;> try (exfalso; omega)) | refine Ops.guard_split rfl rfl (fun hc => ?_) (fun hc => ?_)) | refine goI ?_ | (refine Cw.k_cond ?_; first | (refine Cw.cond_dec rfl (fun hc => ?_) (fun hc => ?_) <;> try (exfalso; omega)) | refine Cw.cond_bool rfl (fun hc => ?_) (fun hc => ?_)) | (refine Ops.k_calla ?_; first | (refine Ops.k_callf 26 ?_; (refine Ops.callG (one_gen (by repeat' (first | exact IsStrs.nil | apply IsStrs.cons)) (by simp)) (Evs.cons rfl (Evs.cons rfl Evs.nil)) goPk (by omega) rfl ?_; rintro r ⟨s, rfl, hs⟩; clear hs)) | (refine Ops.k_callf 25 ?_; (refine Ops.callG (next_gen _ (by first | omega | (simp; omega))) (Evs.cons rfl (Evs.cons rfl Evs.nil)) goPk (by omega) rfl ?_; rintro r ⟨v, rfl, hv⟩; unfold InRange at hv; try simp only [List.length_append, List.length_cons, List.length_nil] at hv; try simp only [List.length_append, List.length_cons, List.length_nil] at hc)) | (refine Ops.k_callf 23 ?_; (refine Ops.callG (flip_gen _ (by omega)) (Evs.cons rfl (Evs.cons rfl Evs.nil)) goPk (by omega) rfl ?_; rintro r ⟨v, rfl⟩))) | fail)
    all_goals first
      | (refine Fin.ret (Ent.trans (Ent.settle (s := 6) rfl goPk rfl) (Ent.strm_only goPk (by omega))) (Outs.one rfl rfl) ⟨rfl, _, congrArg (Tr.sl 1) (key _), ?_⟩; simp only [List.length_append, List.length_cons, List.length_nil]; omega)
      | (refine Fin.ret (Ent.trans (Ent.settle (s := 6) rfl goPk rfl) (Ent.strm_only goPk (by omega))) (Outs.one rfl rfl) ⟨rfl, _, rfl, ?_⟩; omega)
      | skip
    · rename_i s1 b1 hb1
      obtain ⟨y, hy⟩ : ∃ y, (strRows m ++ [[Tr.str s1]])[v.toNat]? = some [Tr.str y] := by
        rw [key]
        exact ⟨_, strRows_get (by simp only [List.length_append, List.length_cons, List.length_nil]; omega)⟩
      have e : (strRows m ++ [[Tr.str s1]]).set v.toNat [Tr.str s] = strRows ((m ++ [s1]).set v.toNat s) := by rw [key, strRows_set]
      refine Ops.store_own1 rfl rfl goPk hy (by decide) ?_
      repeat' (first | refine goH ?_ | refine goV ?_ | refine goC (fun ad cap => ?_) | refine goG ?_ | (refine Ops.k_guard ?_; first | (refine Ops.guard_dec rfl rfl (fun hc => ?_) (fun hc => ?_) <;> try (exfalso; omega)) | refine Ops.guard_split rfl rfl (fun hc => ?_) (fun hc => ?_)) | refine goI ?_ | (refine Cw.k_cond ?_; first | (refine Cw.cond_dec rfl (fun hc => ?_) (fun hc => ?_) <;> try (exfalso; omega)) | refine Cw.cond_bool rfl (fun hc => ?_) (fun hc => ?_)) | fail)
      refine Fin.ret (Ent.trans (Ent.settle (s := 6) rfl goPk (by simp)) (Ent.strm_only goPk (by omega))) (Outs.one rfl rfl) ⟨rfl, _, congrArg (Tr.sl 1) e, ?_⟩
      simp only [List.length_set, List.length_append, List.length_cons, List.length_nil]; omega
    · obtain ⟨y, hy⟩ : ∃ y, (strRows m)[v.toNat]? = some [Tr.str y] := ⟨_, strRows_get (by omega)⟩
      have e : (strRows m).set v.toNat [Tr.str s] = strRows (m.set v.toNat s) := by rw [strRows_set]
      refine Ops.store_own1 rfl rfl goPk hy (by decide) ?_
      repeat' (first | refine goH ?_ | refine goV ?_ | refine goC (fun ad cap => ?_) | refine goG ?_ | (refine Ops.k_guard ?_; first | (refine Ops.guard_dec rfl rfl (fun hc => ?_) (fun hc => ?_) <;> try (exfalso; omega)) | refine Ops.guard_split rfl rfl (fun hc => ?_) (fun hc => ?_)) | refine goI ?_ | (refine Cw.k_cond ?_; first | (refine Cw.cond_dec rfl (fun hc => ?_) (fun hc => ?_) <;> try (exfalso; omega)) | refine Cw.cond_bool rfl (fun hc => ?_) (fun hc => ?_)) | fail)
      refine Fin.ret (Ent.trans (Ent.settle (s := 6) rfl goPk (by simp)) (Ent.strm_only goPk (by omega))) (Outs.one rfl rfl) ⟨rfl, _, congrArg (Tr.sl 1) e, ?_⟩
      simp only [List.length_set]; omega
end Lg
end
section
set_option linter.all false
set_option maxRecDepth 100000
set_option maxHeartbeats 4000000
namespace Lg
open Go Go.Proofs

/-! ### a changed text -/
theorem enc_sz (p : Int) : (Utf8.encode p).size ≤ 4 := by
  unfold Utf8.encode
  dsimp only
  repeat' split
  all_goals first | exact (show 1 ≤ 4 by omega) | exact (show 2 ≤ 4 by omega) | exact (show 3 ≤ 4 by omega) | exact (show 4 ≤ 4 by omega)
theorem changed_gen (t w : ByteArray) (ht : t.size ≤ 1000000000) (hw : w.size ≤ 1000000) : Gen Tryd.prog 25 43 [.str t, .str w] 3 (fun r => ∃ s, r = .str s ∧ s.size ≤ t.size + w.size + 4) := by
  unfold Gen
  intro b xs N hN
  refine Spec.body Tryd.func43 rfl rfl (Tryd.ntmps43) rfl fun w0 own0 M => ?_
  by_cases h1 : t = ⟨#[]⟩
  · repeat' (first | refine goH ?_ | refine goV ?_ | refine goG ?_ | (refine Ops.k_guard ?_; first | (refine Ops.guard_dec rfl rfl (fun hc => ?_) (fun hc => ?_) <;> try (exfalso; omega)) | refine Ops.guard_split rfl rfl (fun hc => ?_) (fun hc => ?_)) | refine goI ?_ | (refine Cw.k_cond ?_; first | (refine Cw.cond_dec rfl (fun hc => ?_) (fun hc => ?_) <;> try (exfalso; omega)) | refine Cw.cond_bool rfl (fun hc => ?_) (fun hc => ?_)) | refine goR ?_ | refine goP ?_ | apply PSeq.cons | apply PSeq.yes rfl rfl rfl | exact goW | fail)
    all_goals first | (exfalso; contradiction) | (refine Fin.ret (Ent.strm_only goPk (by omega)) (Outs.sole rfl goOe) ⟨rfl, w, rfl, by omega⟩)
  by_cases h2 : w = ⟨#[]⟩
  · repeat' (first | refine goH ?_ | refine goV ?_ | refine goG ?_ | (refine Ops.k_guard ?_; first | (refine Ops.guard_dec rfl rfl (fun hc => ?_) (fun hc => ?_) <;> try (exfalso; omega)) | refine Ops.guard_split rfl rfl (fun hc => ?_) (fun hc => ?_)) | refine goI ?_ | (refine Cw.k_cond ?_; first | (refine Cw.cond_dec rfl (fun hc => ?_) (fun hc => ?_) <;> try (exfalso; omega)) | refine Cw.cond_bool rfl (fun hc => ?_) (fun hc => ?_)) | refine goR ?_ | refine goP ?_ | apply PSeq.cons | apply PSeq.yes rfl rfl rfl | exact goW | fail)
    all_goals first | (exfalso; contradiction) | (refine Fin.ret (Ent.strm_only goPk (by omega)) (Outs.sole rfl goOe) ⟨rfl, w, rfl, by omega⟩)
  have ht0 : 0 < t.size := Nat.pos_of_ne_zero fun h => h1 ((str_empty t).2 h)
  have hw0 : 0 < w.size := Nat.pos_of_ne_zero fun h => h2 ((str_empty w).2 h)
  have e4 : ∀ p, (Utf8.encode p).size ≤ 4 := enc_sz
  repeat' (first | refine goH ?_ | (refine Ops.k_index ?_; first | (refine Ops.indexS rfl rfl rfl (by omega) rfl ?_)) | refine goV ?_ | refine goG ?_ | (refine Ops.k_guard ?_; first | (refine Ops.guard_dec rfl rfl (fun hc => ?_) (fun hc => ?_) <;> try (exfalso; omega)) | refine Ops.guard_split rfl rfl (fun hc => ?_) (fun hc => ?_)) | refine goI ?_ | (refine Cw.k_cond ?_; first | (refine Cw.cond_dec rfl (fun hc => ?_) (fun hc => ?_) <;> try (exfalso; omega)) | refine Cw.cond_bool rfl (fun hc => ?_) (fun hc => ?_)) | (refine Ops.k_calla ?_; first | (refine Ops.k_callf 25 ?_; (refine Ops.callG (next_gen ((t.size : Nat) : Int) (by omega)) (Evs.cons rfl (Evs.cons rfl Evs.nil)) goPk (by omega) rfl ?_; rintro r ⟨v1, rfl, hv1⟩; unfold InRange at hv1)) | (refine Ops.k_callf 25 ?_; (refine Ops.callG (next_gen ((w.size : Nat) : Int) (by omega)) (Evs.cons rfl (Evs.cons rfl Evs.nil)) goPk (by omega) rfl ?_; rintro r ⟨v2, rfl, hv2⟩; unfold InRange at hv2)) | (refine Ops.k_callf 25 ?_; (refine Ops.callG (next_gen 3 (by omega)) (Evs.cons rfl (Evs.cons rfl Evs.nil)) goPk (by omega) rfl ?_; rintro r ⟨v3, rfl, hv3⟩; unfold InRange at hv3))) | fail)
  · have h4 := e4 (IntKind.i32.wrap (sby w v2.toNat))
    repeat' (first | refine goH ?_ | refine goV ?_ | refine goG ?_ | (refine Ops.k_guard ?_; first | (refine Ops.guard_dec rfl rfl (fun hc => ?_) (fun hc => ?_) <;> try (exfalso; omega)) | refine Ops.guard_split rfl rfl (fun hc => ?_) (fun hc => ?_)) | refine goI ?_ | (refine Cw.k_cond ?_; first | (refine Cw.cond_dec rfl (fun hc => ?_) (fun hc => ?_) <;> try (exfalso; omega)) | refine Cw.cond_bool rfl (fun hc => ?_) (fun hc => ?_)) | exact OpV.w (OpV.sliceS_l rfl rfl rfl (by omega)) | exact OpV.w (OpV.convI Tryd.underlying5 Tryd.underlying21 rfl) | exact OpV.w (OpV.convS Tryd.underlying21 Tryd.underlying9 rfl) | exact OpV.w (OpV.catB rfl rfl (by simp only [ByteArray.size_append, ByteArray.size_extract]; omega)) | refine goR ?_ | refine goP ?_ | apply PSeq.cons | apply PSeq.yes rfl rfl rfl | exact goW | fail)
    refine Fin.ret (Ent.strm_only goPk (by omega)) (Outs.sole rfl goOe) ⟨rfl, _, rfl, by simp only [ByteArray.size_append, ByteArray.size_extract]; omega⟩
  · have h4 := e4 (IntKind.i32.wrap (sby w v2.toNat))
    repeat' (first | refine goH ?_ | refine goV ?_ | refine goG ?_ | (refine Ops.k_guard ?_; first | (refine Ops.guard_dec rfl rfl (fun hc => ?_) (fun hc => ?_) <;> try (exfalso; omega)) | refine Ops.guard_split rfl rfl (fun hc => ?_) (fun hc => ?_)) | refine goI ?_ | (refine Cw.k_cond ?_; first | (refine Cw.cond_dec rfl (fun hc => ?_) (fun hc => ?_) <;> try (exfalso; omega)) | refine Cw.cond_bool rfl (fun hc => ?_) (fun hc => ?_)) | exact OpV.w (OpV.sliceS_l rfl rfl rfl (by omega)) | exact OpV.w (OpV.convI Tryd.underlying5 Tryd.underlying21 rfl) | exact OpV.w (OpV.convS Tryd.underlying21 Tryd.underlying9 rfl) | exact OpV.w (OpV.catB rfl rfl (by simp only [ByteArray.size_append, ByteArray.size_extract]; omega)) | refine goR ?_ | refine goP ?_ | apply PSeq.cons | apply PSeq.yes rfl rfl rfl | exact goW | fail)
    refine Fin.ret (Ent.strm_only goPk (by omega)) (Outs.sole rfl goOe) ⟨rfl, _, rfl, by simp only [ByteArray.size_append, ByteArray.size_extract]; omega⟩
  · repeat' (first | refine goH ?_ | refine goV ?_ | refine goG ?_ | (refine Ops.k_guard ?_; first | (refine Ops.guard_dec rfl rfl (fun hc => ?_) (fun hc => ?_) <;> try (exfalso; omega)) | refine Ops.guard_split rfl rfl (fun hc => ?_) (fun hc => ?_)) | refine goI ?_ | (refine Cw.k_cond ?_; first | (refine Cw.cond_dec rfl (fun hc => ?_) (fun hc => ?_) <;> try (exfalso; omega)) | refine Cw.cond_bool rfl (fun hc => ?_) (fun hc => ?_)) | exact OpV.w (OpV.sliceS_l rfl rfl rfl (by omega)) | exact OpV.w (OpV.catB rfl rfl (by simp only [ByteArray.size_append, ByteArray.size_extract]; omega)) | refine goR ?_ | refine goP ?_ | apply PSeq.cons | apply PSeq.yes rfl rfl rfl | exact goW | fail)
    refine Fin.ret (Ent.strm_only goPk (by omega)) (Outs.sole rfl goOe) ⟨rfl, _, rfl, by simp only [ByteArray.size_append, ByteArray.size_extract]; omega⟩
end Lg
end
