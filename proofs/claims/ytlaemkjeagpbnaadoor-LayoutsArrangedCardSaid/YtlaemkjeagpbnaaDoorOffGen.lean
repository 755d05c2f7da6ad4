/- A part of the proof of a law of this seat: it adds no condition. By an AI agent. -/
import Derived.Test.YtlaemkjeagpbnaaDoorLgCat
import Derived.Test.YtlaemkjeagpbnaaDoorOff
set_option linter.all false
set_option maxRecDepth 100000
set_option maxHeartbeats 4000000
namespace Lg
open Go Go.Proofs

theorem rack_gen : Gen Tryd.prog 25 18 [] 6 (fun x => ∃ r c : Int, x = .agg [.int r, .int c] ∧ (0 ≤ r ∧ r ≤ 11) ∧ 0 ≤ c ∧ c ≤ 10) := by
  unfold Gen
  intro bs xs N hN
  refine Spec.body Tryd.func18 rfl rfl (Tryd.ntmps18) rfl fun w0 own0 M => ?_
  repeat' (first | refine goH ?_ | refine goV ?_ | refine goB (fun b => ?_) | refine goI ?_ | (refine Cw.k_cond ?_; first | (refine Cw.cond_dec rfl (fun hc => ?_) (fun hc => ?_) <;> try (exfalso; omega)) | refine Cw.cond_bool rfl (fun hc => ?_) (fun hc => ?_)) | (refine Ops.k_calla ?_; first | (refine Ops.k_callf 7 ?_; (refine Ops.callG (pick_gen (by repeat' (first | exact IsInts.nil | apply IsInts.cons)) (by simp)) (Evs.cons rfl (Evs.cons rfl Evs.nil)) goPk (by omega) rfl ?_; rintro r ⟨u, rfl, hu⟩; simp only [List.mem_cons, List.mem_nil_iff, or_false] at hu; have hub : 0 ≤ u ∧ u ≤ 11 := (by omega); have hub2 : u = 11 ∨ u ≤ 10 := (by omega))) | (refine Ops.k_callf 43 ?_; (refine Ops.callG (range_gen _ _ (by omega)) (Evs.cons rfl (Evs.cons rfl (Evs.cons rfl Evs.nil))) goPk (by omega) rfl ?_; rintro r ⟨v, rfl, hv⟩)) | (refine Ops.k_callf 31 ?_; (refine Ops.callG (flip_gen _ (by omega)) (Evs.cons rfl (Evs.cons rfl Evs.nil)) goPk (by omega) rfl ?_; rintro r ⟨v, rfl⟩))) | fail)
  all_goals (refine Fin.ret (Ent.trans (Ent.setbox (s := 2) rfl goPk) (Ent.strm_only goPk (by omega))) (Outs.sole rfl goOe) ⟨rfl, _, _, rfl, ?_⟩; omega)

theorem some_gen (odds : Int) (ho : 0 ≤ odds ∧ odds ≤ 1000) (l : List ByteArray) (hl : l.length ≤ 10) : Gen Tryd.prog 25 72 [.int odds, .strs l] 10 (fun x => ∃ m : List ByteArray, x = .strs m ∧ m.length ≤ 10) := by
  unfold Gen
  intro bs xs N hN
  refine Spec.body Tryd.func72 rfl rfl (Tryd.ntmps72) rfl fun w0 own0 M => ?_
  have hL := strRows_len l
  repeat' (first | refine goH ?_ | refine goV ?_ | refine goC (fun ad cap => ?_) | refine goI ?_ | (refine Cw.k_cond ?_; first | (refine Cw.cond_dec rfl (fun hc => ?_) (fun hc => ?_) <;> try (exfalso; omega)) | refine Cw.cond_bool rfl (fun hc => ?_) (fun hc => ?_)) | fail)
  refine Cw.loopI [(0, _), (1, _), (10, _), (11, _)] _ (fun q e cc => ∃ (k : Nat) (ad : Option Addr) (cap : Nat) (m : List ByteArray) (c : Nat), q = l.length - k ∧ (k ≤ l.length ∧ m.length ≤ k ∧ c ≤ N + k) ∧ e = [(7, Tr.raw (.slice ad (strRows m).length cap)), (12, .int k)] ∧ cc = [Chunk.own ad cap 1 9 (strRows m), Chunk.strm 25 bs (intRows xs) c])
    ⟨_, _, _, Ent.trans (Ent.nil 1 9) (Ent.mkP goSub goPm), 0, none, 0, [], N, rfl, ⟨by omega, by simp, by omega⟩, rfl, rfl⟩ ?_
  rintro _ _ _ ⟨k, ad, cap, m, c, rfl, ⟨hk, hml, h3⟩, rfl, rfl⟩
  have hmr := strRows_len m
  by_cases hkl : k < l.length
  · obtain ⟨x, hx⟩ := at_lt hkl
    have hrow := strRows_at hx
    have key : strRows m ++ [[Tr.str x]] = strRows (m ++ [x]) := by rw [strRows_app]; rfl
    repeat' (first | refine goH ?_ | refine goV ?_ | refine goC (fun ad cap => ?_) | refine goI ?_ | (refine Cw.k_cond ?_; first | (refine Cw.cond_dec rfl (fun hc => ?_) (fun hc => ?_) <;> try (exfalso; omega)) | refine Cw.cond_bool rfl (fun hc => ?_) (fun hc => ?_)) | (refine Ops.k_calla ?_; first | (refine Ops.k_callf 31 ?_; (refine Ops.callG (flip_gen _ (by omega)) (Evs.cons rfl (Evs.cons rfl Evs.nil)) goPk (by omega) rfl ?_; rintro r ⟨v, rfl⟩))) | fail)
    · rw [key]
      exact ⟨_, _, _, (Ent.mk goSub goTk), ⟨k + 1, _, _, m ++ [x], _, rfl, ⟨by omega, by simp; omega, by omega⟩, rfl, rfl⟩, by omega⟩
    · exact ⟨_, _, _, (Ent.mk goSub goTk), ⟨k + 1, _, _, m, _, rfl, ⟨by omega, by omega, by omega⟩, rfl, rfl⟩, by omega⟩
  · repeat' (first | refine goH ?_ | refine goV ?_ | refine goC (fun ad cap => ?_) | refine goI ?_ | (refine Cw.k_cond ?_; first | (refine Cw.cond_dec rfl (fun hc => ?_) (fun hc => ?_) <;> try (exfalso; omega)) | refine Cw.cond_bool rfl (fun hc => ?_) (fun hc => ?_)) | fail)
    refine Fin.ret (Ent.trans (Ent.settle (s := 6) rfl goPk rfl) (Ent.strm_only goPk (by omega))) (Outs.sole rfl goOe) ⟨rfl, m, rfl, by omega⟩

def OGd (x : Offer) : Prop := x.pr.length ≤ 20 ∧ x.has.length ≤ 20 ∧ x.hates.length ≤ 20
theorem off_more {rows : List (List Tr)} {l : List Offer} (hrows : rows = l.map Offer.row) (hl : ∀ x ∈ l, OGd x) (x : Offer) (hx : OGd x) : ∃ l' : List Offer, rows ++ [[Tr.str x.key, Tr.str x.group, .ints x.pr, .strs x.has, .strs x.hates]] = l'.map Offer.row ∧ ∀ y ∈ l', OGd y := by
  refine ⟨l ++ [x], by rw [hrows, List.map_append]; rfl, fun y hy => ?_⟩
  rcases List.mem_append.1 hy with h | h
  · exact hl y h
  · rw [List.mem_singleton.1 h]; exact hx
theorem rightOffers_gen (most : Int) (hm : 0 ≤ most ∧ most ≤ 10) : GenO Tryd.prog 25 44 [.int most] 400 5 78 (fun rows => ∃ l : List Offer, rows = l.map Offer.row ∧ l.length ≤ 10 ∧ ∀ x ∈ l, OGd x) := by
  unfold GenO
  intro bs xs N hN
  refine Spec.body Tryd.func44 rfl rfl (Tryd.ntmps44) rfl fun w0 own0 M => ?_
  repeat' (first | refine goH ?_ | refine goV ?_ | refine goB (fun b => ?_) | refine goC (fun ad cap => ?_) | refine goI ?_ | (refine Cw.k_cond ?_; first | (refine Cw.cond_dec rfl (fun hc => ?_) (fun hc => ?_) <;> try (exfalso; omega)) | refine Cw.cond_bool rfl (fun hc => ?_) (fun hc => ?_)) | (refine Ops.k_calla ?_; first | (refine Ops.k_callf 29 ?_; (refine Ops.callG (next_gen _ (by omega)) (Evs.cons rfl (Evs.cons rfl Evs.nil)) goPk (by omega) rfl ?_; rintro r ⟨v, rfl, hv⟩; unfold InRange at hv))) | fail)
  refine Cw.loopI [(0, _), (12, _)] _ (fun q e cc => ∃ (k : Nat) (ad : Option Addr) (cap : Nat) (rows : List (List Tr)) (c : Nat), q = 10 - k ∧ ((k : Int) ≤ v ∧ (∃ l : List Offer, rows = l.map Offer.row ∧ ∀ x ∈ l, OGd x) ∧ rows.length ≤ k ∧ c ≤ N + 1 + 30 * k) ∧ e = [(5, Tr.raw (.slice ad rows.length cap)), (13, .int k)] ∧ cc = [Chunk.own ad cap 5 78 rows, Chunk.strm 25 bs (intRows xs) c])
    ⟨_, _, _, Ent.trans (Ent.nil 5 78) (Ent.mkP goSub goPm), 0, none, 0, [], N + 1, rfl, ⟨by omega, ⟨[], rfl, by simp⟩, by simp, by omega⟩, rfl, rfl⟩ ?_
  rintro _ _ _ ⟨k, ad, cap, rows, c, rfl, ⟨hk, ⟨l, hrows, hl⟩, hrl, h3⟩, rfl, rfl⟩
  have hll : rows.length = l.length := by rw [hrows]; simp
  by_cases hkl : (k : Int) < v
  rotate_left
  · repeat' (first | refine goH ?_ | refine goV ?_ | refine goB (fun b => ?_) | refine goC (fun ad cap => ?_) | refine goI ?_ | (refine Cw.k_cond ?_; first | (refine Cw.cond_dec rfl (fun hc => ?_) (fun hc => ?_) <;> try (exfalso; omega)) | refine Cw.cond_bool rfl (fun hc => ?_) (fun hc => ?_)) | fail)
    exact Fin.ret (Ent.own_strm goPk goPk (by omega)) (Outs.one rfl rfl) ⟨ad, cap, rows, rfl, rfl, l, hrows, by omega, hl⟩
  repeat' (first | refine goH ?_ | (refine Ops.k_convert ?_; first | (refine Ops.val' rfl (OpV.convI Tryd.underlying3 Tryd.underlying21 rfl) ?_) | (refine Ops.val' rfl (OpV.convS Tryd.underlying21 Tryd.underlying9 rfl) ?_)) | refine goV ?_ | refine goB (fun b => ?_) | refine goC (fun ad cap => ?_) | refine goI ?_ | (refine Cw.k_cond ?_; first | (refine Cw.cond_dec rfl (fun hc => ?_) (fun hc => ?_) <;> try (exfalso; omega)) | refine Cw.cond_bool rfl (fun hc => ?_) (fun hc => ?_)) | (refine Ops.k_calla ?_; first | (refine Ops.k_callf 7 ?_; (refine Ops.callG (pick_gen (by repeat' (first | exact IsInts.nil | apply IsInts.cons)) (by simp)) (Evs.cons rfl (Evs.cons rfl Evs.nil)) goPk (by omega) rfl ?_; rintro r ⟨u, rfl, hu⟩; have hub : 0 ≤ u ∧ u ≤ 9 := (by simp at hu; omega); clear hu)) | (refine Ops.k_callf 43 ?_; (refine Ops.callG (range_gen _ _ (by omega)) (Evs.cons rfl (Evs.cons rfl (Evs.cons rfl Evs.nil))) goPk (by omega) rfl ?_; rintro r ⟨w, rfl, hw⟩)) | (refine Ops.k_callf 30 ?_; (refine Ops.callG (one_gen (by repeat' (first | exact IsStrs.nil | apply IsStrs.cons)) (by simp)) (Evs.cons rfl (Evs.cons rfl Evs.nil)) goPk (by omega) rfl ?_; rintro r ⟨g, rfl, hg⟩; clear hg))) | fail)
  generalize Utf8.encode (IntKind.i32.wrap (97 + (k : Int))) = ky
  refine Cw.loopI [(0, _), (5, _), (7, _), (12, _), (13, _), (28, _)] _ (fun q e cc => ∃ (i : Nat) (ad2 : Option Addr) (cap2 : Nat) (gs : List Int) (c2 : Nat) (p : Int), q = 3 - i ∧ ((i : Int) ≤ w ∧ gs.length = i ∧ c2 ≤ c + 3 + i ∧ -100 * (i : Int) ≤ p ∧ p ≤ 9) ∧ e = [(8, .int p), (29, .int i)] ∧ cc = [Chunk.box b 78 [.str ky, .str g, Tr.raw (.slice ad2 (intRows gs).length cap2), Tr.raw (.slice none 0 0), Tr.raw (.slice none 0 0)], Chunk.own ad2 cap2 1 3 (intRows gs), Chunk.strm 25 bs (intRows xs) c2])
    ⟨_, _, _, Ent.trans (Ent.nil 1 3) (Ent.mkP goSub goPm), 0, none, 0, [], _, u, rfl, ⟨by omega, rfl, by omega, by omega, by omega⟩, rfl, rfl⟩ ?_
  rintro _ _ _ ⟨i, ad2, cap2, gs, c2, p, rfl, ⟨hi, hgl, hc2, hp1, hp2⟩, rfl, rfl⟩
  have hgr := intRows_len gs
  by_cases hil : (i : Int) < w
  · have key : intRows gs ++ [[Tr.int p]] = intRows (gs ++ [p]) := by rw [intRows_app]; rfl
    repeat' (first | refine goH ?_ | refine goV ?_ | refine goB (fun b => ?_) | refine goC (fun ad cap => ?_) | refine goI ?_ | (refine Cw.k_cond ?_; first | (refine Cw.cond_dec rfl (fun hc => ?_) (fun hc => ?_) <;> try (exfalso; omega)) | refine Cw.cond_bool rfl (fun hc => ?_) (fun hc => ?_)) | (refine Ops.k_calla ?_; first | (refine Ops.k_callf 7 ?_; (refine Ops.callG (pick_gen (by repeat' (first | exact IsInts.nil | apply IsInts.cons)) (by simp)) (Evs.cons rfl (Evs.cons rfl Evs.nil)) goPk (by omega) rfl ?_; rintro r ⟨y, rfl, hy⟩; have hyb : 0 ≤ y ∧ y ≤ 4 := (by simp at hy; omega); clear hy))) | fail)
    rw [key]
    exact ⟨_, _, _, (Ent.mk goSub goTk), ⟨i + 1, _, _, gs ++ [p], _, _, rfl, ⟨by omega, by simp [hgl], by omega, by omega, by omega⟩, rfl, rfl⟩, by omega⟩
  · refine Cw.ent (Ent.settle_box (b := b) (ty := 78) (i := 2) (kk := 1) (rows := intRows gs) (ts' := [.str ky, .str g, .ints gs, Tr.raw (.slice none 0 0), Tr.raw (.slice none 0 0)]) (by exact Perm.cons' goPk (Perm.cons' goPk (List.Perm.refl _))) rfl rfl rfl) ?_
    repeat' (first | refine goH ?_ | refine goV ?_ | refine goB (fun b => ?_) | refine goC (fun ad cap => ?_) | refine goI ?_ | (refine Cw.k_cond ?_; first | (refine Cw.cond_dec rfl (fun hc => ?_) (fun hc => ?_) <;> try (exfalso; omega)) | refine Cw.cond_bool rfl (fun hc => ?_) (fun hc => ?_)) | (refine Ops.k_calla ?_; first | (refine Ops.k_callf 72 ?_; (refine Ops.callG (some_gen 4 (by omega) [_, _] (by simp)) (Evs.cons rfl (Evs.cons rfl (Evs.cons rfl Evs.nil))) goPk (by omega) rfl ?_; rintro r ⟨m, rfl, hm⟩))) | fail)
    rename_i m1 hm1 m2 hm2
    exact ⟨_, _, _, (Ent.mk goSub goTk), ⟨k + 1, _, _, _, _, rfl, ⟨by omega, off_more hrows hl ⟨ky, g, gs, m2, m⟩ ⟨by simp only; omega, by simp only; omega, by simp only; omega⟩, by simp only [List.length_append, List.length_cons, List.length_nil]; omega, by omega⟩, rfl, rfl⟩, by omega⟩

def prT : List Tr := [Tr.raw (.slice none 0 0), .ints [5], .ints [1000001], Tr.sl 1 (List.replicate 11 [Tr.raw (.int .i64 0)])]
def offZ2 : List Tr := [.str ⟨#[]⟩, .str ⟨#[]⟩, Tr.raw (.slice none 0 0), Tr.raw (.slice none 0 0), Tr.raw (.slice none 0 0)]
def rowX : List Tr := [Tr.strS fun _ => True, Tr.strS fun _ => True, Tr.anyOf prT, Tr.raw (.slice none 0 0), Tr.raw (.slice none 0 0)]
instance : OneT (Tr.anyOf prT) := OneT.anyOf (by
  intro t ht
  simp only [prT, List.mem_cons, List.mem_nil_iff, or_false] at ht
  rcases ht with rfl | rfl | rfl | rfl
  · exact ⟨fun _ _ _ h => by rw [rd_raw h]; exact ⟨rfl, rfl⟩⟩
  · infer_instance
  · infer_instance
  · infer_instance)
theorem prT_open : ∀ t ∈ prT, ∃ pr : List Int, pr.length ≤ 20 ∧ Imp t (.ints pr) := by
  intro t ht
  simp only [prT, List.mem_cons, List.mem_nil_iff, or_false] at ht
  rcases ht with rfl | rfl | rfl | rfl
  · exact ⟨[], by simp, Imp.nil⟩
  · exact ⟨[5], by simp, Imp.refl⟩
  · exact ⟨[1000001], by simp, Imp.refl⟩
  · exact ⟨List.replicate 11 0, by simp, Imp.refl⟩
theorem rowX_open : ∀ w A vs, RdC w A rowX vs → ∃ x : ByteArray × ByteArray × List Int, x.2.2.length ≤ 20 ∧ RdC w A [.str x.1, .str x.2.1, .ints x.2.2, .strs [], .strs []] vs := by
  intro w A vs h
  unfold rowX at h
  obtain ⟨a, _, rest1, rfl, h1⟩ := rdc_strS h
  obtain ⟨b, _, rest2, rfl, h2⟩ := rdc_strS h1
  obtain ⟨t, ht, h⟩ := rdc_anyOf h2
  obtain ⟨pr, hpr, hi⟩ := prT_open t ht
  refine ⟨(a, b, pr), hpr, rdc_rawv rfl (rdc_rawv rfl ?_)⟩
  exact rdc_tail (rdc_imp h hi) fun vs h => rdc_tail (rdc_imp h Imp.nil) fun vs h => rdc_imp h Imp.nil
theorem offers_gen (most : Int) (hm : 0 ≤ most ∧ most ≤ 10) : Gen Tryd.prog 25 19 [.int most] 410 (fun x => ∃ l : List Offer, x = .offers l ∧ l.length ≤ 11 ∧ ∀ x ∈ l, OGd x) := by
  unfold Gen
  intro bs xs N hN
  refine Spec.body Tryd.func19 rfl rfl (Tryd.ntmps19) rfl fun w0 own0 M => ?_
  repeat' (first | refine goH ?_ | refine goV ?_ | refine goB (fun b => ?_) | refine goC (fun ad cap => ?_) | refine goI ?_ | (refine Cw.k_cond ?_; first | (refine Cw.cond_dec rfl (fun hc => ?_) (fun hc => ?_) <;> try (exfalso; omega)) | refine Cw.cond_bool rfl (fun hc => ?_) (fun hc => ?_)) | (refine Ops.k_calla ?_; first | (refine Ops.k_callf 44 ?_; (refine Ops.callGO (rightOffers_gen most hm) (Evs.cons rfl (Evs.cons rfl Evs.nil)) goPk (by omega) rfl (fun ad cap rows hr => ?_); obtain ⟨l, hrows, hl, hog⟩ := hr; have hrl : rows.length = l.length := (by rw [hrows]; simp))) | (refine Ops.k_callf 31 ?_; (refine Ops.callG (flip_gen _ (by omega)) (Evs.cons rfl (Evs.cons rfl Evs.nil)) goPk (by omega) rfl ?_; rintro r ⟨v, rfl⟩))) | fail)
  rotate_left
  · exact Fin.ret (Ent.trans (Ent.settle (s := 4) rfl goPk rfl) (Ent.strm_only goPk (by omega))) (Outs.one rfl rfl) ⟨rfl, l, congrArg (Tr.sl 5) hrows, by omega, hog⟩
  have cnt : ∀ S : Nat → Bool, b2n (S 2) ≤ 1 ∧ b2n (S 5) ≤ 1 ∧ b2n (S 11) ≤ 1 := fun S => ⟨b2n_le _, b2n_le _, b2n_le _⟩
  refine Cw.region_X (fun ξ S => Chunk.strm 25 bs (intRows xs) (N + 401 + (b2n (S 2) + b2n (S 5) + b2n (S 11))) :: Chunk.own ad cap 5 78 rows :: objB (S 15) (S 16) (ξ 15) 78 offZ2 rowX) rfl (by decide +kernel) rfl (fun _ => rfl) ?_
  apply XSeq.w (by intro _ _ _; rfl)
  · intro ξ S h1 h2 h3 h4; exact goW
  apply XSeq.w (by intro _ _ _; rfl)
  · intro ξ S h1 h2 h3 h4; exact goW
  apply XSeq.callG (t := Tr.strS fun _ => True) (one_gen (l := [⟨#[]⟩, ⟨#[97]⟩, ⟨#[122, 122]⟩]) (by repeat' (first | exact IsStrs.nil | apply IsStrs.cons)) (by simp)) (fun _ => (Evs.cons rfl (Evs.cons rfl Evs.nil))) (by rintro r ⟨v, rfl, _⟩; exact Imp.strS trivial)
  · intro ξ S h1 h3
    have hc := cnt S
    refine ⟨_, _, ?_, List.Perm.refl _, fun v => perm_strm ?_⟩
    · omega
    · show N + 401 + (b2n true + b2n (S 5) + b2n (S 11)) = _
      rw [h1]; simp only [b2n]; omega
  apply XSeq.w (by intro _ _ _; rfl)
  · intro ξ S h1 h2 h3 h4; exact goW
  apply XSeq.w (by intro _ _ _; rfl)
  · intro ξ S h1 h2 h3 h4; exact goW
  apply XSeq.callG (t := Tr.strS fun _ => True) (one_gen (l := [⟨#[]⟩, ⟨#[115, 97, 108, 116]⟩]) (by repeat' (first | exact IsStrs.nil | apply IsStrs.cons)) (by simp)) (fun _ => (Evs.cons rfl (Evs.cons rfl Evs.nil))) (by rintro r ⟨v, rfl, _⟩; exact Imp.strS trivial)
  · intro ξ S h1 h3
    have hc := cnt S
    refine ⟨_, _, ?_, List.Perm.refl _, fun v => perm_strm ?_⟩
    · omega
    · show N + 401 + (b2n (S 2) + b2n true + b2n (S 11)) = _
      rw [h1]; simp only [b2n]; omega
  apply XSeq.w (by intro _ _ _; rfl)
  · intro ξ S h1 h2 h3 h4; exact goW
  apply XSeq.w (by intro _ _ _; rfl)
  · intro ξ S h1 h2 h3 h4; exact goW
  apply XSeq.w (by intro _ _ _; rfl)
  · intro ξ S h1 h2 h3 h4; exact OpW.makeSlice rfl rfl (by omega) (by omega) (by omega)
  apply XSeq.w (by intro _ _ _; rfl)
  · intro ξ S h1 h2 h3 h4; exact goW
  apply XSeq.w (by intro _ _ _; rfl)
  · intro ξ S h1 h2 h3 h4; exact goW
  apply XSeq.callG (t := Tr.intS fun x => 0 ≤ x ∧ x < 4) (next_gen 4 (by omega)) (fun _ => (Evs.cons rfl (Evs.cons rfl Evs.nil))) (by rintro r ⟨v, rfl, h⟩; unfold InRange at h; exact Imp.intS (by omega))
  · intro ξ S h1 h3
    have hc := cnt S
    refine ⟨_, _, ?_, List.Perm.refl _, fun v => perm_strm ?_⟩
    · omega
    · show N + 401 + (b2n (S 2) + b2n (S 5) + b2n true) = _
      rw [h1]; simp only [b2n]; omega
  apply XSeq.w (t := Tr.anyOf (prT.map fun t => Tr.ref [t])) (by intro _ _ _; rfl)
  · intro ξ S h1 h2 h3 h4
    apply OpV.w
    refine OpV.openS (s := 23) rfl open_intS ?_
    intro x hx
    rcases (show x = 0 ∨ x = 1 ∨ x = 2 ∨ x = 3 by omega) with rfl | rfl | rfl | rfl
    · exact OpV.imp (OpV.indexAddr_sl (r := [Tr.raw (.slice none 0 0)]) rfl rfl (by omega) rfl) (Imp.any_of (by simp [prT]))
    · exact OpV.imp (OpV.indexAddr_sl (r := [.ints [5]]) rfl rfl (by omega) rfl) (Imp.any_of (by simp [prT]))
    · exact OpV.imp (OpV.indexAddr_sl (r := [.ints [1000001]]) rfl rfl (by omega) rfl) (Imp.any_of (by simp [prT]))
    · exact OpV.imp (OpV.indexAddr_sl (r := [Tr.sl 1 (List.replicate 11 [Tr.raw (.int .i64 0)])]) rfl rfl (by omega) rfl) (Imp.any_of (by simp [prT]))
  apply XSeq.w (t := Tr.anyOf prT) (by intro _ _ _; rfl)
  · intro ξ S h1 h2 h3 h4
    apply OpV.w
    refine OpV.openS (s := 24) rfl open_anyOf ?_
    intro t ht
    obtain ⟨u, hu, rfl⟩ := List.mem_map.1 ht
    exact OpV.imp (OpV.load_ref_one rfl) (Imp.any_of hu)
  apply XSeq.w (t := .agg rowX) (by intro _ _ _; rfl)
  · intro ξ S h1 h2 h3 h4; exact goW
  apply XSeq.alloc
  · intro ξ S b h1 h3
    have e := closed_false h1 h3 (k := 16) rfl (by decide)
    show (_ :: _ :: objB true (S 16) (.pointer (some ⟨b, 0, none⟩)) 78 offZ2 rowX).Perm (_ :: _ :: _ :: objB (S 15) (S 16) (ξ 15) 78 offZ2 rowX)
    rw [h1, e]
    exact (List.Perm.cons _ (List.Perm.swap _ _ _)).trans (List.Perm.swap _ _ _)
  apply XSeq.store
  · intro ξ S h1 h2 h3 h4
    have e := h2 15 (by decide)
    obtain ⟨b, hb⟩ : ∃ b, ξ 15 = .pointer (some ⟨b, 0, none⟩) := h4 15 e
    obtain ⟨ξ, rfl⟩ := exists_upd hb
    refine ⟨b, 0, 78, offZ2, rowX, .agg rowX, [Chunk.strm 25 bs (intRows xs) (N + 401 + (b2n (S 2) + b2n (S 5) + b2n (S 11))), Chunk.own ad cap 5 78 rows], rfl, rfl, inferInstance, ?_, rfl, ?_, ?_⟩
    rotate_left 2
    · show (_ :: _ :: objB (S 15) true (.pointer (some ⟨b, 0, none⟩)) 78 offZ2 rowX).Perm _
      rw [e]
      exact (List.Perm.cons _ (List.Perm.swap _ _ _)).trans (List.Perm.swap _ _ _)
    · show (_ :: _ :: objB (S 15) (S 16) (.pointer (some ⟨b, 0, none⟩)) 78 offZ2 rowX).Perm _
      rw [e, h1]
      exact (List.Perm.cons _ (List.Perm.swap _ _ _)).trans (List.Perm.swap _ _ _)
    · exact (by decide : 0 + 5 ≤ 5)
  refine XSeq.nil fun ξ hf => ?_
  obtain ⟨b1, hb1⟩ : ∃ b, ξ 15 = .pointer (some ⟨b, 0, none⟩) := hf 15
  obtain ⟨ξ, rfl⟩ := exists_upd hb1
  refine ⟨[(0, .ptr bs), (5, Tr.raw (.slice ad rows.length cap)), (6, .ptr b1)], [Chunk.strm 25 bs (intRows xs) (N + 404), Chunk.own ad cap 5 78 rows, Chunk.box b1 78 rowX], Ent.sub goSub, ?_⟩
  refine Then.norm ?_
  refine Cw.open_box (p := fun x : ByteArray × ByteArray × List Int => x.2.2.length ≤ 20) (f := fun x => [.str x.1, .str x.2.1, .ints x.2.2, .strs [], .strs []]) (by exact Perm.cons' goPk (Perm.cons' goPk (List.Perm.refl _))) rowX_open ?_
  rintro ⟨ky, gr, pr⟩ hpr
  simp only at hpr
  repeat' (first | refine goH ?_ | refine goV ?_ | refine goB (fun b => ?_) | refine goC (fun ad cap => ?_) | refine goI ?_ | (refine Cw.k_cond ?_; first | (refine Cw.cond_dec rfl (fun hc => ?_) (fun hc => ?_) <;> try (exfalso; omega)) | refine Cw.cond_bool rfl (fun hc => ?_) (fun hc => ?_)) | (refine Ops.k_calla ?_; first | (refine Ops.k_callf 29 ?_; (refine Ops.callG (next_gen 3 (by omega)) (Evs.cons rfl (Evs.cons rfl Evs.nil)) goPk (by omega) rfl ?_; rintro r ⟨u, rfl, hu⟩; unfold InRange at hu; have hu3 : u = 0 ∨ u = 1 ∨ u = 2 := (by omega); clear hu))) | refine goR ?_ | refine goP ?_ | apply PSeq.cons | apply PSeq.yes rfl rfl rfl | exact goW | fail)
  rcases hu3 with rfl | rfl | rfl
  · repeat' (first | refine goH ?_ | ((fail_if_success refine Ops.k_store ?_); refine goV ?_) | ((fail_if_success refine Ops.k_store ?_); refine goB (fun b => ?_)) | ((fail_if_success refine Ops.k_store ?_); refine goC (fun ad cap => ?_)) | refine goI ?_ | (refine Cw.k_cond ?_; first | (refine Cw.cond_dec rfl (fun hc => ?_) (fun hc => ?_) <;> try (exfalso; omega)) | refine Cw.cond_bool rfl (fun hc => ?_) (fun hc => ?_)) | refine goR ?_ | refine goP ?_ | apply PSeq.cons | apply PSeq.yes rfl rfl rfl | exact goW | fail)
    refine Ops.ent (Ent.imp (s := 33) rfl (Imp.nil (k := 1))) ?_
    repeat' (first | refine goH ?_ | refine goV ?_ | refine goB (fun b => ?_) | refine goC (fun ad cap => ?_) | refine goI ?_ | (refine Cw.k_cond ?_; first | (refine Cw.cond_dec rfl (fun hc => ?_) (fun hc => ?_) <;> try (exfalso; omega)) | refine Cw.cond_bool rfl (fun hc => ?_) (fun hc => ?_)) | refine goR ?_ | refine goP ?_ | apply PSeq.cons | apply PSeq.yes rfl rfl rfl | exact goW | fail)
    obtain ⟨l', hl1, hl2⟩ := off_more hrows hog ⟨ky, gr, pr, [], []⟩ ⟨hpr, by simp, by simp⟩
    refine Fin.ret (Ent.trans (Ent.settle (s := 4) rfl goPk rfl) (Ent.strm_only goPk (by omega))) (Outs.one rfl rfl) ⟨rfl, l', congrArg (Tr.sl 5) hl1, ?_, hl2⟩
    have := congrArg List.length hl1
    simp at this; omega
  · repeat' (first | refine goH ?_ | refine goV ?_ | refine goB (fun b => ?_) | refine goC (fun ad cap => ?_) | refine goI ?_ | (refine Cw.k_cond ?_; first | (refine Cw.cond_dec rfl (fun hc => ?_) (fun hc => ?_) <;> try (exfalso; omega)) | refine Cw.cond_bool rfl (fun hc => ?_) (fun hc => ?_)) | refine goR ?_ | refine goP ?_ | apply PSeq.cons | apply PSeq.yes rfl rfl rfl | exact goW | fail)
    obtain ⟨l', hl1, hl2⟩ := off_more hrows hog ⟨ky, gr, pr, [⟨#[98]⟩, ⟨#[97]⟩], []⟩ ⟨hpr, by simp, by simp⟩
    refine Fin.ret (Ent.trans (Ent.settle (s := 4) rfl goPk rfl) (Ent.strm_only goPk (by omega))) (Outs.one rfl rfl) ⟨rfl, l', congrArg (Tr.sl 5) hl1, ?_, hl2⟩
    have := congrArg List.length hl1
    simp at this; omega
  · repeat' (first | refine goH ?_ | refine goV ?_ | refine goB (fun b => ?_) | refine goC (fun ad cap => ?_) | refine goI ?_ | (refine Cw.k_cond ?_; first | (refine Cw.cond_dec rfl (fun hc => ?_) (fun hc => ?_) <;> try (exfalso; omega)) | refine Cw.cond_bool rfl (fun hc => ?_) (fun hc => ?_)) | refine goR ?_ | refine goP ?_ | apply PSeq.cons | apply PSeq.yes rfl rfl rfl | exact goW | fail)
    obtain ⟨l', hl1, hl2⟩ := off_more hrows hog ⟨ky, gr, pr, [⟨#[]⟩], []⟩ ⟨hpr, by simp, by simp⟩
    refine Fin.ret (Ent.trans (Ent.settle (s := 4) rfl goPk rfl) (Ent.strm_only goPk (by omega))) (Outs.one rfl rfl) ⟨rfl, l', congrArg (Tr.sl 5) hl1, ?_, hl2⟩
    have := congrArg List.length hl1
    simp at this; omega
end Lg
