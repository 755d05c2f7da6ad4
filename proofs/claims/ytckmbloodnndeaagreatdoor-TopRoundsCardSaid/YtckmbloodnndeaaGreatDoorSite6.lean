/- A part of the proof of a law of this seat: it adds no condition. By an AI agent. -/
import Derived.Test.YtckmbloodnndeaaGreatDoorSess
import Derived.Test.YtckmbloodnndeaaGreatDoorMts
import Derived.Test.YtckmbloodnndeaaGreatDoorLay7
section
set_option linter.all false
set_option maxRecDepth 100000
set_option maxHeartbeats 8000000
namespace Lg
open Go Go.Proofs

/-! ### all packages do something -/
theorem even72_fn : PFn Tryz.prog 31 [.int 7, .int 2] (· = .tup [.int 4, .int 0]) := by
  have hd : PFn Tryz.prog 89 [.int 7, .int 2] (· = .int 3) := by
    refine PFn.mk (Spec.body Tryz.func89 rfl rfl (Tryz.ntmps89) rfl fun w0 own0 M => ?_)
    repeat' (first | refine goH ?_ | refine goV ?_ | refine goI ?_ | (refine Cw.k_cond ?_; first | (refine Cw.cond_dec rfl (fun hc => ?_) (fun hc => ?_) <;> try (exfalso; omega)) | refine Cw.cond_bool rfl (fun hc => ?_) (fun hc => ?_)) | fail)
    exact Fin.ret (Ent.take goTk) (Outs.one rfl rfl) ⟨rfl, rfl⟩
  have he : PFn Tryz.prog 69 [.int 7, .int 2] (· = .int 4) := by
    refine PFn.mk (Spec.body Tryz.func69 rfl rfl (Tryz.ntmps69) rfl fun w0 own0 M => ?_)
    repeat' (first | refine goH ?_ | refine goV ?_ | refine goG ?_ | (refine Ops.k_guard ?_; first | (refine Ops.guard_dec rfl rfl (fun hc => ?_) (fun hc => ?_) <;> try (exfalso; omega)) | refine Ops.guard_split rfl rfl (fun hc => ?_) (fun hc => ?_)) | refine goI ?_ | (refine Cw.k_cond ?_; first | (refine Cw.cond_dec rfl (fun hc => ?_) (fun hc => ?_) <;> try (exfalso; omega)) | refine Cw.cond_bool rfl (fun hc => ?_) (fun hc => ?_)) | (refine Ops.k_calla ?_; first | (refine Ops.k_callf 89 ?_; refine Ops.callV hd (Evs.cons rfl (Evs.cons rfl Evs.nil)) rfl ?_)) | fail)
    exact Fin.ret (Ent.take goTk) (Outs.one rfl rfl) ⟨rfl, rfl⟩
  have h1 := out_fn 7 (-1000000000000000) 1000000000000000
  have h2 := out_fn 2 1 1000000000
  rw [show outB 7 (-1000000000000000) 1000000000000000 = false by decide] at h1
  rw [show outB 2 1 1000000000 = false by decide] at h2
  refine PFn.mk (Spec.body Tryz.func31 rfl rfl (Tryz.ntmps31) rfl fun w0 own0 M => ?_)
  repeat' (first | refine goH ?_ | refine goV ?_ | refine goG ?_ | (refine Ops.k_guard ?_; first | (refine Ops.guard_dec rfl rfl (fun hc => ?_) (fun hc => ?_) <;> try (exfalso; omega)) | refine Ops.guard_split rfl rfl (fun hc => ?_) (fun hc => ?_)) | refine goI ?_ | (refine Cw.k_cond ?_; first | (refine Cw.cond_dec rfl (fun hc => ?_) (fun hc => ?_) <;> try (exfalso; omega)) | refine Cw.cond_bool rfl (fun hc => ?_) (fun hc => ?_)) | (refine Ops.k_calla ?_; first | (refine Ops.k_callf 69 ?_; refine Ops.callV he (Evs.cons rfl (Evs.cons rfl Evs.nil)) rfl ?_) | (refine Ops.k_callf 50 ?_; refine Ops.callV h1 (Evs.cons rfl (Evs.cons rfl (Evs.cons rfl Evs.nil))) rfl ?_) | (refine Ops.k_callf 50 ?_; refine Ops.callV h2 (Evs.cons rfl (Evs.cons rfl (Evs.cons rfl Evs.nil))) rfl ?_)) | fail)
  exact Fin.ret (Ent.take goTk) (Outs.two rfl rfl rfl) ⟨rfl, rfl⟩
theorem ready_fn : PFn Tryz.prog 6 [] (· = .bool true) := by
  have kT := totalX_fn [⟨10, 3, 5⟩]
  rw [show total1 [⟨10, 3, 5⟩] = (30, 0) from rfl] at kT
  have kS := share12_fn
  have kR := rate_fn [⟨1, 7, false⟩]
  rw [show rate1 [⟨1, 7, false⟩] = (⟨7, 1⟩, 0) from rfl] at kR
  have kC := count_fn [⟨⟨#[97]⟩, ⟨#[99, 97, 110]⟩, 0, 3⟩] (by simp) ⟨#[99, 97, 110]⟩
  have c1 : lotsErr [⟨⟨#[97]⟩, ⟨#[99, 97, 110]⟩, 0, 3⟩] = 0 := by decide +kernel
  have c2 : isKey ⟨#[99, 97, 110]⟩ = true := by decide +kernel
  have c3 : countI [⟨⟨#[97]⟩, ⟨#[99, 97, 110]⟩, 0, 3⟩] ⟨#[99, 97, 110]⟩ = 3 := by simp [countI, sumF]
  rw [show countErr [⟨⟨#[97]⟩, ⟨#[99, 97, 110]⟩, 0, 3⟩] ⟨#[99, 97, 110]⟩ = 0 by unfold countErr; rw [c1, c2]; rfl, c3, if_neg (by decide)] at kC
  have kW := worth_fn [⟨⟨#[97]⟩, ⟨#[103]⟩, [5], [], []⟩] ⟨by simp, by simp⟩ [1] (by simp)
  have w1 : offersE [⟨⟨#[97]⟩, ⟨#[103]⟩, [5], [], []⟩] = 0 := by decide +kernel
  have w2 : cntsE [⟨⟨#[97]⟩, ⟨#[103]⟩, [5], [], []⟩] [1] = 0 := by decide +kernel
  have w4 : worthL [⟨⟨#[97]⟩, ⟨#[103]⟩, [5], [], []⟩] [1] = 5 := by decide +kernel
  have w3 : worthE [⟨⟨#[97]⟩, ⟨#[103]⟩, [5], [], []⟩] [1] = 0 := by unfold worthE; rw [if_neg (by omega)]; exact w2
  rw [w3, w4, if_neg (by decide)] at kW
  have kF := farU_fn ⟨3, 0⟩ ⟨0, -4⟩
  rw [show farE ⟨3, 0⟩ ⟨0, -4⟩ = 0 by decide +kernel, show farI ⟨3, 0⟩ ⟨0, -4⟩ = 7 by decide +kernel, if_neg (by decide)] at kF
  unfold Spot.row at kF
  have kE := even72_fn
  have kQ : PFn Tryz.prog 32 [.sl 1 [[Tr.int 1], [Tr.int 2]], .sl 1 [[Tr.int 1], [Tr.int 2]]] (· = .bool true) := equalInts_fn [1, 2] [1, 2] (by simp) (by simp)
  have kH := session_hello
  clear c1 c2 c3 w1 w2 w3 w4
  refine PFn.mk (Spec.body Tryz.func6 rfl rfl (Tryz.ntmps6) rfl fun w0 own0 M => ?_)
  repeat' (first | refine goH ?_ | ((fail_if_success refine Ops.k_c_call ?_); refine goV ?_) | ((fail_if_success refine Ops.k_c_call ?_); refine goB (fun b => ?_)) | refine goG ?_ | (refine Ops.k_guard ?_; first | (refine Ops.guard_dec rfl rfl (fun hc => ?_) (fun hc => ?_) <;> try (exfalso; omega)) | refine Ops.guard_split rfl rfl (fun hc => ?_) (fun hc => ?_)) | refine goI ?_ | (refine Cw.k_cond ?_; first | (refine Cw.cond_dec rfl (fun hc => ?_) (fun hc => ?_) <;> try (exfalso; omega)) | refine Cw.cond_bool rfl (fun hc => ?_) (fun hc => ?_)) | (refine Ops.k_calla ?_; first | (refine Ops.k_callf 25 ?_; refine Ops.callV kT (Evs.cons rfl Evs.nil) rfl ?_) | (refine Ops.k_callf 26 ?_; refine Ops.callV kS (Evs.cons rfl (Evs.cons rfl Evs.nil)) rfl ?_) | (refine Ops.k_callf 27 ?_; refine Ops.callV kR (Evs.cons rfl Evs.nil) rfl ?_) | (refine Ops.k_callf 28 ?_; refine Ops.callV kC (Evs.cons rfl (Evs.cons rfl Evs.nil)) rfl ?_)) | fail)
  refine Ops.ent (Ent.imp (s := 42) rfl (Imp.sl1 (row' := [Tr.str ⟨#[97]⟩, Tr.str ⟨#[103]⟩, .ints [5], .strs [], .strs []]) (.cons Imp.refl (.cons Imp.refl (.cons Imp.refl (.cons Imp.nil (.cons Imp.nil .nil))))))) ?_
  repeat' (first | refine goH ?_ | (refine Ops.k_b_eql ?_; first | (first | refine Ops.val' rfl (OpV.eqlS_t rfl rfl rfl) ?_ | refine Ops.val' rfl (OpV.eql_t rfl rfl rfl) ?_)) | refine goV ?_ | refine goB (fun b => ?_) | refine goG ?_ | (refine Ops.k_guard ?_; first | (refine Ops.guard_dec rfl rfl (fun hc => ?_) (fun hc => ?_) <;> try (exfalso; omega)) | refine Ops.guard_split rfl rfl (fun hc => ?_) (fun hc => ?_)) | refine goI ?_ | (refine Cw.k_cond ?_; first | (refine Cw.cond_dec rfl (fun hc => ?_) (fun hc => ?_) <;> try (exfalso; omega)) | refine Cw.cond_bool rfl (fun hc => ?_) (fun hc => ?_)) | (refine Ops.k_calla ?_; first | (refine Ops.k_callf 29 ?_; refine Ops.callV kW (Evs.cons rfl (Evs.cons rfl Evs.nil)) rfl ?_) | (refine Ops.k_callf 30 ?_; refine Ops.callV kF (Evs.cons rfl (Evs.cons rfl Evs.nil)) rfl ?_) | (refine Ops.k_callf 31 ?_; refine Ops.callV kE (Evs.cons rfl (Evs.cons rfl Evs.nil)) rfl ?_) | (refine Ops.k_callf 32 ?_; refine Ops.callV kQ (Evs.cons rfl (Evs.cons rfl Evs.nil)) rfl ?_) | (refine Ops.k_callf 33 ?_; refine Ops.callV kH (Evs.cons rfl Evs.nil) rfl ?_)) | fail)
  all_goals exact Fin.ret (Ent.take goTk) (Outs.one rfl rfl) ⟨rfl, rfl⟩
end Lg
end
section
set_option linter.all false
set_option maxRecDepth 100000
set_option maxHeartbeats 8000000
namespace Lg
open Go Go.Proofs

abbrev anyI : Tr := Tr.intS fun _ => True
def hvT : List Tr := [Tr.raw (.slice none 0 0), .ints [5], .ints [-1], .ints [10001]]
def rtT : List Tr := [Tr.raw (.slice none 0 0), .ints [5], .ints [1000001]]
def rowS : List Tr := [Tr.strS fun _ => True, Tr.anyOf hvT, Tr.anyOf rtT]
theorem one_nil : OneT (Tr.raw (.slice none 0 0)) := ⟨fun _ _ _ h => by rw [rd_raw h]; exact ⟨rfl, rfl⟩⟩
instance : OneT (Tr.anyOf hvT) := OneT.anyOf (by
  intro t ht
  simp only [hvT, List.mem_cons, List.mem_nil_iff, or_false] at ht
  rcases ht with rfl | rfl | rfl | rfl
  · exact one_nil
  · infer_instance
  · infer_instance
  · infer_instance)
instance : OneT (Tr.anyOf rtT) := OneT.anyOf (by
  intro t ht
  simp only [rtT, List.mem_cons, List.mem_nil_iff, or_false] at ht
  rcases ht with rfl | rfl | rfl
  · exact one_nil
  · infer_instance
  · infer_instance)
theorem hvT_open : ∀ t ∈ hvT, ∃ xs : List Int, xs.length ≤ 5 ∧ Imp t (.ints xs) := by
  intro t ht
  simp only [hvT, List.mem_cons, List.mem_nil_iff, or_false] at ht
  rcases ht with rfl | rfl | rfl | rfl
  · exact ⟨[], by simp, Imp.nil⟩
  · exact ⟨[5], by simp, Imp.refl⟩
  · exact ⟨[-1], by simp, Imp.refl⟩
  · exact ⟨[10001], by simp, Imp.refl⟩
theorem rtT_open : ∀ t ∈ rtT, ∃ xs : List Int, xs.length ≤ 5 ∧ Imp t (.ints xs) := by
  intro t ht
  simp only [rtT, List.mem_cons, List.mem_nil_iff, or_false] at ht
  rcases ht with rfl | rfl | rfl
  · exact ⟨[], by simp, Imp.nil⟩
  · exact ⟨[5], by simp, Imp.refl⟩
  · exact ⟨[1000001], by simp, Imp.refl⟩
def SOk (x : Site) : Prop := x.have_.length ≤ 5 ∧ x.rate.length ≤ 5
theorem rowS_open : ∀ w A vs, RdC w A rowS vs → ∃ x : Site, SOk x ∧ RdC w A x.row vs := by
  intro w A vs h
  unfold rowS at h
  obtain ⟨a, _, rest1, rfl, h1⟩ := rdc_strS h
  obtain ⟨t, ht, h2⟩ := rdc_anyOf h1
  obtain ⟨hs, hh, hi⟩ := hvT_open t ht
  have h3 := rdc_imp h2 hi
  obtain ⟨rs, hr, h4⟩ := rdc_tail_open (p := fun r : List Int => r.length ≤ 5) (f := fun r => [.ints r]) h3 (fun vs h => by
    obtain ⟨t, ht, h2⟩ := rdc_anyOf h
    obtain ⟨rs, hr, hi⟩ := rtT_open t ht
    exact ⟨rs, hr, rdc_imp h2 hi⟩)
  exact ⟨⟨a, hs, rs⟩, ⟨hh, hr⟩, rdc_rawv rfl h4⟩
theorem rowR_open (key : ByteArray) (n : Nat) (hn : n ≤ 5) : ∀ w A vs, RdC w A [Tr.str key, Tr.sl 1 (repI n), Tr.sl 1 (repI n)] vs → ∃ x : Site, SOk x ∧ RdC w A x.row vs := by
  intro w A vs h
  obtain ⟨x, ⟨h1, h2⟩, h3⟩ := rdc_tail_open (p := fun x : List Int × List Int => x.1.length ≤ 5 ∧ x.2.length ≤ 5) (f := fun x => [.ints x.1, .ints x.2]) h (fun vs h => by
    obtain ⟨a, ha, h2⟩ := rdc_open h open_repI
    obtain ⟨b, hb, h3⟩ := rdc_tail_open (p := fun r : List Int => r.length = n) (f := fun r => [.ints r]) h2 (fun vs h => rdc_open h open_repI)
    exact ⟨(a, b), ⟨by simp only; omega, by simp only; omega⟩, h3⟩)
  exact ⟨⟨key, x.1, x.2⟩, ⟨h1, h2⟩, h3⟩
theorem site_more {rows : List (List Tr)} {l : List Site} (hrows : rows = l.map Site.row) (hl : ∀ x ∈ l, SOk x) (x : Site) (hx : SOk x) : ∃ l' : List Site, rows ++ [x.row] = l'.map Site.row ∧ ∀ y ∈ l', SOk y := by
  refine ⟨l ++ [x], by rw [hrows, List.map_append]; rfl, fun y hy => ?_⟩
  rcases List.mem_append.1 hy with h | h
  · exact hl y h
  · rw [List.mem_singleton.1 h]; exact hx

def vAdS : Value → Option Addr
  | .slice a _ _ => a
  | _ => none
def vCapS : Value → Nat
  | .slice _ _ c => c
  | _ => 0
def ownXS (s : Bool) (v : Value) (a : Option Addr) (cap i : Nat) (E : TypeId) : Chunk := match s with
  | true => Chunk.own (vAdS v) (vCapS v) 1 E (repI i ++ [[anyI]])
  | false => Chunk.own a cap 1 E (repI i)
def ownYS (s : Bool) (v : Value) (a : Option Addr) (cap : Nat) (E : TypeId) (rows : List (List Tr)) (r : List Tr) : Chunk := match s with
  | true => Chunk.own (vAdS v) (vCapS v) 3 E (rows ++ [r])
  | false => Chunk.own a cap 3 E rows
def pickTS (s : Bool) (v w : Value) : Tr := match s with
  | true => Tr.raw v
  | false => Tr.raw w
theorem sites_gen : Gen Tryz.prog 25 4 [] 60 (fun r => ∃ l : List Site, r = .sites l ∧ l.length ≤ 5 ∧ ∀ x ∈ l, SOk x) := by
  unfold Gen
  intro bs xs N hN
  refine Spec.body Tryz.func4 rfl rfl (Tryz.ntmps4) rfl fun w0 own0 M => ?_
  repeat' (first | refine goH ?_ | refine goV ?_ | refine goB (fun b => ?_) | refine goC (fun ad cap => ?_) | refine goI ?_ | (refine Cw.k_cond ?_; first | (refine Cw.cond_dec rfl (fun hc => ?_) (fun hc => ?_) <;> try (exfalso; omega)) | refine Cw.cond_bool rfl (fun hc => ?_) (fun hc => ?_)) | refine goR ?_ | refine goP ?_ | apply PSeq.cons | apply PSeq.yes rfl rfl rfl | exact goW | fail)
  refine Cw.loopI [(0, _), (7, _), (8, .int 4)] _ (fun q e cc => ∃ (k : Nat) (ad : Option Addr) (cap : Nat) (rows : List (List Tr)) (c : Nat), q = 4 - k ∧ (k ≤ 4 ∧ (∃ l : List Site, rows = l.map Site.row ∧ ∀ x ∈ l, SOk x) ∧ rows.length ≤ k ∧ c ≤ N + 10 * k) ∧ e = [(3, Tr.raw (.slice ad rows.length cap)), (9, .int k)] ∧ cc = [Chunk.own ad cap 3 40 rows, Chunk.strm 25 bs (intRows xs) c])
    ⟨_, _, _, Ent.trans (Ent.nil 3 40) (Ent.mkP goSub goPm), 0, none, 0, [], N, rfl, ⟨by omega, ⟨[], rfl, by simp⟩, by simp, by omega⟩, rfl, rfl⟩ ?_
  rintro _ _ _ ⟨k, ad, cap, rows, c, rfl, ⟨hk, ⟨l, hrows, hl⟩, hrl, h3⟩, rfl, rfl⟩
  by_cases hkl : k < 4
  · obtain ⟨y, hy⟩ : ∃ y : ByteArray, ([[Tr.str ⟨#[109, 97]⟩], [Tr.str ⟨#[109, 98]⟩], [Tr.str ⟨#[109, 99]⟩], [Tr.str ⟨#[109, 100]⟩]] : List (List Tr))[k]? = some [Tr.str y] := by
      match k, hkl with
      | 0, _ => exact ⟨_, rfl⟩
      | 1, _ => exact ⟨_, rfl⟩
      | 2, _ => exact ⟨_, rfl⟩
      | 3, _ => exact ⟨_, rfl⟩
    repeat' (first | refine goH ?_ | refine goV ?_ | refine goB (fun b => ?_) | refine goC (fun ad cap => ?_) | refine goI ?_ | (refine Cw.k_cond ?_; first | (refine Cw.cond_dec rfl (fun hc => ?_) (fun hc => ?_) <;> try (exfalso; omega)) | refine Cw.cond_bool rfl (fun hc => ?_) (fun hc => ?_)) | (refine Ops.k_calla ?_; first | (refine Ops.k_callf 21 ?_; (refine Ops.callG (flip_gen _ (by omega)) (Evs.cons rfl (Evs.cons rfl Evs.nil)) goPk (by omega) rfl ?_; rintro r ⟨v, rfl⟩)) | (refine Ops.k_callf 22 ?_; (refine Ops.callG (range_gen _ _ (by omega)) (Evs.cons rfl (Evs.cons rfl (Evs.cons rfl Evs.nil))) goPk (by omega) rfl ?_; rintro r ⟨w, rfl, hw⟩))) | refine goR ?_ | refine goP ?_ | apply PSeq.cons | apply PSeq.yes rfl rfl rfl | exact goW | fail)
    · exact ⟨_, _, _, (Ent.mk goSub goTk), ⟨k + 1, _, _, _, _, rfl, ⟨by omega, ⟨l, hrows, hl⟩, by omega, by omega⟩, rfl, rfl⟩, by omega⟩
    have hrn : rows.length = l.length := by rw [hrows]; simp
    refine Cw.loopI [(0, _), (3, _), (6, _), (7, _), (8, _), (9, _), (18, _)] _ (fun q e cc => ∃ (i : Nat) (a1 : Option Addr) (c1 : Nat) (a2 : Option Addr) (c2 : Nat) (c5 : Nat), q = 3 - i ∧ ((i : Int) ≤ w ∧ c5 ≤ c + 2 + 2 * i) ∧ e = [(19, .int i)] ∧ cc = [Chunk.box b 40 [.str y, Tr.raw (.slice a1 i c1), Tr.raw (.slice a2 i c2)], Chunk.own a1 c1 1 3 (repI i), Chunk.own a2 c2 1 3 (repI i), Chunk.strm 25 bs (intRows xs) c5])
      ⟨_, _, _, Ent.trans (Ent.nil 1 3) (Ent.trans (Ent.nil 1 3) (Ent.mkP goSub goPm)), 0, none, 0, none, 0, _, rfl, ⟨by omega, by omega⟩, rfl, rfl⟩ ?_
    rintro _ _ _ ⟨i, a1, c1, a2, c2, c5, rfl, ⟨hi, hc5⟩, rfl, rfl⟩
    have hri := repI_len i
    by_cases hil : (i : Int) < w
    · repeat' (first | refine goH ?_ | refine goV ?_ | refine goB (fun b => ?_) | refine goC (fun ad cap => ?_) | refine goI ?_ | (refine Cw.k_cond ?_; first | (refine Cw.cond_dec rfl (fun hc => ?_) (fun hc => ?_) <;> try (exfalso; omega)) | refine Cw.cond_bool rfl (fun hc => ?_) (fun hc => ?_)) | fail)
      refine Cw.region_X (fun ξ S => [Chunk.box b 40 [.str y, pickTS (S 15) (ξ 6) (.slice a1 i c1), pickTS (S 17) (ξ 13) (.slice a2 i c2)], ownXS (S 6) (ξ 6) a1 c1 i 3, ownXS (S 13) (ξ 13) a2 c2 i 3, Chunk.strm 25 bs (intRows xs) (c5 + (b2n (S 4) + b2n (S 11))), Chunk.own ad cap 3 40 rows]) rfl (by decide +kernel) rfl (fun _ => rfl) ?_
      apply XSeq.w (by intro _ _ _; rfl)
      · intro ξ S h1 h2 h3 h4; exact goW
      apply XSeq.w (t := Tr.raw (.slice a1 i c1)) (by intro _ _ _; rfl)
      · intro ξ S h1 h2 h3 h4
        have e6 := closed_false h1 h3 (k := 6) rfl (by decide)
        have e15 := closed_false e6 h3 (k := 15) rfl (by decide)
        show OpW _ _ _ _ _ [Chunk.box b 40 [.str y, pickTS (S 15) _ _, pickTS (S 17) _ _], _, _, _, _] _
        rw [e15]
        exact goW
      apply XSeq.w (by intro _ _ _; rfl)
      · intro ξ S h1 h2 h3 h4; exact goW
      apply XSeq.w (by intro _ _ _; rfl)
      · intro ξ S h1 h2 h3 h4; exact goW
      apply XSeq.callG (t := anyI) (pick_gen (l := [0, 1, 3, 10]) (by repeat' (first | exact IsInts.nil | apply IsInts.cons)) (by simp)) (fun _ => (Evs.cons rfl (Evs.cons rfl Evs.nil))) (by rintro r ⟨v, rfl, _⟩; exact Imp.intS trivial)
      · intro ξ S h1 h3
        have q1 := b2n_le (S 4)
        have q2 := b2n_le (S 11)
        refine ⟨c5 + (b2n (S 4) + b2n (S 11)), _, by omega, (by exact pickS (pickS (pickS pick0))), fun v => (show List.Perm _ _ from by exact pickS (pickS (pickS pick0))).trans (perm_strm ?_)⟩
        show c5 + (b2n true + b2n (S 11)) = _
        rw [h1]; simp only [b2n]; omega
      apply XSeq.w (by intro _ _ _; rfl)
      · intro ξ S h1 h2 h3 h4; exact goW
      apply XSeq.append (i + 1)
      · intro ξ S h1 h2 h3 h4
        have e15 := closed_false h1 h3 (k := 15) rfl (by decide)
        refine ⟨a1, i, c1, repI i, [[anyI]], [Chunk.box b 40 [.str y, Tr.raw (.slice a1 i c1), pickTS (S 17) (ξ 13) (.slice a2 i c2)], ownXS (S 13) (ξ 13) a2 c2 i 3, Chunk.strm 25 bs (intRows xs) (c5 + (b2n (S 4) + b2n (S 11))), Chunk.own ad cap 3 40 rows], rfl, rfl, ?_, (repI_len i).symm, by rw [repI_len]; rfl, by rw [repI_len, List.length_singleton]; omega, by rw [repI_len, List.length_singleton]; omega, fun ad' cap' => ?_⟩
        rotate_left
        · show [Chunk.box b 40 [.str y, pickTS (S 15) (.slice ad' (repI i ++ [[anyI]]).length cap') (.slice a1 i c1), pickTS (S 17) (ξ 13) (.slice a2 i c2)], ownXS true (.slice ad' (repI i ++ [[anyI]]).length cap') a1 c1 i 3, ownXS (S 13) (ξ 13) a2 c2 i 3, Chunk.strm 25 bs (intRows xs) (c5 + (b2n (S 4) + b2n (S 11))), Chunk.own ad cap 3 40 rows].Perm _
          rw [e15]
          exact pickS pick0
        · show [Chunk.box b 40 [.str y, pickTS (S 15) (ξ 6) (.slice a1 i c1), pickTS (S 17) (ξ 13) (.slice a2 i c2)], ownXS (S 6) (ξ 6) a1 c1 i 3, ownXS (S 13) (ξ 13) a2 c2 i 3, Chunk.strm 25 bs (intRows xs) (c5 + (b2n (S 4) + b2n (S 11))), Chunk.own ad cap 3 40 rows].Perm _
          rw [e15, h1]
          exact pickS pick0
      apply XSeq.w (by intro _ _ _; rfl)
      · intro ξ S h1 h2 h3 h4; exact goW
      apply XSeq.w (t := Tr.raw (.slice a2 i c2)) (by intro _ _ _; rfl)
      · intro ξ S h1 h2 h3 h4
        have e6 := closed_false h1 h3 (k := 13) rfl (by decide)
        have e15 := closed_false e6 h3 (k := 17) rfl (by decide)
        show OpW _ _ _ _ _ [Chunk.box b 40 [.str y, pickTS (S 15) _ _, pickTS (S 17) _ _], _, _, _, _] _
        rw [e15]
        exact goW
      apply XSeq.w (by intro _ _ _; rfl)
      · intro ξ S h1 h2 h3 h4; exact goW
      apply XSeq.w (by intro _ _ _; rfl)
      · intro ξ S h1 h2 h3 h4; exact goW
      apply XSeq.callG (t := anyI) (pick_gen (l := [0, 10, 40, 100, 1000]) (by repeat' (first | exact IsInts.nil | apply IsInts.cons)) (by simp)) (fun _ => (Evs.cons rfl (Evs.cons rfl Evs.nil))) (by rintro r ⟨v, rfl, _⟩; exact Imp.intS trivial)
      · intro ξ S h1 h3
        have q1 := b2n_le (S 4)
        have q2 := b2n_le (S 11)
        refine ⟨c5 + (b2n (S 4) + b2n (S 11)), _, by omega, (by exact pickS (pickS (pickS pick0))), fun v => (show List.Perm _ _ from by exact pickS (pickS (pickS pick0))).trans (perm_strm ?_)⟩
        show c5 + (b2n (S 4) + b2n true) = _
        rw [h1]; simp only [b2n]; omega
      apply XSeq.w (by intro _ _ _; rfl)
      · intro ξ S h1 h2 h3 h4; exact goW
      apply XSeq.append (i + 1)
      · intro ξ S h1 h2 h3 h4
        have e15 := closed_false h1 h3 (k := 17) rfl (by decide)
        refine ⟨a2, i, c2, repI i, [[anyI]], [Chunk.box b 40 [.str y, pickTS (S 15) (ξ 6) (.slice a1 i c1), Tr.raw (.slice a2 i c2)], ownXS (S 6) (ξ 6) a1 c1 i 3, Chunk.strm 25 bs (intRows xs) (c5 + (b2n (S 4) + b2n (S 11))), Chunk.own ad cap 3 40 rows], rfl, rfl, ?_, (repI_len i).symm, by rw [repI_len]; rfl, by rw [repI_len, List.length_singleton]; omega, by rw [repI_len, List.length_singleton]; omega, fun ad' cap' => ?_⟩
        rotate_left
        · show [Chunk.box b 40 [.str y, pickTS (S 15) (ξ 6) (.slice a1 i c1), pickTS (S 17) (.slice ad' (repI i ++ [[anyI]]).length cap') (.slice a2 i c2)], ownXS (S 6) (ξ 6) a1 c1 i 3, ownXS true (.slice ad' (repI i ++ [[anyI]]).length cap') a2 c2 i 3, Chunk.strm 25 bs (intRows xs) (c5 + (b2n (S 4) + b2n (S 11))), Chunk.own ad cap 3 40 rows].Perm _
          rw [e15]
          exact pickS (pickS pick0)
        · show [Chunk.box b 40 [.str y, pickTS (S 15) (ξ 6) (.slice a1 i c1), pickTS (S 17) (ξ 13) (.slice a2 i c2)], ownXS (S 6) (ξ 6) a1 c1 i 3, ownXS (S 13) (ξ 13) a2 c2 i 3, Chunk.strm 25 bs (intRows xs) (c5 + (b2n (S 4) + b2n (S 11))), Chunk.own ad cap 3 40 rows].Perm _
          rw [e15, h1]
          exact pickS (pickS pick0)
      apply XSeq.w (by intro _ _ _; rfl)
      · intro ξ S h1 h2 h3 h4; exact goW
      apply XSeq.store
      · intro ξ S h1 h2 h3 h4
        obtain ⟨ad2, cap2, hb⟩ : ∃ ad cap, ξ 6 = .slice ad (i + 1) cap := h4 6 (h2 6 (by decide))
        obtain ⟨ξ, rfl⟩ := exists_upd hb
        refine ⟨b, 1, 40, [.str y, Tr.raw (.slice a1 i c1), pickTS (S 17) (ξ 13) (.slice a2 i c2)], [Tr.raw (.slice ad2 (i + 1) cap2)], Tr.raw (.slice ad2 (i + 1) cap2), [ownXS (S 6) (.slice ad2 (i + 1) cap2) a1 c1 i 3, ownXS (S 13) (ξ 13) a2 c2 i 3, Chunk.strm 25 bs (intRows xs) (c5 + (b2n (S 4) + b2n (S 11))), Chunk.own ad cap 3 40 rows], rfl, rfl, inferInstance, ?_, rfl, Nat.le_of_ble_eq_true rfl, ?_⟩
        rotate_left
        · show [Chunk.box b 40 [.str y, pickTS true (.slice ad2 (i + 1) cap2) (.slice a1 i c1), pickTS (S 17) (ξ 13) (.slice a2 i c2)], ownXS (S 6) (.slice ad2 (i + 1) cap2) a1 c1 i 3, ownXS (S 13) (ξ 13) a2 c2 i 3, Chunk.strm 25 bs (intRows xs) (c5 + (b2n (S 4) + b2n (S 11))), Chunk.own ad cap 3 40 rows].Perm _
          exact pick0
        · show [Chunk.box b 40 [.str y, pickTS (S 15) (.slice ad2 (i + 1) cap2) (.slice a1 i c1), pickTS (S 17) (ξ 13) (.slice a2 i c2)], ownXS (S 6) (.slice ad2 (i + 1) cap2) a1 c1 i 3, ownXS (S 13) (ξ 13) a2 c2 i 3, Chunk.strm 25 bs (intRows xs) (c5 + (b2n (S 4) + b2n (S 11))), Chunk.own ad cap 3 40 rows].Perm _
          rw [h1]
          exact pick0
      apply XSeq.w (by intro _ _ _; rfl)
      · intro ξ S h1 h2 h3 h4; exact goW
      apply XSeq.store
      · intro ξ S h1 h2 h3 h4
        obtain ⟨ad2, cap2, hb⟩ : ∃ ad cap, ξ 13 = .slice ad (i + 1) cap := h4 13 (h2 13 (by decide))
        obtain ⟨ξ, rfl⟩ := exists_upd hb
        refine ⟨b, 2, 40, [.str y, pickTS (S 15) (ξ 6) (.slice a1 i c1), Tr.raw (.slice a2 i c2)], [Tr.raw (.slice ad2 (i + 1) cap2)], Tr.raw (.slice ad2 (i + 1) cap2), [ownXS (S 6) (ξ 6) a1 c1 i 3, ownXS (S 13) (.slice ad2 (i + 1) cap2) a2 c2 i 3, Chunk.strm 25 bs (intRows xs) (c5 + (b2n (S 4) + b2n (S 11))), Chunk.own ad cap 3 40 rows], rfl, rfl, inferInstance, ?_, rfl, Nat.le_of_ble_eq_true rfl, ?_⟩
        rotate_left
        · show [Chunk.box b 40 [.str y, pickTS (S 15) (ξ 6) (.slice a1 i c1), pickTS true (.slice ad2 (i + 1) cap2) (.slice a2 i c2)], ownXS (S 6) (ξ 6) a1 c1 i 3, ownXS (S 13) (.slice ad2 (i + 1) cap2) a2 c2 i 3, Chunk.strm 25 bs (intRows xs) (c5 + (b2n (S 4) + b2n (S 11))), Chunk.own ad cap 3 40 rows].Perm _
          exact pick0
        · show [Chunk.box b 40 [.str y, pickTS (S 15) (ξ 6) (.slice a1 i c1), pickTS (S 17) (.slice ad2 (i + 1) cap2) (.slice a2 i c2)], ownXS (S 6) (ξ 6) a1 c1 i 3, ownXS (S 13) (.slice ad2 (i + 1) cap2) a2 c2 i 3, Chunk.strm 25 bs (intRows xs) (c5 + (b2n (S 4) + b2n (S 11))), Chunk.own ad cap 3 40 rows].Perm _
          rw [h1]
          exact pick0
      refine XSeq.nil fun ξ hf => ?_
      obtain ⟨d1, e1, hb1⟩ : ∃ ad cap, ξ 6 = .slice ad (i + 1) cap := hf 6
      obtain ⟨ξ, rfl⟩ := exists_upd hb1
      obtain ⟨d2, e2, hb2⟩ : ∃ ad cap, ξ 13 = .slice ad (i + 1) cap := hf 13
      obtain ⟨ξ, rfl⟩ := exists_upd hb2
      clear hf
      refine ⟨[(0, _), (3, _), (6, _), (7, _), (8, _), (9, _), (18, _), (19, _)], [Chunk.box b 40 [.str y, Tr.raw (.slice d1 (i + 1) e1), Tr.raw (.slice d2 (i + 1) e2)], Chunk.own d1 e1 1 3 (repI i ++ [[anyI]]), Chunk.own d2 e2 1 3 (repI i ++ [[anyI]]), Chunk.strm 25 bs (intRows xs) (c5 + 2), Chunk.own ad cap 3 40 rows], Ent.sub goSub, ?_⟩
      rw [repI_succ]
      repeat' (first | refine goH ?_ | refine goV ?_ | refine goB (fun b => ?_) | refine goC (fun ad cap => ?_) | refine goI ?_ | (refine Cw.k_cond ?_; first | (refine Cw.cond_dec rfl (fun hc => ?_) (fun hc => ?_) <;> try (exfalso; omega)) | refine Cw.cond_bool rfl (fun hc => ?_) (fun hc => ?_)) | refine goR ?_ | refine goP ?_ | apply PSeq.cons | apply PSeq.yes rfl rfl rfl | exact goW | fail)
      exact ⟨_, _, _, (Ent.mk goSub goTk), ⟨i + 1, _, _, _, _, _, rfl, ⟨by omega, by omega⟩, rfl, rfl⟩, by omega⟩
    · have hiw : i ≤ 5 := by omega
      refine Cw.ent (Ent.settle_box (b := b) (ty := 40) (i := 1) (kk := 1) (rows := repI i) (ts' := [.str y, Tr.sl 1 (repI i), Tr.raw (.slice a2 i c2)]) (by exact Perm.cons' goPk (Perm.cons' goPk (List.Perm.refl _))) rfl (repI_len i).symm rfl) ?_
      refine Cw.ent (Ent.settle_box (b := b) (ty := 40) (i := 2) (kk := 1) (rows := repI i) (ts' := [.str y, Tr.sl 1 (repI i), Tr.sl 1 (repI i)]) (by exact Perm.cons' goPk (Perm.cons' goPk (List.Perm.refl _))) rfl (repI_len i).symm rfl) ?_
      refine Cw.open_box (p := SOk) (f := fun x : Site => [.str x.key, .ints x.have_, .ints x.rate]) (by exact Perm.cons' goPk (List.Perm.refl _)) (rowR_open y i hiw) ?_
      intro x hx
      repeat' (first | refine goH ?_ | refine goV ?_ | refine goB (fun b => ?_) | refine goC (fun ad cap => ?_) | refine goI ?_ | (refine Cw.k_cond ?_; first | (refine Cw.cond_dec rfl (fun hc => ?_) (fun hc => ?_) <;> try (exfalso; omega)) | refine Cw.cond_bool rfl (fun hc => ?_) (fun hc => ?_)) | refine goR ?_ | refine goP ?_ | apply PSeq.cons | apply PSeq.yes rfl rfl rfl | exact goW | fail)
      exact ⟨_, _, _, (Ent.mk goSub goTk), ⟨k + 1, _, _, _, _, rfl, ⟨by omega, site_more hrows hl x hx, by simp only [List.length_append, List.length_cons, List.length_nil]; omega, by omega⟩, rfl, rfl⟩, by omega⟩
  · repeat' (first | refine goH ?_ | refine goV ?_ | refine goB (fun b => ?_) | refine goC (fun ad cap => ?_) | refine goI ?_ | (refine Cw.k_cond ?_; first | (refine Cw.cond_dec rfl (fun hc => ?_) (fun hc => ?_) <;> try (exfalso; omega)) | refine Cw.cond_bool rfl (fun hc => ?_) (fun hc => ?_)) | (refine Ops.k_calla ?_; first | (refine Ops.k_callf 21 ?_; (refine Ops.callG (flip_gen _ (by omega)) (Evs.cons rfl (Evs.cons rfl Evs.nil)) goPk (by omega) rfl ?_; rintro r ⟨v, rfl⟩))) | fail)
    rotate_left
    · exact Fin.ret (Ent.trans (Ent.settle (s := 2) rfl goPk rfl) (Ent.strm_only goPk (by omega))) (Outs.one rfl rfl) ⟨rfl, l, congrArg (Tr.sl 3) hrows, by have := congrArg List.length hrows; rw [List.length_map] at this; omega, hl⟩
    have cnt : ∀ S : Nat → Bool, b2n (S 3) ≤ 1 ∧ b2n (S 9) ≤ 1 ∧ b2n (S 16) ≤ 1 := fun S => ⟨b2n_le _, b2n_le _, b2n_le _⟩
    refine Cw.region_X (fun ξ S => [Chunk.strm 25 bs (intRows xs) (c + 1 + (b2n (S 3) + b2n (S 9) + b2n (S 16))), ownYS (S 21) (ξ 21) ad cap 40 rows rowS]) rfl (by decide +kernel) rfl (fun _ => rfl) ?_
    apply XSeq.w (by intro _ _ _; rfl)
    · intro ξ S h1 h2 h3 h4; exact goW
    apply XSeq.w (by intro _ _ _; rfl)
    · intro ξ S h1 h2 h3 h4; exact goW
    apply XSeq.w (by intro _ _ _; rfl)
    · intro ξ S h1 h2 h3 h4; exact goW
    apply XSeq.callG (t := Tr.strS fun _ => True) (one_gen (l := [⟨#[]⟩, ⟨#[109, 97]⟩, ⟨#[122, 122]⟩]) (by repeat' (first | exact IsStrs.nil | apply IsStrs.cons)) (by simp)) (fun _ => (Evs.cons rfl (Evs.cons rfl Evs.nil))) (by rintro r ⟨v, rfl, _⟩; exact Imp.strS trivial)
    · intro ξ S h1 h3
      have hb := cnt S
      refine ⟨_, _, ?_, List.Perm.refl _, fun v => perm_strm ?_⟩
      · omega
      · show c + 1 + (b2n true + b2n (S 9) + b2n (S 16)) = _
        rw [h1]; simp only [b2n]; omega
    apply XSeq.w (by intro _ _ _; rfl)
    · intro ξ S h1 h2 h3 h4; exact goW
    apply XSeq.w (by intro _ _ _; rfl)
    · intro ξ S h1 h2 h3 h4; exact goW
    apply XSeq.w (by intro _ _ _; rfl)
    · intro ξ S h1 h2 h3 h4; exact goW
    apply XSeq.w (by intro _ _ _; rfl)
    · intro ξ S h1 h2 h3 h4; exact goW
    apply XSeq.w (by intro _ _ _; rfl)
    · intro ξ S h1 h2 h3 h4; exact goW
    apply XSeq.callG (t := Tr.intS fun x => 0 ≤ x ∧ x < 4) (next_gen 4 (by omega)) (fun _ => (Evs.cons rfl (Evs.cons rfl Evs.nil))) (by rintro r ⟨v, rfl, h⟩; unfold InRange at h; exact Imp.intS (by omega))
    · intro ξ S h1 h3
      have hb := cnt S
      refine ⟨_, _, ?_, List.Perm.refl _, fun v => perm_strm ?_⟩
      · omega
      · show c + 1 + (b2n (S 3) + b2n true + b2n (S 16)) = _
        rw [h1]; simp only [b2n]; omega
    apply XSeq.w (t := Tr.anyOf (hvT.map fun t => Tr.ref [t])) (by intro _ _ _; rfl)
    · intro ξ S h1 h2 h3 h4
      apply OpV.w
      refine OpV.openS (s := 54) rfl open_intS ?_
      intro x hx
      rcases (show x = 0 ∨ x = 1 ∨ x = 2 ∨ x = 3 by omega) with rfl | rfl | rfl | rfl
      · exact OpV.imp (OpV.indexAddr_sl (r := [Tr.raw (.slice none 0 0)]) rfl rfl (by omega) rfl) (Imp.any_of (by simp [hvT]))
      · exact OpV.imp (OpV.indexAddr_sl (r := [.ints [5]]) rfl rfl (by omega) rfl) (Imp.any_of (by simp [hvT]))
      · exact OpV.imp (OpV.indexAddr_sl (r := [.ints [-1]]) rfl rfl (by omega) rfl) (Imp.any_of (by simp [hvT]))
      · exact OpV.imp (OpV.indexAddr_sl (r := [.ints [10001]]) rfl rfl (by omega) rfl) (Imp.any_of (by simp [hvT]))
    apply XSeq.w (t := Tr.anyOf hvT) (by intro _ _ _; rfl)
    · intro ξ S h1 h2 h3 h4
      apply OpV.w
      refine OpV.openS (s := 55) rfl open_anyOf ?_
      intro t ht
      obtain ⟨u, hu, rfl⟩ := List.mem_map.1 ht
      exact OpV.imp (OpV.load_ref_one rfl) (Imp.any_of hu)
    apply XSeq.w (by intro _ _ _; rfl)
    · intro ξ S h1 h2 h3 h4; exact goW
    apply XSeq.w (by intro _ _ _; rfl)
    · intro ξ S h1 h2 h3 h4; exact goW
    apply XSeq.w (by intro _ _ _; rfl)
    · intro ξ S h1 h2 h3 h4; exact goW
    apply XSeq.w (by intro _ _ _; rfl)
    · intro ξ S h1 h2 h3 h4; exact goW
    apply XSeq.callG (t := Tr.intS fun x => 0 ≤ x ∧ x < 3) (next_gen 3 (by omega)) (fun _ => (Evs.cons rfl (Evs.cons rfl Evs.nil))) (by rintro r ⟨v, rfl, h⟩; unfold InRange at h; exact Imp.intS (by omega))
    · intro ξ S h1 h3
      have hb := cnt S
      refine ⟨_, _, ?_, List.Perm.refl _, fun v => perm_strm ?_⟩
      · omega
      · show c + 1 + (b2n (S 3) + b2n (S 9) + b2n true) = _
        rw [h1]; simp only [b2n]; omega
    apply XSeq.w (t := Tr.anyOf (rtT.map fun t => Tr.ref [t])) (by intro _ _ _; rfl)
    · intro ξ S h1 h2 h3 h4
      apply OpV.w
      refine OpV.openS (s := 61) rfl open_intS ?_
      intro x hx
      rcases (show x = 0 ∨ x = 1 ∨ x = 2 by omega) with rfl | rfl | rfl
      · exact OpV.imp (OpV.indexAddr_sl (r := [Tr.raw (.slice none 0 0)]) rfl rfl (by omega) rfl) (Imp.any_of (by simp [rtT]))
      · exact OpV.imp (OpV.indexAddr_sl (r := [.ints [5]]) rfl rfl (by omega) rfl) (Imp.any_of (by simp [rtT]))
      · exact OpV.imp (OpV.indexAddr_sl (r := [.ints [1000001]]) rfl rfl (by omega) rfl) (Imp.any_of (by simp [rtT]))
    apply XSeq.w (t := Tr.anyOf rtT) (by intro _ _ _; rfl)
    · intro ξ S h1 h2 h3 h4
      apply OpV.w
      refine OpV.openS (s := 62) rfl open_anyOf ?_
      intro t ht
      obtain ⟨u, hu, rfl⟩ := List.mem_map.1 ht
      exact OpV.imp (OpV.load_ref_one rfl) (Imp.any_of hu)
    apply XSeq.w (t := .agg rowS) (by intro _ _ _; rfl)
    · intro ξ S h1 h2 h3 h4; exact goW
    apply XSeq.w (t := .sl 3 [rowS]) (by intro _ _ _; rfl)
    · intro ξ S h1 h2 h3 h4; exact goW
    apply XSeq.append (rows.length + 1)
    · intro ξ S h1 h2 h3 h4
      refine ⟨ad, rows.length, cap, rows, [rowS], [Chunk.strm 25 bs (intRows xs) (c + 1 + (b2n (S 3) + b2n (S 9) + b2n (S 16)))], rfl, rfl, ?_, rfl, rfl, by rw [List.length_singleton]; omega, by rw [List.length_singleton]; omega, fun ad' cap' => ?_⟩
      · show [_, ownYS (S 21) (ξ 21) ad cap 40 rows rowS].Perm _
        rw [h1]
        exact List.Perm.swap _ _ _
      · exact List.Perm.swap _ _ _
    apply XSeq.copy (m := 21) (s := 66) (by decide) (by intro _ _ _; rfl) (.inr rfl) (fun _ => rfl) (by decide)
    refine XSeq.nil fun ξ hf => ?_
    have h22 : ξ 22 = ξ 21 := hf 22
    obtain ⟨d1, e1, hb1⟩ : ∃ ad cap, ξ 21 = .slice ad (rows.length + 1) cap := hf 21
    rw [hb1] at h22
    obtain ⟨ξ, rfl⟩ := exists_upd h22
    replace hb1 : ξ 21 = .slice d1 (rows.length + 1) e1 := hb1
    obtain ⟨ξ, rfl⟩ := exists_upd hb1
    clear hf
    refine ⟨[(3, Tr.raw (.slice d1 (rows.length + 1) e1))], [Chunk.strm 25 bs (intRows xs) (c + 4), Chunk.own d1 e1 3 40 (rows ++ [rowS])], Ent.sub goSub, ?_⟩
    refine Then.norm ?_
    refine Cw.open_own (p := SOk) (f := Site.row) (by exact Perm.cons' goPk (List.Perm.refl _)) (fun _ => rfl) rowS_open ?_
    intro x hx
    repeat' (first | refine goH ?_ | refine goV ?_ | refine goB (fun b => ?_) | refine goC (fun ad cap => ?_) | refine goI ?_ | (refine Cw.k_cond ?_; first | (refine Cw.cond_dec rfl (fun hc => ?_) (fun hc => ?_) <;> try (exfalso; omega)) | refine Cw.cond_bool rfl (fun hc => ?_) (fun hc => ?_)) | refine goR ?_ | refine goP ?_ | apply PSeq.cons | apply PSeq.yes rfl rfl rfl | exact goW | fail)
    obtain ⟨l', hl1, hl2⟩ := site_more hrows hl x hx
    exact Fin.ret (Ent.trans (Ent.settle (s := 2) rfl goPk (by simp)) (Ent.strm_only goPk (by omega))) (Outs.one rfl rfl) ⟨rfl, l', congrArg (Tr.sl 3) hl1, by have := congrArg List.length hl1; simp at this; omega, hl2⟩
end Lg
end
