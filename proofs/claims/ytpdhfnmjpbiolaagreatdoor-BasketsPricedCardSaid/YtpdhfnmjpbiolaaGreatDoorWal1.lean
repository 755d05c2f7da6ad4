/- A part of the proof of a law of this seat: it adds no condition. By an AI agent. -/
import Derived.Test.YtpdhfnmjpbiolaaGreatDoorBk7
section
set_option linter.all false
set_option maxRecDepth 100000
set_option maxHeartbeats 4000000
namespace Lg
open Go Go.Proofs

section cat
variable {P : Program} {Γ : Ctx} {env : Env} {cs : List Chunk} {x y : Operand} {T T2 ty : TypeId} {s u : ByteArray}
theorem OpV.catK (hx : ev env x = some (.str s)) (hy : ev env y = some (.str u)) (hz : s.size + u.size ≤ 1000000) : OpV P Γ (.binOp .add T x y T2) ty env cs (.str (s ++ u)) :=
  OpV.binS hx hy (by simp only [Op.stringOp]; rw [if_neg (by have : IntKind.i64.max = 9223372036854775807 := rfl; omega)])
end cat
theorem enc_catK (c : UInt8) (p : Int) : (⟨#[c]⟩ : ByteArray).size + (Utf8.encode p).size ≤ 1000000 := by
  have h : (Utf8.encode p).size ≤ 4 := by
    unfold Utf8.encode
    dsimp only
    repeat' split
    all_goals simp [ByteArray.size]
  have h1 : (⟨#[c]⟩ : ByteArray).size = 1 := rfl
  omega
theorem basket_gen : Gen Tryz.prog 25 5 [] 20 (fun r => ∃ l : List Nm, r = .nms l ∧ l.length ≤ 6) := by
  unfold Gen
  intro b xs N hN
  refine Spec.body Tryz.func5 rfl rfl (Tryz.ntmps5) rfl fun w0 own0 M => ?_
  repeat' (first | refine goH ?_ | refine goV ?_ | refine goC (fun ad cap => ?_) | refine goI ?_ | (refine Cw.k_cond ?_; first | (refine Cw.cond_dec rfl (fun hc => ?_) (fun hc => ?_) <;> try (exfalso; omega)) | refine Cw.cond_bool rfl (fun hc => ?_) (fun hc => ?_)) | fail)
  refine Cw.loopI [(0, _), (6, _), (7, .int 5)] _ (fun q e cc => ∃ (k : Nat) (ad : Option Addr) (cap : Nat) (gs : List Nm) (c : Nat), q = 5 - k ∧ (k ≤ 5 ∧ gs.length ≤ k ∧ c ≤ N + 2 * k) ∧ e = [(3, Tr.raw (.slice ad (gs.map Nm.row).length cap)), (8, .int k)] ∧ cc = [Chunk.own ad cap 2 50 (gs.map Nm.row), Chunk.strm 25 b (intRows xs) c])
    ⟨_, _, _, Ent.trans (Ent.nil 2 50) (Ent.mkP goSub goPm), 0, none, 0, [], N, rfl, ⟨by omega, by simp, by omega⟩, rfl, rfl⟩ ?_
  rintro _ _ _ ⟨k, ad, cap, gs, c, rfl, ⟨hk, hlen, h3⟩, rfl, rfl⟩
  have hrl : (gs.map Nm.row).length = gs.length := List.length_map _
  have key : ∀ (s : ByteArray) (a : Int), gs.map Nm.row ++ [[Tr.str s, Tr.int a]] = (gs ++ [Nm.mk s a]).map Nm.row := by intro s a; rw [List.map_append]; rfl
  by_cases hkl : k < 5
  · obtain ⟨y, hy⟩ : ∃ y : ByteArray, ([[Tr.str ⟨#[98, 97, 114]⟩], [Tr.str ⟨#[99, 97, 107, 101]⟩], [Tr.str ⟨#[110, 117, 116, 115]⟩], [Tr.str ⟨#[112, 105, 101]⟩], [Tr.str ⟨#[119, 97, 116, 101, 114]⟩]] : List (List Tr))[k]? = some [Tr.str y] := by
      match k, hkl with
      | 0, _ => exact ⟨_, rfl⟩
      | 1, _ => exact ⟨_, rfl⟩
      | 2, _ => exact ⟨_, rfl⟩
      | 3, _ => exact ⟨_, rfl⟩
      | 4, _ => exact ⟨_, rfl⟩
    repeat' (first | refine goH ?_ | refine goV ?_ | refine goC (fun ad cap => ?_) | refine goI ?_ | (refine Cw.k_cond ?_; first | (refine Cw.cond_dec rfl (fun hc => ?_) (fun hc => ?_) <;> try (exfalso; omega)) | refine Cw.cond_bool rfl (fun hc => ?_) (fun hc => ?_)) | (refine Ops.k_calla ?_; first | (refine Ops.k_callf 16 ?_; (refine Ops.callG (flip_gen _ (by omega)) (Evs.cons rfl (Evs.cons rfl Evs.nil)) goPk (by omega) rfl ?_; rintro r ⟨v, rfl⟩)) | (refine Ops.k_callf 17 ?_; (refine Ops.callG (pick_gen (by repeat' (first | exact IsInts.nil | apply IsInts.cons)) (by simp)) (Evs.cons rfl (Evs.cons rfl Evs.nil)) goPk (by omega) rfl ?_; rintro r ⟨v, rfl, hv⟩; clear hv))) | fail)
    all_goals first
      | (rw [key]; exact ⟨_, _, _, (Ent.mk goSub goTk), ⟨k + 1, _, _, gs ++ [_], _, rfl, ⟨by omega, by rw [List.length_append]; simp; omega, by omega⟩, rfl, rfl⟩, by omega⟩)
      | exact ⟨_, _, _, (Ent.mk goSub goTk), ⟨k + 1, _, _, gs, _, rfl, ⟨by omega, by omega, by omega⟩, rfl, rfl⟩, by omega⟩
  · repeat' (first | refine goH ?_ | refine goV ?_ | refine goC (fun ad cap => ?_) | refine goI ?_ | (refine Cw.k_cond ?_; first | (refine Cw.cond_dec rfl (fun hc => ?_) (fun hc => ?_) <;> try (exfalso; omega)) | refine Cw.cond_bool rfl (fun hc => ?_) (fun hc => ?_)) | (refine Ops.k_calla ?_; first | (refine Ops.k_callf 16 ?_; (refine Ops.callG (flip_gen _ (by omega)) (Evs.cons rfl (Evs.cons rfl Evs.nil)) goPk (by omega) rfl ?_; rintro r ⟨v, rfl⟩)) | (refine Ops.k_callf 17 ?_; (refine Ops.callG (pick_gen (by repeat' (first | exact IsInts.nil | apply IsInts.cons)) (by simp)) (Evs.cons rfl (Evs.cons rfl Evs.nil)) goPk (by omega) rfl ?_; rintro r ⟨v, rfl, hv⟩; clear hv)) | (refine Ops.k_callf 18 ?_; (refine Ops.callG (one_gen (by repeat' (first | exact IsStrs.nil | apply IsStrs.cons)) (by simp)) (Evs.cons rfl (Evs.cons rfl Evs.nil)) goPk (by omega) rfl ?_; rintro r ⟨w, rfl, hw⟩; clear hw))) | fail)
    · refine Fin.ret (Ent.trans (Ent.settle (s := 2) rfl goPk rfl) (Ent.strm_only goPk (by omega))) (Outs.one rfl rfl) ⟨rfl, _, congrArg (Tr.sl 2) (key _ _), ?_⟩
      rw [List.length_append]; simp; omega
    · refine Fin.ret (Ent.trans (Ent.settle (s := 2) rfl goPk rfl) (Ent.strm_only goPk (by omega))) (Outs.one rfl rfl) ⟨rfl, _, rfl, ?_⟩
      omega

theorem wares_gen : Gen Tryz.prog 25 4 [] 30 (fun r => ∃ l : List Wr, r = .wrs l ∧ l.length ≤ 6) := by
  unfold Gen
  intro b xs N hN
  refine Spec.body Tryz.func4 rfl rfl (Tryz.ntmps4) rfl fun w0 own0 M => ?_
  repeat' (first | refine goH ?_ | refine goV ?_ | refine goC (fun ad cap => ?_) | refine goI ?_ | (refine Cw.k_cond ?_; first | (refine Cw.cond_dec rfl (fun hc => ?_) (fun hc => ?_) <;> try (exfalso; omega)) | refine Cw.cond_bool rfl (fun hc => ?_) (fun hc => ?_)) | fail)
  refine Cw.loopI [(0, _), (6, _), (7, .int 5)] _ (fun q e cc => ∃ (k : Nat) (ad : Option Addr) (cap : Nat) (gs : List Wr) (c : Nat), q = 5 - k ∧ (k ≤ 5 ∧ gs.length ≤ k ∧ c ≤ N + 3 * k) ∧ e = [(3, Tr.raw (.slice ad (gs.map Wr.row).length cap)), (8, .int k)] ∧ cc = [Chunk.own ad cap 3 48 (gs.map Wr.row), Chunk.strm 25 b (intRows xs) c])
    ⟨_, _, _, Ent.trans (Ent.nil 3 48) (Ent.mkP goSub goPm), 0, none, 0, [], N, rfl, ⟨by omega, by simp, by omega⟩, rfl, rfl⟩ ?_
  rintro _ _ _ ⟨k, ad, cap, gs, c, rfl, ⟨hk, hlen, h3⟩, rfl, rfl⟩
  have hrl : (gs.map Wr.row).length = gs.length := List.length_map _
  have key : ∀ (s : ByteArray) (a : Int) (g : ByteArray), gs.map Wr.row ++ [[Tr.str s, Tr.int a, Tr.str g]] = (gs ++ [Wr.mk s a g]).map Wr.row := by intro s a g; rw [List.map_append]; rfl
  by_cases hkl : k < 5
  · obtain ⟨y, hy⟩ : ∃ y : ByteArray, ([[Tr.str ⟨#[98, 97, 114]⟩], [Tr.str ⟨#[99, 97, 107, 101]⟩], [Tr.str ⟨#[110, 117, 116, 115]⟩], [Tr.str ⟨#[112, 105, 101]⟩], [Tr.str ⟨#[119, 97, 116, 101, 114]⟩]] : List (List Tr))[k]? = some [Tr.str y] := by
      match k, hkl with
      | 0, _ => exact ⟨_, rfl⟩
      | 1, _ => exact ⟨_, rfl⟩
      | 2, _ => exact ⟨_, rfl⟩
      | 3, _ => exact ⟨_, rfl⟩
      | 4, _ => exact ⟨_, rfl⟩
    repeat' (first | refine goH ?_ | refine goV ?_ | refine goC (fun ad cap => ?_) | refine goI ?_ | (refine Cw.k_cond ?_; first | (refine Cw.cond_dec rfl (fun hc => ?_) (fun hc => ?_) <;> try (exfalso; omega)) | refine Cw.cond_bool rfl (fun hc => ?_) (fun hc => ?_)) | (refine Ops.k_calla ?_; first | (refine Ops.k_callf 16 ?_; (refine Ops.callG (flip_gen _ (by omega)) (Evs.cons rfl (Evs.cons rfl Evs.nil)) goPk (by omega) rfl ?_; rintro r ⟨v, rfl⟩)) | (refine Ops.k_callf 17 ?_; (refine Ops.callG (pick_gen (by repeat' (first | exact IsInts.nil | apply IsInts.cons)) (by simp)) (Evs.cons rfl (Evs.cons rfl Evs.nil)) goPk (by omega) rfl ?_; rintro r ⟨v, rfl, hv⟩; clear hv)) | (refine Ops.k_callf 18 ?_; (refine Ops.callG (one_gen (by repeat' (first | exact IsStrs.nil | apply IsStrs.cons)) (by simp)) (Evs.cons rfl (Evs.cons rfl Evs.nil)) goPk (by omega) rfl ?_; rintro r ⟨w, rfl, hw⟩; clear hw))) | fail)
    all_goals first
      | (rw [key]; exact ⟨_, _, _, (Ent.mk goSub goTk), ⟨k + 1, _, _, gs ++ [_], _, rfl, ⟨by omega, by rw [List.length_append]; simp; omega, by omega⟩, rfl, rfl⟩, by omega⟩)
      | exact ⟨_, _, _, (Ent.mk goSub goTk), ⟨k + 1, _, _, gs, _, rfl, ⟨by omega, by omega, by omega⟩, rfl, rfl⟩, by omega⟩
  · repeat' (first | refine goH ?_ | refine goV ?_ | refine goC (fun ad cap => ?_) | refine goI ?_ | (refine Cw.k_cond ?_; first | (refine Cw.cond_dec rfl (fun hc => ?_) (fun hc => ?_) <;> try (exfalso; omega)) | refine Cw.cond_bool rfl (fun hc => ?_) (fun hc => ?_)) | (refine Ops.k_calla ?_; first | (refine Ops.k_callf 16 ?_; (refine Ops.callG (flip_gen _ (by omega)) (Evs.cons rfl (Evs.cons rfl Evs.nil)) goPk (by omega) rfl ?_; rintro r ⟨v, rfl⟩)) | (refine Ops.k_callf 17 ?_; (refine Ops.callG (pick_gen (by repeat' (first | exact IsInts.nil | apply IsInts.cons)) (by simp)) (Evs.cons rfl (Evs.cons rfl Evs.nil)) goPk (by omega) rfl ?_; rintro r ⟨v, rfl, hv⟩; clear hv)) | (refine Ops.k_callf 18 ?_; (refine Ops.callG (one_gen (by repeat' (first | exact IsStrs.nil | apply IsStrs.cons)) (by simp)) (Evs.cons rfl (Evs.cons rfl Evs.nil)) goPk (by omega) rfl ?_; rintro r ⟨w, rfl, hw⟩; clear hw))) | fail)
    · refine Fin.ret (Ent.trans (Ent.settle (s := 2) rfl goPk rfl) (Ent.strm_only goPk (by omega))) (Outs.one rfl rfl) ⟨rfl, _, congrArg (Tr.sl 3) (key _ _ _), ?_⟩
      rw [List.length_append]; simp; omega
    · refine Fin.ret (Ent.trans (Ent.settle (s := 2) rfl goPk rfl) (Ent.strm_only goPk (by omega))) (Outs.one rfl rfl) ⟨rfl, _, rfl, ?_⟩
      omega
theorem deals_gen : Gen Tryz.prog 25 6 [] 20 (fun r => ∃ l : List Dl, r = .dls l ∧ l.length ≤ 4) := by
  unfold Gen
  intro b xs N hN
  refine Spec.body Tryz.func6 rfl rfl (Tryz.ntmps6) rfl fun w0 own0 M => ?_
  repeat' (first | refine goH ?_ | refine goV ?_ | refine goC (fun ad cap => ?_) | refine goI ?_ | (refine Cw.k_cond ?_; first | (refine Cw.cond_dec rfl (fun hc => ?_) (fun hc => ?_) <;> try (exfalso; omega)) | refine Cw.cond_bool rfl (fun hc => ?_) (fun hc => ?_)) | fail)
  refine Cw.loopI [(0, _), (7, _), (8, .int 3)] _ (fun q e cc => ∃ (k : Nat) (ad : Option Addr) (cap : Nat) (gs : List Dl) (c : Nat), q = 3 - k ∧ (k ≤ 3 ∧ gs.length ≤ k ∧ c ≤ N + 3 * k) ∧ e = [(3, Tr.raw (.slice ad (gs.map Dl.row).length cap)), (9, .int k)] ∧ cc = [Chunk.own ad cap 4 53 (gs.map Dl.row), Chunk.strm 25 b (intRows xs) c])
    ⟨_, _, _, Ent.trans (Ent.nil 4 53) (Ent.mkP goSub goPm), 0, none, 0, [], N, rfl, ⟨by omega, by simp, by omega⟩, rfl, rfl⟩ ?_
  rintro _ _ _ ⟨k, ad, cap, gs, c, rfl, ⟨hk, hlen, h3⟩, rfl, rfl⟩
  have hrl : (gs.map Dl.row).length = gs.length := List.length_map _
  have key : ∀ (s g : ByteArray) (m f : Int), gs.map Dl.row ++ [[Tr.str s, Tr.str g, Tr.int m, Tr.int f]] = (gs ++ [Dl.mk s g m f]).map Dl.row := by intro s g m f; rw [List.map_append]; rfl
  by_cases hkl : k < 3
  · obtain ⟨y, hy⟩ : ∃ y : ByteArray, ([[Tr.str ⟨#[115, 119, 101, 101, 116]⟩], [Tr.str ⟨#[115, 97, 108, 116]⟩], [Tr.str ⟨#[100, 114, 105, 110, 107]⟩]] : List (List Tr))[k]? = some [Tr.str y] := by
      match k, hkl with
      | 0, _ => exact ⟨_, rfl⟩
      | 1, _ => exact ⟨_, rfl⟩
      | 2, _ => exact ⟨_, rfl⟩
    repeat' (first | refine goH ?_ | (refine Ops.k_convert ?_; first | (first | refine Ops.convN Tryz.underlying3 Tryz.underlying21 rfl (wrap_i32 (by omega)) rfl ?_ | refine Ops.val' rfl (OpV.convS Tryz.underlying21 Tryz.underlying9 rfl) ?_)) | (refine Ops.k_b_add ?_; first | (refine Ops.val' rfl (OpV.catK rfl rfl (enc_catK _ _)) ?_)) | refine goV ?_ | refine goC (fun ad cap => ?_) | refine goI ?_ | (refine Cw.k_cond ?_; first | (refine Cw.cond_dec rfl (fun hc => ?_) (fun hc => ?_) <;> try (exfalso; omega)) | refine Cw.cond_bool rfl (fun hc => ?_) (fun hc => ?_)) | (refine Ops.k_calla ?_; first | (refine Ops.k_callf 16 ?_; (refine Ops.callG (flip_gen _ (by omega)) (Evs.cons rfl (Evs.cons rfl Evs.nil)) goPk (by omega) rfl ?_; rintro r ⟨v, rfl⟩)) | (refine Ops.k_callf 19 ?_; (refine Ops.callG (range_gen _ _ (by omega)) (Evs.cons rfl (Evs.cons rfl (Evs.cons rfl Evs.nil))) goPk (by omega) rfl ?_; rintro r ⟨v, rfl, hv⟩))) | fail)
    all_goals first
      | (rw [key]; exact ⟨_, _, _, (Ent.mk goSub goTk), ⟨k + 1, _, _, gs ++ [_], _, rfl, ⟨by omega, by rw [List.length_append]; simp; omega, by omega⟩, rfl, rfl⟩, by omega⟩)
      | exact ⟨_, _, _, (Ent.mk goSub goTk), ⟨k + 1, _, _, gs, _, rfl, ⟨by omega, by omega, by omega⟩, rfl, rfl⟩, by omega⟩
  · repeat' (first | refine goH ?_ | refine goV ?_ | refine goC (fun ad cap => ?_) | refine goI ?_ | (refine Cw.k_cond ?_; first | (refine Cw.cond_dec rfl (fun hc => ?_) (fun hc => ?_) <;> try (exfalso; omega)) | refine Cw.cond_bool rfl (fun hc => ?_) (fun hc => ?_)) | (refine Ops.k_calla ?_; first | (refine Ops.k_callf 16 ?_; (refine Ops.callG (flip_gen _ (by omega)) (Evs.cons rfl (Evs.cons rfl Evs.nil)) goPk (by omega) rfl ?_; rintro r ⟨v, rfl⟩)) | (refine Ops.k_callf 17 ?_; (refine Ops.callG (pick_gen (by repeat' (first | exact IsInts.nil | apply IsInts.cons)) (by simp)) (Evs.cons rfl (Evs.cons rfl Evs.nil)) goPk (by omega) rfl ?_; rintro r ⟨v, rfl, hv⟩; clear hv)) | (refine Ops.k_callf 18 ?_; (refine Ops.callG (one_gen (by repeat' (first | exact IsStrs.nil | apply IsStrs.cons)) (by simp)) (Evs.cons rfl (Evs.cons rfl Evs.nil)) goPk (by omega) rfl ?_; rintro r ⟨w, rfl, hw⟩; clear hw))) | fail)
    · refine Fin.ret (Ent.trans (Ent.settle (s := 2) rfl goPk rfl) (Ent.strm_only goPk (by omega))) (Outs.one rfl rfl) ⟨rfl, _, congrArg (Tr.sl 4) (key _ _ _ _), ?_⟩
      rw [List.length_append]; simp; omega
    · refine Fin.ret (Ent.trans (Ent.settle (s := 2) rfl goPk rfl) (Ent.strm_only goPk (by omega))) (Outs.one rfl rfl) ⟨rfl, _, rfl, ?_⟩
      omega
end Lg
end
section
set_option linter.all false
set_option maxRecDepth 100000
set_option maxHeartbeats 4000000
namespace Lg
open Go Go.Proofs

def intsR (L : List (List Int)) : List (List Tr) := L.map fun l => [.ints l]
theorem intsR_len (L : List (List Int)) : (intsR L).length = L.length := by simp [intsR]
end Lg
end
section
set_option linter.all false
set_option maxRecDepth 100000
set_option maxHeartbeats 4000000
namespace Lg
open Go Go.Proofs

/-! ### wallets, in plain terms -/
structure Wal where
  sites : List ByteArray
  rights : List (List Int)
  used : List Int
abbrev Tr.wal (w : Wal) : Tr := .agg [.strs w.sites, .sl 1 (intsR w.rights), .ints w.used]
structure WOk (w : Wal) : Prop where
  n1 : w.sites.length ≤ 12
  r : w.rights.length = w.sites.length
  u : w.used.length = w.sites.length
  rr : ∀ l ∈ w.rights, l.length = w.sites.length
  ru : ∀ x ∈ w.used, 0 ≤ x ∧ x ≤ 1000000000
  rx : ∀ l ∈ w.rights, ∀ x ∈ l, 0 ≤ x ∧ x ≤ 1000000000
theorem WOk.us {w : Wal} (h : WOk w) {i : Nat} (hi : i < w.sites.length) : ∃ x, w.used[i]? = some x ∧ w.used.getD i 0 = x ∧ 0 ≤ x ∧ x ≤ 1000000000 := by
  have hr := h.u
  have e1 : w.used[i]? = some (w.used[i]) := List.getElem?_eq_getElem (by omega)
  exact ⟨_, e1, by rw [List.getD_eq_getElem?_getD, e1, Option.getD_some], h.ru _ (List.getElem_mem _)⟩
/-! ### an owned slice of owned slices of numbers -/
structure IL where
  ad : Option Addr
  cap : Nat
  xs : List Int
def IL.val (p : IL) : Value := .slice p.ad (intRows p.xs).length p.cap
def IL.own (E : TypeId) (p : IL) : Chunk := Chunk.own p.ad p.cap 1 E (intRows p.xs)
def IL.in1 (p : IL) : Unit × In1 := ((), ⟨p.ad, p.cap, intRows p.xs⟩)
def rowsW (L : List IL) : List (List Tr) := L.map fun p => [Tr.raw p.val]
def ownsW (E : TypeId) (L : List IL) : List Chunk := L.map (IL.own E)
def valsW (L : List IL) : List (List Int) := L.map IL.xs
theorem rowsW_len (L : List IL) : (rowsW L).length = L.length := by simp [rowsW]
theorem valsW_len (L : List IL) : (valsW L).length = L.length := by simp [valsW]
theorem rowsW_snoc (L : List IL) (p : IL) : rowsW L ++ [[Tr.raw p.val]] = rowsW (L ++ [p]) := by simp [rowsW]
theorem ownsW_snoc (E : TypeId) (L : List IL) (p : IL) : ownsW E L ++ [p.own E] = ownsW E (L ++ [p]) := by simp [ownsW]
theorem valsW_snoc (L : List IL) (p : IL) : valsW (L ++ [p]) = valsW L ++ [p.xs] := by simp [valsW]
theorem ent_nestW {Γ : Ctx} {env : Env} {cs cf cf' : List Chunk} {E E2 : TypeId} {L : List IL} {ad : Option Addr} {cap : Nat} (h1 : cs.Perm (Chunk.own ad cap 1 E (rowsW L) :: cf')) (h2 : cf'.Perm (Chunk.bun (ownsW E2 L) :: cf)) : Ent Γ env cs env (Chunk.own ad cap 1 E (intsR (valsW L)) :: cf) := by
  have e : intsR (valsW L) = (L.map IL.in1).map fun p => (fun _ => []) p.1 ++ Tr.sl 1 p.2.rows :: (fun _ => []) p.1 := by simp [intsR, valsW, IL.in1, Tr.ints]
  rw [e]
  exact Ent.settle_nest (fun _ => []) (fun _ => []) (E2 := E2) h1 h2 (by simp [rowsW, IL.in1, In1.val, IL.val]) (by simp [ownsW, IL.in1, In1.own, IL.own])
end Lg
end
