/- A part of the proof of a law of this seat: it adds no condition. By an AI agent. -/
import Derived.Test.YtmfjjdodehimjaaGreatDoorMvGen
section
set_option linter.all false
set_option maxRecDepth 100000
set_option maxHeartbeats 4000000
namespace Lg
open Go Go.Proofs

theorem NoBd.set {gs : List Mv} (h : ∀ x ∈ gs, 0 ≤ x.no ∧ x.no ≤ 10) (i : Nat) {y : Mv} (hy : -1 ≤ y.no ∧ y.no ≤ 11) : NoBd (gs.set i y) := fun x hx => by
  rcases List.mem_or_eq_of_mem_set hx with h2 | h2
  · have := h x h2; omega
  · subst h2; omega
theorem moves_gen : Gen Tryz.prog 25 5 [] 60 (fun r => ∃ l : List Mv, r = .mvs l ∧ l.length ≤ 9 ∧ NoBd l) := by
  unfold Gen
  intro b xs N hN
  refine Spec.body Tryz.func5 rfl rfl (Tryz.ntmps5) rfl fun w0 own0 M => ?_
  repeat' (first | refine goH ?_ | refine goV ?_ | refine goG ?_ | (refine Ops.k_guard ?_; first | (refine Ops.guard_dec rfl rfl (fun hc => ?_) (fun hc => ?_) <;> try (exfalso; omega)) | refine Ops.guard_split rfl rfl (fun hc => ?_) (fun hc => ?_)) | refine goI ?_ | (refine Cw.k_cond ?_; first | (refine Cw.cond_dec rfl (fun hc => ?_) (fun hc => ?_) <;> try (exfalso; omega)) | refine Cw.cond_bool rfl (fun hc => ?_) (fun hc => ?_)) | (refine Ops.nilCheck_eptr rfl rfl ?_) | (refine Ops.k_calla ?_; first | (refine Ops.k_callf 31 ?_; (refine Ops.callGO rightMoves_gen (Evs.cons rfl Evs.nil) goPk (by omega) rfl (fun ad cap rows hr => ?_); obtain ⟨gs, hrows, hl, hb⟩ := hr; subst hrows; have hrl : (gs.map Mv.row).length = gs.length := List.length_map _; have hset : ∀ (i : Nat) (y : Mv), (gs.map Mv.row).set i y.row = (gs.set i y).map Mv.row := (fun i y => (by rw [List.map_set])))) | (refine Ops.k_callf 7 ?_; (refine Ops.callG (flip_gen _ (by omega)) (Evs.cons rfl (Evs.cons rfl Evs.nil)) goPk (by omega) rfl ?_; rintro r ⟨v, rfl⟩)) | (refine Ops.k_callf 32 ?_; (refine Ops.callG (next_gen (((gs.map Mv.row).length : Nat) : Int) (by omega)) (Evs.cons rfl (Evs.cons rfl Evs.nil)) goPk (by omega) rfl ?_; rintro r ⟨w, rfl, hw⟩; unfold InRange at hw; obtain ⟨x, hx⟩ := at_lt (l := gs) (k := w.toNat) (by omega); have hrow : (gs.map Mv.row)[w.toNat]? = some [.str x.site, .int x.no, .int x.day, .str x.ware, .int x.many] := rows_at hx; have hxb := hb x (List.mem_of_getElem? hx))) | (refine Ops.k_callf 32 ?_; (refine Ops.callG (next_gen (5 : Int) (by omega)) (Evs.cons rfl (Evs.cons rfl Evs.nil)) goPk (by omega) rfl ?_; rintro r ⟨z, rfl, hz⟩; unfold InRange at hz)) | (refine Ops.k_callf 33 ?_; (refine Ops.callG (one_gen (by repeat' (first | exact IsStrs.nil | apply IsStrs.cons)) (by simp)) (Evs.cons rfl (Evs.cons rfl Evs.nil)) goPk (by omega) rfl ?_; rintro r ⟨u, rfl, hu⟩; clear hu)) | (refine Ops.k_callf 35 ?_; (refine Ops.callG (pick_gen (by repeat' (first | exact IsInts.nil | apply IsInts.cons)) (by simp)) (Evs.cons rfl (Evs.cons rfl Evs.nil)) goPk (by omega) rfl ?_; rintro r ⟨v, rfl, hv⟩; clear hv))) | fail)
  all_goals first
    | exact Fin.ret (Ent.trans (Ent.settle (s := 2) rfl goPk (by simp)) (Ent.strm_only goPk (by omega))) (Outs.one rfl rfl) ⟨rfl, gs.set w.toNat ⟨u, x.no, x.day, x.ware, x.many⟩, congrArg (Tr.sl 5) (hset w.toNat ⟨u, x.no, x.day, x.ware, x.many⟩), by rw [List.length_set]; exact hl, NoBd.set hb _ (show -1 ≤ x.no ∧ x.no ≤ 11 by omega)⟩
    | exact Fin.ret (Ent.trans (Ent.settle (s := 2) rfl goPk (by simp)) (Ent.strm_only goPk (by omega))) (Outs.one rfl rfl) ⟨rfl, gs.set w.toNat ⟨x.site, x.no, v, x.ware, x.many⟩, congrArg (Tr.sl 5) (hset w.toNat ⟨x.site, x.no, v, x.ware, x.many⟩), by rw [List.length_set]; exact hl, NoBd.set hb _ (show -1 ≤ x.no ∧ x.no ≤ 11 by omega)⟩
    | exact Fin.ret (Ent.trans (Ent.settle (s := 2) rfl goPk (by simp)) (Ent.strm_only goPk (by omega))) (Outs.one rfl rfl) ⟨rfl, gs.set w.toNat ⟨x.site, x.no, x.day, u, x.many⟩, congrArg (Tr.sl 5) (hset w.toNat ⟨x.site, x.no, x.day, u, x.many⟩), by rw [List.length_set]; exact hl, NoBd.set hb _ (show -1 ≤ x.no ∧ x.no ≤ 11 by omega)⟩
    | exact Fin.ret (Ent.trans (Ent.settle (s := 2) rfl goPk (by simp)) (Ent.strm_only goPk (by omega))) (Outs.one rfl rfl) ⟨rfl, gs.set w.toNat ⟨x.site, x.no, x.day, x.ware, v⟩, congrArg (Tr.sl 5) (hset w.toNat ⟨x.site, x.no, x.day, x.ware, v⟩), by rw [List.length_set]; exact hl, NoBd.set hb _ (show -1 ≤ x.no ∧ x.no ≤ 11 by omega)⟩
    | (refine Fin.ret (Ent.trans (Ent.settle (s := 2) rfl goPk (by simp)) (Ent.strm_only goPk (by omega))) (Outs.one rfl rfl) ⟨rfl, _, rfl, hl, fun x hx => by have := hb x hx; omega⟩)
    | skip
  refine Cw.region_strm (m := 9) 1 goPk rfl (by decide +kernel) rfl ?_
  have g2 : ∀ r : Tr, (∃ v, r = .int v ∧ -1 ≤ v ∧ v ≤ 1) → ∀ w A v, r.rd w A v → (Tr.intS fun q => -1 ≤ q ∧ q ≤ 1).rd w A v := by
    rintro r ⟨v, rfl, hv⟩ w A u hu
    exact ⟨v, rd_raw hu, hv⟩
  repeat' (first | refine PSeqH.nil ?_ | apply PSeqH.cons | apply PSeqH.yes rfl rfl rfl | refine PSeqH.no rfl rfl rfl ?_ | refine PSeqH.pass rfl rfl rfl ?_ | exact OpH.callG (range_gen (-1) 1 (by omega)) (Nat.le_refl _) (by simp only [List.length_cons, List.length_nil]; omega) (Evs.cons rfl (Evs.cons rfl (Evs.cons rfl Evs.nil))) g2 | (apply OpW.h Row.strm; intro kk; apply OpV.w; exact OpV.nilCheck_eptr rfl) | (apply OpW.h Row.strm; intro kk; apply OpV.w; exact OpV.openS (s := 43) rfl open_intS (fun v hv => OpV.imp (OpV.add (p := x.no) (q := v) rfl rfl (by have hv2 : -1 ≤ v ∧ v ≤ 1 := hv; omega)) (Imp.intS (p := fun q => -1 ≤ q ∧ q ≤ 11) (by have hv2 : -1 ≤ v ∧ v ≤ 1 := hv; show -1 ≤ x.no + v ∧ x.no + v ≤ 11; omega)))) | exact goX | fail)
  refine Ops.open_slot (i := 44) rfl open_intS ?_
  rintro q hq
  repeat' (first | refine goH ?_ | refine goV ?_ | refine goG ?_ | (refine Ops.k_guard ?_; first | (refine Ops.guard_dec rfl rfl (fun hc => ?_) (fun hc => ?_) <;> try (exfalso; omega)) | refine Ops.guard_split rfl rfl (fun hc => ?_) (fun hc => ?_)) | refine goI ?_ | (refine Cw.k_cond ?_; first | (refine Cw.cond_dec rfl (fun hc => ?_) (fun hc => ?_) <;> try (exfalso; omega)) | refine Cw.cond_bool rfl (fun hc => ?_) (fun hc => ?_)) | refine goR ?_ | refine goP ?_ | apply PSeq.cons | apply PSeq.yes rfl rfl rfl | exact goW | fail)
  refine Fin.ret (Ent.trans (Ent.settle (s := 2) rfl goPk (by simp)) (Ent.strm_only goPk (by omega))) (Outs.one rfl rfl) ⟨rfl, _, congrArg (Tr.sl 5) (hset w.toNat ⟨x.site, q, x.day, x.ware, x.many⟩), by rw [List.length_set]; exact hl, NoBd.set hb _ (show -1 ≤ q ∧ q ≤ 11 by omega)⟩
end Lg
end
section
set_option linter.all false
set_option maxRecDepth 100000
set_option maxHeartbeats 4000000
namespace Lg
open Go Go.Proofs

def intsR (L : List (List Int)) : List (List Tr) := L.map fun l => [.ints l]
theorem intsR_len (L : List (List Int)) : (intsR L).length = L.length := by simp [intsR]
theorem intsR_at {L : List (List Int)} {k : Nat} {l : List Int} (h : L[k]? = some l) : (intsR L)[k]? = some [.ints l] := rows_at h
theorem flat_take {L : List (List Int)} {k : Nat} {l : List Int} (h : L[k]? = some l) : (L.take (k + 1)).flatten = (L.take k).flatten ++ l := by rw [take_at h, List.flatten_append]; simp
theorem flat_le (L : List (List Int)) (k : Nat) : (L.take k).flatten.length ≤ L.flatten.length := by
  have h := List.take_append_drop k L
  have h2 := congrArg (fun l => l.flatten.length) h
  simp only [List.flatten_append, List.length_append] at h2
  omega
end Lg
end
section
set_option linter.all false
set_option maxRecDepth 100000
set_option maxHeartbeats 4000000
namespace Lg
open Go Go.Proofs

/-! ### wallets, in plain terms -/
structure Wal where
  sites : List ByteArray
  rights : List (List Int)
  used : List Int
abbrev Tr.wal (w : Wal) : Tr := .agg [.strs w.sites, .sl 1 (intsR w.rights), .ints w.used]
def at2 (R : List (List Int)) (i j : Nat) : Int := (R.getD i []).getD j 0
def rgtN (R : List (List Int)) (u : List Int) (i : Nat) : Nat → Int
  | 0 => at2 R i i - u.getD i 0
  | j + 1 => if j = i then rgtN R u i j else rgtN R u i j + (at2 R j i - at2 R i j)
def rgt (w : Wal) (i : Nat) : Int := rgtN w.rights w.used i w.sites.length
def bC (x : Int) : Bool := decide (x < 0 ∨ 1000000000 < x)
def formB (n : Nat) (l : List Int) : Bool := decide (l.length ≠ n)
def rgtE (w : Wal) (i : Nat) : Int := if rgt w i < 0 then 16 else 0
structure WOk (w : Wal) : Prop where
  n1 : w.sites.length ≤ 12
  r : w.rights.length = w.sites.length
  u : w.used.length = w.sites.length
  rr : ∀ l ∈ w.rights, l.length = w.sites.length
  ru : ∀ x ∈ w.used, 0 ≤ x ∧ x ≤ 1000000000
  rx : ∀ l ∈ w.rights, ∀ x ∈ l, 0 ≤ x ∧ x ≤ 1000000000
/-- lengths alone -/
structure WBd (w : Wal) : Prop where
  n1 : w.sites.length ≤ 100
  r : w.rights.length ≤ 100
  u : w.used.length ≤ 100
  rr : ∀ l ∈ w.rights, l.length ≤ 100
theorem WOk.bd {w : Wal} (h : WOk w) : WBd w := ⟨by have := h.n1; omega, by have := h.n1; have := h.r; omega, by have := h.n1; have := h.u; omega, fun l hl => by have := h.n1; have := h.rr l hl; omega⟩
theorem flat_bd {L : List (List Int)} {n m : Nat} (h : ∀ l ∈ L, l.length ≤ m) (hn : L.length ≤ n) : L.flatten.length ≤ n * m := by
  induction L generalizing n with
  | nil => simp
  | cons l L ih =>
    cases n with
    | zero => simp at hn
    | succ n =>
      have h1 := h l (List.mem_cons_self ..)
      have h2 := ih (fun l hl => h l (List.mem_cons_of_mem _ hl)) (by simpa using hn)
      rw [List.flatten_cons, List.length_append, Nat.succ_mul]
      omega
theorem bC_ok {l : List Int} (h : l.any bC = false) : ∀ x ∈ l, 0 ≤ x ∧ x ≤ 1000000000 := by
  intro x hx
  have : bC x = false := by
    cases h2 : bC x
    · rfl
    · rw [List.any_eq_true.2 ⟨x, hx, h2⟩] at h; cases h
  simp [bC] at this
  omega
theorem formB_ok {n : Nat} {L : List (List Int)} (h : L.any (formB n) = false) : ∀ l ∈ L, l.length = n := by
  intro x hx
  have : formB n x = false := by
    cases h2 : formB n x
    · rfl
    · rw [List.any_eq_true.2 ⟨x, hx, h2⟩] at h; cases h
  simpa [formB] using this
theorem WOk.at2 {w : Wal} (h : WOk w) {i j : Nat} (hi : i < w.sites.length) (hj : j < w.sites.length) : ∃ l x, w.rights[i]? = some l ∧ l[j]? = some x ∧ at2 w.rights i j = x ∧ 0 ≤ x ∧ x ≤ 1000000000 := by
  have hr := h.r
  have e1 : w.rights[i]? = some (w.rights[i]) := List.getElem?_eq_getElem (by omega)
  have hl := h.rr _ (List.getElem_mem (show i < w.rights.length by omega))
  have e2 : (w.rights[i])[j]? = some ((w.rights[i])[j]) := List.getElem?_eq_getElem (by omega)
  refine ⟨_, _, e1, e2, ?_, h.rx _ (List.getElem_mem _) _ (List.getElem_mem _)⟩
  unfold Lg.at2
  have e3 : w.rights.getD i [] = w.rights[i] := by rw [List.getD_eq_getElem?_getD, e1, Option.getD_some]
  rw [e3, List.getD_eq_getElem?_getD, e2, Option.getD_some]
theorem WOk.us {w : Wal} (h : WOk w) {i : Nat} (hi : i < w.sites.length) : ∃ x, w.used[i]? = some x ∧ w.used.getD i 0 = x ∧ 0 ≤ x ∧ x ≤ 1000000000 := by
  have hr := h.u
  have e1 : w.used[i]? = some (w.used[i]) := List.getElem?_eq_getElem (by omega)
  exact ⟨_, e1, by rw [List.getD_eq_getElem?_getD, e1, Option.getD_some], h.ru _ (List.getElem_mem _)⟩
theorem rgtN_bd {w : Wal} (h : WOk w) {i : Nat} (hi : i < w.sites.length) : ∀ j, j ≤ w.sites.length → -(1000000000 * ((j : Int) + 1)) ≤ rgtN w.rights w.used i j ∧ rgtN w.rights w.used i j ≤ 1000000000 * ((j : Int) + 1)
  | 0, _ => by
    obtain ⟨_, x, _, _, e, h1, h2⟩ := h.at2 hi hi
    obtain ⟨y, _, e2, h3, h4⟩ := h.us hi
    unfold rgtN
    rw [e, e2]
    omega
  | j + 1, hj => by
    have ih := rgtN_bd h hi j (by omega)
    obtain ⟨_, x, _, _, e, h1, h2⟩ := h.at2 hi (show j < w.sites.length by omega)
    obtain ⟨_, y, _, _, e2, h3, h4⟩ := h.at2 (show j < w.sites.length by omega) hi
    unfold rgtN
    split
    · omega
    · rw [e, e2]
      omega
/-! ### an owned slice of owned slices of numbers -/
structure IL where
  ad : Option Addr
  cap : Nat
  xs : List Int
def IL.val (p : IL) : Value := .slice p.ad (intRows p.xs).length p.cap
def IL.own (E : TypeId) (p : IL) : Chunk := Chunk.own p.ad p.cap 1 E (intRows p.xs)
def IL.in1 (p : IL) : Unit × In1 := ((), ⟨p.ad, p.cap, intRows p.xs⟩)
def rowsW (L : List IL) : List (List Tr) := L.map fun p => [Tr.raw p.val]
def ownsW (E : TypeId) (L : List IL) : List Chunk := L.map (IL.own E)
def valsW (L : List IL) : List (List Int) := L.map IL.xs
theorem rowsW_len (L : List IL) : (rowsW L).length = L.length := by simp [rowsW]
theorem valsW_len (L : List IL) : (valsW L).length = L.length := by simp [valsW]
theorem rowsW_snoc (L : List IL) (p : IL) : rowsW L ++ [[Tr.raw p.val]] = rowsW (L ++ [p]) := by simp [rowsW]
theorem ownsW_snoc (E : TypeId) (L : List IL) (p : IL) : ownsW E L ++ [p.own E] = ownsW E (L ++ [p]) := by simp [ownsW]
theorem valsW_snoc (L : List IL) (p : IL) : valsW (L ++ [p]) = valsW L ++ [p.xs] := by simp [valsW]
theorem rowsW_get {L : List IL} {k : Nat} {p : IL} (h : L[k]? = some p) : (rowsW L)[k]? = some [Tr.raw p.val] := by simp [rowsW, h]
theorem valsW_get {L : List IL} {k : Nat} {p : IL} (h : L[k]? = some p) : (valsW L)[k]? = some p.xs := by simp [valsW, h]
theorem ent_nestW {Γ : Ctx} {env : Env} {cs cf cf' : List Chunk} {E E2 : TypeId} {L : List IL} {ad : Option Addr} {cap : Nat} (h1 : cs.Perm (Chunk.own ad cap 1 E (rowsW L) :: cf')) (h2 : cf'.Perm (Chunk.bun (ownsW E2 L) :: cf)) : Ent Γ env cs env (Chunk.own ad cap 1 E (intsR (valsW L)) :: cf) := by
  have e : intsR (valsW L) = (L.map IL.in1).map fun p => (fun _ => []) p.1 ++ Tr.sl 1 p.2.rows :: (fun _ => []) p.1 := by simp [intsR, valsW, IL.in1, Tr.ints]
  rw [e]
  exact Ent.settle_nest (fun _ => []) (fun _ => []) (E2 := E2) h1 h2 (by simp [rowsW, IL.in1, In1.val, IL.val]) (by simp [ownsW, IL.in1, In1.own, IL.own])
theorem split_at' {L : List IL} {i : Nat} {p : IL} (h : L[i]? = some p) : L = L.take i ++ p :: L.drop (i + 1) := by
  have hi := (List.getElem?_eq_some_iff.1 h)
  obtain ⟨hlt, e⟩ := hi
  rw [← e]
  simp
def restW (E : TypeId) (L : List IL) (i : Nat) : Chunk := Chunk.bun (ownsW E (L.take i) ++ ownsW E (L.drop (i + 1)))
theorem ent_pullW {Γ : Ctx} {env : Env} {cs cf : List Chunk} {E : TypeId} {L : List IL} {i : Nat} {p : IL} (h : L[i]? = some p) (hp : cs.Perm (Chunk.bun (ownsW E L) :: cf)) : Ent Γ env cs env (Chunk.own p.ad p.cap 1 E (intRows p.xs) :: restW E L i :: cf) := by
  have e : ownsW E L = ownsW E (L.take i) ++ p.own E :: ownsW E (L.drop (i + 1)) := by
    conv => lhs; rw [split_at' h]
    simp [ownsW]
  rw [e] at hp
  exact Ent.pull hp
theorem set_split {L : List IL} {i : Nat} {p q : IL} (h : L[i]? = some p) : L.set i q = L.take i ++ q :: L.drop (i + 1) := by
  rw [List.set_eq_take_append_cons_drop, if_pos (List.getElem?_eq_some_iff.1 h).1]
theorem ent_putW {Γ : Ctx} {env : Env} {cs cf cf' : List Chunk} {E : TypeId} {L : List IL} {i : Nat} {p q : IL} (h : L[i]? = some p) (h1 : cs.Perm (Chunk.own q.ad q.cap 1 E (intRows q.xs) :: cf')) (h2 : cf'.Perm (restW E L i :: cf)) : Ent Γ env cs env (Chunk.bun (ownsW E (L.set i q)) :: cf) := by
  have e : ownsW E (L.set i q) = ownsW E (L.take i) ++ q.own E :: ownsW E (L.drop (i + 1)) := by
    rw [set_split h]
    simp [ownsW]
  rw [e]
  exact Ent.putb h1 h2
theorem rowsW_set {L : List IL} {i : Nat} {p q : IL} (h : L[i]? = some p) (hv : q.val = p.val) : rowsW (L.set i q) = rowsW L := by
  unfold rowsW
  rw [List.map_set, hv]
  refine List.ext_getElem? fun k => ?_
  rw [List.getElem?_set]
  by_cases e : i = k
  · subst e
    have := (List.getElem?_eq_some_iff.1 h).1
    rw [if_pos rfl, if_pos (by simpa using this), List.getElem?_map, h, Option.map_some]
  · simp [e]
theorem valsW_set (L : List IL) (i : Nat) (q : IL) : valsW (L.set i q) = (valsW L).set i q.xs := by unfold valsW; rw [List.map_set]
end Lg
end
