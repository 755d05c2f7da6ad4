/- A part of the proof of a law of this seat: it adds no condition. By an AI agent. -/
import Derived.Test.YtjknjnkkpfeahaaGreatDoorCat
import Derived.Test.YtjknjnkkpfeahaaGreatDoorSGen
section
set_option linter.all false
set_option maxRecDepth 100000
set_option maxHeartbeats 4000000
namespace Lg
open Go Go.Proofs

/-! ### wallets, in plain terms -/
structure Wal where
  sites : List ByteArray
  rights : List (List Int)
  used : List Int
abbrev Tr.wal (w : Wal) : Tr := .agg [.strs w.sites, .sl 1 (intsR w.rights), .ints w.used]
def at2 (R : List (List Int)) (i j : Nat) : Int := (R.getD i []).getD j 0
def rgtN (R : List (List Int)) (u : List Int) (i : Nat) : Nat → Int
  | 0 => at2 R i i - u.getD i 0
  | j + 1 => if j = i then rgtN R u i j else rgtN R u i j + (at2 R j i - at2 R i j)
def rgt (w : Wal) (i : Nat) : Int := rgtN w.rights w.used i w.sites.length
def bC (x : Int) : Bool := decide (x < 0 ∨ 1000000000 < x)
def formB (n : Nat) (l : List Int) : Bool := decide (l.length ≠ n)
def rgtE (w : Wal) (i : Nat) : Int := if rgt w i < 0 then 16 else 0
structure WOk (w : Wal) : Prop where
  n1 : w.sites.length ≤ 12
  r : w.rights.length = w.sites.length
  u : w.used.length = w.sites.length
  rr : ∀ l ∈ w.rights, l.length = w.sites.length
  ru : ∀ x ∈ w.used, 0 ≤ x ∧ x ≤ 1000000000
  rx : ∀ l ∈ w.rights, ∀ x ∈ l, 0 ≤ x ∧ x ≤ 1000000000
/-- lengths alone -/
structure WBd (w : Wal) : Prop where
  n1 : w.sites.length ≤ 100
  r : w.rights.length ≤ 100
  u : w.used.length ≤ 100
  rr : ∀ l ∈ w.rights, l.length ≤ 100
theorem WOk.bd {w : Wal} (h : WOk w) : WBd w := ⟨by have := h.n1; omega, by have := h.n1; have := h.r; omega, by have := h.n1; have := h.u; omega, fun l hl => by have := h.n1; have := h.rr l hl; omega⟩
theorem flat_bd {L : List (List Int)} {n m : Nat} (h : ∀ l ∈ L, l.length ≤ m) (hn : L.length ≤ n) : L.flatten.length ≤ n * m := by
  induction L generalizing n with
  | nil => simp
  | cons l L ih =>
    cases n with
    | zero => simp at hn
    | succ n =>
      have h1 := h l (List.mem_cons_self ..)
      have h2 := ih (fun l hl => h l (List.mem_cons_of_mem _ hl)) (by simpa using hn)
      rw [List.flatten_cons, List.length_append, Nat.succ_mul]
      omega
theorem bC_ok {l : List Int} (h : l.any bC = false) : ∀ x ∈ l, 0 ≤ x ∧ x ≤ 1000000000 := by
  intro x hx
  have : bC x = false := by
    cases h2 : bC x
    · rfl
    · rw [List.any_eq_true.2 ⟨x, hx, h2⟩] at h; cases h
  simp [bC] at this
  omega
theorem formB_ok {n : Nat} {L : List (List Int)} (h : L.any (formB n) = false) : ∀ l ∈ L, l.length = n := by
  intro x hx
  have : formB n x = false := by
    cases h2 : formB n x
    · rfl
    · rw [List.any_eq_true.2 ⟨x, hx, h2⟩] at h; cases h
  simpa [formB] using this
theorem WOk.at2 {w : Wal} (h : WOk w) {i j : Nat} (hi : i < w.sites.length) (hj : j < w.sites.length) : ∃ l x, w.rights[i]? = some l ∧ l[j]? = some x ∧ at2 w.rights i j = x ∧ 0 ≤ x ∧ x ≤ 1000000000 := by
  have hr := h.r
  have e1 : w.rights[i]? = some (w.rights[i]) := List.getElem?_eq_getElem (by omega)
  have hl := h.rr _ (List.getElem_mem (show i < w.rights.length by omega))
  have e2 : (w.rights[i])[j]? = some ((w.rights[i])[j]) := List.getElem?_eq_getElem (by omega)
  refine ⟨_, _, e1, e2, ?_, h.rx _ (List.getElem_mem _) _ (List.getElem_mem _)⟩
  unfold Lg.at2
  have e3 : w.rights.getD i [] = w.rights[i] := by rw [List.getD_eq_getElem?_getD, e1, Option.getD_some]
  rw [e3, List.getD_eq_getElem?_getD, e2, Option.getD_some]
theorem WOk.us {w : Wal} (h : WOk w) {i : Nat} (hi : i < w.sites.length) : ∃ x, w.used[i]? = some x ∧ w.used.getD i 0 = x ∧ 0 ≤ x ∧ x ≤ 1000000000 := by
  have hr := h.u
  have e1 : w.used[i]? = some (w.used[i]) := List.getElem?_eq_getElem (by omega)
  exact ⟨_, e1, by rw [List.getD_eq_getElem?_getD, e1, Option.getD_some], h.ru _ (List.getElem_mem _)⟩
theorem rgtN_bd {w : Wal} (h : WOk w) {i : Nat} (hi : i < w.sites.length) : ∀ j, j ≤ w.sites.length → -(1000000000 * ((j : Int) + 1)) ≤ rgtN w.rights w.used i j ∧ rgtN w.rights w.used i j ≤ 1000000000 * ((j : Int) + 1)
  | 0, _ => by
    obtain ⟨_, x, _, _, e, h1, h2⟩ := h.at2 hi hi
    obtain ⟨y, _, e2, h3, h4⟩ := h.us hi
    unfold rgtN
    rw [e, e2]
    omega
  | j + 1, hj => by
    have ih := rgtN_bd h hi j (by omega)
    obtain ⟨_, x, _, _, e, h1, h2⟩ := h.at2 hi (show j < w.sites.length by omega)
    obtain ⟨_, y, _, _, e2, h3, h4⟩ := h.at2 (show j < w.sites.length by omega) hi
    unfold rgtN
    split
    · omega
    · rw [e, e2]
      omega
/-! ### an owned slice of owned slices of numbers -/
structure IL where
  ad : Option Addr
  cap : Nat
  xs : List Int
def IL.val (p : IL) : Value := .slice p.ad (intRows p.xs).length p.cap
def IL.own (E : TypeId) (p : IL) : Chunk := Chunk.own p.ad p.cap 1 E (intRows p.xs)
def IL.in1 (p : IL) : Unit × In1 := ((), ⟨p.ad, p.cap, intRows p.xs⟩)
def rowsW (L : List IL) : List (List Tr) := L.map fun p => [Tr.raw p.val]
def ownsW (E : TypeId) (L : List IL) : List Chunk := L.map (IL.own E)
def valsW (L : List IL) : List (List Int) := L.map IL.xs
theorem rowsW_len (L : List IL) : (rowsW L).length = L.length := by simp [rowsW]
theorem valsW_len (L : List IL) : (valsW L).length = L.length := by simp [valsW]
theorem rowsW_snoc (L : List IL) (p : IL) : rowsW L ++ [[Tr.raw p.val]] = rowsW (L ++ [p]) := by simp [rowsW]
theorem ownsW_snoc (E : TypeId) (L : List IL) (p : IL) : ownsW E L ++ [p.own E] = ownsW E (L ++ [p]) := by simp [ownsW]
theorem valsW_snoc (L : List IL) (p : IL) : valsW (L ++ [p]) = valsW L ++ [p.xs] := by simp [valsW]
theorem rowsW_get {L : List IL} {k : Nat} {p : IL} (h : L[k]? = some p) : (rowsW L)[k]? = some [Tr.raw p.val] := by simp [rowsW, h]
theorem ent_nestW {Γ : Ctx} {env : Env} {cs cf cf' : List Chunk} {E E2 : TypeId} {L : List IL} {ad : Option Addr} {cap : Nat} (h1 : cs.Perm (Chunk.own ad cap 1 E (rowsW L) :: cf')) (h2 : cf'.Perm (Chunk.bun (ownsW E2 L) :: cf)) : Ent Γ env cs env (Chunk.own ad cap 1 E (intsR (valsW L)) :: cf) := by
  have e : intsR (valsW L) = (L.map IL.in1).map fun p => (fun _ => []) p.1 ++ Tr.sl 1 p.2.rows :: (fun _ => []) p.1 := by simp [intsR, valsW, IL.in1, Tr.ints]
  rw [e]
  exact Ent.settle_nest (fun _ => []) (fun _ => []) (E2 := E2) h1 h2 (by simp [rowsW, IL.in1, In1.val, IL.val]) (by simp [ownsW, IL.in1, In1.own, IL.own])
theorem split_at' {L : List IL} {i : Nat} {p : IL} (h : L[i]? = some p) : L = L.take i ++ p :: L.drop (i + 1) := by
  have hi := (List.getElem?_eq_some_iff.1 h)
  obtain ⟨hlt, e⟩ := hi
  rw [← e]
  simp
def restW (E : TypeId) (L : List IL) (i : Nat) : Chunk := Chunk.bun (ownsW E (L.take i) ++ ownsW E (L.drop (i + 1)))
theorem ent_pullW {Γ : Ctx} {env : Env} {cs cf : List Chunk} {E : TypeId} {L : List IL} {i : Nat} {p : IL} (h : L[i]? = some p) (hp : cs.Perm (Chunk.bun (ownsW E L) :: cf)) : Ent Γ env cs env (Chunk.own p.ad p.cap 1 E (intRows p.xs) :: restW E L i :: cf) := by
  have e : ownsW E L = ownsW E (L.take i) ++ p.own E :: ownsW E (L.drop (i + 1)) := by
    conv => lhs; rw [split_at' h]
    simp [ownsW]
  rw [e] at hp
  exact Ent.pull hp
theorem set_split {L : List IL} {i : Nat} {p q : IL} (h : L[i]? = some p) : L.set i q = L.take i ++ q :: L.drop (i + 1) := by
  rw [List.set_eq_take_append_cons_drop, if_pos (List.getElem?_eq_some_iff.1 h).1]
theorem ent_putW {Γ : Ctx} {env : Env} {cs cf cf' : List Chunk} {E : TypeId} {L : List IL} {i : Nat} {p q : IL} (h : L[i]? = some p) (h1 : cs.Perm (Chunk.own q.ad q.cap 1 E (intRows q.xs) :: cf')) (h2 : cf'.Perm (restW E L i :: cf)) : Ent Γ env cs env (Chunk.bun (ownsW E (L.set i q)) :: cf) := by
  have e : ownsW E (L.set i q) = ownsW E (L.take i) ++ q.own E :: ownsW E (L.drop (i + 1)) := by
    rw [set_split h]
    simp [ownsW]
  rw [e]
  exact Ent.putb h1 h2
theorem rowsW_set {L : List IL} {i : Nat} {p q : IL} (h : L[i]? = some p) (hv : q.val = p.val) : rowsW (L.set i q) = rowsW L := by
  unfold rowsW
  rw [List.map_set, hv]
  refine List.ext_getElem? fun k => ?_
  rw [List.getElem?_set]
  by_cases e : i = k
  · subst e
    have := (List.getElem?_eq_some_iff.1 h).1
    rw [if_pos rfl, if_pos (by simpa using this), List.getElem?_map, h, Option.map_some]
  · simp [e]
theorem valsW_set (L : List IL) (i : Nat) (q : IL) : valsW (L.set i q) = (valsW L).set i q.xs := by unfold valsW; rw [List.map_set]
end Lg
end
section
set_option linter.all false
set_option maxRecDepth 100000
set_option maxHeartbeats 4000000
namespace Lg
open Go Go.Proofs
def strLe (a b : ByteArray) : Bool := strLt a b || decide (a = b)
def prevB {α : Type} (p : α → α → Bool) (l : List α) : Nat → α → Bool
  | 0, _ => false
  | j + 1, x => match l[j]? with
    | none => false
    | some y => p x y
end Lg
end
section
set_option linter.all false
set_option maxRecDepth 100000
set_option maxHeartbeats 2000000
namespace Lg
open Go Go.Proofs
def orI : List Int → Int
  | [] => 0
  | x :: l => if x ≠ 0 then x else orI l
theorem orI_cons (x : Int) (l : List Int) : orI (x :: l) = if x ≠ 0 then x else orI l := rfl
theorem cmpOr_fn (l : List Int) (hl : l.length ≤ 1000) : PFn Tryz.prog 80 [.ints l] (· = .int (orI l)) := by
  refine PFn.mk (Spec.body Tryz.func80 rfl rfl (Tryz.ntmps80) rfl fun w0 own0 M => ?_)
  have hL := intRows_len l
  repeat' (first | refine Ops.nil ?_ | refine Then.norm ?_ | refine Cw.seq ?_ | refine Cw.region ?_ | refine Cw.block ?_ | refine Cw.exit ?_ | refine Cw.skip ?_ | refine Cw.ret ?_ | refine Then.exit ?_ | refine Then.ret ?_ | refine InB.exit ?_ | refine InB.norm ?_ | refine InB.ret ?_ | refine InB.exit_ne rfl ?_ | (refine Ops.k_move ?_; first | refine Ops.move rfl rfl ?_ | refine Ops.move_any rfl ?_) | (refine Ops.k_assign ?_; first | refine Ops.assign rfl rfl ?_ | refine Ops.assign_any rfl ?_) | (refine Ops.k_load ?_; first | refine Ops.load_ref_one rfl rfl ?_ | refine Ops.load_ref_agg rfl rfl rfl ?_ | refine Ops.load_box_one rfl goPk rfl rfl ?_ | refine Ops.load_box_agg rfl goPk rfl rfl ?_ | refine Ops.load_own_one rfl goPk (by first | rfl | assumption | (simp [*]; done)) rfl rfl ?_ | refine Ops.load_own_agg rfl goPk (by first | rfl | assumption | (simp [*]; done)) rfl ?_ | refine Ops.load_box_part rfl goPk rfl rfl rfl ?_ | refine Ops.load_q_one rfl goPk (by first | rfl | assumption | (simp [*]; done)) rfl rfl ?_) | (refine Ops.k_c_len ?_; first | refine Ops.len_raw rfl rfl ?_ | refine Ops.len_sl rfl rfl ?_ | refine Ops.len_str rfl rfl rfl ?_ | refine Ops.len_q rfl rfl ?_) | (refine Ops.k_b_lss ?_; first | refine Ops.lss rfl rfl rfl ?_) | (refine Ops.k_b_neq ?_; first | refine Ops.neq rfl rfl rfl ?_) | (refine Ops.k_b_add ?_; first | refine Ops.add rfl rfl (by first | omega | (simp; done) | (simp; omega)) rfl ?_) | (refine Ops.k_indexAddr ?_; first | refine Ops.indexAddr_sl rfl rfl (by omega) (by first | rfl | assumption | (simp [*]; done)) rfl ?_ | refine Ops.indexAddr_own rfl rfl goPk (by first | rfl | omega | (simp; done) | (simp; omega)) (by first | omega | (simp; done) | (simp; omega)) (by first | omega | (simp; done) | (simp; omega)) rfl ?_ | refine Ops.indexAddr_q rfl rfl goPk (by first | rfl | omega | (simp; done) | (simp; omega)) (by first | omega | (simp; done) | (simp; omega)) (by first | omega | (simp; done) | (simp; omega)) rfl ?_) | (refine Cw.k_cond ?_; first | refine Cw.cond_true rfl ?_ | refine Cw.cond_false rfl ?_ | (refine Cw.cond_dec rfl (fun hc => ?_) (fun hc => ?_) <;> try (exfalso; omega)) | refine Cw.cond_bool rfl (fun hc => ?_) (fun hc => ?_)))
  refine Cw.loop (ι := Nat) (fun k => k ≤ l.length ∧ orI (l.drop k) = orI l) (fun k => [(3, .int 0), (6, .ints l), (7, .int (intRows l).length), (8, .int k)]) (fun _ => []) (fun k => l.length - k) ⟨0, ⟨by omega, rfl⟩, (Ent.mk goSub goTk)⟩ ?_
  rintro k ⟨hk, h1⟩
  by_cases hkl : k < l.length
  · obtain ⟨x, hx⟩ := at_lt hkl
    have hrow := intRows_at hx
    rw [drop_at hx, orI_cons] at h1
    by_cases hz : x = 0
    · rw [if_neg (by omega)] at h1
      repeat' (first | refine Ops.nil ?_ | refine Then.norm ?_ | refine Cw.seq ?_ | refine Cw.region ?_ | refine Cw.block ?_ | refine Cw.exit ?_ | refine Cw.skip ?_ | refine Cw.ret ?_ | refine Then.exit ?_ | refine Then.ret ?_ | refine InB.exit ?_ | refine InB.norm ?_ | refine InB.ret ?_ | refine InB.exit_ne rfl ?_ | (refine Ops.k_move ?_; first | refine Ops.move rfl rfl ?_ | refine Ops.move_any rfl ?_) | (refine Ops.k_assign ?_; first | refine Ops.assign rfl rfl ?_ | refine Ops.assign_any rfl ?_) | (refine Ops.k_load ?_; first | refine Ops.load_ref_one rfl rfl ?_ | refine Ops.load_ref_agg rfl rfl rfl ?_ | refine Ops.load_box_one rfl goPk rfl rfl ?_ | refine Ops.load_box_agg rfl goPk rfl rfl ?_ | refine Ops.load_own_one rfl goPk (by first | rfl | assumption | (simp [*]; done)) rfl rfl ?_ | refine Ops.load_own_agg rfl goPk (by first | rfl | assumption | (simp [*]; done)) rfl ?_ | refine Ops.load_box_part rfl goPk rfl rfl rfl ?_ | refine Ops.load_q_one rfl goPk (by first | rfl | assumption | (simp [*]; done)) rfl rfl ?_) | (refine Ops.k_c_len ?_; first | refine Ops.len_raw rfl rfl ?_ | refine Ops.len_sl rfl rfl ?_ | refine Ops.len_str rfl rfl rfl ?_ | refine Ops.len_q rfl rfl ?_) | (refine Ops.k_b_lss ?_; first | refine Ops.lss rfl rfl rfl ?_) | (refine Ops.k_b_neq ?_; first | refine Ops.neq rfl rfl rfl ?_) | (refine Ops.k_b_add ?_; first | refine Ops.add rfl rfl (by first | omega | (simp; done) | (simp; omega)) rfl ?_) | (refine Ops.k_indexAddr ?_; first | refine Ops.indexAddr_sl rfl rfl (by omega) (by first | rfl | assumption | (simp [*]; done)) rfl ?_ | refine Ops.indexAddr_own rfl rfl goPk (by first | rfl | omega | (simp; done) | (simp; omega)) (by first | omega | (simp; done) | (simp; omega)) (by first | omega | (simp; done) | (simp; omega)) rfl ?_ | refine Ops.indexAddr_q rfl rfl goPk (by first | rfl | omega | (simp; done) | (simp; omega)) (by first | omega | (simp; done) | (simp; omega)) (by first | omega | (simp; done) | (simp; omega)) rfl ?_) | (refine Cw.k_cond ?_; first | refine Cw.cond_true rfl ?_ | refine Cw.cond_false rfl ?_ | (refine Cw.cond_dec rfl (fun hc => ?_) (fun hc => ?_) <;> try (exfalso; omega)) | refine Cw.cond_bool rfl (fun hc => ?_) (fun hc => ?_)))
      exact ⟨k + 1, ⟨by omega, h1⟩, by omega, (Ent.mk goSub goTk)⟩
    · rw [if_pos hz] at h1
      repeat' (first | refine Ops.nil ?_ | refine Then.norm ?_ | refine Cw.seq ?_ | refine Cw.region ?_ | refine Cw.block ?_ | refine Cw.exit ?_ | refine Cw.skip ?_ | refine Cw.ret ?_ | refine Then.exit ?_ | refine Then.ret ?_ | refine InB.exit ?_ | refine InB.norm ?_ | refine InB.ret ?_ | refine InB.exit_ne rfl ?_ | (refine Ops.k_move ?_; first | refine Ops.move rfl rfl ?_ | refine Ops.move_any rfl ?_) | (refine Ops.k_assign ?_; first | refine Ops.assign rfl rfl ?_ | refine Ops.assign_any rfl ?_) | (refine Ops.k_load ?_; first | refine Ops.load_ref_one rfl rfl ?_ | refine Ops.load_ref_agg rfl rfl rfl ?_ | refine Ops.load_box_one rfl goPk rfl rfl ?_ | refine Ops.load_box_agg rfl goPk rfl rfl ?_ | refine Ops.load_own_one rfl goPk (by first | rfl | assumption | (simp [*]; done)) rfl rfl ?_ | refine Ops.load_own_agg rfl goPk (by first | rfl | assumption | (simp [*]; done)) rfl ?_ | refine Ops.load_box_part rfl goPk rfl rfl rfl ?_ | refine Ops.load_q_one rfl goPk (by first | rfl | assumption | (simp [*]; done)) rfl rfl ?_) | (refine Ops.k_c_len ?_; first | refine Ops.len_raw rfl rfl ?_ | refine Ops.len_sl rfl rfl ?_ | refine Ops.len_str rfl rfl rfl ?_ | refine Ops.len_q rfl rfl ?_) | (refine Ops.k_b_lss ?_; first | refine Ops.lss rfl rfl rfl ?_) | (refine Ops.k_b_neq ?_; first | refine Ops.neq rfl rfl rfl ?_) | (refine Ops.k_b_add ?_; first | refine Ops.add rfl rfl (by first | omega | (simp; done) | (simp; omega)) rfl ?_) | (refine Ops.k_indexAddr ?_; first | refine Ops.indexAddr_sl rfl rfl (by omega) (by first | rfl | assumption | (simp [*]; done)) rfl ?_ | refine Ops.indexAddr_own rfl rfl goPk (by first | rfl | omega | (simp; done) | (simp; omega)) (by first | omega | (simp; done) | (simp; omega)) (by first | omega | (simp; done) | (simp; omega)) rfl ?_ | refine Ops.indexAddr_q rfl rfl goPk (by first | rfl | omega | (simp; done) | (simp; omega)) (by first | omega | (simp; done) | (simp; omega)) (by first | omega | (simp; done) | (simp; omega)) rfl ?_) | (refine Cw.k_cond ?_; first | refine Cw.cond_true rfl ?_ | refine Cw.cond_false rfl ?_ | (refine Cw.cond_dec rfl (fun hc => ?_) (fun hc => ?_) <;> try (exfalso; omega)) | refine Cw.cond_bool rfl (fun hc => ?_) (fun hc => ?_)))
      exact Fin.ret Ent.refl (Outs.one rfl rfl) ⟨rfl, congrArg Tr.int h1⟩
  · rw [List.drop_eq_nil_of_le (by omega), orI] at h1
    repeat' (first | refine Ops.nil ?_ | refine Then.norm ?_ | refine Cw.seq ?_ | refine Cw.region ?_ | refine Cw.block ?_ | refine Cw.exit ?_ | refine Cw.skip ?_ | refine Cw.ret ?_ | refine Then.exit ?_ | refine Then.ret ?_ | refine InB.exit ?_ | refine InB.norm ?_ | refine InB.ret ?_ | refine InB.exit_ne rfl ?_ | (refine Ops.k_move ?_; first | refine Ops.move rfl rfl ?_ | refine Ops.move_any rfl ?_) | (refine Ops.k_assign ?_; first | refine Ops.assign rfl rfl ?_ | refine Ops.assign_any rfl ?_) | (refine Ops.k_load ?_; first | refine Ops.load_ref_one rfl rfl ?_ | refine Ops.load_ref_agg rfl rfl rfl ?_ | refine Ops.load_box_one rfl goPk rfl rfl ?_ | refine Ops.load_box_agg rfl goPk rfl rfl ?_ | refine Ops.load_own_one rfl goPk (by first | rfl | assumption | (simp [*]; done)) rfl rfl ?_ | refine Ops.load_own_agg rfl goPk (by first | rfl | assumption | (simp [*]; done)) rfl ?_ | refine Ops.load_box_part rfl goPk rfl rfl rfl ?_ | refine Ops.load_q_one rfl goPk (by first | rfl | assumption | (simp [*]; done)) rfl rfl ?_) | (refine Ops.k_c_len ?_; first | refine Ops.len_raw rfl rfl ?_ | refine Ops.len_sl rfl rfl ?_ | refine Ops.len_str rfl rfl rfl ?_ | refine Ops.len_q rfl rfl ?_) | (refine Ops.k_b_lss ?_; first | refine Ops.lss rfl rfl rfl ?_) | (refine Ops.k_b_neq ?_; first | refine Ops.neq rfl rfl rfl ?_) | (refine Ops.k_b_add ?_; first | refine Ops.add rfl rfl (by first | omega | (simp; done) | (simp; omega)) rfl ?_) | (refine Ops.k_indexAddr ?_; first | refine Ops.indexAddr_sl rfl rfl (by omega) (by first | rfl | assumption | (simp [*]; done)) rfl ?_ | refine Ops.indexAddr_own rfl rfl goPk (by first | rfl | omega | (simp; done) | (simp; omega)) (by first | omega | (simp; done) | (simp; omega)) (by first | omega | (simp; done) | (simp; omega)) rfl ?_ | refine Ops.indexAddr_q rfl rfl goPk (by first | rfl | omega | (simp; done) | (simp; omega)) (by first | omega | (simp; done) | (simp; omega)) (by first | omega | (simp; done) | (simp; omega)) rfl ?_) | (refine Cw.k_cond ?_; first | refine Cw.cond_true rfl ?_ | refine Cw.cond_false rfl ?_ | (refine Cw.cond_dec rfl (fun hc => ?_) (fun hc => ?_) <;> try (exfalso; omega)) | refine Cw.cond_bool rfl (fun hc => ?_) (fun hc => ?_)))
    exact Fin.ret Ent.refl (Outs.one rfl rfl) ⟨rfl, congrArg Tr.int h1⟩
end Lg
end
