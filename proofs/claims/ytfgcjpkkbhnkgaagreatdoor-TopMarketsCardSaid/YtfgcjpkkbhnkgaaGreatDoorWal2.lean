/- A part of the proof of a law of this seat: it adds no condition. By an AI agent. -/
import Derived.Test.YtfgcjpkkbhnkgaaGreatDoorSGen
section
set_option linter.all false
set_option maxRecDepth 100000
set_option maxHeartbeats 4000000
namespace Lg
open Go Go.Proofs

/-! ### wallets, in plain terms -/
structure Wal where
 sites : List ByteArray
 rights : List (List Int)
 used : List Int
abbrev Tr.wal (w : Wal) : Tr := .agg [.strs w.sites, .sl 1 (intsR w.rights), .ints w.used]
def at2 (R : List (List Int)) (i j : Nat) : Int := (R.getD i []).getD j 0
def rgtN (R : List (List Int)) (u : List Int) (i : Nat) : Nat → Int
 |0 => at2 R i i - u.getD i 0
 |j + 1 => if j = i then rgtN R u i j else rgtN R u i j + (at2 R j i - at2 R i j)
def rgt (w : Wal) (i : Nat) : Int := rgtN w.rights w.used i w.sites.length
def bC (x : Int) : Bool := decide (x < 0 ∨ 1000000000 < x)
def formB (n : Nat) (l : List Int) : Bool := decide (l.length ≠ n)
def rgtE (w : Wal) (i : Nat) : Int := if rgt w i < 0 then 16 else 0
structure WOk (w : Wal) : Prop where
 n1 : w.sites.length ≤ 12
 r : w.rights.length = w.sites.length
 u : w.used.length = w.sites.length
 rr : ∀ l ∈ w.rights, l.length = w.sites.length
 ru : ∀ x ∈ w.used, 0 ≤ x ∧ x ≤ 1000000000
 rx : ∀ l ∈ w.rights, ∀ x ∈ l, 0 ≤ x ∧ x ≤ 1000000000
/-- lengths alone -/
structure WBd (w : Wal) : Prop where
 n1 : w.sites.length ≤ 100
 r : w.rights.length ≤ 100
 u : w.used.length ≤ 100
 rr : ∀ l ∈ w.rights, l.length ≤ 100
theorem WOk.bd {w : Wal} (h : WOk w) : WBd w := ⟨by have := h.n1; omega, by have := h.n1; have := h.r; omega, by have := h.n1; have := h.u; omega, fun l hl => by have := h.n1; have := h.rr l hl; omega⟩
theorem flat_bd {L : List (List Int)} {n m : Nat} (h : ∀ l ∈ L, l.length ≤ m) (hn : L.length ≤ n) : L.flatten.length ≤ n * m := by
 induction L generalizing n with
 |nil => simp
 |cons l L ih =>
  cases n with
  |zero => simp at hn
  |succ n =>
   have h1 := h l (List.mem_cons_self ..)
   have h2 := ih (fun l hl => h l (List.mem_cons_of_mem _ hl)) (by simpa using hn)
   rw [List.flatten_cons, List.length_append, Nat.succ_mul]
   omega
theorem bC_ok {l : List Int} (h : l.any bC = false) : ∀ x ∈ l, 0 ≤ x ∧ x ≤ 1000000000 := by
 intro x hx
 have : bC x = false := by
  cases h2 : bC x
  ·rfl
  ·rw [List.any_eq_true.2 ⟨x, hx, h2⟩] at h; cases h
 simp [bC] at this
 omega
theorem formB_ok {n : Nat} {L : List (List Int)} (h : L.any (formB n) = false) : ∀ l ∈ L, l.length = n := by
 intro x hx
 have : formB n x = false := by
  cases h2 : formB n x
  ·rfl
  ·rw [List.any_eq_true.2 ⟨x, hx, h2⟩] at h; cases h
 simpa [formB] using this
theorem WOk.at2 {w : Wal} (h : WOk w) {i j : Nat} (hi : i < w.sites.length) (hj : j < w.sites.length) : ∃ l x, w.rights[i]? = some l ∧ l[j]? = some x ∧ at2 w.rights i j = x ∧ 0 ≤ x ∧ x ≤ 1000000000 := by
 have hr := h.r
 have e1 : w.rights[i]? = some (w.rights[i]) := List.getElem?_eq_getElem (by omega)
 have hl := h.rr _ (List.getElem_mem (show i < w.rights.length by omega))
 have e2 : (w.rights[i])[j]? = some ((w.rights[i])[j]) := List.getElem?_eq_getElem (by omega)
 refine ⟨_, _, e1, e2, ?_, h.rx _ (List.getElem_mem _) _ (List.getElem_mem _)⟩
 unfold Lg.at2
 have e3 : w.rights.getD i [] = w.rights[i] := by rw [List.getD_eq_getElem?_getD, e1, Option.getD_some]
 rw [e3, List.getD_eq_getElem?_getD, e2, Option.getD_some]
theorem WOk.us {w : Wal} (h : WOk w) {i : Nat} (hi : i < w.sites.length) : ∃ x, w.used[i]? = some x ∧ w.used.getD i 0 = x ∧ 0 ≤ x ∧ x ≤ 1000000000 := by
 have hr := h.u
 have e1 : w.used[i]? = some (w.used[i]) := List.getElem?_eq_getElem (by omega)
 exact ⟨_, e1, by rw [List.getD_eq_getElem?_getD, e1, Option.getD_some], h.ru _ (List.getElem_mem _)⟩
theorem rgtN_bd {w : Wal} (h : WOk w) {i : Nat} (hi : i < w.sites.length) : ∀ j, j ≤ w.sites.length → -(1000000000 * ((j : Int) + 1)) ≤ rgtN w.rights w.used i j ∧ rgtN w.rights w.used i j ≤ 1000000000 * ((j : Int) + 1)
 |0, _ => by
  obtain ⟨_, x, _, _, e, h1, h2⟩ := h.at2 hi hi
  obtain ⟨y, _, e2, h3, h4⟩ := h.us hi
  unfold rgtN
  rw [e, e2]
  omega
 |j + 1, hj => by
  have ih := rgtN_bd h hi j (by omega)
  obtain ⟨_, x, _, _, e, h1, h2⟩ := h.at2 hi (show j < w.sites.length by omega)
  obtain ⟨_, y, _, _, e2, h3, h4⟩ := h.at2 (show j < w.sites.length by omega) hi
  unfold rgtN
  split
  ·omega
  ·rw [e, e2]
   omega
/-! ### an owned slice of owned slices of numbers -/
structure IL where
 ad : Option Addr
 cap : Nat
 xs : List Int
def IL.val (p : IL) : Value := .slice p.ad (intRows p.xs).length p.cap
def IL.own (E : TypeId) (p : IL) : Chunk := Chunk.own p.ad p.cap 1 E (intRows p.xs)
def IL.in1 (p : IL) : Unit × In1 := ((), ⟨p.ad, p.cap, intRows p.xs⟩)
def rowsW (L : List IL) : List (List Tr) := L.map fun p => [Tr.raw p.val]
def ownsW (E : TypeId) (L : List IL) : List Chunk := L.map (IL.own E)
def valsW (L : List IL) : List (List Int) := L.map IL.xs
theorem rowsW_len (L : List IL) : (rowsW L).length = L.length := by simp [rowsW]
theorem valsW_len (L : List IL) : (valsW L).length = L.length := by simp [valsW]
theorem rowsW_snoc (L : List IL) (p : IL) : rowsW L ++ [[Tr.raw p.val]] = rowsW (L ++ [p]) := by simp [rowsW]
theorem ownsW_snoc (E : TypeId) (L : List IL) (p : IL) : ownsW E L ++ [p.own E] = ownsW E (L ++ [p]) := by simp [ownsW]
theorem valsW_snoc (L : List IL) (p : IL) : valsW (L ++ [p]) = valsW L ++ [p.xs] := by simp [valsW]
theorem rowsW_get {L : List IL} {k : Nat} {p : IL} (h : L[k]? = some p) : (rowsW L)[k]? = some [Tr.raw p.val] := by simp [rowsW, h]
theorem ent_nestW {Γ : Ctx} {env : Env} {cs cf cf' : List Chunk} {E E2 : TypeId} {L : List IL} {ad : Option Addr} {cap : Nat} (h1 : cs.Perm (Chunk.own ad cap 1 E (rowsW L) :: cf')) (h2 : cf'.Perm (Chunk.bun (ownsW E2 L) :: cf)) : Ent Γ env cs env (Chunk.own ad cap 1 E (intsR (valsW L)) :: cf) := by
 have e : intsR (valsW L) = (L.map IL.in1).map fun p => (fun _ => []) p.1 ++ Tr.sl 1 p.2.rows :: (fun _ => []) p.1 := by simp [intsR, valsW, IL.in1, Tr.ints]
 rw [e]
 exact Ent.settle_nest (fun _ => []) (fun _ => []) (E2 := E2) h1 h2 (by simp [rowsW, IL.in1, In1.val, IL.val]) (by simp [ownsW, IL.in1, In1.own, IL.own])
theorem split_at' {L : List IL} {i : Nat} {p : IL} (h : L[i]? = some p) : L = L.take i ++ p :: L.drop (i + 1) := by
 have hi := (List.getElem?_eq_some_iff.1 h)
 obtain ⟨hlt, e⟩ := hi
 rw [← e]
 simp
def restW (E : TypeId) (L : List IL) (i : Nat) : Chunk := Chunk.bun (ownsW E (L.take i) ++ ownsW E (L.drop (i + 1)))
theorem ent_pullW {Γ : Ctx} {env : Env} {cs cf : List Chunk} {E : TypeId} {L : List IL} {i : Nat} {p : IL} (h : L[i]? = some p) (hp : cs.Perm (Chunk.bun (ownsW E L) :: cf)) : Ent Γ env cs env (Chunk.own p.ad p.cap 1 E (intRows p.xs) :: restW E L i :: cf) := by
 have e : ownsW E L = ownsW E (L.take i) ++ p.own E :: ownsW E (L.drop (i + 1)) := by
  conv => lhs; rw [split_at' h]
  simp [ownsW]
 rw [e] at hp
 exact Ent.pull hp
theorem set_split {L : List IL} {i : Nat} {p q : IL} (h : L[i]? = some p) : L.set i q = L.take i ++ q :: L.drop (i + 1) := by
 rw [List.set_eq_take_append_cons_drop, if_pos (List.getElem?_eq_some_iff.1 h).1]
theorem ent_putW {Γ : Ctx} {env : Env} {cs cf cf' : List Chunk} {E : TypeId} {L : List IL} {i : Nat} {p q : IL} (h : L[i]? = some p) (h1 : cs.Perm (Chunk.own q.ad q.cap 1 E (intRows q.xs) :: cf')) (h2 : cf'.Perm (restW E L i :: cf)) : Ent Γ env cs env (Chunk.bun (ownsW E (L.set i q)) :: cf) := by
 have e : ownsW E (L.set i q) = ownsW E (L.take i) ++ q.own E :: ownsW E (L.drop (i + 1)) := by
  rw [set_split h]
  simp [ownsW]
 rw [e]
 exact Ent.putb h1 h2
theorem rowsW_set {L : List IL} {i : Nat} {p q : IL} (h : L[i]? = some p) (hv : q.val = p.val) : rowsW (L.set i q) = rowsW L := by
 unfold rowsW
 rw [List.map_set, hv]
 refine List.ext_getElem? fun k => ?_
 rw [List.getElem?_set]
 by_cases e : i = k
 ·subst e
  have := (List.getElem?_eq_some_iff.1 h).1
  rw [if_pos rfl, if_pos (by simpa using this), List.getElem?_map, h, Option.map_some]
 ·simp [e]
theorem valsW_set (L : List IL) (i : Nat) (q : IL) : valsW (L.set i q) = (valsW L).set i q.xs := by unfold valsW; rw [List.map_set]
end Lg
end
section
set_option linter.all false
set_option maxRecDepth 100000
set_option maxHeartbeats 4000000
namespace Lg
open Go Go.Proofs

def keyE (l : List ByteArray) (k : Nat) : Int := match l[k]? with
 |none => 0
 |some x => if isKey x = false then 5 else if prevB (fun x y => strLe x y) l k x then 7 else 0
def riseE (l : List ByteArray) : Int := firstE (keyE l) 0 l.length
def sitE (l : List ByteArray) : Int := if l.length = 0 then 8 else if l.length > 12 then 2 else riseE l
theorem sitesLoop (l : List ByteArray) (hl : l.length ≤ 1000000) (h10 : 15 = 15 → 0 < l.length ∧ l.length ≤ 12) : PFn Tryz.prog 16 [.strs l] (· = .int (riseE l)) := by
 refine PFn.mk (Spec.body Tryz.func16 rfl rfl (Tryz.ntmps16) rfl fun w0 own0 M => ?_)
 have hL := strRows_len l
 have hV0 : riseE l = firstE (keyE l) 0 (l.length - 0) := rfl
 try have h11 := h10 rfl
 repeat' (first | refine goH ?_ | refine goV ?_ | refine goG ?_ | (refine Ops.k_guard ?_; first | (refine Ops.guard_dec rfl rfl ?_ ?_ <;> intro hc <;> try omega) | refine Ops.guard_split rfl rfl ?_ ?_ <;> intro hc) | refine goI ?_ | (refine Cw.k_cond ?_; first | (refine Cw.cond_dec rfl ?_ ?_ <;> intro hc <;> try omega) | refine Cw.cond_bool rfl ?_ ?_ <;> intro hc) | fail)
 refine Cw.loopI [(0, _), (13, _), (14, _)] _ (fun n e c => ∃ k : Nat, n = l.length - k ∧ (k ≤ l.length ∧ riseE l = firstE (keyE l) k (l.length - k)) ∧ e = [(15, .int k)] ∧ c = []) ⟨_, _, _, (Ent.mkP goSub goPm), 0, rfl, ⟨by omega, hV0⟩, rfl, rfl⟩ ?_
 rintro _ _ _ ⟨k, rfl, ⟨hk, hV⟩, rfl, rfl⟩
 by_cases hkl : k < l.length
 ·obtain ⟨x, hx⟩ := at_lt hkl
  have hrow := strRows_at hx
  have hkey := key_fn x
  have fin : ∀ c, keyE l k = c → c ≠ 0 → riseE l = c := fun c h1 h2 => hV.trans (firstE_bad hkl h1 h2)
  have nxt : keyE l k = 0 → riseE l = firstE (keyE l) (k + 1) (l.length - (k + 1)) := fun h1 => hV.trans (firstE_ok hkl h1)
  by_cases g1 : isKey x = false
  ·rw [g1] at hkey
   repeat' (first | refine goH ?_ | refine goV ?_ | refine goG ?_ | (refine Ops.k_guard ?_; first | (refine Ops.guard_dec rfl rfl ?_ ?_ <;> intro hc <;> try omega) | refine Ops.guard_split rfl rfl ?_ ?_ <;> intro hc) | refine goI ?_ | (refine Cw.k_cond ?_; first | (refine Cw.cond_dec rfl ?_ ?_ <;> intro hc <;> try omega) | refine Cw.cond_bool rfl ?_ ?_ <;> intro hc) | (refine Ops.k_calla ?_; first | (refine Ops.k_callf 41 ?_; refine Ops.callV hkey (Evs.cons rfl Evs.nil) rfl ?_)) | fail)
   exact Fin.ret (Ent.take goTk) (Outs.one rfl rfl) ⟨rfl, congrArg Tr.int (fin 5 (by simp [keyE, hx, g1]) (by decide)).symm⟩
  replace g1 : isKey x = true := by simpa using g1
  rw [g1] at hkey
  cases k with
  |zero =>
   repeat' (first | refine goH ?_ | refine goV ?_ | refine goG ?_ | (refine Ops.k_guard ?_; first | (refine Ops.guard_dec rfl rfl ?_ ?_ <;> intro hc <;> try omega) | refine Ops.guard_split rfl rfl ?_ ?_ <;> intro hc) | refine goI ?_ | (refine Cw.k_cond ?_; first | (refine Cw.cond_dec rfl ?_ ?_ <;> intro hc <;> try omega) | refine Cw.cond_bool rfl ?_ ?_ <;> intro hc) | (refine Ops.k_calla ?_; first | (refine Ops.k_callf 41 ?_; refine Ops.callV hkey (Evs.cons rfl Evs.nil) rfl ?_)) | fail)
   exact ⟨_, _, _, (Ent.mk goSub goTk), ⟨_, rfl, ⟨by omega, nxt (by simp [keyE, hx, prevB, g1])⟩, rfl, rfl⟩, by omega⟩
  |succ j =>
   obtain ⟨y, hy⟩ := at_lt (l := l) (k := j) (by omega)
   have hrow2 : (strRows l)[(((j + 1 : Nat) : Int) - 1).toNat]? = some [.str y] := by rw [show (((j + 1 : Nat) : Int) - 1).toNat = j by omega]; exact strRows_at hy
   have hp : prevB (fun x y => strLe x y) l (j + 1) x = (strLt x y || decide (x = y)) := by simp [prevB, hy, strLe]
   cases g2 : (strLt x y || decide (x = y))
   ·rw [g2] at hp
    repeat' (first | refine goH ?_ | refine goV ?_ | refine goG ?_ | (refine Ops.k_guard ?_; first | (refine Ops.guard_dec rfl rfl ?_ ?_ <;> intro hc <;> try omega) | refine Ops.guard_split rfl rfl ?_ ?_ <;> intro hc) | refine goI ?_ | (refine Cw.k_cond ?_; first | (refine Cw.cond_dec rfl ?_ ?_ <;> intro hc <;> try omega) | refine Cw.cond_bool rfl ?_ ?_ <;> intro hc) | (refine Ops.k_calla ?_; first | (refine Ops.k_callf 41 ?_; refine Ops.callV hkey (Evs.cons rfl Evs.nil) rfl ?_)) | fail)
    all_goals first | (exfalso; simp_all; done) | exact ⟨_, _, _, (Ent.mk goSub goTk), ⟨_, rfl, ⟨by omega, nxt (by simp [keyE, hx, g1, hp])⟩, rfl, rfl⟩, by omega⟩
   ·rw [g2] at hp
    repeat' (first | refine goH ?_ | refine goV ?_ | refine goG ?_ | (refine Ops.k_guard ?_; first | (refine Ops.guard_dec rfl rfl ?_ ?_ <;> intro hc <;> try omega) | refine Ops.guard_split rfl rfl ?_ ?_ <;> intro hc) | refine goI ?_ | (refine Cw.k_cond ?_; first | (refine Cw.cond_dec rfl ?_ ?_ <;> intro hc <;> try omega) | refine Cw.cond_bool rfl ?_ ?_ <;> intro hc) | (refine Ops.k_calla ?_; first | (refine Ops.k_callf 41 ?_; refine Ops.callV hkey (Evs.cons rfl Evs.nil) rfl ?_)) | fail)
    all_goals first | (exfalso; simp_all; done) | exact Fin.ret (Ent.take goTk) (Outs.one rfl rfl) ⟨rfl, congrArg Tr.int (fin 7 (by simp [keyE, hx, g1, hp]) (by decide)).symm⟩
 ·repeat' (first | refine goH ?_ | refine goV ?_ | refine goG ?_ | (refine Ops.k_guard ?_; first | (refine Ops.guard_dec rfl rfl ?_ ?_ <;> intro hc <;> try omega) | refine Ops.guard_split rfl rfl ?_ ?_ <;> intro hc) | refine goI ?_ | (refine Cw.k_cond ?_; first | (refine Cw.cond_dec rfl ?_ ?_ <;> intro hc <;> try omega) | refine Cw.cond_bool rfl ?_ ?_ <;> intro hc) | fail)
  refine Fin.ret (Ent.take goTk) (Outs.one rfl rfl) ⟨rfl, congrArg Tr.int ?_⟩
  rw [hV, firstE_end hkl]
theorem sitesFault_fn (l : List ByteArray) (hl : l.length ≤ 1000000) : PFn Tryz.prog 16 [.strs l] (· = .int (sitE l)) := by
 unfold sitE
 have hL := strRows_len l
 by_cases h1 : l.length = 0
 ·rw [if_pos h1]
  refine PFn.mk (Spec.body Tryz.func16 rfl rfl (Tryz.ntmps16) rfl fun w0 own0 M => ?_)
  repeat' (first | refine goH ?_ | refine goV ?_ | refine goG ?_ | (refine Ops.k_guard ?_; first | (refine Ops.guard_dec rfl rfl ?_ ?_ <;> intro hc <;> try omega) | refine Ops.guard_split rfl rfl ?_ ?_ <;> intro hc) | refine goI ?_ | (refine Cw.k_cond ?_; first | (refine Cw.cond_dec rfl ?_ ?_ <;> intro hc <;> try omega) | refine Cw.cond_bool rfl ?_ ?_ <;> intro hc) | fail)
  exact Fin.ret (Ent.take goTk) (Outs.one rfl rfl) ⟨rfl, rfl⟩
 rw [if_neg h1]
 by_cases h2 : l.length > 12
 ·rw [if_pos h2]
  refine PFn.mk (Spec.body Tryz.func16 rfl rfl (Tryz.ntmps16) rfl fun w0 own0 M => ?_)
  repeat' (first | refine goH ?_ | refine goV ?_ | refine goG ?_ | (refine Ops.k_guard ?_; first | (refine Ops.guard_dec rfl rfl ?_ ?_ <;> intro hc <;> try omega) | refine Ops.guard_split rfl rfl ?_ ?_ <;> intro hc) | refine goI ?_ | (refine Cw.k_cond ?_; first | (refine Cw.cond_dec rfl ?_ ?_ <;> intro hc <;> try omega) | refine Cw.cond_bool rfl ?_ ?_ <;> intro hc) | fail)
  exact Fin.ret (Ent.take goTk) (Outs.one rfl rfl) ⟨rfl, rfl⟩
 rw [if_neg h2]
 exact sitesLoop l hl (fun _ => by omega)
end Lg
end
section
set_option linter.all false
set_option maxRecDepth 100000
set_option maxHeartbeats 8000000
namespace Lg
open Go Go.Proofs

def badForm (w : Wal) : Bool := decide (w.rights.length ≠ w.sites.length) || (decide (w.used.length ≠ w.sites.length) || w.rights.any (formB w.sites.length))
def walE (w : Wal) : Int := if sitE w.sites ≠ 0 then sitE w.sites else if badForm w = true then 3 else if (w.rights.flatten ++ w.used).any bC = true then 1 else firstE (rgtE w) 0 w.sites.length
theorem walE_len {w : Wal} (h : sitE w.sites = 0) : w.sites.length ≤ 12 := by
 unfold sitE at h
 split at h
 ·omega
 ·split at h
  ·omega
  ·omega
theorem wok_of {w : Wal} (h1 : sitE w.sites = 0) (h2 : badForm w = false) (h3 : (w.rights.flatten ++ w.used).any bC = false) : WOk w := by
 unfold badForm at h2
 simp only [Bool.or_eq_false_iff, decide_eq_false_iff_not] at h2
 obtain ⟨a1, a2, a3⟩ := h2
 have hb := bC_ok h3
 refine ⟨walE_len h1, by omega, by omega, formB_ok a3, fun x hx => hb x (List.mem_append_right _ hx), fun l hl x hx => hb x (List.mem_append_left _ (List.mem_flatten.2 ⟨l, hl, hx⟩))⟩
theorem wok_E {w : Wal} (h : walE w = 0) : WOk w := by
 unfold walE at h
 by_cases h1 : sitE w.sites ≠ 0
 ·rw [if_pos h1] at h; exact absurd h h1
 rw [if_neg h1] at h
 cases h2 : badForm w
 ·rw [h2, if_neg (by decide)] at h
  cases h3 : (w.rights.flatten ++ w.used).any bC
  ·exact wok_of (by omega) h2 h3
  ·rw [h3, if_pos rfl] at h; cases h
 ·rw [h2, if_pos rfl] at h; cases h
theorem rightsD_fn (w : Wal) (h : WOk w) (i : Nat) (hi : i < w.sites.length) : PFn Tryz.prog 32 [.wal w, .int i] (· = .int (rgt w i)) := by
 have hS := strRows_len w.sites
 have hR := intsR_len w.rights
 have hU := intRows_len w.used
 have n1 := h.n1
 have nr := h.r
 have nu := h.u
 obtain ⟨li, x, e1, e2, e3, b1, b2⟩ := h.at2 hi hi
 obtain ⟨y, u1, u2, b3, b4⟩ := h.us hi
 have r1 := intsR_at e1
 have r2 := intRows_at e2
 have r3 := intRows_at u1
 have hli := h.rr li (List.mem_of_getElem? e1)
 have hlr := intRows_len li
 have g0 : rgtN w.rights w.used i 0 = x - y := by unfold rgtN; rw [e3, u2]
 refine PFn.mk (Spec.body Tryz.func32 rfl rfl (Tryz.ntmps32) rfl fun w0 own0 M => ?_)
 repeat' (first | refine goH ?_ | refine goV ?_ | refine goB (fun b => ?_) | refine goI ?_ | (refine Cw.k_cond ?_; first | (refine Cw.cond_dec rfl ?_ ?_ <;> intro hc <;> try omega) | refine Cw.cond_bool rfl ?_ ?_ <;> intro hc) | refine goR ?_ | refine goP ?_ | apply PSeq.cons | apply PSeq.yes rfl rfl rfl | exact goW | fail)
 refine Cw.loopI [(1, _), (2, _), (23, _)] _ (fun q e cc => ∃ (j : Nat) (v : Int), q = w.sites.length - j ∧ (j ≤ w.sites.length ∧ v = rgtN w.rights w.used i j) ∧ e = [(5, .int v), (24, .int j)] ∧ cc = []) ⟨_, _, _, (Ent.mkP goSub goPm), 0, x - y, rfl, ⟨by omega, g0.symm⟩, rfl, rfl⟩ ?_
 rintro _ _ _ ⟨j, v, rfl, ⟨hj, hv⟩, rfl, rfl⟩
 by_cases hjl : j < w.sites.length
 rotate_left
 ·repeat' (first | refine goH ?_ | refine goV ?_ | refine goB (fun b => ?_) | refine goI ?_ | (refine Cw.k_cond ?_; first | (refine Cw.cond_dec rfl ?_ ?_ <;> intro hc <;> try omega) | refine Cw.cond_bool rfl ?_ ?_ <;> intro hc) | refine goR ?_ | refine goP ?_ | apply PSeq.cons | apply PSeq.yes rfl rfl rfl | exact goW | fail)
  refine Fin.ret (Ent.take goTk) (Outs.one rfl rfl) ⟨rfl, congrArg Tr.int ?_⟩
  rw [hv, show j = w.sites.length by omega]
  rfl
 have bd := rgtN_bd h hi j hj
 rw [← hv] at bd
 by_cases hji : j = i
 ·have nx : v = rgtN w.rights w.used i (j + 1) := by rw [hv]; rw [rgtN]; rw [if_pos hji]
  repeat' (first | refine goH ?_ | refine goV ?_ | refine goB (fun b => ?_) | refine goI ?_ | (refine Cw.k_cond ?_; first | (refine Cw.cond_dec rfl ?_ ?_ <;> intro hc <;> try omega) | refine Cw.cond_bool rfl ?_ ?_ <;> intro hc) | refine goR ?_ | refine goP ?_ | apply PSeq.cons | apply PSeq.yes rfl rfl rfl | exact goW | fail)
  exact ⟨_, _, _, (Ent.mk goSub goTk), ⟨j + 1, v, rfl, ⟨by omega, nx⟩, rfl, rfl⟩, by omega⟩
 ·obtain ⟨lj, p, f1, f2, f3, c1, c2⟩ := h.at2 hjl hi
  obtain ⟨li', q, f4, f5, f6, c3, c4⟩ := h.at2 hi hjl
  rw [e1] at f4
  cases f4
  have r4 := intsR_at f1
  have r5 := intRows_at f2
  have r6 := intRows_at f5
  have hlj := h.rr lj (List.mem_of_getElem? f1)
  have hljr := intRows_len lj
  have nx : v + (p - q) = rgtN w.rights w.used i (j + 1) := by rw [hv]; conv => rhs; rw [rgtN]
                                                               rw [if_neg hji, f3, f6]
  repeat' (first | refine goH ?_ | refine goV ?_ | refine goB (fun b => ?_) | refine goI ?_ | (refine Cw.k_cond ?_; first | (refine Cw.cond_dec rfl ?_ ?_ <;> intro hc <;> try omega) | refine Cw.cond_bool rfl ?_ ?_ <;> intro hc) | refine goR ?_ | refine goP ?_ | apply PSeq.cons | apply PSeq.yes rfl rfl rfl | exact goW | fail)
  exact ⟨_, _, _, (Ent.mk goSub goTk), ⟨j + 1, _, rfl, ⟨by omega, nx⟩, rfl, rfl⟩, by omega⟩
end Lg
end
