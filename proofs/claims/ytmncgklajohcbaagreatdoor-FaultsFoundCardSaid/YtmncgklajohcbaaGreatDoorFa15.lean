/- A part of the proof of a law of this seat: it adds no condition. By an AI agent. -/
import Derived.Test.YtmncgklajohcbaaGreatDoorFa13
section
set_option linter.all false
set_option maxRecDepth 100000
set_option maxHeartbeats 8000000
namespace Lg
open Go Go.Proofs

/-! ### rules -/
structure Ru where
  flt : ByteArray
  nds : List ByteArray
  wo : List ByteArray
  lng : Int
def Ru.row (x : Ru) : List Tr := [.str x.flt, .strs x.nds, .strs x.wo, .int x.lng]
abbrev Tr.rus (l : List Ru) : Tr := Tr.sl 4 (l.map Ru.row)
def oddK (l : List ByteArray) : Bool := l.any fun c => !isKey c
def ruX (x : Ru) : Int := if isKey x.flt = false then 5 else if x.nds.length = 0 then 8 else if x.nds.length > 10 ∨ x.wo.length > 10 then 2 else if (oddK x.nds || oddK x.wo) = true then 5 else if x.lng < 1 ∨ 5761440 < x.lng then 1 else 0
def ruE (l : List Ru) (k : Nat) : Int := match l[k]? with
  | none => 0
  | some x => ruX x
def rulesE (l : List Ru) : Int := if l.length > 50 then 2 else firstE (ruE l) 0 l.length
structure RuF (E : Int) (q : Bool) (n m : Nat) (o1 o2 : Bool) (lng : Int) (N : Int) : Prop where
  e5 : (!q) = true → E = 5
  e8 : (!q) = false → n = 0 → E = 8
  e2 : (!q) = false → ¬ n = 0 → (n > 10 ∨ m > 10) → E = 2
  e5b : (!q) = false → ¬ n = 0 → ¬ (n > 10 ∨ m > 10) → (o1 || o2) = true → E = 5
  e1 : (!q) = false → ¬ n = 0 → ¬ (n > 10 ∨ m > 10) → (o1 || o2) = false → (lng < 1 ∨ 5761440 < lng) → E = 1
  ok : (!q) = false → ¬ n = 0 → ¬ (n > 10 ∨ m > 10) → (o1 || o2) = false → ¬ (lng < 1 ∨ 5761440 < lng) → E = N
theorem ruF {l : List Ru} {k : Nat} {x : Ru} {E : Int} (hx : l[k]? = some x) (hV : E = firstE (ruE l) k (l.length - k)) (hkl : k < l.length) : RuF E (isKey x.flt) x.nds.length x.wo.length (oddK x.nds) (oddK x.wo) x.lng (firstE (ruE l) (k + 1) (l.length - (k + 1))) := by
  have he : ruE l k = ruX x := by unfold ruE; rw [hx]
  have fin : ∀ c : Int, ruX x = c → c ≠ 0 → E = c := fun c h1 h2 => hV.trans (firstE_bad hkl (he.trans h1) h2)
  have nxt : ruX x = 0 → E = firstE (ruE l) (k + 1) (l.length - (k + 1)) := fun h1 => hV.trans (firstE_ok hkl (he.trans h1))
  clear hV he
  unfold ruX at fin nxt
  generalize isKey x.flt = q at *
  generalize oddK x.nds = o1 at *
  generalize oddK x.wo = o2 at *
  refine ⟨?_, ?_, ?_, ?_, ?_, ?_⟩
  · intro h; exact fin 5 (by rw [if_pos (by simpa using h)]) (by decide)
  · intro h h2; exact fin 8 (by rw [if_neg (by simpa using h), if_pos h2]) (by decide)
  · intro h h2 h3; exact fin 2 (by rw [if_neg (by simpa using h), if_neg h2, if_pos h3]) (by decide)
  · intro h h2 h3 h4; exact fin 5 (by rw [if_neg (by simpa using h), if_neg h2, if_neg h3, if_pos h4]) (by decide)
  · intro h h2 h3 h4 h5; exact fin 1 (by rw [if_neg (by simpa using h), if_neg h2, if_neg h3, if_neg (by rw [h4]; simp), if_pos h5]) (by decide)
  · intro h h2 h3 h4 h5; exact nxt (by rw [if_neg (by simpa using h), if_neg h2, if_neg h3, if_neg (by rw [h4]; simp), if_neg h5])
def RuB (l : List Ru) : Prop := ∀ x ∈ l, x.nds.length ≤ 1000 ∧ x.wo.length ≤ 1000
theorem oddC_fn (c : ByteArray) : PFn Tryz.prog 36 [.str c] (· = .bool (!isKey c)) := by
  have k1 := key_fn c
  refine PFn.mk (Spec.body Tryz.func36 rfl rfl (Tryz.ntmps36) rfl fun w0 own0 M => ?_)
  repeat' (first | refine goH ?_ | refine goV ?_ | refine goI ?_ | (refine Cw.k_cond ?_; first | (refine Cw.cond_dec rfl (fun hc => ?_) (fun hc => ?_) <;> try (exfalso; omega)) | refine Cw.cond_bool rfl (fun hc => ?_) (fun hc => ?_)) | (refine Ops.k_calla ?_; first | (refine Ops.k_callf 35 ?_; refine Ops.callV k1 (Evs.cons rfl Evs.nil) rfl ?_)) | fail)
  exact Fin.ret (Ent.take goTk) (Outs.one rfl rfl) ⟨rfl, rfl⟩
theorem checkRules_fn (l : List Ru) (hl : l.length ≤ 1000000) (hB : RuB l) : PFn Tryz.prog 11 [.rus l] (· = .int (rulesE l)) := by
  refine PFn.mk (Spec.body Tryz.func11 rfl rfl (Tryz.ntmps11) rfl fun w0 own0 M => ?_)
  have hL : (l.map Ru.row).length = l.length := List.length_map _
  by_cases h50 : l.length > 50
  · rw [show rulesE l = 2 by unfold rulesE; rw [if_pos h50]]
    repeat' (first | refine goH ?_ | refine goV ?_ | refine goB (fun b => ?_) | refine goG ?_ | (refine Ops.k_guard ?_; first | (refine Ops.guard_dec rfl rfl (fun hc => ?_) (fun hc => ?_) <;> try (exfalso; omega)) | refine Ops.guard_split rfl rfl (fun hc => ?_) (fun hc => ?_)) | refine goI ?_ | (refine Cw.k_cond ?_; first | (refine Cw.cond_dec rfl (fun hc => ?_) (fun hc => ?_) <;> try (exfalso; omega)) | refine Cw.cond_bool rfl (fun hc => ?_) (fun hc => ?_)) | fail)
    exact Fin.ret (Ent.take goTk) (Outs.one rfl rfl) ⟨rfl, rfl⟩
  have hV0 : rulesE l = firstE (ruE l) 0 (l.length - 0) := by unfold rulesE; rw [if_neg h50]; rfl
  generalize rulesE l = E at *
  repeat' (first | refine goH ?_ | refine goV ?_ | refine goB (fun b => ?_) | refine goG ?_ | (refine Ops.k_guard ?_; first | (refine Ops.guard_dec rfl rfl (fun hc => ?_) (fun hc => ?_) <;> try (exfalso; omega)) | refine Ops.guard_split rfl rfl (fun hc => ?_) (fun hc => ?_)) | refine goI ?_ | (refine Cw.k_cond ?_; first | (refine Cw.cond_dec rfl (fun hc => ?_) (fun hc => ?_) <;> try (exfalso; omega)) | refine Cw.cond_bool rfl (fun hc => ?_) (fun hc => ?_)) | fail)
  refine Cw.loopI [(3, _), (9, _), (10, _)] _ (fun n e c => ∃ k : Nat, n = l.length - k ∧ (k ≤ l.length ∧ E = firstE (ruE l) k (l.length - k)) ∧ e = [(11, .int k)] ∧ c = []) ⟨_, _, _, (Ent.mkP goSub goPm), 0, rfl, ⟨by omega, hV0⟩, rfl, rfl⟩ ?_
  clear hV0
  rintro _ _ _ ⟨k, rfl, ⟨hk, hV⟩, rfl, rfl⟩
  by_cases hkl : k < l.length
  rotate_left
  · rw [firstE_end hkl] at hV
    subst hV
    repeat' (first | refine goH ?_ | refine goV ?_ | refine goB (fun b => ?_) | refine goG ?_ | (refine Ops.k_guard ?_; first | (refine Ops.guard_dec rfl rfl (fun hc => ?_) (fun hc => ?_) <;> try (exfalso; omega)) | refine Ops.guard_split rfl rfl (fun hc => ?_) (fun hc => ?_)) | refine goI ?_ | (refine Cw.k_cond ?_; first | (refine Cw.cond_dec rfl (fun hc => ?_) (fun hc => ?_) <;> try (exfalso; omega)) | refine Cw.cond_bool rfl (fun hc => ?_) (fun hc => ?_)) | fail)
    exact Fin.ret (Ent.take goTk) (Outs.one rfl rfl) ⟨rfl, rfl⟩
  obtain ⟨x, hx⟩ := at_lt hkl
  have hrow : (l.map Ru.row)[k]? = some [.str x.flt, .strs x.nds, .strs x.wo, .int x.lng] := rows_at hx
  have hxb := hB x (List.mem_of_getElem? hx)
  have F := ruF hx hV hkl
  obtain ⟨xf, xn, xw, xl⟩ := x
  simp only at hrow hxb F
  clear hV hx hB
  have hnl := strRows_len xn
  have hwl := strRows_len xw
  have k1 := oddC_fn xf
  have k2 := containsFunc_str (l := xn) (p := fun c => !isKey c) (g := 36) (caps := []) (cin := []) (by omega) (fun y _ => (oddC_fn y).lend)
  have k3 := containsFunc_str (l := xw) (p := fun c => !isKey c) (g := 36) (caps := []) (cin := []) (by omega) (fun y _ => (oddC_fn y).lend)
  rw [show (xn.map fun x => [Tr.str x]) = strRows xn from rfl, show (xn.any fun c => !isKey c) = oddK xn from rfl] at k2
  rw [show (xw.map fun x => [Tr.str x]) = strRows xw from rfl, show (xw.any fun c => !isKey c) = oddK xw from rfl] at k3
  have k4 := out_fn xl 1 5761440
  generalize isKey xf = q at *
  generalize oddK xn = o1 at *
  generalize oddK xw = o2 at *
  cases o1 with
  | true =>
    repeat' (first | refine goH ?_ | refine goV ?_ | refine goB (fun b => ?_) | refine goG ?_ | (refine Ops.k_guard ?_; first | (refine Ops.guard_dec rfl rfl (fun hc => ?_) (fun hc => ?_) <;> try (exfalso; omega)) | refine Ops.guard_split rfl rfl (fun hc => ?_) (fun hc => ?_)) | refine goI ?_ | (refine Cw.k_cond ?_; first | (refine Cw.cond_dec rfl (fun hc => ?_) (fun hc => ?_) <;> try (exfalso; omega)) | refine Cw.cond_bool rfl (fun hc => ?_) (fun hc => ?_)) | (refine Ops.k_calla ?_; first | refine Ops.callS_fn (caps := []) (args := [.str xf]) rfl k1.lend (Evs.cons rfl Evs.nil) (List.Perm.refl _) rfl ?_ | (refine Ops.k_callf 37 ?_; refine Ops.callS k2 (Evs.cons rfl (Evs.cons rfl Evs.nil)) (List.Perm.refl _) rfl ?_) | (refine Ops.k_callf 37 ?_; refine Ops.callS k3 (Evs.cons rfl (Evs.cons rfl Evs.nil)) (List.Perm.refl _) rfl ?_) | (refine Ops.k_callf 38 ?_; refine Ops.callV k4 (Evs.cons rfl (Evs.cons rfl (Evs.cons rfl Evs.nil))) rfl ?_)) | fail)
    all_goals first
      | (exfalso; omega)
      | (refine Fin.ret (Ent.take goTk) (Outs.one rfl rfl) ⟨rfl, ?_⟩; first | (rw [F.e5 (by assumption)]; done) | (rw [F.e8 (by assumption) (by omega)]; done) | (rw [F.e2 (by assumption) (by omega) (by omega)]; done) | (rw [F.e5b (by assumption) (by omega) (by omega) rfl]; done))
  | false =>
    repeat' (first | refine goH ?_ | refine goV ?_ | refine goB (fun b => ?_) | refine goG ?_ | (refine Ops.k_guard ?_; first | (refine Ops.guard_dec rfl rfl (fun hc => ?_) (fun hc => ?_) <;> try (exfalso; omega)) | refine Ops.guard_split rfl rfl (fun hc => ?_) (fun hc => ?_)) | refine goI ?_ | (refine Cw.k_cond ?_; first | (refine Cw.cond_dec rfl (fun hc => ?_) (fun hc => ?_) <;> try (exfalso; omega)) | refine Cw.cond_bool rfl (fun hc => ?_) (fun hc => ?_)) | (refine Ops.k_calla ?_; first | refine Ops.callS_fn (caps := []) (args := [.str xf]) rfl k1.lend (Evs.cons rfl Evs.nil) (List.Perm.refl _) rfl ?_ | (refine Ops.k_callf 37 ?_; refine Ops.callS k2 (Evs.cons rfl (Evs.cons rfl Evs.nil)) (List.Perm.refl _) rfl ?_) | (refine Ops.k_callf 37 ?_; refine Ops.callS k3 (Evs.cons rfl (Evs.cons rfl Evs.nil)) (List.Perm.refl _) rfl ?_) | (refine Ops.k_callf 38 ?_; refine Ops.callV k4 (Evs.cons rfl (Evs.cons rfl (Evs.cons rfl Evs.nil))) rfl ?_)) | fail)
    all_goals first
      | (exfalso; omega)
      | exact ⟨_, _, _, (Ent.mk goSub goTk), ⟨k + 1, rfl, ⟨by omega, F.ok (by assumption) (by omega) (by omega) (by simpa using (by assumption : o2 = false)) (by omega)⟩, rfl, rfl⟩, by omega⟩
      | (refine Fin.ret (Ent.take goTk) (Outs.one rfl rfl) ⟨rfl, ?_⟩; first | (rw [F.e5 (by assumption)]; done) | (rw [F.e8 (by assumption) (by omega)]; done) | (rw [F.e2 (by assumption) (by omega) (by omega)]; done) | (rw [F.e5b (by assumption) (by omega) (by omega) (by simpa using (by assumption : o2 = true))]; done) | (rw [F.e1 (by assumption) (by omega) (by omega) (by simpa using (by assumption : o2 = false)) (by omega)]; done))
end Lg
end
section
set_option linter.all false
set_option maxRecDepth 100000
set_option maxHeartbeats 8000000
namespace Lg
open Go Go.Proofs

/-- slices.Grow of nil, slices.Concat: a slice of its own -/
theorem grow_str (n : Nat) (hn : n ≤ 1000000) : PFnO Tryz.prog 68 [Tr.raw (.slice none 0 0), .int n] 1 9 (· = []) := by
  unfold PFnO
  refine Spec.body Tryz.func68 rfl rfl (Tryz.ntmps68) rfl fun w0 own0 M => ?_
  refine Cw.ent (Ent.nil 1 9) ?_
  by_cases h0 : 0 < n
  · repeat' (first | refine goH ?_ | refine goV ?_ | refine goC (fun ad cap => ?_) | refine goI ?_ | (refine Cw.k_cond ?_; first | (refine Cw.cond_dec rfl (fun hc => ?_) (fun hc => ?_) <;> try (exfalso; omega)) | refine Cw.cond_bool rfl (fun hc => ?_) (fun hc => ?_)) | (refine Ops.val' rfl (OpV.cap Tryz.underlying29 rfl) ?_) | (refine Ops.append_zeros (n := n) Tryz.underlying3 rfl ?_ h0 (by omega) (by omega) rfl (fun ad cap => ?_)) | fail)
    · show some (Tr.int ((n : Int) - (((0 : Nat) : Int) - ((0 : Nat) : Int)))) = some (Tr.int (n : Int))
      rw [show (n : Int) - (((0 : Nat) : Int) - ((0 : Nat) : Int)) = (n : Int) by omega]
    · exact Fin.ret (Ent.take goTk) (Outs.one rfl rfl) ⟨_, _, [], rfl, rfl, rfl⟩
  · repeat' (first | refine goH ?_ | refine goV ?_ | refine goC (fun ad cap => ?_) | refine goI ?_ | (refine Cw.k_cond ?_; first | (refine Cw.cond_dec rfl (fun hc => ?_) (fun hc => ?_) <;> try (exfalso; omega)) | refine Cw.cond_bool rfl (fun hc => ?_) (fun hc => ?_)) | (refine Ops.val' rfl (OpV.cap Tryz.underlying29 rfl) ?_) | fail)
    exact Fin.ret (Ent.take goTk) (Outs.one rfl rfl) ⟨none, 0, [], rfl, rfl, rfl⟩
theorem concat_str (L : List (List (List Tr))) (h1 : L.length ≤ 1000) (h2 : L.flatten.length ≤ 1000000) : PFnO Tryz.prog 39 [.sl 1 (L.map fun l => [Tr.sl 1 l])] 1 9 (· = L.flatten) := by
  have hL : (L.map fun l => [Tr.sl 1 l]).length = L.length := List.length_map _
  have fl_take : ∀ {k : Nat} {l : List (List Tr)}, L[k]? = some l → (L.take (k + 1)).flatten = (L.take k).flatten ++ l := fun h => by rw [take_at h, List.flatten_append]; simp
  have fl_le : ∀ k, (L.take k).flatten.length ≤ L.flatten.length := fun k => by
    have h := List.take_append_drop k L
    have h2 := congrArg (fun l => l.flatten.length) h
    simp only [List.flatten_append, List.length_append] at h2
    omega
  unfold PFnO
  refine Spec.body Tryz.func39 rfl rfl (Tryz.ntmps39) rfl fun w0 own0 M => ?_
  repeat' (first | refine goH ?_ | refine goV ?_ | refine goC (fun ad cap => ?_) | refine goI ?_ | (refine Cw.k_cond ?_; first | (refine Cw.cond_dec rfl (fun hc => ?_) (fun hc => ?_) <;> try (exfalso; omega)) | refine Cw.cond_bool rfl (fun hc => ?_) (fun hc => ?_)) | fail)
  refine Cw.loopI [(0, _), (9, _), (10, _)] _ (fun q e cc => ∃ (k : Nat), q = L.length - k ∧ (k ≤ L.length) ∧ e = [(3, .int ((L.take k).flatten.length : Nat)), (11, .int k)] ∧ cc = []) ⟨_, _, _, (Ent.mkP goSub goPm), 0, rfl, by omega, rfl, rfl⟩ ?_
  rintro _ _ _ ⟨k, rfl, hk, rfl, rfl⟩
  by_cases hkl : k < L.length
  · obtain ⟨l, hl⟩ := at_lt hkl
    have hrow : (L.map fun l => [Tr.sl 1 l])[k]? = some [Tr.sl 1 l] := rows_at hl
    have hst := congrArg List.length (fl_take hl)
    rw [List.length_append] at hst
    have hb := fl_le (k + 1)
    clear fl_take fl_le
    repeat' (first | refine goH ?_ | refine goV ?_ | refine goC (fun ad cap => ?_) | refine goI ?_ | (refine Cw.k_cond ?_; first | (refine Cw.cond_dec rfl (fun hc => ?_) (fun hc => ?_) <;> try (exfalso; omega)) | refine Cw.cond_bool rfl (fun hc => ?_) (fun hc => ?_)) | fail)
    exact ⟨_, _, _, Ent.mk (by first | (refine Sub.cons (by show some (Tr.int _) = some (Tr.int _); congr 2; omega) ?_; repeat' (first | exact Sub.nil | refine Sub.cons rfl ?_))) goTk, ⟨k + 1, rfl, by omega, rfl, rfl⟩, by omega⟩
  · have hkk : k = L.length := by omega
    subst hkk
    have hg := grow_str L.flatten.length h2
    rw [List.take_of_length_le (Nat.le_refl _)]
    generalize hN : L.flatten.length = N at *
    repeat' (first | refine goH ?_ | refine goV ?_ | refine goC (fun ad cap => ?_) | refine goI ?_ | (refine Cw.k_cond ?_; first | (refine Cw.cond_dec rfl (fun hc => ?_) (fun hc => ?_) <;> try (exfalso; omega)) | refine Cw.cond_bool rfl (fun hc => ?_) (fun hc => ?_)) | (refine Ops.k_calla ?_; first | (refine Ops.k_callf 68 ?_; (refine Ops.callO hg (Evs.cons rfl (Evs.cons rfl Evs.nil)) rfl (fun ad cap rows hr => ?_); subst hr))) | fail)
    refine Cw.loopI [(25, _), (26, _)] _ (fun q e cc => ∃ (k : Nat) (ad : Option Addr) (cap : Nat) (rows : List (List Tr)), q = L.length - k ∧ (k ≤ L.length ∧ rows = (L.take k).flatten ∧ rows.length ≤ N) ∧ e = [(6, Tr.raw (.slice ad rows.length cap)), (27, .int k)] ∧ cc = [Chunk.own ad cap 1 9 rows])
      ⟨_, _, _, (Ent.mkP goSub goPm), 0, ad, cap, [], rfl, ⟨by omega, rfl, by simp⟩, rfl, rfl⟩ ?_
    clear ad cap
    rintro _ _ _ ⟨k, ad, cap, rows, rfl, ⟨hk, hrows, hrl⟩, rfl, rfl⟩
    by_cases hkl : k < L.length
    · obtain ⟨l, hl⟩ := at_lt hkl
      have hrow : (L.map fun l => [Tr.sl 1 l])[k]? = some [Tr.sl 1 l] := rows_at hl
      have hst := fl_take hl
      have hb := fl_le (k + 1)
      have key : rows ++ l = (L.take (k + 1)).flatten := by rw [hst, hrows]
      have hkl2 := congrArg List.length key
      rw [List.length_append] at hkl2
      clear fl_take fl_le hst
      repeat' (first | refine goH ?_ | refine goV ?_ | refine goC (fun ad cap => ?_) | refine goI ?_ | (refine Cw.k_cond ?_; first | (refine Cw.cond_dec rfl (fun hc => ?_) (fun hc => ?_) <;> try (exfalso; omega)) | refine Cw.cond_bool rfl (fun hc => ?_) (fun hc => ?_)) | fail)
      exact ⟨_, _, _, (Ent.mk goSub goTk), ⟨k + 1, _, _, _, rfl, ⟨by omega, key, by rw [List.length_append]; omega⟩, rfl, rfl⟩, by omega⟩
    · rw [List.take_of_length_le (by omega)] at hrows
      repeat' (first | refine goH ?_ | refine goV ?_ | refine goC (fun ad cap => ?_) | refine goI ?_ | (refine Cw.k_cond ?_; first | (refine Cw.cond_dec rfl (fun hc => ?_) (fun hc => ?_) <;> try (exfalso; omega)) | refine Cw.cond_bool rfl (fun hc => ?_) (fun hc => ?_)) | fail)
      exact Fin.ret (Ent.take goTk) (Outs.one rfl rfl) ⟨ad, cap, rows, rfl, rfl, hrows⟩

theorem oddRR_fn (c : ByteArray) : PFn Tryz.prog 40 [.str c] (· = .bool (!isKey c)) := by
  have k1 := keyOf_fn c
  refine PFn.mk (Spec.body Tryz.func40 rfl rfl (Tryz.ntmps40) rfl fun w0 own0 M => ?_)
  repeat' (first | refine goH ?_ | refine goV ?_ | refine goI ?_ | (refine Cw.k_cond ?_; first | (refine Cw.cond_dec rfl (fun hc => ?_) (fun hc => ?_) <;> try (exfalso; omega)) | refine Cw.cond_bool rfl (fun hc => ?_) (fun hc => ?_)) | (refine Ops.k_calla ?_; first | (refine Ops.k_callf 30 ?_; refine Ops.callV k1 (Evs.cons rfl Evs.nil) rfl ?_)) | fail)
  exact Fin.ret (Ent.take goTk) (Outs.one rfl rfl) ⟨rfl, rfl⟩
theorem rulesFault_fn (l : List Ru) (hl : l.length ≤ 1000000) (hB : RuB l) : PFn Tryz.prog 12 [.rus l] (· = .int (rulesE l)) := by
  refine PFn.mk (Spec.body Tryz.func12 rfl rfl (Tryz.ntmps12) rfl fun w0 own0 M => ?_)
  have hL : (l.map Ru.row).length = l.length := List.length_map _
  by_cases h50 : l.length > 50
  · rw [show rulesE l = 2 by unfold rulesE; rw [if_pos h50]]
    repeat' (first | refine goH ?_ | refine goV ?_ | refine goB (fun b => ?_) | refine goG ?_ | (refine Ops.k_guard ?_; first | (refine Ops.guard_dec rfl rfl (fun hc => ?_) (fun hc => ?_) <;> try (exfalso; omega)) | refine Ops.guard_split rfl rfl (fun hc => ?_) (fun hc => ?_)) | refine goI ?_ | (refine Cw.k_cond ?_; first | (refine Cw.cond_dec rfl (fun hc => ?_) (fun hc => ?_) <;> try (exfalso; omega)) | refine Cw.cond_bool rfl (fun hc => ?_) (fun hc => ?_)) | fail)
    exact Fin.ret (Ent.take goTk) (Outs.one rfl rfl) ⟨rfl, rfl⟩
  have hV0 : rulesE l = firstE (ruE l) 0 (l.length - 0) := by unfold rulesE; rw [if_neg h50]; rfl
  generalize rulesE l = E at *
  repeat' (first | refine goH ?_ | refine goV ?_ | refine goB (fun b => ?_) | refine goG ?_ | (refine Ops.k_guard ?_; first | (refine Ops.guard_dec rfl rfl (fun hc => ?_) (fun hc => ?_) <;> try (exfalso; omega)) | refine Ops.guard_split rfl rfl (fun hc => ?_) (fun hc => ?_)) | refine goI ?_ | (refine Cw.k_cond ?_; first | (refine Cw.cond_dec rfl (fun hc => ?_) (fun hc => ?_) <;> try (exfalso; omega)) | refine Cw.cond_bool rfl (fun hc => ?_) (fun hc => ?_)) | fail)
  refine Cw.loopI [(8, _), (9, _)] _ (fun n e c => ∃ k : Nat, n = l.length - k ∧ (k ≤ l.length ∧ E = firstE (ruE l) k (l.length - k)) ∧ e = [(10, .int k)] ∧ c = []) ⟨_, _, _, (Ent.mkP goSub goPm), 0, rfl, ⟨by omega, hV0⟩, rfl, rfl⟩ ?_
  clear hV0
  rintro _ _ _ ⟨k, rfl, ⟨hk, hV⟩, rfl, rfl⟩
  by_cases hkl : k < l.length
  rotate_left
  · rw [firstE_end hkl] at hV
    subst hV
    repeat' (first | refine goH ?_ | refine goV ?_ | refine goB (fun b => ?_) | refine goG ?_ | (refine Ops.k_guard ?_; first | (refine Ops.guard_dec rfl rfl (fun hc => ?_) (fun hc => ?_) <;> try (exfalso; omega)) | refine Ops.guard_split rfl rfl (fun hc => ?_) (fun hc => ?_)) | refine goI ?_ | (refine Cw.k_cond ?_; first | (refine Cw.cond_dec rfl (fun hc => ?_) (fun hc => ?_) <;> try (exfalso; omega)) | refine Cw.cond_bool rfl (fun hc => ?_) (fun hc => ?_)) | fail)
    exact Fin.ret (Ent.take goTk) (Outs.one rfl rfl) ⟨rfl, rfl⟩
  obtain ⟨x, hx⟩ := at_lt hkl
  have hrow : (l.map Ru.row)[k]? = some [.str x.flt, .strs x.nds, .strs x.wo, .int x.lng] := rows_at hx
  have hxb := hB x (List.mem_of_getElem? hx)
  have F := ruF hx hV hkl
  obtain ⟨xf, xn, xw, xl⟩ := x
  simp only at hrow hxb F
  clear hV hx hB
  have hnl := strRows_len xn
  have hwl := strRows_len xw
  have k1 := keyOf_fn xf
  have k2 := containsFunc_str (l := xn ++ xw) (p := fun c => !isKey c) (g := 40) (caps := []) (cin := []) (by rw [List.length_append]; omega) (fun y _ => (oddRR_fn y).lend)
  rw [show ((xn ++ xw).map fun x => [Tr.str x]) = strRows (xn ++ xw) from rfl, List.any_append, show (xn.any fun c => !isKey c) = oddK xn from rfl, show (xw.any fun c => !isKey c) = oddK xw from rfl] at k2
  have k3 := (concat_str [strRows xn, strRows xw] (by simp) (by simp; omega)).val
  rw [show [strRows xn, strRows xw].flatten = strRows (xn ++ xw) by rw [strRows_app]; simp] at k3
  have hcl := strRows_len (xn ++ xw)
  change PFn Tryz.prog 39 [Tr.sl 1 [[.strs xn], [.strs xw]]] (· = .strs (xn ++ xw)) at k3
  generalize isKey xf = q at *
  generalize hoo : (oddK xn || oddK xw) = o at *
  cases o with
  | true =>
    repeat' (first | refine goH ?_ | refine goV ?_ | refine goB (fun b => ?_) | refine goG ?_ | (refine Ops.k_guard ?_; first | (refine Ops.guard_dec rfl rfl (fun hc => ?_) (fun hc => ?_) <;> try (exfalso; omega)) | refine Ops.guard_split rfl rfl (fun hc => ?_) (fun hc => ?_)) | refine goI ?_ | (refine Cw.k_cond ?_; first | (refine Cw.cond_dec rfl (fun hc => ?_) (fun hc => ?_) <;> try (exfalso; omega)) | refine Cw.cond_bool rfl (fun hc => ?_) (fun hc => ?_)) | (refine Ops.k_calla ?_; first | (refine Ops.k_callf 30 ?_; refine Ops.callV k1 (Evs.cons rfl Evs.nil) rfl ?_) | (refine Ops.k_callf 39 ?_; refine Ops.callV k3 (Evs.cons rfl Evs.nil) rfl ?_) | (refine Ops.k_callf 37 ?_; refine Ops.callS k2 (Evs.cons rfl (Evs.cons rfl Evs.nil)) (List.Perm.refl _) rfl ?_) | (refine Ops.k_callf 37 ?_; (refine Ops.call k2 (Evs.cons rfl (Evs.cons rfl Evs.nil)) goPm rfl ?_; rintro r cs' ⟨rfl, rfl⟩))) | fail)
    all_goals first
      | (exfalso; omega)
      | (refine Fin.ret (Ent.take goTk) (Outs.one rfl rfl) ⟨rfl, ?_⟩; first | (rw [F.e5 (by assumption)]; done) | (rw [F.e8 (by assumption) (by omega)]; done) | (rw [F.e2 (by assumption) (by omega) (by omega)]; done) | (rw [F.e5b (by assumption) (by omega) (by omega) hoo]; done))
  | false =>
    repeat' (first | refine goH ?_ | refine goV ?_ | refine goB (fun b => ?_) | refine goG ?_ | (refine Ops.k_guard ?_; first | (refine Ops.guard_dec rfl rfl (fun hc => ?_) (fun hc => ?_) <;> try (exfalso; omega)) | refine Ops.guard_split rfl rfl (fun hc => ?_) (fun hc => ?_)) | refine goI ?_ | (refine Cw.k_cond ?_; first | (refine Cw.cond_dec rfl (fun hc => ?_) (fun hc => ?_) <;> try (exfalso; omega)) | refine Cw.cond_bool rfl (fun hc => ?_) (fun hc => ?_)) | (refine Ops.k_calla ?_; first | (refine Ops.k_callf 30 ?_; refine Ops.callV k1 (Evs.cons rfl Evs.nil) rfl ?_) | (refine Ops.k_callf 39 ?_; refine Ops.callV k3 (Evs.cons rfl Evs.nil) rfl ?_) | (refine Ops.k_callf 37 ?_; refine Ops.callS k2 (Evs.cons rfl (Evs.cons rfl Evs.nil)) (List.Perm.refl _) rfl ?_) | (refine Ops.k_callf 37 ?_; (refine Ops.call k2 (Evs.cons rfl (Evs.cons rfl Evs.nil)) goPm rfl ?_; rintro r cs' ⟨rfl, rfl⟩))) | fail)
    all_goals first
      | (exfalso; omega)
      | exact ⟨_, _, _, (Ent.mk goSub goTk), ⟨k + 1, rfl, ⟨by omega, F.ok (by assumption) (by omega) (by omega) hoo (by omega)⟩, rfl, rfl⟩, by omega⟩
      | (refine Fin.ret (Ent.take goTk) (Outs.one rfl rfl) ⟨rfl, ?_⟩; first | (rw [F.e5 (by assumption)]; done) | (rw [F.e8 (by assumption) (by omega)]; done) | (rw [F.e2 (by assumption) (by omega) (by omega)]; done) | (rw [F.e1 (by assumption) (by omega) (by omega) hoo (by omega)]; done))
end Lg
end
