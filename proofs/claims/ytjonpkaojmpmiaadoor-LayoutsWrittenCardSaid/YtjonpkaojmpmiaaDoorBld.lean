/- A part of the proof of a law of this seat: it adds no condition. By an AI agent. -/
import Derived.Test.YtjonpkaojmpmiaaDoorLgBld
import Derived.Test.YtjonpkaojmpmiaaDoorLay7
section
set_option linter.all false
set_option maxRecDepth 100000
set_option maxHeartbeats 4000000
namespace Lg
open Go Go.Proofs

/-! ### words, and the tasks between two layouts -/
abbrev eL : ByteArray := ⟨#[]⟩
def oddL (s : ByteArray) : Bool := decide (s ≠ eL) && !isKey s
theorem odd_fn (s : ByteArray) : PFn Tryd.prog 30 [.str s] (· = .bool (oddL s)) := by
  have k1 := key_fn s
  refine PFn.mk (Spec.body Tryd.func30 rfl rfl (Tryd.ntmps30) rfl fun w0 own0 M => ?_)
  unfold oddL
  by_cases h : s = eL
  · subst h
    repeat' (first | refine goH ?_ | refine goV ?_ | refine goG ?_ | (refine Ops.k_guard ?_; first | (refine Ops.guard_dec rfl rfl (fun hc => ?_) (fun hc => ?_) <;> try (exfalso; omega)) | refine Ops.guard_split rfl rfl (fun hc => ?_) (fun hc => ?_)) | refine goI ?_ | (refine Cw.k_cond ?_; first | (refine Cw.cond_dec rfl (fun hc => ?_) (fun hc => ?_) <;> try (exfalso; omega)) | refine Cw.cond_bool rfl (fun hc => ?_) (fun hc => ?_)) | (refine Ops.k_calla ?_; first | (refine Ops.k_callf 47 ?_; refine Ops.callV k1 (Evs.cons rfl Evs.nil) rfl ?_)) | fail)
    all_goals first | (refine Fin.ret (Ent.take goTk) (Outs.one rfl rfl) ⟨rfl, ?_⟩; rfl) | (exfalso; simp_all; done)
  · generalize isKey s = b at *
    repeat' (first | refine goH ?_ | refine goV ?_ | refine goG ?_ | (refine Ops.k_guard ?_; first | (refine Ops.guard_dec rfl rfl (fun hc => ?_) (fun hc => ?_) <;> try (exfalso; omega)) | refine Ops.guard_split rfl rfl (fun hc => ?_) (fun hc => ?_)) | refine goI ?_ | (refine Cw.k_cond ?_; first | (refine Cw.cond_dec rfl (fun hc => ?_) (fun hc => ?_) <;> try (exfalso; omega)) | refine Cw.cond_bool rfl (fun hc => ?_) (fun hc => ?_)) | (refine Ops.k_calla ?_; first | (refine Ops.k_callf 47 ?_; refine Ops.callV k1 (Evs.cons rfl Evs.nil) rfl ?_)) | fail)
    all_goals first | (refine Fin.ret (Ent.take goTk) (Outs.one rfl rfl) ⟨rfl, congrArg Tr.bool ?_⟩; simp [h]; done) | (exfalso; simp_all; done)
theorem wordFault1_fn (s : ByteArray) : PFn Tryd.prog 53 [.str s] (· = .bool (oddL s)) := by
  have k1 := keyOf_fn s
  refine PFn.mk (Spec.body Tryd.func53 rfl rfl (Tryd.ntmps53) rfl fun w0 own0 M => ?_)
  unfold oddL
  by_cases h : s = eL
  · subst h
    repeat' (first | refine goH ?_ | refine goV ?_ | refine goG ?_ | (refine Ops.k_guard ?_; first | (refine Ops.guard_dec rfl rfl (fun hc => ?_) (fun hc => ?_) <;> try (exfalso; omega)) | refine Ops.guard_split rfl rfl (fun hc => ?_) (fun hc => ?_)) | refine goI ?_ | (refine Cw.k_cond ?_; first | (refine Cw.cond_dec rfl (fun hc => ?_) (fun hc => ?_) <;> try (exfalso; omega)) | refine Cw.cond_bool rfl (fun hc => ?_) (fun hc => ?_)) | (refine Ops.k_calla ?_; first | (refine Ops.k_callf 49 ?_; refine Ops.callV k1 (Evs.cons rfl Evs.nil) rfl ?_)) | fail)
    all_goals first | (refine Fin.ret (Ent.take goTk) (Outs.one rfl rfl) ⟨rfl, ?_⟩; rfl) | (exfalso; simp_all; done)
  · generalize isKey s = b at *
    repeat' (first | refine goH ?_ | refine goV ?_ | refine goG ?_ | (refine Ops.k_guard ?_; first | (refine Ops.guard_dec rfl rfl (fun hc => ?_) (fun hc => ?_) <;> try (exfalso; omega)) | refine Ops.guard_split rfl rfl (fun hc => ?_) (fun hc => ?_)) | refine goI ?_ | (refine Cw.k_cond ?_; first | (refine Cw.cond_dec rfl (fun hc => ?_) (fun hc => ?_) <;> try (exfalso; omega)) | refine Cw.cond_bool rfl (fun hc => ?_) (fun hc => ?_)) | (refine Ops.k_calla ?_; first | (refine Ops.k_callf 49 ?_; refine Ops.callV k1 (Evs.cons rfl Evs.nil) rfl ?_)) | fail)
    all_goals first | (refine Fin.ret (Ent.take goTk) (Outs.one rfl rfl) ⟨rfl, congrArg Tr.bool ?_⟩; simp [h]; done) | (exfalso; simp_all; done)
theorem wordFault_fn (l : List ByteArray) (hl : l.length ≤ 1000000) : PFn Tryd.prog 32 [.strs l] (· = .int (if l.any oddL then 5 else 0)) := by
  have k := containsFunc_str (cin := []) (caps := []) (g := 53) (p := oddL) (l := l) (by omega) (fun x _ => (wordFault1_fn x).lend)
  refine PFn.mk (Spec.body Tryd.func32 rfl rfl (Tryd.ntmps32) rfl fun w0 own0 M => ?_)
  generalize (l.any oddL) = b at *
  repeat' (first | refine goH ?_ | refine goV ?_ | refine goI ?_ | (refine Cw.k_cond ?_; first | (refine Cw.cond_dec rfl (fun hc => ?_) (fun hc => ?_) <;> try (exfalso; omega)) | refine Cw.cond_bool rfl (fun hc => ?_) (fun hc => ?_)) | (refine Ops.k_calla ?_; first | (refine Ops.k_callf 29 ?_; refine Ops.callS k (Evs.cons rfl (Evs.cons rfl Evs.nil)) (List.Perm.refl _) rfl ?_)) | fail)
  all_goals (refine Fin.ret (Ent.take goTk) (Outs.one rfl rfl) ⟨rfl, congrArg Tr.int ?_⟩; simp_all)
theorem oddC_fn (l : List ByteArray) (hl : l.length ≤ 1000000) : Spec Tryd.prog 29 [.strs l, Tr.raw (.func (.func 30) #[] #[])] [] (fun r cs => r = .bool (l.any oddL) ∧ cs = []) :=
  containsFunc_str (cin := []) (caps := []) (g := 30) (p := oddL) (l := l) (by omega) (fun x _ => (odd_fn x).lend)
structure Tk where
  slot : Int
  fr : ByteArray
  to : ByteArray
deriving DecidableEq
def Tk.row (t : Tk) : List Tr := [.int t.slot, .str t.fr, .str t.to]
abbrev Tr.tks (l : List Tk) : Tr := Tr.sl 3 (l.map Tk.row)
def tkL (a b : List ByteArray) (D : List Int) : List Tk := D.map fun i => ⟨i, a.getD i.toNat eL, b.getD i.toNat eL⟩
def tskE (a b : List ByteArray) : Int := if chgE a b ≠ 0 then chgE a b else if (a.any oddL || b.any oddL) = true then 5 else 0
/-- slices.Grow of nil, slices.Concat: a slice of its own -/
theorem grow_str (n : Nat) (hn : n ≤ 1000000) : PFnO Tryd.prog 54 [Tr.raw (.slice none 0 0), .int n] 1 9 (· = []) := by
  unfold PFnO
  refine Spec.body Tryd.func54 rfl rfl (Tryd.ntmps54) rfl fun w0 own0 M => ?_
  refine Cw.ent (Ent.nil 1 9) ?_
  by_cases h0 : 0 < n
  · repeat' (first | refine goH ?_ | refine goV ?_ | refine goC (fun ad cap => ?_) | refine goI ?_ | (refine Cw.k_cond ?_; first | (refine Cw.cond_dec rfl (fun hc => ?_) (fun hc => ?_) <;> try (exfalso; omega)) | refine Cw.cond_bool rfl (fun hc => ?_) (fun hc => ?_)) | (refine Ops.val' rfl (OpV.cap Tryd.underlying31 rfl) ?_) | (refine Ops.append_zeros (n := n) Tryd.underlying3 rfl ?_ h0 (by omega) (by omega) rfl (fun ad cap => ?_)) | fail)
    · show some (Tr.int ((n : Int) - (((0 : Nat) : Int) - ((0 : Nat) : Int)))) = some (Tr.int (n : Int))
      rw [show (n : Int) - (((0 : Nat) : Int) - ((0 : Nat) : Int)) = (n : Int) by omega]
    · exact Fin.ret (Ent.take goTk) (Outs.one rfl rfl) ⟨_, _, [], rfl, rfl, rfl⟩
  · repeat' (first | refine goH ?_ | refine goV ?_ | refine goC (fun ad cap => ?_) | refine goI ?_ | (refine Cw.k_cond ?_; first | (refine Cw.cond_dec rfl (fun hc => ?_) (fun hc => ?_) <;> try (exfalso; omega)) | refine Cw.cond_bool rfl (fun hc => ?_) (fun hc => ?_)) | (refine Ops.val' rfl (OpV.cap Tryd.underlying31 rfl) ?_) | fail)
    exact Fin.ret (Ent.take goTk) (Outs.one rfl rfl) ⟨none, 0, [], rfl, rfl, rfl⟩
theorem concat_str (L : List (List (List Tr))) (h1 : L.length ≤ 1000) (h2 : L.flatten.length ≤ 1000000) : PFnO Tryd.prog 33 [.sl 1 (L.map fun l => [Tr.sl 1 l])] 1 9 (· = L.flatten) := by
  have hL : (L.map fun l => [Tr.sl 1 l]).length = L.length := List.length_map _
  have fl_take : ∀ {k : Nat} {l : List (List Tr)}, L[k]? = some l → (L.take (k + 1)).flatten = (L.take k).flatten ++ l := fun h => by rw [take_at h, List.flatten_append]; simp
  have fl_le : ∀ k, (L.take k).flatten.length ≤ L.flatten.length := fun k => by
    have h := List.take_append_drop k L
    have h2 := congrArg (fun l => l.flatten.length) h
    simp only [List.flatten_append, List.length_append] at h2
    omega
  unfold PFnO
  refine Spec.body Tryd.func33 rfl rfl (Tryd.ntmps33) rfl fun w0 own0 M => ?_
  repeat' (first | refine goH ?_ | refine goV ?_ | refine goC (fun ad cap => ?_) | refine goI ?_ | (refine Cw.k_cond ?_; first | (refine Cw.cond_dec rfl (fun hc => ?_) (fun hc => ?_) <;> try (exfalso; omega)) | refine Cw.cond_bool rfl (fun hc => ?_) (fun hc => ?_)) | fail)
  refine Cw.loopI [(0, _), (9, _), (10, _)] _ (fun q e cc => ∃ (k : Nat), q = L.length - k ∧ (k ≤ L.length) ∧ e = [(3, .int ((L.take k).flatten.length : Nat)), (11, .int k)] ∧ cc = []) ⟨_, _, _, (Ent.mkP goSub goPm), 0, rfl, by omega, rfl, rfl⟩ ?_
  rintro _ _ _ ⟨k, rfl, hk, rfl, rfl⟩
  by_cases hkl : k < L.length
  · obtain ⟨l, hl⟩ := at_lt hkl
    have hrow : (L.map fun l => [Tr.sl 1 l])[k]? = some [Tr.sl 1 l] := rows_at hl
    have hst := congrArg List.length (fl_take hl)
    rw [List.length_append] at hst
    have hb := fl_le (k + 1)
    clear fl_take fl_le
    repeat' (first | refine goH ?_ | refine goV ?_ | refine goC (fun ad cap => ?_) | refine goI ?_ | (refine Cw.k_cond ?_; first | (refine Cw.cond_dec rfl (fun hc => ?_) (fun hc => ?_) <;> try (exfalso; omega)) | refine Cw.cond_bool rfl (fun hc => ?_) (fun hc => ?_)) | fail)
    exact ⟨_, _, _, Ent.mk (by first | (refine Sub.cons (by show some (Tr.int _) = some (Tr.int _); congr 2; omega) ?_; repeat' (first | exact Sub.nil | refine Sub.cons rfl ?_))) goTk, ⟨k + 1, rfl, by omega, rfl, rfl⟩, by omega⟩
  · have hkk : k = L.length := by omega
    subst hkk
    have hg := grow_str L.flatten.length h2
    rw [List.take_of_length_le (Nat.le_refl _)]
    generalize hN : L.flatten.length = N at *
    repeat' (first | refine goH ?_ | refine goV ?_ | refine goC (fun ad cap => ?_) | refine goI ?_ | (refine Cw.k_cond ?_; first | (refine Cw.cond_dec rfl (fun hc => ?_) (fun hc => ?_) <;> try (exfalso; omega)) | refine Cw.cond_bool rfl (fun hc => ?_) (fun hc => ?_)) | (refine Ops.k_calla ?_; first | (refine Ops.k_callf 54 ?_; (refine Ops.callO hg (Evs.cons rfl (Evs.cons rfl Evs.nil)) rfl (fun ad cap rows hr => ?_); subst hr))) | fail)
    refine Cw.loopI [(25, _), (26, _)] _ (fun q e cc => ∃ (k : Nat) (ad : Option Addr) (cap : Nat) (rows : List (List Tr)), q = L.length - k ∧ (k ≤ L.length ∧ rows = (L.take k).flatten ∧ rows.length ≤ N) ∧ e = [(6, Tr.raw (.slice ad rows.length cap)), (27, .int k)] ∧ cc = [Chunk.own ad cap 1 9 rows])
      ⟨_, _, _, (Ent.mkP goSub goPm), 0, ad, cap, [], rfl, ⟨by omega, rfl, by simp⟩, rfl, rfl⟩ ?_
    clear ad cap
    rintro _ _ _ ⟨k, ad, cap, rows, rfl, ⟨hk, hrows, hrl⟩, rfl, rfl⟩
    by_cases hkl : k < L.length
    · obtain ⟨l, hl⟩ := at_lt hkl
      have hrow : (L.map fun l => [Tr.sl 1 l])[k]? = some [Tr.sl 1 l] := rows_at hl
      have hst := fl_take hl
      have hb := fl_le (k + 1)
      have key : rows ++ l = (L.take (k + 1)).flatten := by rw [hst, hrows]
      have hkl2 := congrArg List.length key
      rw [List.length_append] at hkl2
      clear fl_take fl_le hst
      repeat' (first | refine goH ?_ | refine goV ?_ | refine goC (fun ad cap => ?_) | refine goI ?_ | (refine Cw.k_cond ?_; first | (refine Cw.cond_dec rfl (fun hc => ?_) (fun hc => ?_) <;> try (exfalso; omega)) | refine Cw.cond_bool rfl (fun hc => ?_) (fun hc => ?_)) | fail)
      exact ⟨_, _, _, (Ent.mk goSub goTk), ⟨k + 1, _, _, _, rfl, ⟨by omega, key, by rw [List.length_append]; omega⟩, rfl, rfl⟩, by omega⟩
    · rw [List.take_of_length_le (by omega)] at hrows
      repeat' (first | refine goH ?_ | refine goV ?_ | refine goC (fun ad cap => ?_) | refine goI ?_ | (refine Cw.k_cond ?_; first | (refine Cw.cond_dec rfl (fun hc => ?_) (fun hc => ?_) <;> try (exfalso; omega)) | refine Cw.cond_bool rfl (fun hc => ?_) (fun hc => ?_)) | fail)
      exact Fin.ret (Ent.take goTk) (Outs.one rfl rfl) ⟨ad, cap, rows, rfl, rfl, hrows⟩

theorem tasksFault_fn (a b : List ByteArray) (ha : a.length ≤ 1000) (hb : b.length ≤ 1000) : PFn Tryd.prog 8 [.strs a, .strs b] (· = .int (tskE a b)) := by
  have k1 := chgFault_fn a b ha hb
  have hal := strRows_len a
  have hbl := strRows_len b
  have k3 := (concat_str [strRows a, strRows b] (by simp) (by simp; omega)).val
  rw [show [strRows a, strRows b].flatten = strRows (a ++ b) by rw [strRows_app]; simp] at k3
  change PFn Tryd.prog 33 [Tr.sl 1 [[.strs a], [.strs b]]] (· = .strs (a ++ b)) at k3
  have k2 := wordFault_fn (a ++ b) (by rw [List.length_append]; omega)
  rw [List.any_append] at k2
  unfold tskE
  generalize (a.any oddL || b.any oddL) = o at *
  generalize chgE a b = E at *
  by_cases h : E ≠ 0
  · rw [if_pos h]
    refine PFn.mk (Spec.body Tryd.func8 rfl rfl (Tryd.ntmps8) rfl fun w0 own0 M => ?_)
    repeat' (first | refine goH ?_ | refine goV ?_ | refine goI ?_ | (refine Cw.k_cond ?_; first | (refine Cw.cond_dec rfl (fun hc => ?_) (fun hc => ?_) <;> try (exfalso; omega)) | refine Cw.cond_bool rfl (fun hc => ?_) (fun hc => ?_)) | (refine Ops.k_calla ?_; first | (refine Ops.k_callf 31 ?_; refine Ops.callV k1 (Evs.cons rfl (Evs.cons rfl Evs.nil)) rfl ?_)) | fail)
    exact Fin.ret (Ent.take goTk) (Outs.one rfl rfl) ⟨rfl, rfl⟩
  · rw [if_neg h]
    refine PFn.mk (Spec.body Tryd.func8 rfl rfl (Tryd.ntmps8) rfl fun w0 own0 M => ?_)
    repeat' (first | refine goH ?_ | refine goV ?_ | refine goI ?_ | (refine Cw.k_cond ?_; first | (refine Cw.cond_dec rfl (fun hc => ?_) (fun hc => ?_) <;> try (exfalso; omega)) | refine Cw.cond_bool rfl (fun hc => ?_) (fun hc => ?_)) | (refine Ops.k_calla ?_; first | (refine Ops.k_callf 31 ?_; refine Ops.callV k1 (Evs.cons rfl (Evs.cons rfl Evs.nil)) rfl ?_) | (refine Ops.k_callf 32 ?_; refine Ops.callV k2 (Evs.cons rfl Evs.nil) rfl ?_) | (refine Ops.k_callf 33 ?_; refine Ops.callV k3 (Evs.cons rfl Evs.nil) rfl ?_)) | fail)
    exact Fin.ret (Ent.take goTk) (Outs.one rfl rfl) ⟨rfl, rfl⟩
theorem difN_mem {a b : List ByteArray} {k : Nat} {v : Int} (h : v ∈ difN a b k) : 0 ≤ v ∧ v.toNat < k := by
  unfold difN at h
  obtain ⟨n, hn, rfl⟩ := List.mem_map.1 h
  have := List.mem_range.1 (List.mem_filter.1 hn).1
  exact ⟨Int.natCast_nonneg n, by simpa using this⟩
theorem getD_row {a : List ByteArray} {n : Nat} (h : n < a.length) : (strRows a)[n]? = some [Tr.str (a.getD n eL)] := by
  rw [strRows_get h, List.getD_eq_getElem?_getD, List.getElem?_eq_getElem h]
  rfl
theorem tkL_snoc (a b : List ByteArray) (D : List Int) (v : Int) : (tkL a b D).map Tk.row ++ [[Tr.int v, Tr.str (a.getD v.toNat eL), Tr.str (b.getD v.toNat eL)]] = (tkL a b (D ++ [v])).map Tk.row := by
  unfold tkL
  rw [List.map_append, List.map_append]
  rfl
theorem tkL_len (a b : List ByteArray) (D : List Int) : (tkL a b D).length = D.length := List.length_map _
theorem intRows_at2 {l : List Int} {k : Nat} {v : Int} (h : l[k]? = some v) : (intRows l)[k]? = some [Tr.int v] := rows_at h
theorem tasksOfO_fn (a b : List ByteArray) (ha : a.length ≤ 1000) (q2 : a.length = b.length) : PFnO Tryd.prog 10 [.strs a, .strs b] 3 40 (· = (tkL a b (difN a b a.length)).map Tk.row) := by
  unfold PFnO
  have k1 := changedIn_fn a b ha q2
  have hal := strRows_len a
  have hbl := strRows_len b
  have hD : ∀ v ∈ difN a b a.length, 0 ≤ v ∧ v.toNat < a.length := fun v h => difN_mem h
  have hDl := difN_len a b a.length
  generalize difN a b a.length = D at *
  have hDL := intRows_len D
  refine Spec.body Tryd.func10 rfl rfl (Tryd.ntmps10) rfl fun w0 own0 M => ?_
  repeat' (first | refine goH ?_ | refine goV ?_ | refine goC (fun ad cap => ?_) | refine goI ?_ | (refine Cw.k_cond ?_; first | (refine Cw.cond_dec rfl (fun hc => ?_) (fun hc => ?_) <;> try (exfalso; omega)) | refine Cw.cond_bool rfl (fun hc => ?_) (fun hc => ?_)) | (refine Ops.k_calla ?_; first | (refine Ops.k_callf 34 ?_; refine Ops.callV k1 (Evs.cons rfl (Evs.cons rfl Evs.nil)) rfl ?_)) | (apply OpW.k_call; first | (apply OpW.k_callf 34; exact OpW.callV k1 (Evs.cons rfl (Evs.cons rfl Evs.nil)))) | refine goR ?_ | refine goP ?_ | apply PSeq.cons | apply PSeq.yes rfl rfl rfl | exact goW | fail)
  refine Cw.loopI [(0, _), (1, _), (10, _), (11, _)] _ (fun q e c => ∃ (k : Nat) (ad : Option Addr) (cap : Nat) (rows : List (List Tr)), q = D.length - k ∧ (k ≤ D.length ∧ rows = (tkL a b (D.take k)).map Tk.row ∧ rows.length ≤ k) ∧ e = [(5, Tr.raw (.slice ad rows.length cap)), (12, .int k)] ∧ c = [Chunk.own ad cap 3 40 rows])
    ⟨_, _, _, Ent.trans (Ent.nil 3 40) (Ent.mkP goSub goPm), 0, none, 0, [], rfl, ⟨by omega, rfl, by simp⟩, rfl, rfl⟩ ?_
  rintro _ _ _ ⟨k, ad, cap, rows, rfl, ⟨hk, hrows, hrl⟩, rfl, rfl⟩
  by_cases hkl : k < D.length
  · obtain ⟨v, hv⟩ := at_lt hkl
    have hrow := intRows_at2 hv
    have hb := hD v (List.mem_of_getElem? hv)
    have hra := getD_row (a := a) (n := v.toNat) (by omega)
    have hrb := getD_row (a := b) (n := v.toNat) (by omega)
    have hst := take_at hv
    have key := tkL_snoc a b (D.take k) v
    rw [← hst, ← hrows] at key
    repeat' (first | refine goH ?_ | refine goV ?_ | refine goC (fun ad cap => ?_) | refine goI ?_ | (refine Cw.k_cond ?_; first | (refine Cw.cond_dec rfl (fun hc => ?_) (fun hc => ?_) <;> try (exfalso; omega)) | refine Cw.cond_bool rfl (fun hc => ?_) (fun hc => ?_)) | refine goR ?_ | refine goP ?_ | apply PSeq.cons | apply PSeq.yes rfl rfl rfl | exact goW | fail)
    rw [key]
    exact ⟨_, _, _, (Ent.mk goSub goTk), ⟨k + 1, _, _, _, rfl, ⟨by omega, rfl, by rw [List.length_map, tkL_len, List.length_take]; omega⟩, rfl, rfl⟩, by omega⟩
  · rw [List.take_of_length_le (by omega)] at hrows
    repeat' (first | refine goH ?_ | refine goV ?_ | refine goC (fun ad cap => ?_) | refine goI ?_ | (refine Cw.k_cond ?_; first | (refine Cw.cond_dec rfl (fun hc => ?_) (fun hc => ?_) <;> try (exfalso; omega)) | refine Cw.cond_bool rfl (fun hc => ?_) (fun hc => ?_)) | refine goR ?_ | refine goP ?_ | apply PSeq.cons | apply PSeq.yes rfl rfl rfl | exact goW | fail)
    exact Fin.ret (Ent.take goTk) (Outs.one rfl rfl) ⟨_, _, rows, rfl, rfl, hrows⟩
theorem tasksOf_fn (a b : List ByteArray) (ha : a.length ≤ 1000) (q2 : a.length = b.length) : PFn Tryd.prog 10 [.strs a, .strs b] (· = .tks (tkL a b (difN a b a.length))) := (tasksOfO_fn a b ha q2).val
theorem tasks_fn (a b : List ByteArray) (ha : a.length ≤ 1000) (hb : b.length ≤ 1000) : PFn Tryd.prog 7 [.strs a, .strs b] (· = .tup [.tks (if tskE a b ≠ 0 then [] else tkL a b (difN a b a.length)), .int (tskE a b)]) := by
  have k1 := changed_fn a b ha hb
  have hal := strRows_len a
  have hbl := strRows_len b
  have kA := oddC_fn a (by omega)
  have kB := oddC_fn b (by omega)
  unfold tskE
  by_cases hE : chgE a b ≠ 0
  · rw [if_pos hE, if_pos hE]
    rw [if_pos hE] at k1
    generalize chgE a b = E at *
    refine PFn.mk (Spec.body Tryd.func7 rfl rfl (Tryd.ntmps7) rfl fun w0 own0 M => ?_)
    repeat' (first | refine goH ?_ | refine goV ?_ | refine goC (fun ad cap => ?_) | refine goG ?_ | (refine Ops.k_guard ?_; first | (refine Ops.guard_dec rfl rfl (fun hc => ?_) (fun hc => ?_) <;> try (exfalso; omega)) | refine Ops.guard_split rfl rfl (fun hc => ?_) (fun hc => ?_)) | refine goI ?_ | (refine Cw.k_cond ?_; first | (refine Cw.cond_dec rfl (fun hc => ?_) (fun hc => ?_) <;> try (exfalso; omega)) | refine Cw.cond_bool rfl (fun hc => ?_) (fun hc => ?_)) | (refine Ops.k_calla ?_; first | (refine Ops.k_callf 28 ?_; refine Ops.callV k1 (Evs.cons rfl (Evs.cons rfl Evs.nil)) rfl ?_)) | (apply OpW.k_call; first | (apply OpW.k_callf 28; exact OpW.callV k1 (Evs.cons rfl (Evs.cons rfl Evs.nil)))) | refine goR ?_ | refine goP ?_ | apply PSeq.cons | apply PSeq.yes rfl rfl rfl | exact goW | fail)
    refine Fin.ret (Ent.trans (Ent.nilsl 3 (s := 4) rfl) (Ent.take goTk)) (Outs.many rfl (OutL.cons goOe (OutL.cons goOe OutL.nil)) rfl) ⟨rfl, rfl⟩
  rw [if_neg hE]
  rw [if_neg hE] at k1
  have q2 : a.length = b.length := by
    unfold chgE at hE
    split at hE
    · omega
    · split at hE
      · omega
      · omega
  have hE0 : chgE a b = 0 := by omega
  rw [hE0] at k1
  cases oa : a.any oddL with
  | true =>
    rw [oa] at kA
    refine PFn.mk (Spec.body Tryd.func7 rfl rfl (Tryd.ntmps7) rfl fun w0 own0 M => ?_)
    repeat' (first | refine goH ?_ | refine goV ?_ | refine goC (fun ad cap => ?_) | refine goG ?_ | (refine Ops.k_guard ?_; first | (refine Ops.guard_dec rfl rfl (fun hc => ?_) (fun hc => ?_) <;> try (exfalso; omega)) | refine Ops.guard_split rfl rfl (fun hc => ?_) (fun hc => ?_)) | refine goI ?_ | (refine Cw.k_cond ?_; first | (refine Cw.cond_dec rfl (fun hc => ?_) (fun hc => ?_) <;> try (exfalso; omega)) | refine Cw.cond_bool rfl (fun hc => ?_) (fun hc => ?_)) | (refine Ops.k_calla ?_; first | (refine Ops.k_callf 28 ?_; refine Ops.callV k1 (Evs.cons rfl (Evs.cons rfl Evs.nil)) rfl ?_) | (refine Ops.k_callf 29 ?_; refine Ops.callS kA (Evs.cons rfl (Evs.cons rfl Evs.nil)) (List.Perm.refl _) rfl ?_)) | (apply OpW.k_call; first | (apply OpW.k_callf 28; exact OpW.callV k1 (Evs.cons rfl (Evs.cons rfl Evs.nil))) | (apply OpW.k_callf 29; exact OpW.callS kA (Evs.cons rfl (Evs.cons rfl Evs.nil)) (List.Perm.refl _))) | refine goR ?_ | refine goP ?_ | apply PSeq.cons | apply PSeq.yes rfl rfl rfl | exact goW | fail)
    refine Fin.ret (Ent.trans (Ent.nilsl 3 (s := 4) rfl) (Ent.take goTk)) (Outs.many rfl (OutL.cons goOe (OutL.cons goOe OutL.nil)) rfl) ⟨rfl, rfl⟩
  | false =>
    rw [oa] at kA
    cases ob : b.any oddL with
    | true =>
      rw [ob] at kB
      refine PFn.mk (Spec.body Tryd.func7 rfl rfl (Tryd.ntmps7) rfl fun w0 own0 M => ?_)
      repeat' (first | refine goH ?_ | refine goV ?_ | refine goC (fun ad cap => ?_) | refine goG ?_ | (refine Ops.k_guard ?_; first | (refine Ops.guard_dec rfl rfl (fun hc => ?_) (fun hc => ?_) <;> try (exfalso; omega)) | refine Ops.guard_split rfl rfl (fun hc => ?_) (fun hc => ?_)) | refine goI ?_ | (refine Cw.k_cond ?_; first | (refine Cw.cond_dec rfl (fun hc => ?_) (fun hc => ?_) <;> try (exfalso; omega)) | refine Cw.cond_bool rfl (fun hc => ?_) (fun hc => ?_)) | (refine Ops.k_calla ?_; first | (refine Ops.k_callf 28 ?_; refine Ops.callV k1 (Evs.cons rfl (Evs.cons rfl Evs.nil)) rfl ?_) | (refine Ops.k_callf 29 ?_; refine Ops.callS kA (Evs.cons rfl (Evs.cons rfl Evs.nil)) (List.Perm.refl _) rfl ?_) | (refine Ops.k_callf 29 ?_; refine Ops.callS kB (Evs.cons rfl (Evs.cons rfl Evs.nil)) (List.Perm.refl _) rfl ?_)) | (apply OpW.k_call; first | (apply OpW.k_callf 28; exact OpW.callV k1 (Evs.cons rfl (Evs.cons rfl Evs.nil))) | (apply OpW.k_callf 29; exact OpW.callS kA (Evs.cons rfl (Evs.cons rfl Evs.nil)) (List.Perm.refl _)) | (apply OpW.k_callf 29; exact OpW.callS kB (Evs.cons rfl (Evs.cons rfl Evs.nil)) (List.Perm.refl _))) | refine goR ?_ | refine goP ?_ | apply PSeq.cons | apply PSeq.yes rfl rfl rfl | exact goW | fail)
      refine Fin.ret (Ent.trans (Ent.nilsl 3 (s := 4) rfl) (Ent.take goTk)) (Outs.many rfl (OutL.cons goOe (OutL.cons goOe OutL.nil)) rfl) ⟨rfl, rfl⟩
    | false =>
      rw [ob] at kB
      have hD : ∀ v ∈ difN a b a.length, 0 ≤ v ∧ v.toNat < a.length := fun v h => difN_mem h
      have hDl := difN_len a b a.length
      rw [if_neg (by simp), if_neg (by simp)]
      generalize difN a b a.length = D at *
      have hDL := intRows_len D
      refine PFn.mk (Spec.body Tryd.func7 rfl rfl (Tryd.ntmps7) rfl fun w0 own0 M => ?_)
      repeat' (first | refine goH ?_ | refine goV ?_ | refine goC (fun ad cap => ?_) | refine goG ?_ | (refine Ops.k_guard ?_; first | (refine Ops.guard_dec rfl rfl (fun hc => ?_) (fun hc => ?_) <;> try (exfalso; omega)) | refine Ops.guard_split rfl rfl (fun hc => ?_) (fun hc => ?_)) | refine goI ?_ | (refine Cw.k_cond ?_; first | (refine Cw.cond_dec rfl (fun hc => ?_) (fun hc => ?_) <;> try (exfalso; omega)) | refine Cw.cond_bool rfl (fun hc => ?_) (fun hc => ?_)) | (refine Ops.k_calla ?_; first | (refine Ops.k_callf 28 ?_; refine Ops.callV k1 (Evs.cons rfl (Evs.cons rfl Evs.nil)) rfl ?_) | (refine Ops.k_callf 29 ?_; refine Ops.callS kA (Evs.cons rfl (Evs.cons rfl Evs.nil)) (List.Perm.refl _) rfl ?_) | (refine Ops.k_callf 29 ?_; refine Ops.callS kB (Evs.cons rfl (Evs.cons rfl Evs.nil)) (List.Perm.refl _) rfl ?_)) | (apply OpW.k_call; first | (apply OpW.k_callf 28; exact OpW.callV k1 (Evs.cons rfl (Evs.cons rfl Evs.nil))) | (apply OpW.k_callf 29; exact OpW.callS kA (Evs.cons rfl (Evs.cons rfl Evs.nil)) (List.Perm.refl _)) | (apply OpW.k_callf 29; exact OpW.callS kB (Evs.cons rfl (Evs.cons rfl Evs.nil)) (List.Perm.refl _))) | refine goR ?_ | refine goP ?_ | apply PSeq.cons | apply PSeq.yes rfl rfl rfl | exact goW | fail)
      refine Cw.loopI [(0, _), (1, _), (26, _), (27, _)] _ (fun q e c => ∃ (k : Nat) (ad : Option Addr) (cap : Nat) (rows : List (List Tr)), q = D.length - k ∧ (k ≤ D.length ∧ rows = (tkL a b (D.take k)).map Tk.row ∧ rows.length ≤ k) ∧ e = [(8, Tr.raw (.slice ad rows.length cap)), (28, .int k)] ∧ c = [Chunk.own ad cap 3 40 rows])
        ⟨_, _, _, Ent.trans (Ent.nil 3 40) (Ent.mkP goSub goPm), 0, none, 0, [], rfl, ⟨by omega, rfl, by simp⟩, rfl, rfl⟩ ?_
      rintro _ _ _ ⟨k, ad, cap, rows, rfl, ⟨hk, hrows, hrl⟩, rfl, rfl⟩
      by_cases hkl : k < D.length
      · obtain ⟨v, hv⟩ := at_lt hkl
        have hrow := intRows_at2 hv
        have hb := hD v (List.mem_of_getElem? hv)
        have hra := getD_row (a := a) (n := v.toNat) (by omega)
        have hrb := getD_row (a := b) (n := v.toNat) (by omega)
        have hst := take_at hv
        have key := tkL_snoc a b (D.take k) v
        rw [← hst, ← hrows] at key
        repeat' (first | refine goH ?_ | refine goV ?_ | refine goC (fun ad cap => ?_) | refine goG ?_ | (refine Ops.k_guard ?_; first | (refine Ops.guard_dec rfl rfl (fun hc => ?_) (fun hc => ?_) <;> try (exfalso; omega)) | refine Ops.guard_split rfl rfl (fun hc => ?_) (fun hc => ?_)) | refine goI ?_ | (refine Cw.k_cond ?_; first | (refine Cw.cond_dec rfl (fun hc => ?_) (fun hc => ?_) <;> try (exfalso; omega)) | refine Cw.cond_bool rfl (fun hc => ?_) (fun hc => ?_)) | refine goR ?_ | refine goP ?_ | apply PSeq.cons | apply PSeq.yes rfl rfl rfl | exact goW | fail)
        rw [key]
        exact ⟨_, _, _, (Ent.mk goSub goTk), ⟨k + 1, _, _, _, rfl, ⟨by omega, rfl, by rw [List.length_map, tkL_len, List.length_take]; omega⟩, rfl, rfl⟩, by omega⟩
      · rw [List.take_of_length_le (by omega)] at hrows
        repeat' (first | refine goH ?_ | refine goV ?_ | refine goC (fun ad cap => ?_) | refine goG ?_ | (refine Ops.k_guard ?_; first | (refine Ops.guard_dec rfl rfl (fun hc => ?_) (fun hc => ?_) <;> try (exfalso; omega)) | refine Ops.guard_split rfl rfl (fun hc => ?_) (fun hc => ?_)) | refine goI ?_ | (refine Cw.k_cond ?_; first | (refine Cw.cond_dec rfl (fun hc => ?_) (fun hc => ?_) <;> try (exfalso; omega)) | refine Cw.cond_bool rfl (fun hc => ?_) (fun hc => ?_)) | refine goR ?_ | refine goP ?_ | apply PSeq.cons | apply PSeq.yes rfl rfl rfl | exact goW | fail)
        refine Fin.ret (Ent.trans (Ent.settle (s := 4) rfl goPk rfl) (Ent.take goTk)) (Outs.many rfl (OutL.cons goOe (OutL.cons goOe OutL.nil)) rfl) ⟨rfl, by rw [hrows]⟩
end Lg
end
section
set_option linter.all false
set_option maxRecDepth 100000
set_option maxHeartbeats 4000000
namespace Lg
open Go Go.Proofs

/-! ### strings.Builder -/
abbrev bldB (b : Nat) (p ad : Option Addr) (cap : Nat) (t : ByteArray) : Chunk := Chunk.box b 75 [.raw (.pointer p), .raw (.slice ad t.size cap)]
abbrev bldO (ad : Option Addr) (cap : Nat) (t : ByteArray) : Chunk := Chunk.own ad cap 1 5 (bytR t)
structure BldI (b : Nat) (p ad : Option Addr) (cap : Nat) (t : ByteArray) : Prop where
  p : p = none ∨ p = some ⟨b, 0, none⟩
  n : ad ≠ none → t.size ≠ 0
theorem BldI.new (b : Nat) : BldI b none none 0 ⟨#[]⟩ := ⟨.inl rfl, fun h => absurd rfl h⟩
theorem str_emptyB (s : ByteArray) : s.size = 0 ↔ s = ⟨#[]⟩ := by
  constructor
  · intro h
    apply ByteArray.ext
    apply Array.eq_empty_of_size_eq_zero
    simpa using h
  · rintro rfl; rfl
theorem noEscape_ext (v : Value) (w : World) : (callFunc 64 #[v]).run Tryd.prog w = .ok (.value v) w := rfl
theorem builder_info : ∃ j, Tryd.prog.info? 75 = some j ∧ j.size ≠ 0 := ⟨_, rfl, by decide⟩
theorem builder_info2 : ∃ j, Tryd.prog.info? 75 = some j := ⟨_, rfl⟩
theorem copyCheck_fn {b : Nat} {p ad : Option Addr} {cap : Nat} {t : ByteArray} (h : BldI b p ad cap t) : Spec Tryd.prog 56 [.ptr b] [bldB b p ad cap t] (fun r cs => r = .tup [] ∧ cs = [bldB b (some ⟨b, 0, none⟩) ad cap t]) := by
  obtain ⟨hp, _⟩ := h
  refine Spec.body Tryd.func56 rfl rfl (Tryd.ntmps56) rfl fun w0 own0 M => ?_
  rcases hp with rfl | rfl
  · repeat' (first | refine goH ?_ | (refine Ops.k_b_eql ?_; first | (refine Ops.val' rfl (OpV.eql_pn (b := true) rfl rfl builder_info rfl rfl) ?_)) | (refine Ops.k_convert ?_; first | (first | refine Ops.val' rfl (OpV.toUns (E := 75) rfl rfl builder_info rfl goPk (by simp)) ?_ | refine Ops.val' rfl (OpV.frUns (E := 75) (n := 2) rfl rfl builder_info2 rfl goPk (by decide +kernel) rfl) ?_)) | (refine Ops.k_b_neq ?_; first | (refine Ops.val' rfl (OpV.neq_pp rfl builder_info rfl rfl) ?_)) | refine goV ?_ | refine goI ?_ | (refine Cw.k_cond ?_; first | (refine Cw.cond_dec rfl (fun hc => ?_) (fun hc => ?_) <;> try (exfalso; omega)) | refine Cw.cond_bool rfl (fun hc => ?_) (fun hc => ?_)) | (refine Ops.ext1 (noEscape_ext _) rfl rfl ?_) | fail)
    all_goals exact Fin.norm (Ent.take goTk) (Outs.zero rfl) ⟨rfl, rfl⟩
  · repeat' (first | refine goH ?_ | (refine Ops.k_b_eql ?_; first | (refine Ops.val' rfl (OpV.eql_pn (b := false) rfl rfl builder_info rfl rfl) ?_)) | (refine Ops.k_b_neq ?_; first | (refine Ops.val' rfl (OpV.neq_pp rfl builder_info rfl rfl) ?_)) | refine goV ?_ | refine goI ?_ | (refine Cw.k_cond ?_; first | (refine Cw.cond_dec rfl (fun hc => ?_) (fun hc => ?_) <;> try (exfalso; omega)) | refine Cw.cond_bool rfl (fun hc => ?_) (fun hc => ?_)) | fail)
    all_goals exact Fin.norm (Ent.take goTk) (Outs.zero rfl) ⟨rfl, rfl⟩
theorem writeString_fn {b : Nat} {p ad : Option Addr} {cap : Nat} {t : ByteArray} (h : BldI b p ad cap t) (s : ByteArray) (hs : t.size + s.size ≤ 1000000000) : Spec Tryd.prog 39 [.ptr b, .str s] [bldB b p ad cap t, bldO ad cap t] (fun r cs => ∃ p2 ad2 cap2, BldI b p2 ad2 cap2 (t ++ s) ∧ r = .tup [.int s.size, .raw .nilIface] ∧ cs = [bldB b p2 ad2 cap2 (t ++ s), bldO ad2 cap2 (t ++ s)]) := by
  have k := copyCheck_fn h
  obtain ⟨_, hn⟩ := h
  have hsz : (t ++ s).size = t.size + s.size := ByteArray.size_append
  refine Spec.body Tryd.func39 rfl rfl (Tryd.ntmps39) rfl fun w0 own0 M => ?_
  by_cases had : ad = none
  · subst had
    refine Cw.own_none goPk ?_
    intro hr hc0
    have ht : t.size = 0 := by rw [← bytR_len, hr]; rfl
    clear hr
    repeat' (first | refine goH ?_ | refine goV ?_ | refine goC (fun ad cap => ?_) | refine goI ?_ | (refine Cw.k_cond ?_; first | (refine Cw.cond_dec rfl (fun hc => ?_) (fun hc => ?_) <;> try (exfalso; omega)) | refine Cw.cond_bool rfl (fun hc => ?_) (fun hc => ?_)) | (refine Ops.append_str (E := 5) rfl rfl rfl rfl goPk rfl (by omega) rfl ?_; intro ad2 cap2 hnil) | (refine Ops.k_calla ?_; first | (refine Ops.k_callf 56 ?_; (refine Ops.call k (Evs.cons rfl Evs.nil) goPm rfl ?_; rintro r cs' ⟨rfl, rfl⟩))) | fail)
    refine Fin.ret (Ent.take goTk) (Outs.two rfl rfl rfl) ⟨_, ad2, cap2, ⟨.inr rfl, fun h => ?_⟩, rfl, rfl⟩
    have := hnil rfl
    by_cases h0 : t.size + s.size = 0
    · exact absurd (this h0).1 h
    · omega
  · have := hn had
    repeat' (first | refine goH ?_ | refine goV ?_ | refine goC (fun ad cap => ?_) | refine goI ?_ | (refine Cw.k_cond ?_; first | (refine Cw.cond_dec rfl (fun hc => ?_) (fun hc => ?_) <;> try (exfalso; omega)) | refine Cw.cond_bool rfl (fun hc => ?_) (fun hc => ?_)) | (refine Ops.append_str (E := 5) rfl rfl rfl rfl goPk rfl (by omega) rfl ?_; intro ad2 cap2 hnil) | (refine Ops.k_calla ?_; first | (refine Ops.k_callf 56 ?_; (refine Ops.call k (Evs.cons rfl Evs.nil) goPm rfl ?_; rintro r cs' ⟨rfl, rfl⟩))) | fail)
    exact Fin.ret (Ent.take goTk) (Outs.two rfl rfl rfl) ⟨_, ad2, cap2, ⟨.inr rfl, fun h => by omega⟩, rfl, rfl⟩
theorem string_fn {b : Nat} {p ad : Option Addr} {cap : Nat} {t : ByteArray} (h : BldI b p ad cap t) (ht : t.size ≤ 1000000000) : Spec Tryd.prog 41 [.ptr b] [bldB b p ad cap t, bldO ad cap t] (fun r cs => r = .str t ∧ cs = []) := by
  obtain ⟨_, hn⟩ := h
  refine Spec.body Tryd.func41 rfl rfl (Tryd.ntmps41) rfl fun w0 own0 M => ?_
  by_cases had : ad = none
  · subst had
    refine Cw.own_none goPk ?_
    intro hr hc0
    have ht : t = ⟨#[]⟩ := (str_emptyB t).1 (by rw [← bytR_len, hr]; rfl)
    subst ht
    repeat' (first | refine goH ?_ | refine goV ?_ | refine goI ?_ | (refine Cw.k_cond ?_; first | (refine Cw.cond_dec rfl (fun hc => ?_) (fun hc => ?_) <;> try (exfalso; omega)) | refine Cw.cond_bool rfl (fun hc => ?_) (fun hc => ?_)) | fail)
    refine Cw.region_seqM 10 rfl (by decide +kernel) rfl ?_
    repeat' (first | refine goH ?_ | refine goV ?_ | refine goI ?_ | (refine Cw.k_cond ?_; first | (refine Cw.cond_dec rfl (fun hc => ?_) (fun hc => ?_) <;> try (exfalso; omega)) | refine Cw.cond_bool rfl (fun hc => ?_) (fun hc => ?_)) | exact OpV.w (OpV.sdata_none rfl) | (refine Ops.ustr_none rfl rfl rfl ?_) | refine goR ?_ | refine goP ?_ | apply PSeq.cons | apply PSeq.yes rfl rfl rfl | exact goW | fail)
    exact Fin.ret (Ent.take goTk) (Outs.one rfl rfl) ⟨rfl, rfl⟩
  · have h0 := hn had
    refine Cw.own_form goPk (by rw [bytR_len]; omega) ?_
    rintro g rfl h1 h2
    rw [bytR_len] at h1
    repeat' (first | refine goH ?_ | refine goV ?_ | refine goI ?_ | (refine Cw.k_cond ?_; first | (refine Cw.cond_dec rfl (fun hc => ?_) (fun hc => ?_) <;> try (exfalso; omega)) | refine Cw.cond_bool rfl (fun hc => ?_) (fun hc => ?_)) | fail)
    refine Cw.region_seqM 10 rfl (by decide +kernel) rfl ?_
    repeat' (first | refine goH ?_ | refine goV ?_ | refine goI ?_ | (refine Cw.k_cond ?_; first | (refine Cw.cond_dec rfl (fun hc => ?_) (fun hc => ?_) <;> try (exfalso; omega)) | refine Cw.cond_bool rfl (fun hc => ?_) (fun hc => ?_)) | exact OpV.w (OpV.sdata_some rfl (by omega)) | (refine Ops.ustr (s := t) rfl rfl rfl rfl rfl h0 goPk rfl ?_) | refine goR ?_ | refine goP ?_ | apply PSeq.cons | apply PSeq.yes rfl rfl rfl | exact goW | fail)
    exact Fin.ret (Ent.take goTk) (Outs.one rfl rfl) ⟨rfl, rfl⟩
end Lg
end
