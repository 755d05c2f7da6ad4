/- A part of the proof of a law of this seat: it adds no condition. By an AI agent. -/
import Derived.Test.YtfgcjpkkbhnkgaaGreatDoorWal15
section
set_option linter.all false
set_option maxRecDepth 100000
set_option maxHeartbeats 8000000
namespace Lg
open Go Go.Proofs

def moreE (n c : Int) : Int := if n + c > 1000000000 then 12 else 0
def moreL (xs : List Int) (k : Nat) (n c : Int) : List Int := if n + c > 1000000000 then xs else xs.set k (n + c)
theorem more_fn (ad : Option Addr) (cap : Nat) (xs : List Int) (k : Nat) (n c : Int) (hx : xs[k]? = some n) (hn : 0 ≤ n ∧ n ≤ 1000000000) (hc : 1 ≤ c ∧ c ≤ 1000000000) :
  Spec Tryz.prog 22 [Tr.eptr ad 1 k 0, .int c] [Chunk.own ad cap 1 3 (intRows xs)] (fun r cs => r = .int (moreE n c) ∧ cs = [Chunk.own ad cap 1 3 (intRows (moreL xs k n c))]) := by
 refine Spec.body Tryz.func22 rfl rfl (Tryz.ntmps22) rfl fun w0 own0 M => ?_
 have hr := intRows_at hx
 have e1 : (intRows xs).set k ([Tr.int n].set 0 (Tr.int (n + c))) = intRows (xs.set k (n + c)) := by simp [intRows]
 by_cases h : n + c > 1000000000
 ·have e2 : moreE n c = 12 := if_pos h
  have e3 : moreL xs k n c = xs := if_pos h
  rw [e2, e3]
  repeat' (first | refine goH ?_ | (refine Ops.k_nilCheck ?_; first | refine Ops.nilCheck_eptr rfl rfl ?_) | refine goV ?_ | refine goI ?_ | (refine Cw.k_cond ?_; first | (refine Cw.cond_dec rfl ?_ ?_ <;> intro hc <;> try omega) | refine Cw.cond_bool rfl ?_ ?_ <;> intro hc) | fail)
  exact Fin.ret (Ent.take goTk) (Outs.one rfl rfl) ⟨rfl, rfl⟩
 ·have e2 : moreE n c = 0 := if_neg h
  have e3 : moreL xs k n c = xs.set k (n + c) := if_neg h
  rw [e2, e3]
  repeat' (first | refine goH ?_ | (refine Ops.k_nilCheck ?_; first | refine Ops.nilCheck_eptr rfl rfl ?_) | (refine Ops.k_store ?_; first | (refine Ops.store_own1 rfl rfl goPk (by first | rfl | assumption | (simp [*]; done)) (by decide) ?_; rw [e1])) | refine goV ?_ | refine goI ?_ | (refine Cw.k_cond ?_; first | (refine Cw.cond_dec rfl ?_ ?_ <;> intro hc <;> try omega) | refine Cw.cond_bool rfl ?_ ?_ <;> intro hc) | fail)
  exact Fin.ret (Ent.take goTk) (Outs.one rfl rfl) ⟨rfl, rfl⟩
theorem done_raw (s : Tr) [OneT s] (v1 v2 : Value) (h1 : OneT (Tr.raw v1)) (h2 : OneT (Tr.raw v2)) (e : Int) : PFn Tryz.prog 21 [.agg [s, Tr.raw v1, Tr.raw v2], .int e] (· = .tup [.agg (if e = 0 then [s, Tr.raw v1, Tr.raw v2] else List.map Tr.raw [.slice none 0 0, .slice none 0 0, .slice none 0 0]), .int e]) := by
 refine PFn.mk (Spec.body Tryz.func21 rfl rfl (Tryz.ntmps21) rfl fun w0 own0 M => ?_)
 by_cases h : e = 0
 ·subst h
  rw [if_pos rfl]
  repeat' (first | refine goH ?_ | refine goV ?_ | refine goB (fun b => ?_) | refine goI ?_ | (refine Cw.k_cond ?_; first | (refine Cw.cond_dec rfl ?_ ?_ <;> intro hc <;> try omega) | refine Cw.cond_bool rfl ?_ ?_ <;> intro hc) | fail)
  refine Fin.ret (Ent.trans (Ent.setbox (s := 4) rfl goPk) (Ent.take goTk)) (Outs.many rfl (OutL.cons goOe (OutL.cons goOe OutL.nil)) rfl) ⟨rfl, rfl⟩
 ·rw [if_neg h]
  repeat' (first | refine goH ?_ | refine goV ?_ | refine goB (fun b => ?_) | refine goI ?_ | (refine Cw.k_cond ?_; first | (refine Cw.cond_dec rfl ?_ ?_ <;> intro hc <;> try omega) | refine Cw.cond_bool rfl ?_ ?_ <;> intro hc) | fail)
  refine Fin.ret (Ent.trans (Ent.setbox (s := 4) rfl goPk) (Ent.take goTk)) (Outs.many rfl (OutL.cons goOe (OutL.cons goOe OutL.nil)) rfl) ⟨rfl, rfl⟩
/-! ### the places of sites -/
def plB (w : Wal) (x : ByteArray) : Bool := decide (idxS w.sites x < 0)
def plE (w : Wal) (s : List ByteArray) : Int := if walE w ≠ 0 then walE w else if s.any (plB w) = true then 8 else 0
def plT (w : Wal) (s : List ByteArray) : Tr := if plE w s = 0 then .tup [.ints (s.map (idxS w.sites)), .int 0] else .tup [.ints [], .int (plE w s)]
theorem plT_bad {w : Wal} {s : List ByteArray} {e : Int} (h : plE w s = e) (h0 : e ≠ 0) : plT w s = .tup [.ints [], .int e] := by
 unfold plT
 rw [h, if_neg h0]
theorem plT_ok {w : Wal} {s : List ByteArray} (h : plE w s = 0) : plT w s = .tup [.ints (s.map (idxS w.sites)), .int 0] := by
 unfold plT
 rw [if_pos h]
theorem nil2 (e : Int) : Tr.tup [.sl 1 [], .int e] = .tup [.ints [], .int e] := rfl
theorem map_take {w : Wal} {s : List ByteArray} {k : Nat} {x : ByteArray} (h : s[k]? = some x) : intRows ((s.take k).map (idxS w.sites)) ++ [[Tr.int (idxS w.sites x)]] = intRows ((s.take (k + 1)).map (idxS w.sites)) := by
 rw [take_at h, List.map_append, intRows_app]
 rfl
attribute [local irreducible] intRows intsR strRows valsW rowsW idxS
theorem places_fn (w : Wal) (hw : WBd w) (s : List ByteArray) (hs : s.length ≤ 100) : PFn Tryz.prog 18 [.wal w, .strs s] (· = plT w s) := by
 have kC := checkWallet_fn w hw
 have n1 := hw.n1
 have hS := strRows_len s
 have he : plE w s = if walE w ≠ 0 then walE w else if s.any (plB w) = true then 8 else 0 := rfl
 refine PFn.mk (Spec.body Tryz.func18 rfl rfl (Tryz.ntmps18) rfl fun w0 own0 M => ?_)
 by_cases h1 : walE w ≠ 0
 ·rw [if_pos h1] at he
  rw [plT_bad he h1]
  clear he
  generalize walE w = e at *
  repeat' (first | refine goH ?_ | refine goV ?_ | refine goB (fun b => ?_) | refine goC (fun ad cap => ?_) | refine goI ?_ | (refine Cw.k_cond ?_; first | (refine Cw.cond_dec rfl ?_ ?_ <;> intro hc <;> try omega) | refine Cw.cond_bool rfl ?_ ?_ <;> intro hc) | (refine Ops.k_calla ?_; first | (refine Ops.k_callf 34 ?_; refine Ops.callV kC (Evs.cons rfl Evs.nil) rfl ?_)) | fail)
  refine Fin.ret (Ent.trans (Ent.nilsl 1 (s := 4) rfl) (Ent.take goTk)) (Outs.many rfl (OutL.cons goOe (OutL.cons goOe OutL.nil)) rfl) ⟨rfl, nil2 _⟩
 rw [if_neg h1] at he
 have h0 : walE w = 0 := by omega
 rw [h0] at kC
 clear h0 h1
 repeat' (first | refine goH ?_ | refine goV ?_ | refine goB (fun b => ?_) | refine goC (fun ad cap => ?_) | refine goI ?_ | (refine Cw.k_cond ?_; first | (refine Cw.cond_dec rfl ?_ ?_ <;> intro hc <;> try omega) | refine Cw.cond_bool rfl ?_ ?_ <;> intro hc) | (refine Ops.k_calla ?_; first | (refine Ops.k_callf 34 ?_; refine Ops.callV kC (Evs.cons rfl Evs.nil) rfl ?_)) | fail)
 refine Cw.loopI [(2, _), (16, _), (17, _)] _ (fun q e cc => ∃ (k : Nat) (ad : Option Addr) (cap : Nat) (rows : List (List Tr)), q = s.length - k ∧ (k ≤ s.length ∧ rows.length = k ∧ rows = intRows ((s.take k).map (idxS w.sites)) ∧ ∀ j, j < k → ∀ x, s[j]? = some x → plB w x = false) ∧ e = [(7, Tr.raw (.slice ad rows.length cap)), (18, .int k)] ∧ cc = [Chunk.own ad cap 1 3 rows])
  ⟨_, _, _, Ent.trans (Ent.nil 1 3) (Ent.mkP goSub goPm), 0, none, 0, [], rfl, ⟨by omega, rfl, by simp [intRows], fun j h => absurd h (by omega)⟩, rfl, rfl⟩ ?_
 rintro _ _ _ ⟨k, ad, cap, rows, rfl, ⟨hk, hrl, hrows, hV⟩, rfl, rfl⟩
 by_cases hkl : k < s.length
 ·obtain ⟨x, hx⟩ := at_lt hkl
  have hrow := strRows_at hx
  have kI := index_fn w.sites x (by omega)
  by_cases g : idxS w.sites x < 0
  ·have hb : s.any (plB w) = true := List.any_eq_true.2 ⟨x, List.mem_of_getElem? hx, by unfold plB; exact decide_eq_true g⟩
   rw [if_pos hb] at he
   rw [plT_bad he (by decide)]
   clear hV hrows he hb
   generalize idxS w.sites x = i at *
   repeat' (first | refine goH ?_ | refine goV ?_ | refine goB (fun b => ?_) | refine goC (fun ad cap => ?_) | refine goI ?_ | (refine Cw.k_cond ?_; first | (refine Cw.cond_dec rfl ?_ ?_ <;> intro hc <;> try omega) | refine Cw.cond_bool rfl ?_ ?_ <;> intro hc) | (refine Ops.k_calla ?_; first | (refine Ops.k_callf 54 ?_; refine Ops.callV kI (Evs.cons rfl (Evs.cons rfl Evs.nil)) rfl ?_)) | fail)
   refine Fin.ret (Ent.trans (Ent.nilsl 1 (s := 4) rfl) (Ent.take goTk)) (Outs.many rfl (OutL.cons goOe (OutL.cons goOe OutL.nil)) rfl) ⟨rfl, nil2 _⟩
  ·have nx : ∀ j, j < k + 1 → ∀ y, s[j]? = some y → plB w y = false := by
    intro j hj y hy
    by_cases e : j = k
    ·subst e
     rw [hx] at hy
     cases hy
     exact decide_eq_false g
    ·exact hV j (by omega) y hy
   have hr2 := map_take (w := w) hx
   rw [← hrows] at hr2
   clear hV hrows he
   generalize idxS w.sites x = i at *
   repeat' (first | refine goH ?_ | refine goV ?_ | refine goB (fun b => ?_) | refine goC (fun ad cap => ?_) | refine goI ?_ | (refine Cw.k_cond ?_; first | (refine Cw.cond_dec rfl ?_ ?_ <;> intro hc <;> try omega) | refine Cw.cond_bool rfl ?_ ?_ <;> intro hc) | (refine Ops.k_calla ?_; first | (refine Ops.k_callf 54 ?_; refine Ops.callV kI (Evs.cons rfl (Evs.cons rfl Evs.nil)) rfl ?_)) | fail)
   exact ⟨_, _, _, (Ent.mk goSub goTk), ⟨k + 1, _, _, rows ++ [[Tr.int i]], rfl, ⟨by omega, by simp [hrl], hr2, nx⟩, rfl, rfl⟩, by omega⟩
 ·have hb : s.any (plB w) = false := by
   rw [List.any_eq_false]
   intro x hx
   obtain ⟨j, hj, rfl⟩ := List.getElem_of_mem hx
   rw [hV j (by omega) _ (List.getElem?_eq_getElem hj)]
   decide
  rw [hb, if_neg (by decide)] at he
  rw [plT_ok he]
  rw [List.take_of_length_le (by omega)] at hrows
  clear hV he
  subst hrows
  repeat' (first | refine goH ?_ | refine goV ?_ | refine goB (fun b => ?_) | refine goC (fun ad cap => ?_) | refine goI ?_ | (refine Cw.k_cond ?_; first | (refine Cw.cond_dec rfl ?_ ?_ <;> intro hc <;> try omega) | refine Cw.cond_bool rfl ?_ ?_ <;> intro hc) | fail)
  refine Fin.ret (Ent.trans (Ent.settle (s := 4) rfl goPk rfl) (Ent.take goTk)) (Outs.many rfl (OutL.cons goOe (OutL.cons goOe OutL.nil)) rfl) ⟨rfl, rfl⟩
end Lg
end
section
set_option linter.all false
set_option maxRecDepth 100000
set_option maxHeartbeats 8000000
namespace Lg
open Go Go.Proofs

theorem places1_none {w : Wal} (hw : WBd w) (h : walE w = 0) {a : ByteArray} (ha : idxS w.sites a < 0) : PFn Tryz.prog 18 [.wal w, .sl 1 [[.str a]]] (· = .tup [.sl 1 [], .int 8]) := by
 have h1 := places_fn w hw [a] (by simp)
 rw [plT_bad (w := w) (s := [a]) (e := 8) (by unfold plE; rw [if_neg (by omega), if_pos (by simp [plB, ha])]) (by decide)] at h1
 exact h1
theorem places1_ok {w : Wal} (hw : WBd w) (h : walE w = 0) {a : ByteArray} {i : Nat} (ha : idxS w.sites a = i) : PFn Tryz.prog 18 [.wal w, .sl 1 [[.str a]]] (· = .tup [.sl 1 [[.int i]], .int 0]) := by
 have h1 := places_fn w hw [a] (by simp)
 rw [plT_ok (w := w) (s := [a]) (by unfold plE; rw [if_neg (by omega), if_neg (by simp [plB, ha])])] at h1
 simp only [List.map_cons, List.map_nil, ha] at h1
 exact h1
/-- more and done together: what they leave -/
theorem more_done (adR adU : Option Addr) (n capR capU : Nat) (s : List ByteArray) (ad : Option Addr) (cap : Nat) (xs : List Int) (k : Nat) (x c : Int) (hx : xs[k]? = some x) (hn : 0 ≤ x ∧ x ≤ 1000000000) (hc : 1 ≤ c ∧ c ≤ 1000000000) :
  ∃ (e : Int) (ys : List Int) (r0 r1 r2 : Tr), Spec Tryz.prog 22 [Tr.eptr ad 1 k 0, .int c] [Chunk.own ad cap 1 3 (intRows xs)] (fun r cs => r = .int e ∧ cs = [Chunk.own ad cap 1 3 (intRows ys)]) ∧
   PFn Tryz.prog 21 [.agg [.strs s, Tr.raw (.slice adR n capR), Tr.raw (.slice adU n capU)], .int e] (· = .tup [.agg [r0, r1, r2], .int e]) ∧
   ((x + c > 1000000000 ∧ e = 12 ∧ ys = xs ∧ [r0, r1, r2] = List.map Tr.raw [.slice none 0 0, .slice none 0 0, .slice none 0 0]) ∨ (¬ x + c > 1000000000 ∧ e = 0 ∧ ys = xs.set k (x + c) ∧ [r0, r1, r2] = [.strs s, Tr.raw (.slice adR n capR), Tr.raw (.slice adU n capU)])) := by
 have h1 := more_fn ad cap xs k x c hx hn hc
 have one : ∀ (a : Option Addr) (c : Nat), OneT (Tr.raw (.slice a n c)) := fun a c => ⟨fun _ _ _ h => by rw [rd_raw h]; exact ⟨rfl, rfl⟩⟩
 by_cases h : x + c > 1000000000
 ·have e2 : moreE x c = 12 := if_pos h
  have e3 : moreL xs k x c = xs := if_pos h
  rw [e2, e3] at h1
  have h2 := done_raw (.strs s) _ _ (one adR capR) (one adU capU) 12
  rw [if_neg (by decide)] at h2
  exact ⟨12, xs, _, _, _, h1, h2, .inl ⟨h, rfl, rfl, rfl⟩⟩
 ·have e2 : moreE x c = 0 := if_neg h
  have e3 : moreL xs k x c = xs.set k (x + c) := if_neg h
  rw [e2, e3] at h1
  have h2 := done_raw (.strs s) _ _ (one adR capR) (one adU capU) 0
  rw [if_pos rfl] at h2
  exact ⟨0, _, _, _, _, h1, h2, .inr ⟨h, rfl, rfl, rfl⟩⟩
end Lg
end
section
set_option linter.all false
set_option maxRecDepth 100000
set_option maxHeartbeats 8000000
namespace Lg
open Go Go.Proofs

attribute [local irreducible] intRows intsR strRows valsW rowsW idxS rgt at2 set2
theorem spend_ok (w : Wal) (h0 : walE w = 0) (a : ByteArray) (c : Int) : PFn Tryz.prog 9 [.wal w, .str a, .int c] (· = resW (spW w a c) (spE w a c)) := by
 have h := wok_E h0
 have n12 := h.n1
 have kO := owned_fn w h.bd
 have kX := out_fn c 1 1000000000
 have hcs := idxS_cases w.sites a
 have he : spE w a c = if idxS w.sites a < 0 then 8 else if c < 1 ∨ 1000000000 < c then 1 else if rgt w (idxS w.sites a).toNat < c then 16 else if w.used.getD (idxS w.sites a).toNat 0 + c > 1000000000 then 12 else 0 := rfl
 have hW : spW w a c = ⟨w.sites, w.rights, w.used.set (idxS w.sites a).toNat (w.used.getD (idxS w.sites a).toNat 0 + c)⟩ := rfl
 have kP0 := places1_none (a := a) h.bd h0
 have kP1 : ∀ i : Nat, idxS w.sites a = i → _ := fun i hi => places1_ok (a := a) h.bd h0 hi
 generalize idxS w.sites a = i at *
 generalize spW w a c = W at *
 generalize spE w a c = E at *
 refine PFn.mk (Spec.body Tryz.func9 rfl rfl (Tryz.ntmps9) rfl fun w0 own0 M => ?_)
 rcases hcs with rfl | ⟨k, rfl, _, hk⟩
 ·rw [if_pos (by omega)] at he
  subst he
  rw [resW_bad (by decide)]
  have kP := kP0 (by omega)
  clear kP0 kP1
  repeat' (first | refine goH ?_ | refine goV ?_ | refine goB (fun b => ?_) | refine goI ?_ | (refine Cw.k_cond ?_; first | (refine Cw.cond_dec rfl ?_ ?_ <;> intro hc <;> try omega) | refine Cw.cond_bool rfl ?_ ?_ <;> intro hc) | (refine Ops.k_calla ?_; first | (refine Ops.k_callf 18 ?_; refine Ops.callV kP (Evs.cons rfl (Evs.cons rfl Evs.nil)) rfl ?_)) | (apply OpW.k_call; first | (apply OpW.k_callf 18; exact OpW.callV kP (Evs.cons rfl (Evs.cons rfl Evs.nil)))) | refine goR ?_ | refine goP ?_ | apply PSeq.cons | apply PSeq.yes rfl rfl rfl | exact goW | fail)
  refine Fin.ret (Ent.trans (Ent.imp_box goPk impW0) (Ent.trans (Ent.setbox (s := 6) rfl goPk) (Ent.take goTk))) (Outs.many rfl (OutL.cons goOe (OutL.cons goOe OutL.nil)) rfl) ⟨rfl, rfl⟩
 rw [if_neg (by omega)] at he
 rw [Int.toNat_natCast] at he hW
 have kP := kP1 k rfl
 clear kP0 kP1
 have kR := rightsD_fn w h k hk
 obtain ⟨y, hy, hyd, hy1, hy2⟩ := h.us hk
 rw [hyd] at he hW
 have hUl := (intRows_len w.used).trans h.u
 by_cases q2 : c < 1 ∨ 1000000000 < c
 ·rw [if_pos q2] at he
  subst he
  rw [resW_bad (by decide)]
  have hX : outB c 1 1000000000 = true := decide_eq_true q2
  rw [hX] at kX
  repeat' (first | refine goH ?_ | refine goV ?_ | refine goB (fun b => ?_) | refine goI ?_ | (refine Cw.k_cond ?_; first | (refine Cw.cond_dec rfl ?_ ?_ <;> intro hc <;> try omega) | refine Cw.cond_bool rfl ?_ ?_ <;> intro hc) | (refine Ops.k_calla ?_; first | refine Ops.callV kP (Evs.cons rfl (Evs.cons rfl Evs.nil)) rfl ?_ | (refine Ops.k_callf 19 ?_; refine Ops.callV kX (Evs.cons rfl (Evs.cons rfl (Evs.cons rfl Evs.nil))) rfl ?_)) | (apply OpW.k_call; first | exact OpW.callV kP (Evs.cons rfl (Evs.cons rfl Evs.nil)) | (apply OpW.k_callf 19; exact OpW.callV kX (Evs.cons rfl (Evs.cons rfl (Evs.cons rfl Evs.nil))))) | refine goR ?_ | refine goP ?_ | apply PSeq.cons | apply PSeq.yes rfl rfl rfl | exact goW | fail)
  all_goals refine Fin.ret (Ent.trans (Ent.imp_box goPk impW0) (Ent.trans (Ent.setbox (s := 6) rfl goPk) (Ent.take goTk))) (Outs.many rfl (OutL.cons goOe (OutL.cons goOe OutL.nil)) rfl) ⟨rfl, rfl⟩
 rw [if_neg q2] at he
 have q2' : 1 ≤ c ∧ c ≤ 1000000000 := by omega
 have hX : outB c 1 1000000000 = false := decide_eq_false q2
 rw [hX] at kX
 clear q2 hX
 by_cases q3 : rgt w k < c
 ·rw [if_pos q3] at he
  subst he
  rw [resW_bad (by decide)]
  repeat' (first | refine goH ?_ | refine goV ?_ | refine goB (fun b => ?_) | refine goI ?_ | (refine Cw.k_cond ?_; first | (refine Cw.cond_dec rfl ?_ ?_ <;> intro hc <;> try omega) | refine Cw.cond_bool rfl ?_ ?_ <;> intro hc) | (refine Ops.k_calla ?_; first | refine Ops.callV kP (Evs.cons rfl (Evs.cons rfl Evs.nil)) rfl ?_ | (refine Ops.k_callf 32 ?_; refine Ops.callV kR (Evs.cons rfl (Evs.cons rfl Evs.nil)) rfl ?_) | (refine Ops.k_callf 19 ?_; refine Ops.callV kX (Evs.cons rfl (Evs.cons rfl (Evs.cons rfl Evs.nil))) rfl ?_)) | (apply OpW.k_call; first | exact OpW.callV kP (Evs.cons rfl (Evs.cons rfl Evs.nil)) | (apply OpW.k_callf 32; exact OpW.callV kR (Evs.cons rfl (Evs.cons rfl Evs.nil))) | (apply OpW.k_callf 19; exact OpW.callV kX (Evs.cons rfl (Evs.cons rfl (Evs.cons rfl Evs.nil))))) | refine goR ?_ | refine goP ?_ | apply PSeq.cons | apply PSeq.yes rfl rfl rfl | exact goW | fail)
  all_goals refine Fin.ret (Ent.trans (Ent.imp_box goPk impW0) (Ent.trans (Ent.setbox (s := 6) rfl goPk) (Ent.take goTk))) (Outs.many rfl (OutL.cons goOe (OutL.cons goOe OutL.nil)) rfl) ⟨rfl, rfl⟩
 rw [if_neg q3] at he
 repeat' (first | refine goH ?_ | refine goV ?_ | refine goB (fun b => ?_) | refine goI ?_ | (refine Cw.k_cond ?_; first | (refine Cw.cond_dec rfl ?_ ?_ <;> intro hc <;> try omega) | refine Cw.cond_bool rfl ?_ ?_ <;> intro hc) | (refine Ops.k_calla ?_; first | refine Ops.callV kP (Evs.cons rfl (Evs.cons rfl Evs.nil)) rfl ?_ | (refine Ops.k_callf 32 ?_; refine Ops.callV kR (Evs.cons rfl (Evs.cons rfl Evs.nil)) rfl ?_) | (refine Ops.k_callf 19 ?_; refine Ops.callV kX (Evs.cons rfl (Evs.cons rfl (Evs.cons rfl Evs.nil))) rfl ?_)) | (apply OpW.k_call; first | exact OpW.callV kP (Evs.cons rfl (Evs.cons rfl Evs.nil)) | (apply OpW.k_callf 32; exact OpW.callV kR (Evs.cons rfl (Evs.cons rfl Evs.nil))) | (apply OpW.k_callf 19; exact OpW.callV kX (Evs.cons rfl (Evs.cons rfl (Evs.cons rfl Evs.nil))))) | refine goR ?_ | refine goP ?_ | apply PSeq.cons | apply PSeq.yes rfl rfl rfl | exact goW | fail)
 refine Ops.k_calla ?_
 refine Ops.call kO (Evs.cons rfl Evs.nil) goPm rfl ?_
 rintro r cs' ⟨adR, capR, L, adU, capU, rfl, hv, rfl⟩
 have hLl : (rowsW L).length = w.sites.length := (by rw [rowsW_len, ← valsW_len, hv]; exact h.r)
 rw [walV_n hLl hUl]
 obtain ⟨e, ys, r0, r1, r2, hM, hD, hcase⟩ := more_done adR adU w.sites.length capR capU w.sites adU capU w.used k y c hy ⟨hy1, hy2⟩ q2'
 repeat' (first | refine goH ?_ | refine goV ?_ | refine goB (fun b => ?_) | refine goI ?_ | (refine Cw.k_cond ?_; first | (refine Cw.cond_dec rfl ?_ ?_ <;> intro hc <;> try omega) | refine Cw.cond_bool rfl ?_ ?_ <;> intro hc) | fail)
 rename_i b3
 first | refine Cw.region_YP (fun ξ S => Chunk.box b3 29 [.strs w.sites, Tr.raw (.slice adR w.sites.length capR), Tr.raw (.slice adU w.sites.length capU)] :: Chunk.box b 29 (stg (S 12) [Tr.raw (.slice none 0 0), Tr.raw (.slice none 0 0), Tr.raw (.slice none 0 0)] [r0, r1, r2]) :: Chunk.own adU capU 1 3 (stg (S 8) (intRows w.used) (intRows ys)) :: Chunk.own adR capR 1 22 (rowsW L) :: Chunk.bun (ownsW 3 L) :: []) rfl (by decide +kernel) rfl ((fun (ξ : Nat → Value) (S : Nat → Bool) => Chunk.box b3 29 [.strs w.sites, Tr.raw (.slice adR w.sites.length capR), Tr.raw (.slice adU w.sites.length capU)] :: Chunk.box b 29 (stg (S 12) [Tr.raw (.slice none 0 0), Tr.raw (.slice none 0 0), Tr.raw (.slice none 0 0)] [r0, r1, r2]) :: Chunk.own adU capU 1 3 (stg (S 8) (intRows w.used) (intRows ys)) :: Chunk.own adR capR 1 22 (rowsW L) :: Chunk.bun (ownsW 3 L) :: []) (fun _ => undef) (fun _ => false)) (by simp only [upd_same, updD_same, upd_ne, updD_ne, ne_eq, Nat.reduceEqDiff, not_false_eq_true, stg_t, stg_f, vAd_s, vCap_s, blk_p, List.cons_append, List.nil_append, b2n_t, b2n_f]; exact goXm) (fun _ => rfl) ?_ | fail
 apply YSeq.w (by intro _ _ _; rfl)
 ·intro ξ S h1 h2 h3 h4
  have hN0_12 := closed_false h1 h3 (k := 12) rfl (by decide)
  try simp only [upd_same, updD_same, upd_ne, updD_ne, ne_eq, Nat.reduceEqDiff, not_false_eq_true, stg_t, stg_f, vAd_s, vCap_s, blk_p, List.cons_append, List.nil_append, b2n_t, b2n_f, hN0_12]
  exact goW
 ·intro ξ v; rfl
 ·intro ξ k v S h3 hn hk
  first
  |rfl
 apply YSeq.w (by intro _ _ _; rfl)
 ·intro ξ S h1 h2 h3 h4
  have hN1_2 := closed_false h1 h3 (k := 2) rfl (by decide)
  have hN1_6 := closed_false hN1_2 h3 (k := 6) rfl (by decide)
  have hN1_8 := closed_false hN1_6 h3 (k := 8) rfl (by decide)
  have hN1_12 := closed_false h1 h3 (k := 12) rfl (by decide)
  try simp only [upd_same, updD_same, upd_ne, updD_ne, ne_eq, Nat.reduceEqDiff, not_false_eq_true, stg_t, stg_f, vAd_s, vCap_s, blk_p, List.cons_append, List.nil_append, b2n_t, b2n_f, hN1_8, hN1_12]
  exact goW
 ·intro ξ v; rfl
 ·intro ξ k v S h3 hn hk
  first
  |rfl
 apply YSeq.w (by intro _ _ _; rfl)
 ·intro ξ S h1 h2 h3 h4
  have hN2_6 := closed_false h1 h3 (k := 6) rfl (by decide)
  have hN2_8 := closed_false hN2_6 h3 (k := 8) rfl (by decide)
  have hN2_12 := closed_false h1 h3 (k := 12) rfl (by decide)
  try simp only [upd_same, updD_same, upd_ne, updD_ne, ne_eq, Nat.reduceEqDiff, not_false_eq_true, stg_t, stg_f, vAd_s, vCap_s, blk_p, List.cons_append, List.nil_append, b2n_t, b2n_f, hN2_8, hN2_12]
  exact goW
 ·intro ξ v; rfl
 ·intro ξ k v S h3 hn hk
  first
  |rfl
 apply YSeq.w (by intro _ _ _; rfl)
 ·intro ξ S h1 h2 h3 h4
  have hN3_4 := closed_false h1 h3 (k := 4) rfl (by decide)
  have hN3_5 := closed_false hN3_4 h3 (k := 5) rfl (by decide)
  have hN3_6 := closed_false hN3_5 h3 (k := 6) rfl (by decide)
  have hN3_8 := closed_false hN3_6 h3 (k := 8) rfl (by decide)
  have hN3_12 := closed_false h1 h3 (k := 12) rfl (by decide)
  try simp only [upd_same, updD_same, upd_ne, updD_ne, ne_eq, Nat.reduceEqDiff, not_false_eq_true, stg_t, stg_f, vAd_s, vCap_s, blk_p, List.cons_append, List.nil_append, b2n_t, b2n_f, hN3_8, hN3_12]
  exact goW
 ·intro ξ v; rfl
 ·intro ξ k v S h3 hn hk
  first
  |rfl
 apply YSeq.w (by intro _ _ _; rfl)
 ·intro ξ S h1 h2 h3 h4
  have hN4_5 := closed_false h1 h3 (k := 5) rfl (by decide)
  have hN4_6 := closed_false hN4_5 h3 (k := 6) rfl (by decide)
  have hN4_8 := closed_false hN4_6 h3 (k := 8) rfl (by decide)
  have hN4_12 := closed_false h1 h3 (k := 12) rfl (by decide)
  try simp only [upd_same, updD_same, upd_ne, updD_ne, ne_eq, Nat.reduceEqDiff, not_false_eq_true, stg_t, stg_f, vAd_s, vCap_s, blk_p, List.cons_append, List.nil_append, b2n_t, b2n_f, hN4_8, hN4_12]
  exact goW
 ·intro ξ v; rfl
 ·intro ξ k v S h3 hn hk
  first
  |rfl
 apply YSeq.w (by intro _ _ _; rfl)
 ·intro ξ S h1 h2 h3 h4
  have hN5_6 := closed_false h1 h3 (k := 6) rfl (by decide)
  have hN5_8 := closed_false hN5_6 h3 (k := 8) rfl (by decide)
  have hN5_12 := closed_false h1 h3 (k := 12) rfl (by decide)
  try simp only [upd_same, updD_same, upd_ne, updD_ne, ne_eq, Nat.reduceEqDiff, not_false_eq_true, stg_t, stg_f, vAd_s, vCap_s, blk_p, List.cons_append, List.nil_append, b2n_t, b2n_f, hN5_8, hN5_12]
  exact goW
 ·intro ξ v; rfl
 ·intro ξ k v S h3 hn hk
  first
  |rfl
 apply YSeq.w (by intro _ _ _; rfl)
 ·intro ξ S h1 h2 h3 h4
  have hN6_8 := closed_false h1 h3 (k := 8) rfl (by decide)
  have hN6_12 := closed_false h1 h3 (k := 12) rfl (by decide)
  try simp only [upd_same, updD_same, upd_ne, updD_ne, ne_eq, Nat.reduceEqDiff, not_false_eq_true, stg_t, stg_f, vAd_s, vCap_s, blk_p, List.cons_append, List.nil_append, b2n_t, b2n_f, hN6_8, hN6_12]
  exact goW
 ·intro ξ v; rfl
 ·intro ξ k v S h3 hn hk
  first
  |rfl
 apply YSeq.w (by intro _ _ _; rfl)
 ·intro ξ S h1 h2 h3 h4
  have hN7_8 := closed_false h1 h3 (k := 8) rfl (by decide)
  have hN7_12 := closed_false h1 h3 (k := 12) rfl (by decide)
  try simp only [upd_same, updD_same, upd_ne, updD_ne, ne_eq, Nat.reduceEqDiff, not_false_eq_true, stg_t, stg_f, vAd_s, vCap_s, blk_p, List.cons_append, List.nil_append, b2n_t, b2n_f, hN7_8, hN7_12]
  exact goW
 ·intro ξ v; rfl
 ·intro ξ k v S h3 hn hk
  first
  |rfl
 apply YSeq.callC
 ·intro ξ S h1 h2 h3 h4
  have hN8_12 := closed_false h1 h3 (k := 12) rfl (by decide)
  try simp only [upd_same, updD_same, upd_ne, updD_ne, ne_eq, Nat.reduceEqDiff, not_false_eq_true, stg_t, stg_f, vAd_s, vCap_s, blk_p, List.cons_append, List.nil_append, b2n_t, b2n_f, h1, hN8_12]
  exact ⟨_, _, _, _, hM, (Evs.cons rfl (Evs.cons rfl Evs.nil)), goXp, fun v => (by first | exact goXp | (simp only [upd_same, updD_same, upd_ne, updD_ne, ne_eq, Nat.reduceEqDiff, not_false_eq_true, stg_t, stg_f, vAd_s, vCap_s, blk_p, List.cons_append, List.nil_append, b2n_t, b2n_f]; exact goXp))⟩
 ·intro ξ v; rfl
 ·intro ξ k v S h3 hn hk
  first
  |rfl
 apply YSeq.callV (by intro _ _ _; rfl)
 ·intro ξ S h1 h2 h3 h4
  have hY9_8 : S 8 = true := h2 8 (by decide)
  have hN9_12 := closed_false h1 h3 (k := 12) rfl (by decide)
  try simp only [upd_same, updD_same, upd_ne, updD_ne, ne_eq, Nat.reduceEqDiff, not_false_eq_true, stg_t, stg_f, vAd_s, vCap_s, blk_p, List.cons_append, List.nil_append, b2n_t, b2n_f, hY9_8, hN9_12]
  exact ⟨_, (Evs.cons rfl (Evs.cons rfl Evs.nil)), hD⟩
 ·intro ξ v; rfl
 ·intro ξ k v S h3 hn hk
  first
  |rfl
 apply YSeq.w (by intro _ _ _; rfl)
 ·intro ξ S h1 h2 h3 h4
  have hY10_9 : S 9 = true := h2 9 (by decide)
  have hY10_8 : S 8 = true := h3 9 _ rfl hY10_9 8 (by decide)
  have hN10_12 := closed_false h1 h3 (k := 12) rfl (by decide)
  try simp only [upd_same, updD_same, upd_ne, updD_ne, ne_eq, Nat.reduceEqDiff, not_false_eq_true, stg_t, stg_f, vAd_s, vCap_s, blk_p, List.cons_append, List.nil_append, b2n_t, b2n_f, hY10_8, hN10_12]
  exact goW
 ·intro ξ v; rfl
 ·intro ξ k v S h3 hn hk
  first
  |rfl
 apply YSeq.w (by intro _ _ _; rfl)
 ·intro ξ S h1 h2 h3 h4
  have hY11_9 : S 9 = true := h2 9 (by decide)
  have hY11_8 : S 8 = true := h3 9 _ rfl hY11_9 8 (by decide)
  have hN11_12 := closed_false h1 h3 (k := 12) rfl (by decide)
  try simp only [upd_same, updD_same, upd_ne, updD_ne, ne_eq, Nat.reduceEqDiff, not_false_eq_true, stg_t, stg_f, vAd_s, vCap_s, blk_p, List.cons_append, List.nil_append, b2n_t, b2n_f, hY11_8, hN11_12]
  exact goW
 ·intro ξ v; rfl
 ·intro ξ k v S h3 hn hk
  first
  |rfl
 apply YSeq.store
 ·intro ξ S h1 h2 h3 h4
  have hY12_8 : S 8 = true := h2 8 (by decide)
  simp only [upd_same, updD_same, upd_ne, updD_ne, ne_eq, Nat.reduceEqDiff, not_false_eq_true, stg_t, stg_f, vAd_s, vCap_s, blk_p, List.cons_append, List.nil_append, b2n_t, b2n_f, hY12_8, h1]
  refine ⟨_, _, _, _, _, _, _, rfl, rfl, inferInstance, goXp, rfl, Nat.le_of_ble_eq_true rfl, ?_⟩
  exact goXm
 apply YSeq.w (by intro _ _ _; rfl)
 ·intro ξ S h1 h2 h3 h4
  have hY13_8 : S 8 = true := h2 8 (by decide)
  have hY13_12 : S 12 = true := h2 12 (by decide)
  try simp only [upd_same, updD_same, upd_ne, updD_ne, ne_eq, Nat.reduceEqDiff, not_false_eq_true, stg_t, stg_f, vAd_s, vCap_s, blk_p, List.cons_append, List.nil_append, b2n_t, b2n_f, hY13_8, hY13_12]
  exact goW
 ·intro ξ v; rfl
 ·intro ξ k v S h3 hn hk
  first
  |rfl
 refine YSeq.nil fun ξ hf => ?_
 refine ⟨[(6, _), (7, _)], _, Ent.trans (Ent.eqc rfl (by first | (simp only [upd_same, updD_same, upd_ne, updD_ne, ne_eq, Nat.reduceEqDiff, not_false_eq_true, stg_t, stg_f, vAd_s, vCap_s, blk_p, List.cons_append, List.nil_append, b2n_t, b2n_f, ownV, slV, ptV] <;> rfl) | rfl)) (Ent.sub goSub), ?_⟩
 clear hf
 rcases hcase with ⟨q4, rfl, rfl, q5⟩ | ⟨q4, rfl, rfl, q5⟩
 ·rw [if_pos q4] at he
  subst he
  rw [resW_bad (by decide), q5]
  repeat' (first | refine goH ?_ | refine goV ?_ | refine goB (fun b => ?_) | refine goI ?_ | (refine Cw.k_cond ?_; first | (refine Cw.cond_dec rfl ?_ ?_ <;> intro hc <;> try omega) | refine Cw.cond_bool rfl ?_ ?_ <;> intro hc) | refine goR ?_ | refine goP ?_ | apply PSeq.cons | apply PSeq.yes rfl rfl rfl | exact goW | fail)
  refine Fin.ret (Ent.trans (Ent.imp_box goPk impW0) (Ent.trans (Ent.setbox (s := 6) rfl goPk) (Ent.take goTk))) (Outs.many rfl (OutL.cons goOe (OutL.cons goOe OutL.nil)) rfl) ⟨rfl, rfl⟩
 ·rw [if_neg q4] at he
  subst he
  rw [resW_ok rfl, q5]
  have hUs : (intRows (w.used.set k (y + c))).length = w.sites.length := by rw [intRows_len, List.length_set]; exact h.u
  repeat' (first | refine goH ?_ | refine goV ?_ | refine goB (fun b => ?_) | refine goI ?_ | (refine Cw.k_cond ?_; first | (refine Cw.cond_dec rfl ?_ ?_ <;> intro hc <;> try omega) | refine Cw.cond_bool rfl ?_ ?_ <;> intro hc) | refine goR ?_ | refine goP ?_ | apply PSeq.cons | apply PSeq.yes rfl rfl rfl | exact goW | fail)
  refine Fin.ret (Ent.trans (Ent.settle_wal (b := b) (by exact Perm.cons' goPk (Perm.cons' goPk (Perm.cons' goPk (Perm.cons' goPk (List.Perm.refl _))))) hLl hUs) (Ent.trans (Ent.setbox (s := 6) rfl goPk) (Ent.take goTk))) (Outs.many rfl (OutL.cons goOe (OutL.cons goOe OutL.nil)) rfl) ⟨rfl, ?_⟩
  rw [hW, hv]
end Lg
end
