/- A part of the proof of a law of this seat: it adds no condition. By an AI agent. -/
import Derived.Test.YtckmbloodnndeaaGreatDoorIdx
section
set_option linter.all false
set_option maxRecDepth 100000
set_option maxHeartbeats 8000000
namespace Lg
open Go Go.Proofs

structure Stop where
  key : ByteArray
  x : Int
  y : Int
  f : Int
  t : Int
  n : Int
def Stop.spot (s : Stop) : Spot := ⟨s.x, s.y⟩
def Stop.row (s : Stop) : List Tr := [.str s.key, .int s.x, .int s.y, .int s.f, .int s.t, .int s.n]
abbrev Tr.stops (l : List Stop) : Tr := Tr.sl 6 (l.map Stop.row)
def stopB (s : Stop) : Bool := spotB s.spot && decide (0 ≤ s.f ∧ s.f ≤ s.t ∧ s.t ≤ 1440 ∧ 0 ≤ s.n ∧ s.n ≤ 1440)
def keyQ (s : Stop) (t : Stop) : Bool := decide (t.key = s.key)
def stopE (l : List Stop) (k : Nat) : Int := match l[k]? with
  | none => 0
  | some s => if isKey s.key = false then 5 else if (l.take k).any (keyQ s) = true then 6 else if stopB s = false then 1 else 0
def stopsE (l : List Stop) : Int := if l.length > 60 then 2 else firstE (stopE l) 0 l.length
theorem indexFunc_stop {l : List Stop} {p : Stop → Bool} {g : Nat} {caps : List Value} {cin : List Chunk} (hl : l.length ≤ 1000000000)
    (hs : ∀ x, x ∈ l → Spec Tryz.prog g ([Tr.agg x.row] ++ caps.map Tr.raw) cin (fun r cs => r = Tr.bool (p x) ∧ cs = cin)) :
    Spec Tryz.prog 140 [Tr.sl 6 (l.map Stop.row), Tr.raw (.func (.func g) #[] caps.toArray)] cin (fun r cs => r = Tr.int (idxFrom p l 0) ∧ cs = cin) := by
  refine Spec.body Tryz.func140 rfl rfl (Tryz.ntmps140) rfl fun w0 own0 M => ?_
  have hL : (l.map Stop.row).length = l.length := List.length_map _
  repeat' (first | refine goH ?_ | refine goV ?_ | refine goI ?_ | (refine Cw.k_cond ?_; first | (refine Cw.cond_dec rfl (fun hc => ?_) (fun hc => ?_) <;> try (exfalso; omega)) | refine Cw.cond_bool rfl (fun hc => ?_) (fun hc => ?_)) | fail)
  refine Cw.loop (ι := Nat) (fun k => k ≤ l.length ∧ idxFrom p l 0 = idxFrom p (l.drop k) k) (fun k => [(0, Tr.sl 6 (l.map Stop.row)), (1, Tr.raw (.func (.func g) #[] caps.toArray)), (7, .int (l.map Stop.row).length), (8, .int k)]) (fun _ => cin) (fun k => l.length - k) ⟨0, ⟨by omega, rfl⟩, Ent.sub goSub⟩ ?_
  rintro k ⟨hk, hgo⟩
  by_cases hkl : k < l.length
  · obtain ⟨x, hx⟩ : ∃ x, l[k]? = some x := ⟨_, List.getElem?_eq_getElem hkl⟩
    have hrow : (l.map Stop.row)[k]? = some [.str x.key, .int x.x, .int x.y, .int x.f, .int x.t, .int x.n] := rows_at hx
    have hdrop := idxFrom_drop p hx
    rw [hdrop] at hgo
    have hsx := hs x (List.mem_of_getElem? hx)
    by_cases hp : p x = true
    · rw [if_pos hp] at hgo
      rw [hp] at hsx
      repeat' (first | refine goH ?_ | refine goV ?_ | refine goI ?_ | (refine Cw.k_cond ?_; first | (refine Cw.cond_dec rfl (fun hc => ?_) (fun hc => ?_) <;> try (exfalso; omega)) | refine Cw.cond_bool rfl (fun hc => ?_) (fun hc => ?_)) | (refine Ops.k_calla ?_; first | (refine Ops.call_fn rfl hsx (Evs.cons rfl Evs.nil) (by rw [List.append_nil]) rfl ?_; rintro r cs' ⟨rfl, hcs⟩; rw [hcs, List.append_nil])) | fail)
      exact Fin.ret Ent.refl (Outs.one rfl rfl) ⟨by rw [hgo], rfl⟩
    · rw [if_neg hp] at hgo
      rw [Bool.not_eq_true] at hp
      rw [hp] at hsx
      repeat' (first | refine goH ?_ | refine goV ?_ | refine goI ?_ | (refine Cw.k_cond ?_; first | (refine Cw.cond_dec rfl (fun hc => ?_) (fun hc => ?_) <;> try (exfalso; omega)) | refine Cw.cond_bool rfl (fun hc => ?_) (fun hc => ?_)) | (refine Ops.k_calla ?_; first | (refine Ops.call_fn rfl hsx (Evs.cons rfl Evs.nil) (by rw [List.append_nil]) rfl ?_; rintro r cs' ⟨rfl, hcs⟩; rw [hcs, List.append_nil])) | fail)
      exact ⟨k + 1, ⟨by omega, hgo⟩, by omega, Ent.sub goSub⟩
  · rw [List.drop_eq_nil_of_le (by omega), idxFrom] at hgo
    repeat' (first | refine goH ?_ | refine goV ?_ | refine goI ?_ | (refine Cw.k_cond ?_; first | (refine Cw.cond_dec rfl (fun hc => ?_) (fun hc => ?_) <;> try (exfalso; omega)) | refine Cw.cond_bool rfl (fun hc => ?_) (fun hc => ?_)) | fail)
    exact Fin.ret Ent.refl (Outs.one rfl rfl) ⟨by rw [hgo], rfl⟩

theorem containsFunc_stop {l : List Stop} {p : Stop → Bool} {g : Nat} {caps : List Value} {cin : List Chunk} (hl : l.length ≤ 1000000000)
    (hs : ∀ x, x ∈ l → Spec Tryz.prog g ([Tr.agg x.row] ++ caps.map Tr.raw) cin (fun r cs => r = Tr.bool (p x) ∧ cs = cin)) :
    Spec Tryz.prog 103 [Tr.sl 6 (l.map Stop.row), Tr.raw (.func (.func g) #[] caps.toArray)] cin (fun r cs => r = Tr.bool (l.any p) ∧ cs = cin) := by
  refine Spec.body Tryz.func103 rfl rfl (Tryz.ntmps103) rfl fun w0 own0 M => ?_
  repeat' (first | refine goH ?_ | refine goV ?_ | refine goI ?_ | (refine Cw.k_cond ?_; first | (refine Cw.cond_dec rfl (fun hc => ?_) (fun hc => ?_) <;> try (exfalso; omega)) | refine Cw.cond_bool rfl (fun hc => ?_) (fun hc => ?_)) | (refine Ops.k_calla ?_; first | (refine Ops.k_callf 140 ?_; (refine Ops.call (indexFunc_stop hl hs) (Evs.cons rfl (Evs.cons rfl Evs.nil)) (by rw [List.append_nil]) rfl ?_; rintro r cs' ⟨rfl, hcs⟩; rw [hcs, List.append_nil]))) | fail)
  refine Fin.ret Ent.refl (Outs.one rfl rfl) ⟨congrArg Tr.bool ?_, rfl⟩
  have := idxFrom_ge p l 0 (Int.le_refl _)
  by_cases h : 0 ≤ idxFrom p l 0
  · simp [h, this.1 h]
  · have h2 : l.any p = false := by rw [← Bool.not_eq_true]; exact fun e => h (this.2 e)
    simp [h, h2]

theorem stopD_fn (b : Nat) (s x : Stop) : Spec Tryz.prog 104 ([Tr.agg x.row] ++ [Value.pointer (some ⟨b, 0, none⟩)].map Tr.raw) [Chunk.box b 45 s.row] (fun r cs => r = .bool (keyQ s x) ∧ cs = [Chunk.box b 45 s.row]) := by
  unfold Stop.row keyQ
  refine Spec.body Tryz.func104 rfl rfl (Tryz.ntmps104) rfl fun w0 own0 M => ?_
  by_cases h : x.key = s.key
  · rw [h]
    repeat' (first | refine goH ?_ | refine goV ?_ | refine goB (fun b => ?_) | refine goI ?_ | (refine Cw.k_cond ?_; first | (refine Cw.cond_dec rfl (fun hc => ?_) (fun hc => ?_) <;> try (exfalso; omega)) | refine Cw.cond_bool rfl (fun hc => ?_) (fun hc => ?_)) | fail)
    exact Fin.ret (Ent.take goTk) (Outs.one rfl rfl) ⟨by first | rfl | exact congrArg Tr.bool (by simp), rfl⟩
  · repeat' (first | refine goH ?_ | refine goV ?_ | refine goB (fun b => ?_) | refine goI ?_ | (refine Cw.k_cond ?_; first | (refine Cw.cond_dec rfl (fun hc => ?_) (fun hc => ?_) <;> try (exfalso; omega)) | refine Cw.cond_bool rfl (fun hc => ?_) (fun hc => ?_)) | fail)
    exact Fin.ret (Ent.take goTk) (Outs.one rfl rfl) ⟨by first | rfl | exact congrArg Tr.bool (by simp [h]), rfl⟩
theorem checkStops_fn (l : List Stop) (hll : l.length ≤ 1000) : PFn Tryz.prog 78 [.stops l] (· = .int (stopsE l)) := by
  refine PFn.mk (Spec.body Tryz.func78 rfl rfl (Tryz.ntmps78) rfl fun w0 own0 M => ?_)
  have hL : (l.map Stop.row).length = l.length := List.length_map _
  by_cases h30 : l.length > 60
  · repeat' (first | refine goH ?_ | refine goV ?_ | refine goB (fun b => ?_) | refine goG ?_ | (refine Ops.k_guard ?_; first | (refine Ops.guard_dec rfl rfl (fun hc => ?_) (fun hc => ?_) <;> try (exfalso; omega)) | refine Ops.guard_split rfl rfl (fun hc => ?_) (fun hc => ?_)) | refine goI ?_ | (refine Cw.k_cond ?_; first | (refine Cw.cond_dec rfl (fun hc => ?_) (fun hc => ?_) <;> try (exfalso; omega)) | refine Cw.cond_bool rfl (fun hc => ?_) (fun hc => ?_)) | fail)
    refine Fin.ret (Ent.take goTk) (Outs.one rfl rfl) ⟨rfl, congrArg Tr.int ?_⟩
    unfold stopsE
    rw [if_pos h30]
  have hV0 : stopsE l = firstE (stopE l) 0 (l.length - 0) := by unfold stopsE; rw [if_neg h30]; rfl
  repeat' (first | refine goH ?_ | refine goV ?_ | refine goB (fun b => ?_) | refine goG ?_ | (refine Ops.k_guard ?_; first | (refine Ops.guard_dec rfl rfl (fun hc => ?_) (fun hc => ?_) <;> try (exfalso; omega)) | refine Ops.guard_split rfl rfl (fun hc => ?_) (fun hc => ?_)) | refine goI ?_ | (refine Cw.k_cond ?_; first | (refine Cw.cond_dec rfl (fun hc => ?_) (fun hc => ?_) <;> try (exfalso; omega)) | refine Cw.cond_bool rfl (fun hc => ?_) (fun hc => ?_)) | fail)
  refine Cw.loopI [(0, _), (8, _), (9, _)] _ (fun n e c => ∃ k : Nat, n = l.length - k ∧ (k ≤ l.length ∧ stopsE l = firstE (stopE l) k (l.length - k)) ∧ e = [(10, .int k)] ∧ c = []) ⟨_, _, _, (Ent.mkP goSub goPm), 0, rfl, ⟨by omega, hV0⟩, rfl, rfl⟩ ?_
  rintro _ _ _ ⟨k, rfl, ⟨hk, hV⟩, rfl, rfl⟩
  by_cases hkl : k < l.length
  rotate_left
  · repeat' (first | refine goH ?_ | refine goV ?_ | refine goB (fun b => ?_) | refine goG ?_ | (refine Ops.k_guard ?_; first | (refine Ops.guard_dec rfl rfl (fun hc => ?_) (fun hc => ?_) <;> try (exfalso; omega)) | refine Ops.guard_split rfl rfl (fun hc => ?_) (fun hc => ?_)) | refine goI ?_ | (refine Cw.k_cond ?_; first | (refine Cw.cond_dec rfl (fun hc => ?_) (fun hc => ?_) <;> try (exfalso; omega)) | refine Cw.cond_bool rfl (fun hc => ?_) (fun hc => ?_)) | fail)
    refine Fin.ret (Ent.take goTk) (Outs.one rfl rfl) ⟨rfl, congrArg Tr.int ?_⟩
    rw [hV, firstE_end hkl]
  obtain ⟨x, hx⟩ := at_lt hkl
  have hrow : (l.map Stop.row)[k]? = some [.str x.key, .int x.x, .int x.y, .int x.f, .int x.t, .int x.n] := rows_at hx
  have hkey := key_fn x.key
  have kS : PFn Tryz.prog 68 [.agg [.int x.x, .int x.y]] (· = .bool (spotB x.spot)) := isSpot_fn x.spot
  have fin : ∀ c, stopE l k = c → c ≠ 0 → stopsE l = c := fun c h1 h2 => hV.trans (firstE_bad hkl h1 h2)
  have nxt : stopE l k = 0 → stopsE l = firstE (stopE l) (k + 1) (l.length - (k + 1)) := fun h1 => hV.trans (firstE_ok hkl h1)
  have hoe : stopE l k = if isKey x.key = false then 5 else if (l.take k).any (keyQ x) = true then 6 else if stopB x = false then 1 else 0 := by unfold stopE; rw [hx]
  have kC : ∀ b : Nat, Spec Tryz.prog 103 [Tr.sl 6 ((l.map Stop.row).take k), Tr.raw (.func (.func 104) #[] [Value.pointer (some ⟨b, 0, none⟩)].toArray)] [Chunk.box b 45 [.str x.key, .int x.x, .int x.y, .int x.f, .int x.t, .int x.n]] (fun r cs => r = .bool ((l.take k).any (keyQ x)) ∧ cs = [Chunk.box b 45 [.str x.key, .int x.x, .int x.y, .int x.f, .int x.t, .int x.n]]) := by
    intro b
    rw [← List.map_take]
    exact containsFunc_stop (p := keyQ x) (caps := [.pointer (some ⟨b, 0, none⟩)]) (cin := [Chunk.box b 45 x.row]) (l := l.take k) (by rw [List.length_take]; omega) (fun y _ => stopD_fn b x y)
  clear hV hx
  by_cases g1 : isKey x.key = false
  · rw [g1] at hkey
    rw [if_pos g1] at hoe
    repeat' (first | refine goH ?_ | refine goV ?_ | refine goB (fun b => ?_) | refine goG ?_ | (refine Ops.k_guard ?_; first | (refine Ops.guard_dec rfl rfl (fun hc => ?_) (fun hc => ?_) <;> try (exfalso; omega)) | refine Ops.guard_split rfl rfl (fun hc => ?_) (fun hc => ?_)) | refine goI ?_ | (refine Cw.k_cond ?_; first | (refine Cw.cond_dec rfl (fun hc => ?_) (fun hc => ?_) <;> try (exfalso; omega)) | refine Cw.cond_bool rfl (fun hc => ?_) (fun hc => ?_)) | (refine Ops.k_calla ?_; first | (refine Ops.k_callf 63 ?_; refine Ops.callV hkey (Evs.cons rfl Evs.nil) rfl ?_)) | fail)
    exact Fin.ret (Ent.take goTk) (Outs.one rfl rfl) ⟨rfl, congrArg Tr.int (fin 5 hoe (by decide)).symm⟩
  rw [if_neg g1] at hoe
  replace g1 : isKey x.key = true := by simpa using g1
  rw [g1] at hkey
  by_cases g2 : (l.take k).any (keyQ x) = true
  · rw [if_pos g2] at hoe
    rw [g2] at kC
    repeat' (first | refine goH ?_ | refine goV ?_ | refine goB (fun b => ?_) | refine goG ?_ | (refine Ops.k_guard ?_; first | (refine Ops.guard_dec rfl rfl (fun hc => ?_) (fun hc => ?_) <;> try (exfalso; omega)) | refine Ops.guard_split rfl rfl (fun hc => ?_) (fun hc => ?_)) | refine goI ?_ | (refine Cw.k_cond ?_; first | (refine Cw.cond_dec rfl (fun hc => ?_) (fun hc => ?_) <;> try (exfalso; omega)) | refine Cw.cond_bool rfl (fun hc => ?_) (fun hc => ?_)) | (refine Ops.k_calla ?_; first | (refine Ops.k_callf 63 ?_; refine Ops.callV hkey (Evs.cons rfl Evs.nil) rfl ?_) | (refine Ops.k_callf 103 ?_; (refine Ops.call (kC _) (Evs.cons rfl (Evs.cons rfl Evs.nil)) goPm rfl ?_; rintro y cs' ⟨rfl, rfl⟩)) | (refine Ops.k_callf 68 ?_; refine Ops.callV kS (Evs.cons rfl Evs.nil) rfl ?_)) | fail)
    exact Fin.ret (Ent.take goTk) (Outs.one rfl rfl) ⟨rfl, congrArg Tr.int (fin 6 hoe (by decide)).symm⟩
  rw [if_neg g2] at hoe
  rw [show (l.take k).any (keyQ x) = false by simpa using g2] at kC
  by_cases g3 : spotB x.spot = false
  · rw [if_pos (by unfold stopB; rw [g3]; rfl)] at hoe
    rw [g3] at kS
    repeat' (first | refine goH ?_ | refine goV ?_ | refine goB (fun b => ?_) | refine goG ?_ | (refine Ops.k_guard ?_; first | (refine Ops.guard_dec rfl rfl (fun hc => ?_) (fun hc => ?_) <;> try (exfalso; omega)) | refine Ops.guard_split rfl rfl (fun hc => ?_) (fun hc => ?_)) | refine goI ?_ | (refine Cw.k_cond ?_; first | (refine Cw.cond_dec rfl (fun hc => ?_) (fun hc => ?_) <;> try (exfalso; omega)) | refine Cw.cond_bool rfl (fun hc => ?_) (fun hc => ?_)) | (refine Ops.k_calla ?_; first | (refine Ops.k_callf 63 ?_; refine Ops.callV hkey (Evs.cons rfl Evs.nil) rfl ?_) | (refine Ops.k_callf 103 ?_; (refine Ops.call (kC _) (Evs.cons rfl (Evs.cons rfl Evs.nil)) goPm rfl ?_; rintro y cs' ⟨rfl, rfl⟩)) | (refine Ops.k_callf 68 ?_; refine Ops.callV kS (Evs.cons rfl Evs.nil) rfl ?_)) | fail)
    exact Fin.ret (Ent.take goTk) (Outs.one rfl rfl) ⟨rfl, congrArg Tr.int (fin 1 hoe (by decide)).symm⟩
  replace g3 : spotB x.spot = true := by simpa using g3
  rw [g3] at kS
  have hsb : stopB x = decide (0 ≤ x.f ∧ x.f ≤ x.t ∧ x.t ≤ 1440 ∧ 0 ≤ x.n ∧ x.n ≤ 1440) := by unfold stopB; rw [g3, Bool.true_and]
  rw [hsb] at hoe
  by_cases g4 : 0 ≤ x.f ∧ x.f ≤ x.t ∧ x.t ≤ 1440 ∧ 0 ≤ x.n ∧ x.n ≤ 1440
  · rw [if_neg (by rw [decide_eq_true g4]; simp)] at hoe
    have kO1 := out_f x.f 0 x.t (by omega)
    have kO2 := out_f x.n 0 1440 (by omega)
    repeat' (first | refine goH ?_ | refine goV ?_ | refine goB (fun b => ?_) | refine goG ?_ | (refine Ops.k_guard ?_; first | (refine Ops.guard_dec rfl rfl (fun hc => ?_) (fun hc => ?_) <;> try (exfalso; omega)) | refine Ops.guard_split rfl rfl (fun hc => ?_) (fun hc => ?_)) | refine goI ?_ | (refine Cw.k_cond ?_; first | (refine Cw.cond_dec rfl (fun hc => ?_) (fun hc => ?_) <;> try (exfalso; omega)) | refine Cw.cond_bool rfl (fun hc => ?_) (fun hc => ?_)) | (refine Ops.k_calla ?_; first | (refine Ops.k_callf 63 ?_; refine Ops.callV hkey (Evs.cons rfl Evs.nil) rfl ?_) | (refine Ops.k_callf 103 ?_; (refine Ops.call (kC _) (Evs.cons rfl (Evs.cons rfl Evs.nil)) goPm rfl ?_; rintro y cs' ⟨rfl, rfl⟩)) | (refine Ops.k_callf 68 ?_; refine Ops.callV kS (Evs.cons rfl Evs.nil) rfl ?_) | (refine Ops.k_callf 50 ?_; refine Ops.callV kO1 (Evs.cons rfl (Evs.cons rfl (Evs.cons rfl Evs.nil))) rfl ?_) | (refine Ops.k_callf 50 ?_; refine Ops.callV kO2 (Evs.cons rfl (Evs.cons rfl (Evs.cons rfl Evs.nil))) rfl ?_)) | fail)
    exact ⟨_, _, _, (Ent.mk goSub goTk), ⟨k + 1, rfl, ⟨by omega, nxt hoe⟩, rfl, rfl⟩, by omega⟩
  rw [if_pos (decide_eq_false g4)] at hoe
  by_cases h1 : x.f < 0 ∨ x.t < x.f
  · have kO1 := out_t x.f 0 x.t (by omega)
    by_cases h2 : x.f < 0
    all_goals
      repeat' (first | refine goH ?_ | refine goV ?_ | refine goB (fun b => ?_) | refine goG ?_ | (refine Ops.k_guard ?_; first | (refine Ops.guard_dec rfl rfl (fun hc => ?_) (fun hc => ?_) <;> try (exfalso; omega)) | refine Ops.guard_split rfl rfl (fun hc => ?_) (fun hc => ?_)) | refine goI ?_ | (refine Cw.k_cond ?_; first | (refine Cw.cond_dec rfl (fun hc => ?_) (fun hc => ?_) <;> try (exfalso; omega)) | refine Cw.cond_bool rfl (fun hc => ?_) (fun hc => ?_)) | (refine Ops.k_calla ?_; first | (refine Ops.k_callf 63 ?_; refine Ops.callV hkey (Evs.cons rfl Evs.nil) rfl ?_) | (refine Ops.k_callf 103 ?_; (refine Ops.call (kC _) (Evs.cons rfl (Evs.cons rfl Evs.nil)) goPm rfl ?_; rintro y cs' ⟨rfl, rfl⟩)) | (refine Ops.k_callf 68 ?_; refine Ops.callV kS (Evs.cons rfl Evs.nil) rfl ?_) | (refine Ops.k_callf 50 ?_; refine Ops.callV kO1 (Evs.cons rfl (Evs.cons rfl (Evs.cons rfl Evs.nil))) rfl ?_)) | fail)
      exact Fin.ret (Ent.take goTk) (Outs.one rfl rfl) ⟨rfl, congrArg Tr.int (fin 1 hoe (by decide)).symm⟩
  have kO1 := out_f x.f 0 x.t (by omega)
  by_cases h2 : 1440 < x.t
  · repeat' (first | refine goH ?_ | refine goV ?_ | refine goB (fun b => ?_) | refine goG ?_ | (refine Ops.k_guard ?_; first | (refine Ops.guard_dec rfl rfl (fun hc => ?_) (fun hc => ?_) <;> try (exfalso; omega)) | refine Ops.guard_split rfl rfl (fun hc => ?_) (fun hc => ?_)) | refine goI ?_ | (refine Cw.k_cond ?_; first | (refine Cw.cond_dec rfl (fun hc => ?_) (fun hc => ?_) <;> try (exfalso; omega)) | refine Cw.cond_bool rfl (fun hc => ?_) (fun hc => ?_)) | (refine Ops.k_calla ?_; first | (refine Ops.k_callf 63 ?_; refine Ops.callV hkey (Evs.cons rfl Evs.nil) rfl ?_) | (refine Ops.k_callf 103 ?_; (refine Ops.call (kC _) (Evs.cons rfl (Evs.cons rfl Evs.nil)) goPm rfl ?_; rintro y cs' ⟨rfl, rfl⟩)) | (refine Ops.k_callf 68 ?_; refine Ops.callV kS (Evs.cons rfl Evs.nil) rfl ?_) | (refine Ops.k_callf 50 ?_; refine Ops.callV kO1 (Evs.cons rfl (Evs.cons rfl (Evs.cons rfl Evs.nil))) rfl ?_)) | fail)
    exact Fin.ret (Ent.take goTk) (Outs.one rfl rfl) ⟨rfl, congrArg Tr.int (fin 1 hoe (by decide)).symm⟩
  have kO2 := out_t x.n 0 1440 (by omega)
  by_cases h3 : x.n < 0
  all_goals
    repeat' (first | refine goH ?_ | refine goV ?_ | refine goB (fun b => ?_) | refine goG ?_ | (refine Ops.k_guard ?_; first | (refine Ops.guard_dec rfl rfl (fun hc => ?_) (fun hc => ?_) <;> try (exfalso; omega)) | refine Ops.guard_split rfl rfl (fun hc => ?_) (fun hc => ?_)) | refine goI ?_ | (refine Cw.k_cond ?_; first | (refine Cw.cond_dec rfl (fun hc => ?_) (fun hc => ?_) <;> try (exfalso; omega)) | refine Cw.cond_bool rfl (fun hc => ?_) (fun hc => ?_)) | (refine Ops.k_calla ?_; first | (refine Ops.k_callf 63 ?_; refine Ops.callV hkey (Evs.cons rfl Evs.nil) rfl ?_) | (refine Ops.k_callf 103 ?_; (refine Ops.call (kC _) (Evs.cons rfl (Evs.cons rfl Evs.nil)) goPm rfl ?_; rintro y cs' ⟨rfl, rfl⟩)) | (refine Ops.k_callf 68 ?_; refine Ops.callV kS (Evs.cons rfl Evs.nil) rfl ?_) | (refine Ops.k_callf 50 ?_; refine Ops.callV kO1 (Evs.cons rfl (Evs.cons rfl (Evs.cons rfl Evs.nil))) rfl ?_) | (refine Ops.k_callf 50 ?_; refine Ops.callV kO2 (Evs.cons rfl (Evs.cons rfl (Evs.cons rfl Evs.nil))) rfl ?_)) | fail)
    exact Fin.ret (Ent.take goTk) (Outs.one rfl rfl) ⟨rfl, congrArg Tr.int (fin 1 hoe (by decide)).symm⟩
end Lg
end
section
set_option linter.all false
set_option maxRecDepth 100000
set_option maxHeartbeats 8000000
namespace Lg
open Go Go.Proofs

def tripE (h : Spot) (l : List Stop) (s : Int) : Int := if stopsE l ≠ 0 then stopsE l else if spotB h = true ∧ 0 ≤ s ∧ s ≤ 1440 then 0 else 1
theorem fault_fn (h : Spot) (l : List Stop) (s : Int) (hl : l.length ≤ 1000) : PFn Tryz.prog 39 [.agg [.int h.x, .int h.y, .stops l, .int s]] (· = .int (tripE h l s)) := by
  have k1 := checkStops_fn l hl
  have k2 : PFn Tryz.prog 68 [.agg [.int h.x, .int h.y]] (· = .bool (spotB h)) := isSpot_fn h
  have k3 := out_fn s 0 1440
  unfold tripE
  refine PFn.mk (Spec.body Tryz.func39 rfl rfl (Tryz.ntmps39) rfl fun w0 own0 M => ?_)
  by_cases h1 : stopsE l ≠ 0
  · rw [if_pos h1]
    generalize stopsE l = e at *
    repeat' (first | refine goH ?_ | refine goV ?_ | refine goB (fun b => ?_) | refine goG ?_ | (refine Ops.k_guard ?_; first | (refine Ops.guard_dec rfl rfl (fun hc => ?_) (fun hc => ?_) <;> try (exfalso; omega)) | refine Ops.guard_split rfl rfl (fun hc => ?_) (fun hc => ?_)) | refine goI ?_ | (refine Cw.k_cond ?_; first | (refine Cw.cond_dec rfl (fun hc => ?_) (fun hc => ?_) <;> try (exfalso; omega)) | refine Cw.cond_bool rfl (fun hc => ?_) (fun hc => ?_)) | (refine Ops.k_calla ?_; first | (refine Ops.k_callf 78 ?_; refine Ops.callV k1 (Evs.cons rfl Evs.nil) rfl ?_)) | fail)
    exact Fin.ret (Ent.take goTk) (Outs.one rfl rfl) ⟨rfl, rfl⟩
  rw [if_neg h1]
  rw [show stopsE l = 0 by omega] at k1
  cases h2 : spotB h
  · rw [h2] at k2
    rw [if_neg (by simp)]
    repeat' (first | refine goH ?_ | refine goV ?_ | refine goB (fun b => ?_) | refine goG ?_ | (refine Ops.k_guard ?_; first | (refine Ops.guard_dec rfl rfl (fun hc => ?_) (fun hc => ?_) <;> try (exfalso; omega)) | refine Ops.guard_split rfl rfl (fun hc => ?_) (fun hc => ?_)) | refine goI ?_ | (refine Cw.k_cond ?_; first | (refine Cw.cond_dec rfl (fun hc => ?_) (fun hc => ?_) <;> try (exfalso; omega)) | refine Cw.cond_bool rfl (fun hc => ?_) (fun hc => ?_)) | (refine Ops.k_calla ?_; first | (refine Ops.k_callf 78 ?_; refine Ops.callV k1 (Evs.cons rfl Evs.nil) rfl ?_) | (refine Ops.k_callf 68 ?_; refine Ops.callV k2 (Evs.cons rfl Evs.nil) rfl ?_)) | fail)
    exact Fin.ret (Ent.take goTk) (Outs.one rfl rfl) ⟨rfl, rfl⟩
  rw [h2] at k2
  by_cases h3 : 0 ≤ s ∧ s ≤ 1440
  · rw [if_pos ⟨rfl, h3⟩]
    rw [show outB s 0 1440 = false by unfold outB; exact decide_eq_false (by omega)] at k3
    repeat' (first | refine goH ?_ | refine goV ?_ | refine goB (fun b => ?_) | refine goG ?_ | (refine Ops.k_guard ?_; first | (refine Ops.guard_dec rfl rfl (fun hc => ?_) (fun hc => ?_) <;> try (exfalso; omega)) | refine Ops.guard_split rfl rfl (fun hc => ?_) (fun hc => ?_)) | refine goI ?_ | (refine Cw.k_cond ?_; first | (refine Cw.cond_dec rfl (fun hc => ?_) (fun hc => ?_) <;> try (exfalso; omega)) | refine Cw.cond_bool rfl (fun hc => ?_) (fun hc => ?_)) | (refine Ops.k_calla ?_; first | (refine Ops.k_callf 78 ?_; refine Ops.callV k1 (Evs.cons rfl Evs.nil) rfl ?_) | (refine Ops.k_callf 68 ?_; refine Ops.callV k2 (Evs.cons rfl Evs.nil) rfl ?_) | (refine Ops.k_callf 50 ?_; refine Ops.callV k3 (Evs.cons rfl (Evs.cons rfl (Evs.cons rfl Evs.nil))) rfl ?_)) | fail)
    exact Fin.ret (Ent.take goTk) (Outs.one rfl rfl) ⟨rfl, rfl⟩
  · rw [if_neg (fun h => h3 h.2)]
    rw [show outB s 0 1440 = true by unfold outB; exact decide_eq_true (by omega)] at k3
    repeat' (first | refine goH ?_ | refine goV ?_ | refine goB (fun b => ?_) | refine goG ?_ | (refine Ops.k_guard ?_; first | (refine Ops.guard_dec rfl rfl (fun hc => ?_) (fun hc => ?_) <;> try (exfalso; omega)) | refine Ops.guard_split rfl rfl (fun hc => ?_) (fun hc => ?_)) | refine goI ?_ | (refine Cw.k_cond ?_; first | (refine Cw.cond_dec rfl (fun hc => ?_) (fun hc => ?_) <;> try (exfalso; omega)) | refine Cw.cond_bool rfl (fun hc => ?_) (fun hc => ?_)) | (refine Ops.k_calla ?_; first | (refine Ops.k_callf 78 ?_; refine Ops.callV k1 (Evs.cons rfl Evs.nil) rfl ?_) | (refine Ops.k_callf 68 ?_; refine Ops.callV k2 (Evs.cons rfl Evs.nil) rfl ?_) | (refine Ops.k_callf 50 ?_; refine Ops.callV k3 (Evs.cons rfl (Evs.cons rfl (Evs.cons rfl Evs.nil))) rfl ?_)) | fail)
    exact Fin.ret (Ent.take goTk) (Outs.one rfl rfl) ⟨rfl, rfl⟩
def ordE (n : Nat) (o : List Int) (k : Nat) : Int := match o[k]? with
  | none => 0
  | some i => if i < 0 ∨ (n : Int) - 1 < i then 1 else if i ∈ o.take k then 6 else 0
def ordersE (n : Nat) (o : List Int) : Int := firstE (ordE n o) 0 o.length
theorem mem_take_succ {o : List Int} {k : Nat} {i j : Int} (h : o[k]? = some i) : j ∈ o.take (k + 1) ↔ j ∈ o.take k ∨ j = i := by
  rw [take_at h, List.mem_append, List.mem_singleton]
theorem ordersE_ok {n : Nat} {o : List Int} (h : ordersE n o = 0) : (∀ i ∈ o, 0 ≤ i ∧ i < n) := by
  intro i hi
  obtain ⟨k, hk⟩ := List.getElem?_of_mem hi
  have hlt := (List.getElem?_eq_some_iff.1 hk).1
  have h1 := firstE_zero h k (by omega) (by omega)
  unfold ordE at h1
  rw [hk] at h1
  simp only at h1
  by_cases h2 : i < 0 ∨ (n : Int) - 1 < i
  · rw [if_pos h2] at h1; omega
  · omega
attribute [local irreducible] intRows
theorem orderFault_fn (h : Spot) (l : List Stop) (s : Int) (o : List Int) (hl : l.length ≤ 1000) (ho : o.length ≤ 1000) : PFn Tryz.prog 43 [.agg [.int h.x, .int h.y, .stops l, .int s], .ints o] (· = .int (ordersE l.length o)) := by
  have hL : (l.map Stop.row).length = l.length := List.length_map _
  have hoR := intRows_len o
  refine PFn.mk (Spec.body Tryz.func43 rfl rfl (Tryz.ntmps43) rfl fun w0 own0 M => ?_)
  repeat' (first | refine goH ?_ | refine goV ?_ | refine goB (fun b => ?_) | refine goC (fun ad cap => ?_) | refine goI ?_ | (refine Cw.k_cond ?_; first | (refine Cw.cond_dec rfl (fun hc => ?_) (fun hc => ?_) <;> try (exfalso; omega)) | refine Cw.cond_bool rfl (fun hc => ?_) (fun hc => ?_)) | fail)
  obtain ⟨n, hn⟩ : ∃ n, n = l.length := ⟨_, rfl⟩
  rw [hL, ← hn]
  have hV0 : ordersE n o = firstE (ordE n o) 0 (o.length - 0) := rfl
  refine Cw.loopI [(2, _), (5, _), (12, _), (13, _)] _ (fun q e c => ∃ (k : Nat) (rows : List (List Tr)), q = o.length - k ∧ (k ≤ o.length ∧ ordersE n o = firstE (ordE n o) k (o.length - k) ∧ rows.length = n ∧ ∀ j : Nat, j < n → rows[j]? = some [Tr.bool (decide ((j : Int) ∈ o.take k))]) ∧ e = [(14, .int k)] ∧ c = [Chunk.own ad cap 1 4 rows])
    ⟨_, _, _, (Ent.mkP goSub goPm), 0, _, rfl, ⟨by omega, hV0, by rw [List.length_replicate]; omega, fun j hj => by rw [List.getElem?_replicate, if_pos (by omega)]; rfl⟩, rfl, rfl⟩ ?_
  clear hV0
  rintro _ _ _ ⟨k, rows, rfl, ⟨hk, hV, hrl, hrows⟩, rfl, rfl⟩
  by_cases hkl : k < o.length
  rotate_left
  · rw [firstE_end hkl] at hV
    rw [hV]
    clear hrows
    repeat' (first | refine goH ?_ | refine goV ?_ | refine goB (fun b => ?_) | refine goC (fun ad cap => ?_) | refine goI ?_ | (refine Cw.k_cond ?_; first | (refine Cw.cond_dec rfl (fun hc => ?_) (fun hc => ?_) <;> try (exfalso; omega)) | refine Cw.cond_bool rfl (fun hc => ?_) (fun hc => ?_)) | fail)
    exact Fin.ret (Ent.take goTk) (Outs.one rfl rfl) ⟨rfl, rfl⟩
  obtain ⟨i, hi⟩ := at_lt hkl
  have r1 := intRows_at hi
  have fin : ∀ c, ordE n o k = c → c ≠ 0 → ordersE n o = c := fun c h1 h2 => hV.trans (firstE_bad hkl h1 h2)
  have nxt : ordE n o k = 0 → ordersE n o = firstE (ordE n o) (k + 1) (o.length - (k + 1)) := fun h1 => hV.trans (firstE_ok hkl h1)
  have hoe : ordE n o k = if i < 0 ∨ (n : Int) - 1 < i then 1 else if i ∈ o.take k then 6 else 0 := by unfold ordE; rw [hi]
  have hmt := fun j : Int => mem_take_succ (o := o) (k := k) (i := i) (j := j) hi
  clear hV hi
  by_cases g1 : i < 0 ∨ (n : Int) - 1 < i
  · rw [if_pos g1] at hoe
    have kO := out_t i 0 ((l.map Stop.row).length - 1 : Int) (by rw [hL, ← hn]; exact g1)
    rw [fin 1 hoe (by decide)]
    clear hrows hmt fin nxt
    repeat' (first | refine goH ?_ | refine goV ?_ | refine goB (fun b => ?_) | refine goC (fun ad cap => ?_) | refine goI ?_ | (refine Cw.k_cond ?_; first | (refine Cw.cond_dec rfl (fun hc => ?_) (fun hc => ?_) <;> try (exfalso; omega)) | refine Cw.cond_bool rfl (fun hc => ?_) (fun hc => ?_)) | (refine Ops.k_calla ?_; first | (refine Ops.k_callf 50 ?_; refine Ops.callV kO (Evs.cons rfl (Evs.cons rfl (Evs.cons rfl Evs.nil))) rfl ?_)) | fail)
    exact Fin.ret (Ent.take goTk) (Outs.one rfl rfl) ⟨rfl, rfl⟩
  rw [if_neg g1] at hoe
  have kO := out_f i 0 ((l.map Stop.row).length - 1 : Int) (by rw [hL, ← hn]; omega)
  obtain ⟨m, rfl⟩ : ∃ m : Nat, i = m := ⟨i.toNat, by omega⟩
  have hm := hrows m (by omega)
  by_cases g2 : (m : Int) ∈ o.take k
  · rw [if_pos g2] at hoe
    rw [decide_eq_true g2] at hm
    rw [fin 6 hoe (by decide)]
    clear hrows hmt fin nxt
    repeat' (first | refine goH ?_ | refine goV ?_ | refine goB (fun b => ?_) | refine goC (fun ad cap => ?_) | refine goI ?_ | (refine Cw.k_cond ?_; first | (refine Cw.cond_dec rfl (fun hc => ?_) (fun hc => ?_) <;> try (exfalso; omega)) | refine Cw.cond_bool rfl (fun hc => ?_) (fun hc => ?_)) | (refine Ops.k_calla ?_; first | (refine Ops.k_callf 50 ?_; refine Ops.callV kO (Evs.cons rfl (Evs.cons rfl (Evs.cons rfl Evs.nil))) rfl ?_)) | fail)
    exact Fin.ret (Ent.take goTk) (Outs.one rfl rfl) ⟨rfl, rfl⟩
  rw [if_neg g2] at hoe
  rw [decide_eq_false g2] at hm
  have hV2 := nxt hoe
  have hr2 : ∀ j : Nat, j < n → (rows.set m [Tr.bool true])[j]? = some [Tr.bool (decide ((j : Int) ∈ o.take (k + 1)))] := by
    intro j hj
    rw [List.getElem?_set]
    by_cases e : m = j
    · subst e
      rw [if_pos rfl, if_pos (by omega), decide_eq_true ((hmt m).2 (.inr rfl))]
    · rw [if_neg e, hrows j hj]
      have : ((j : Int) ∈ o.take (k + 1)) ↔ ((j : Int) ∈ o.take k) := by
        rw [hmt]
        exact ⟨fun h => h.elim id (fun h2 => absurd h2 (by omega)), .inl⟩
      rw [decide_eq_decide.2 this]
  clear hrows hmt fin nxt g2
  repeat' (first | refine goH ?_ | refine goV ?_ | refine goB (fun b => ?_) | refine goC (fun ad cap => ?_) | refine goI ?_ | (refine Cw.k_cond ?_; first | (refine Cw.cond_dec rfl (fun hc => ?_) (fun hc => ?_) <;> try (exfalso; omega)) | refine Cw.cond_bool rfl (fun hc => ?_) (fun hc => ?_)) | (refine Ops.k_calla ?_; first | (refine Ops.k_callf 50 ?_; refine Ops.callV kO (Evs.cons rfl (Evs.cons rfl (Evs.cons rfl Evs.nil))) rfl ?_)) | fail)
  exact ⟨_, _, _, (Ent.mk goSub goTk), ⟨k + 1, _, rfl, ⟨by omega, hV2, by rw [List.length_set]; exact hrl, hr2⟩, rfl, rfl⟩, by omega⟩
end Lg
end
