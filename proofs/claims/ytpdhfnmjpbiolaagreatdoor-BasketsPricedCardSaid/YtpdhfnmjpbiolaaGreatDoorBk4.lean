/- A part of the proof of a law of this seat: it adds no condition. By an AI agent. -/
import Derived.Test.YtpdhfnmjpbiolaaGreatDoorBk2
section
set_option linter.all false
set_option maxRecDepth 100000
set_option maxHeartbeats 8000000
namespace Lg
open Go Go.Proofs

/-! ### deals -/
structure Dl where
  key : ByteArray
  group : ByteArray
  many : Int
  free : Int
def Dl.row (x : Dl) : List Tr := [.str x.key, .str x.group, .int x.many, .int x.free]
abbrev Tr.dls (l : List Dl) : Tr := Tr.sl 4 (l.map Dl.row)
theorem indexFunc_dl {l : List Dl} {p : Dl → Bool} {g : Nat} {caps : List Value} {cin : List Chunk} (hl : l.length ≤ 1000000000)
    (hs : ∀ x, x ∈ l → Spec Tryz.prog g ([Tr.agg x.row] ++ caps.map Tr.raw) cin (fun r cs => r = Tr.bool (p x) ∧ cs = cin)) :
    Spec Tryz.prog 41 [Tr.sl 4 (l.map Dl.row), Tr.raw (.func (.func g) #[] caps.toArray)] cin (fun r cs => r = Tr.int (idxFrom p l 0) ∧ cs = cin) := by
  refine Spec.body Tryz.func41 rfl rfl (Tryz.ntmps41) rfl fun w0 own0 M => ?_
  have hL : (l.map Dl.row).length = l.length := List.length_map _
  repeat' (first | refine goH ?_ | refine goV ?_ | refine goI ?_ | (refine Cw.k_cond ?_; first | (refine Cw.cond_dec rfl (fun hc => ?_) (fun hc => ?_) <;> try (exfalso; omega)) | refine Cw.cond_bool rfl (fun hc => ?_) (fun hc => ?_)) | fail)
  refine Cw.loop (ι := Nat) (fun k => k ≤ l.length ∧ idxFrom p l 0 = idxFrom p (l.drop k) k) (fun k => [(0, Tr.sl 4 (l.map Dl.row)), (1, Tr.raw (.func (.func g) #[] caps.toArray)), (7, .int (l.map Dl.row).length), (8, .int k)]) (fun _ => cin) (fun k => l.length - k) ⟨0, ⟨by omega, rfl⟩, Ent.sub goSub⟩ ?_
  rintro k ⟨hk, hgo⟩
  by_cases hkl : k < l.length
  · obtain ⟨x, hx⟩ : ∃ x, l[k]? = some x := ⟨_, List.getElem?_eq_getElem hkl⟩
    have hrow : (l.map Dl.row)[k]? = some [.str x.key, .str x.group, .int x.many, .int x.free] := rows_at hx
    have hdrop := idxFrom_drop p hx
    rw [hdrop] at hgo
    have hsx := hs x (List.mem_of_getElem? hx)
    by_cases hp : p x = true
    · rw [if_pos hp] at hgo
      rw [hp] at hsx
      repeat' (first | refine goH ?_ | refine goV ?_ | refine goI ?_ | (refine Cw.k_cond ?_; first | (refine Cw.cond_dec rfl (fun hc => ?_) (fun hc => ?_) <;> try (exfalso; omega)) | refine Cw.cond_bool rfl (fun hc => ?_) (fun hc => ?_)) | (refine Ops.k_calla ?_; first | (refine Ops.call_fn rfl hsx (Evs.cons rfl Evs.nil) (by rw [List.append_nil]) rfl ?_; rintro r cs' ⟨rfl, hcs⟩; rw [hcs, List.append_nil])) | fail)
      exact Fin.ret Ent.refl (Outs.one rfl rfl) ⟨by rw [hgo], rfl⟩
    · rw [if_neg hp] at hgo
      rw [Bool.not_eq_true] at hp
      rw [hp] at hsx
      repeat' (first | refine goH ?_ | refine goV ?_ | refine goI ?_ | (refine Cw.k_cond ?_; first | (refine Cw.cond_dec rfl (fun hc => ?_) (fun hc => ?_) <;> try (exfalso; omega)) | refine Cw.cond_bool rfl (fun hc => ?_) (fun hc => ?_)) | (refine Ops.k_calla ?_; first | (refine Ops.call_fn rfl hsx (Evs.cons rfl Evs.nil) (by rw [List.append_nil]) rfl ?_; rintro r cs' ⟨rfl, hcs⟩; rw [hcs, List.append_nil])) | fail)
      exact ⟨k + 1, ⟨by omega, hgo⟩, by omega, Ent.sub goSub⟩
  · rw [List.drop_eq_nil_of_le (by omega), idxFrom] at hgo
    repeat' (first | refine goH ?_ | refine goV ?_ | refine goI ?_ | (refine Cw.k_cond ?_; first | (refine Cw.cond_dec rfl (fun hc => ?_) (fun hc => ?_) <;> try (exfalso; omega)) | refine Cw.cond_bool rfl (fun hc => ?_) (fun hc => ?_)) | fail)
    exact Fin.ret Ent.refl (Outs.one rfl rfl) ⟨by rw [hgo], rfl⟩

theorem containsFunc_dl {l : List Dl} {p : Dl → Bool} {g : Nat} {caps : List Value} {cin : List Chunk} (hl : l.length ≤ 1000000000)
    (hs : ∀ x, x ∈ l → Spec Tryz.prog g ([Tr.agg x.row] ++ caps.map Tr.raw) cin (fun r cs => r = Tr.bool (p x) ∧ cs = cin)) :
    Spec Tryz.prog 22 [Tr.sl 4 (l.map Dl.row), Tr.raw (.func (.func g) #[] caps.toArray)] cin (fun r cs => r = Tr.bool (l.any p) ∧ cs = cin) := by
  refine Spec.body Tryz.func22 rfl rfl (Tryz.ntmps22) rfl fun w0 own0 M => ?_
  repeat' (first | refine goH ?_ | refine goV ?_ | refine goI ?_ | (refine Cw.k_cond ?_; first | (refine Cw.cond_dec rfl (fun hc => ?_) (fun hc => ?_) <;> try (exfalso; omega)) | refine Cw.cond_bool rfl (fun hc => ?_) (fun hc => ?_)) | (refine Ops.k_calla ?_; first | (refine Ops.k_callf 41 ?_; (refine Ops.call (indexFunc_dl hl hs) (Evs.cons rfl (Evs.cons rfl Evs.nil)) (by rw [List.append_nil]) rfl ?_; rintro r cs' ⟨rfl, hcs⟩; rw [hcs, List.append_nil]))) | fail)
  refine Fin.ret Ent.refl (Outs.one rfl rfl) ⟨congrArg Tr.bool ?_, rfl⟩
  have := idxFrom_ge p l 0 (Int.le_refl _)
  by_cases h : 0 ≤ idxFrom p l 0
  · simp [h, this.1 h]
  · have h2 : l.any p = false := by rw [← Bool.not_eq_true]; exact fun e => h (this.2 e)
    simp [h, h2]

def ordDl : Option Dl → Dl → Bool
  | none, _ => false
  | some y, x => strLt x.key y.key || decide (x.key = y.key)
def twDl (pre : List Dl) (x : Dl) : Bool := pre.any fun y => decide (y.group = x.group)
def dlX (pre : List Dl) (p : Option Dl) (x : Dl) : Int := if isKey x.key = false then 5 else if isKey x.group = false then 5 else if ordDl p x = true then 7 else if twDl pre x = true then 6 else if x.many < 2 ∨ 20 < x.many then 1 else if x.free < 1 ∨ x.many - 1 < x.free then 1 else 0
def dlE (l : List Dl) (k : Nat) : Int := match l[k]? with
  | none => 0
  | some x => dlX (l.take k) (prvO l k) x
def dealE (w : List Wr) (l : List Dl) : Int := if waresE w ≠ 0 then waresE w else if l.length > 20 then 2 else firstE (dlE l) 0 l.length
structure DlF (E : Int) (x : Dl) (q1 q2 ob tw : Bool) (N : Int) : Prop where
  e5a : (!q1) = true → E = 5
  e5b : (!q1) = false → (!q2) = true → E = 5
  e7 : (!q1) = false → (!q2) = false → ob = true → E = 7
  e6 : (!q1) = false → (!q2) = false → ob = false → tw = true → E = 6
  e1 : (!q1) = false → (!q2) = false → ob = false → tw = false → (x.many < 2 ∨ 20 < x.many ∨ x.free < 1 ∨ x.many - 1 < x.free) → E = 1
  ok : (!q1) = false → (!q2) = false → ob = false → tw = false → ¬ (x.many < 2 ∨ 20 < x.many ∨ x.free < 1 ∨ x.many - 1 < x.free) → E = N
theorem dlF {l : List Dl} {k : Nat} {x : Dl} {p : Option Dl} {E : Int} (hx : l[k]? = some x) (hp : prvO l k = p) (hV : E = firstE (dlE l) k (l.length - k)) (hkl : k < l.length) : DlF E x (isKey x.key) (isKey x.group) (ordDl p x) (twDl (l.take k) x) (firstE (dlE l) (k + 1) (l.length - (k + 1))) := by
  have he : dlE l k = dlX (l.take k) p x := by unfold dlE; rw [hx, hp]
  have fin : ∀ c : Int, dlX (l.take k) p x = c → c ≠ 0 → E = c := fun c h1 h2 => hV.trans (firstE_bad hkl (he.trans h1) h2)
  have nxt : dlX (l.take k) p x = 0 → E = firstE (dlE l) (k + 1) (l.length - (k + 1)) := fun h1 => hV.trans (firstE_ok hkl (he.trans h1))
  clear hV he
  unfold dlX at fin nxt
  generalize ordDl p x = ob at *
  generalize twDl (l.take k) x = tw at *
  generalize isKey x.key = q1 at *
  generalize isKey x.group = q2 at *
  refine ⟨?_, ?_, ?_, ?_, ?_, ?_⟩
  · intro h; exact fin 5 (by rw [if_pos (by simpa using h)]) (by decide)
  · intro h h2; exact fin 5 (by rw [if_neg (by simpa using h), if_pos (by simpa using h2)]) (by decide)
  · intro h h2 h3; exact fin 7 (by rw [if_neg (by simpa using h), if_neg (by simpa using h2), if_pos h3]) (by decide)
  · intro h h2 h3 h4; exact fin 6 (by rw [if_neg (by simpa using h), if_neg (by simpa using h2), if_neg (by simp [h3]), if_pos h4]) (by decide)
  · intro h h2 h3 h4 h5
    refine fin 1 ?_ (by decide)
    rw [if_neg (by simpa using h), if_neg (by simpa using h2), if_neg (by simp [h3]), if_neg (by simp [h4])]
    by_cases h6 : x.many < 2 ∨ 20 < x.many
    · rw [if_pos h6]
    · rw [if_neg h6, if_pos (by omega)]
  · intro h h2 h3 h4 h5
    exact nxt (by rw [if_neg (by simpa using h), if_neg (by simpa using h2), if_neg (by simp [h3]), if_neg (by simp [h4]), if_neg (by omega), if_neg (by omega)])
theorem deals1_fn (y x : Dl) (b E : Nat) : Spec Tryz.prog 27 [.agg y.row, .ptr b] [Chunk.box b E x.row] (fun r cs => r = .bool (decide (y.group = x.group)) ∧ cs = [Chunk.box b E x.row]) := by
  refine Spec.body Tryz.func27 rfl rfl (Tryz.ntmps27) rfl fun w0 own0 M => ?_
  unfold Dl.row
  repeat' (first | refine goH ?_ | refine goV ?_ | refine goB (fun b => ?_) | refine goI ?_ | (refine Cw.k_cond ?_; first | (refine Cw.cond_dec rfl (fun hc => ?_) (fun hc => ?_) <;> try (exfalso; omega)) | refine Cw.cond_bool rfl (fun hc => ?_) (fun hc => ?_)) | fail)
  exact Fin.ret (Ent.take goTk) (Outs.one rfl rfl) ⟨rfl, rfl⟩
theorem deals1R_fn (y x : Dl) (b E : Nat) : Spec Tryz.prog 23 [.agg y.row, .ptr b] [Chunk.box b E x.row] (fun r cs => r = .bool (decide (y.group = x.group)) ∧ cs = [Chunk.box b E x.row]) := by
  refine Spec.body Tryz.func23 rfl rfl (Tryz.ntmps23) rfl fun w0 own0 M => ?_
  unfold Dl.row
  repeat' (first | refine goH ?_ | refine goV ?_ | refine goB (fun b => ?_) | refine goI ?_ | (refine Cw.k_cond ?_; first | (refine Cw.cond_dec rfl (fun hc => ?_) (fun hc => ?_) <;> try (exfalso; omega)) | refine Cw.cond_bool rfl (fun hc => ?_) (fun hc => ?_)) | fail)
  exact Fin.ret (Ent.take goTk) (Outs.one rfl rfl) ⟨rfl, rfl⟩
theorem checkDeals_fn (w : List Wr) (l : List Dl) (hw : w.length ≤ 1000000) (hl : l.length ≤ 1000000) : PFn Tryz.prog 9 [.wrs w, .dls l] (· = .int (dealE w l)) := by
  have k0 := waresFault_fn w hw
  refine PFn.mk (Spec.body Tryz.func9 rfl rfl (Tryz.ntmps9) rfl fun w0 own0 M => ?_)
  have hL : (l.map Dl.row).length = l.length := List.length_map _
  by_cases hw0 : waresE w ≠ 0
  · rw [show dealE w l = waresE w by unfold dealE; rw [if_pos hw0]]
    generalize waresE w = z at *
    repeat' (first | refine goH ?_ | refine goV ?_ | refine goB (fun b => ?_) | refine goG ?_ | (refine Ops.k_guard ?_; first | (refine Ops.guard_dec rfl rfl (fun hc => ?_) (fun hc => ?_) <;> try (exfalso; omega)) | refine Ops.guard_split rfl rfl (fun hc => ?_) (fun hc => ?_)) | refine goI ?_ | (refine Cw.k_cond ?_; first | (refine Cw.cond_dec rfl (fun hc => ?_) (fun hc => ?_) <;> try (exfalso; omega)) | refine Cw.cond_bool rfl (fun hc => ?_) (fun hc => ?_)) | (refine Ops.k_calla ?_; first | (refine Ops.k_callf 25 ?_; refine Ops.callV k0 (Evs.cons rfl Evs.nil) rfl ?_)) | (apply OpW.k_call; first | (apply OpW.k_callf 25; exact OpW.callV k0 (Evs.cons rfl Evs.nil))) | refine goR ?_ | refine goP ?_ | apply PSeq.cons | apply PSeq.yes rfl rfl rfl | exact goW | fail)
    exact Fin.ret (Ent.take goTk) (Outs.one rfl rfl) ⟨rfl, rfl⟩
  rw [show waresE w = 0 by omega] at k0
  by_cases h200 : l.length > 20
  · rw [show dealE w l = 2 by unfold dealE; rw [if_neg hw0, if_pos h200]]
    repeat' (first | refine goH ?_ | refine goV ?_ | refine goB (fun b => ?_) | refine goG ?_ | (refine Ops.k_guard ?_; first | (refine Ops.guard_dec rfl rfl (fun hc => ?_) (fun hc => ?_) <;> try (exfalso; omega)) | refine Ops.guard_split rfl rfl (fun hc => ?_) (fun hc => ?_)) | refine goI ?_ | (refine Cw.k_cond ?_; first | (refine Cw.cond_dec rfl (fun hc => ?_) (fun hc => ?_) <;> try (exfalso; omega)) | refine Cw.cond_bool rfl (fun hc => ?_) (fun hc => ?_)) | (refine Ops.k_calla ?_; first | (refine Ops.k_callf 25 ?_; refine Ops.callV k0 (Evs.cons rfl Evs.nil) rfl ?_)) | (apply OpW.k_call; first | (apply OpW.k_callf 25; exact OpW.callV k0 (Evs.cons rfl Evs.nil))) | refine goR ?_ | refine goP ?_ | apply PSeq.cons | apply PSeq.yes rfl rfl rfl | exact goW | fail)
    exact Fin.ret (Ent.take goTk) (Outs.one rfl rfl) ⟨rfl, rfl⟩
  have hV0 : dealE w l = firstE (dlE l) 0 (l.length - 0) := by unfold dealE; rw [if_neg hw0, if_neg h200]; rfl
  generalize dealE w l = E at *
  repeat' (first | refine goH ?_ | refine goV ?_ | refine goB (fun b => ?_) | refine goG ?_ | (refine Ops.k_guard ?_; first | (refine Ops.guard_dec rfl rfl (fun hc => ?_) (fun hc => ?_) <;> try (exfalso; omega)) | refine Ops.guard_split rfl rfl (fun hc => ?_) (fun hc => ?_)) | refine goI ?_ | (refine Cw.k_cond ?_; first | (refine Cw.cond_dec rfl (fun hc => ?_) (fun hc => ?_) <;> try (exfalso; omega)) | refine Cw.cond_bool rfl (fun hc => ?_) (fun hc => ?_)) | (refine Ops.k_calla ?_; first | (refine Ops.k_callf 25 ?_; refine Ops.callV k0 (Evs.cons rfl Evs.nil) rfl ?_)) | (apply OpW.k_call; first | (apply OpW.k_callf 25; exact OpW.callV k0 (Evs.cons rfl Evs.nil))) | refine goR ?_ | refine goP ?_ | apply PSeq.cons | apply PSeq.yes rfl rfl rfl | exact goW | fail)
  clear k0
  refine Cw.loopI [(1, _), (16, _), (17, _)] _ (fun n e c => ∃ k : Nat, n = l.length - k ∧ (k ≤ l.length ∧ E = firstE (dlE l) k (l.length - k)) ∧ e = [(18, .int k)] ∧ c = []) ⟨_, _, _, (Ent.mkP goSub goPm), 0, rfl, ⟨by omega, hV0⟩, rfl, rfl⟩ ?_
  clear hV0
  rintro _ _ _ ⟨k, rfl, ⟨hk, hV⟩, rfl, rfl⟩
  by_cases hkl : k < l.length
  rotate_left
  · rw [firstE_end hkl] at hV
    subst hV
    repeat' (first | refine goH ?_ | refine goV ?_ | refine goB (fun b => ?_) | refine goG ?_ | (refine Ops.k_guard ?_; first | (refine Ops.guard_dec rfl rfl (fun hc => ?_) (fun hc => ?_) <;> try (exfalso; omega)) | refine Ops.guard_split rfl rfl (fun hc => ?_) (fun hc => ?_)) | refine goI ?_ | (refine Cw.k_cond ?_; first | (refine Cw.cond_dec rfl (fun hc => ?_) (fun hc => ?_) <;> try (exfalso; omega)) | refine Cw.cond_bool rfl (fun hc => ?_) (fun hc => ?_)) | refine goR ?_ | refine goP ?_ | apply PSeq.cons | apply PSeq.yes rfl rfl rfl | exact goW | fail)
    exact Fin.ret (Ent.take goTk) (Outs.one rfl rfl) ⟨rfl, rfl⟩
  obtain ⟨x, hx⟩ := at_lt hkl
  have hrow : (l.map Dl.row)[k]? = some [.str x.key, .str x.group, .int x.many, .int x.free] := rows_at hx
  have k1 := key_fn x.key
  have k2 := key_fn x.group
  have kO := out_fn x.many 2 20
  have kO2 := out_fn x.free 1 (x.many - 1)
  have kc := fun b => containsFunc_dl (cin := [Chunk.box b 53 x.row]) (caps := [.pointer (some ⟨b, 0, none⟩)]) (g := 27) (p := fun y => decide (y.group = x.group)) (l := l.take k) (by rw [List.length_take]; omega) (fun y _ => deals1_fn y x b _)
  have htk : (l.take k).map Dl.row = (l.map Dl.row).take k := List.map_take
  rw [htk] at kc
  unfold Dl.row at kc
  have htd : ((l.take k).any fun y => decide (y.group = x.group)) = twDl (l.take k) x := rfl
  rw [htd] at kc
  by_cases hk0 : k = 0
  · have F := dlF (p := none) hx (by rw [hk0]; rfl) hV hkl
    rw [show ordDl none x = false from rfl] at F
    generalize twDl (l.take k) x = tw at *
    generalize isKey x.key = q1 at *
    generalize isKey x.group = q2 at *
    clear hV hx htd
    repeat' (first | refine goH ?_ | refine goV ?_ | refine goB (fun b => ?_) | refine goG ?_ | (refine Ops.k_guard ?_; first | (refine Ops.guard_dec rfl rfl (fun hc => ?_) (fun hc => ?_) <;> try (exfalso; omega)) | refine Ops.guard_split rfl rfl (fun hc => ?_) (fun hc => ?_)) | refine goI ?_ | (refine Cw.k_cond ?_; first | (refine Cw.cond_dec rfl (fun hc => ?_) (fun hc => ?_) <;> try (exfalso; omega)) | refine Cw.cond_bool rfl (fun hc => ?_) (fun hc => ?_)) | (refine Ops.k_calla ?_; first | (refine Ops.k_callf 26 ?_; refine Ops.callV k1 (Evs.cons rfl Evs.nil) rfl ?_) | (refine Ops.k_callf 26 ?_; refine Ops.callV k2 (Evs.cons rfl Evs.nil) rfl ?_) | (refine Ops.k_callf 22 ?_; refine Ops.callS (kc _) (Evs.cons rfl (Evs.cons rfl Evs.nil)) goPm rfl ?_) | (refine Ops.k_callf 28 ?_; refine Ops.callV kO (Evs.cons rfl (Evs.cons rfl (Evs.cons rfl Evs.nil))) rfl ?_) | (refine Ops.k_callf 28 ?_; refine Ops.callV kO2 (Evs.cons rfl (Evs.cons rfl (Evs.cons rfl Evs.nil))) rfl ?_)) | (apply OpW.k_call; first | (apply OpW.k_callf 26; exact OpW.callV k1 (Evs.cons rfl Evs.nil)) | (apply OpW.k_callf 26; exact OpW.callV k2 (Evs.cons rfl Evs.nil)) | (apply OpW.k_callf 22; exact OpW.callS (kc _) (Evs.cons rfl (Evs.cons rfl Evs.nil)) goPm) | (apply OpW.k_callf 28; exact OpW.callV kO (Evs.cons rfl (Evs.cons rfl (Evs.cons rfl Evs.nil)))) | (apply OpW.k_callf 28; exact OpW.callV kO2 (Evs.cons rfl (Evs.cons rfl (Evs.cons rfl Evs.nil))))) | refine goR ?_ | refine goP ?_ | apply PSeq.cons | apply PSeq.yes rfl rfl rfl | exact goW | fail)
    all_goals first
      | (exfalso; omega)
      | exact ⟨_, _, _, (Ent.mk goSub goTk), ⟨k + 1, rfl, ⟨by omega, F.ok (by assumption) (by assumption) rfl (by assumption) (by omega)⟩, rfl, rfl⟩, by omega⟩
      | (refine Fin.ret (Ent.take goTk) (Outs.one rfl rfl) ⟨rfl, ?_⟩; first | (rw [F.e5a (by assumption)]; done) | (rw [F.e5b (by assumption) (by assumption)]; done) | (rw [F.e6 (by assumption) (by assumption) rfl (by assumption)]; done) | (rw [F.e1 (by assumption) (by assumption) rfl (by assumption) (by omega)]; done))
  obtain ⟨j, hj⟩ : ∃ j, k = j + 1 := ⟨k - 1, by omega⟩
  obtain ⟨y, hy⟩ := at_lt (l := l) (k := j) (by omega)
  have hrow2 : (l.map Dl.row)[((k : Int) - 1).toNat]? = some [.str y.key, .str y.group, .int y.many, .int y.free] := by rw [show ((k : Int) - 1).toNat = j by omega]; exact rows_at hy
  have F := dlF (p := some y) hx (by rw [hj]; exact hy) hV hkl
  rw [show ordDl (some y) x = (strLt x.key y.key || decide (x.key = y.key)) from rfl] at F
  generalize twDl (l.take k) x = tw at *
  generalize isKey x.key = q1 at *
  generalize isKey x.group = q2 at *
  clear hV hx hy htd
  repeat' (first | refine goH ?_ | refine goV ?_ | refine goB (fun b => ?_) | refine goG ?_ | (refine Ops.k_guard ?_; first | (refine Ops.guard_dec rfl rfl (fun hc => ?_) (fun hc => ?_) <;> try (exfalso; omega)) | refine Ops.guard_split rfl rfl (fun hc => ?_) (fun hc => ?_)) | refine goI ?_ | (refine Cw.k_cond ?_; first | (refine Cw.cond_dec rfl (fun hc => ?_) (fun hc => ?_) <;> try (exfalso; omega)) | refine Cw.cond_bool rfl (fun hc => ?_) (fun hc => ?_)) | (refine Ops.k_calla ?_; first | (refine Ops.k_callf 26 ?_; refine Ops.callV k1 (Evs.cons rfl Evs.nil) rfl ?_) | (refine Ops.k_callf 26 ?_; refine Ops.callV k2 (Evs.cons rfl Evs.nil) rfl ?_) | (refine Ops.k_callf 22 ?_; refine Ops.callS (kc _) (Evs.cons rfl (Evs.cons rfl Evs.nil)) goPm rfl ?_) | (refine Ops.k_callf 28 ?_; refine Ops.callV kO (Evs.cons rfl (Evs.cons rfl (Evs.cons rfl Evs.nil))) rfl ?_) | (refine Ops.k_callf 28 ?_; refine Ops.callV kO2 (Evs.cons rfl (Evs.cons rfl (Evs.cons rfl Evs.nil))) rfl ?_)) | (apply OpW.k_call; first | (apply OpW.k_callf 26; exact OpW.callV k1 (Evs.cons rfl Evs.nil)) | (apply OpW.k_callf 26; exact OpW.callV k2 (Evs.cons rfl Evs.nil)) | (apply OpW.k_callf 22; exact OpW.callS (kc _) (Evs.cons rfl (Evs.cons rfl Evs.nil)) goPm) | (apply OpW.k_callf 28; exact OpW.callV kO (Evs.cons rfl (Evs.cons rfl (Evs.cons rfl Evs.nil)))) | (apply OpW.k_callf 28; exact OpW.callV kO2 (Evs.cons rfl (Evs.cons rfl (Evs.cons rfl Evs.nil))))) | refine goR ?_ | refine goP ?_ | apply PSeq.cons | apply PSeq.yes rfl rfl rfl | exact goW | fail)
  all_goals first
    | (exfalso; omega)
    | exact ⟨_, _, _, (Ent.mk goSub goTk), ⟨k + 1, rfl, ⟨by omega, F.ok (by assumption) (by assumption) (by assumption) (by assumption) (by omega)⟩, rfl, rfl⟩, by omega⟩
    | (refine Fin.ret (Ent.take goTk) (Outs.one rfl rfl) ⟨rfl, ?_⟩; first | (rw [F.e5a (by assumption)]; done) | (rw [F.e5b (by assumption) (by assumption)]; done) | (rw [F.e7 (by assumption) (by assumption) (by assumption)]; done) | (rw [F.e6 (by assumption) (by assumption) (by assumption) (by assumption)]; done) | (rw [F.e1 (by assumption) (by assumption) (by assumption) (by assumption) (by omega)]; done))
theorem dealsFault_fn (w : List Wr) (l : List Dl) (hw : w.length ≤ 1000000) (hl : l.length ≤ 1000000) : PFn Tryz.prog 7 [.wrs w, .dls l] (· = .int (dealE w l)) := by
  have k0 := waresFaultR_fn w hw
  refine PFn.mk (Spec.body Tryz.func7 rfl rfl (Tryz.ntmps7) rfl fun w0 own0 M => ?_)
  have hL : (l.map Dl.row).length = l.length := List.length_map _
  by_cases hw0 : waresE w ≠ 0
  · rw [show dealE w l = waresE w by unfold dealE; rw [if_pos hw0]]
    generalize waresE w = z at *
    repeat' (first | refine goH ?_ | refine goV ?_ | refine goB (fun b => ?_) | refine goG ?_ | (refine Ops.k_guard ?_; first | (refine Ops.guard_dec rfl rfl (fun hc => ?_) (fun hc => ?_) <;> try (exfalso; omega)) | refine Ops.guard_split rfl rfl (fun hc => ?_) (fun hc => ?_)) | refine goI ?_ | (refine Cw.k_cond ?_; first | (refine Cw.cond_dec rfl (fun hc => ?_) (fun hc => ?_) <;> try (exfalso; omega)) | refine Cw.cond_bool rfl (fun hc => ?_) (fun hc => ?_)) | (refine Ops.k_calla ?_; first | (refine Ops.k_callf 20 ?_; refine Ops.callV k0 (Evs.cons rfl Evs.nil) rfl ?_)) | (apply OpW.k_call; first | (apply OpW.k_callf 20; exact OpW.callV k0 (Evs.cons rfl Evs.nil))) | refine goR ?_ | refine goP ?_ | apply PSeq.cons | apply PSeq.yes rfl rfl rfl | exact goW | fail)
    exact Fin.ret (Ent.take goTk) (Outs.one rfl rfl) ⟨rfl, rfl⟩
  rw [show waresE w = 0 by omega] at k0
  by_cases h200 : l.length > 20
  · rw [show dealE w l = 2 by unfold dealE; rw [if_neg hw0, if_pos h200]]
    repeat' (first | refine goH ?_ | refine goV ?_ | refine goB (fun b => ?_) | refine goG ?_ | (refine Ops.k_guard ?_; first | (refine Ops.guard_dec rfl rfl (fun hc => ?_) (fun hc => ?_) <;> try (exfalso; omega)) | refine Ops.guard_split rfl rfl (fun hc => ?_) (fun hc => ?_)) | refine goI ?_ | (refine Cw.k_cond ?_; first | (refine Cw.cond_dec rfl (fun hc => ?_) (fun hc => ?_) <;> try (exfalso; omega)) | refine Cw.cond_bool rfl (fun hc => ?_) (fun hc => ?_)) | (refine Ops.k_calla ?_; first | (refine Ops.k_callf 20 ?_; refine Ops.callV k0 (Evs.cons rfl Evs.nil) rfl ?_)) | (apply OpW.k_call; first | (apply OpW.k_callf 20; exact OpW.callV k0 (Evs.cons rfl Evs.nil))) | refine goR ?_ | refine goP ?_ | apply PSeq.cons | apply PSeq.yes rfl rfl rfl | exact goW | fail)
    exact Fin.ret (Ent.take goTk) (Outs.one rfl rfl) ⟨rfl, rfl⟩
  have hV0 : dealE w l = firstE (dlE l) 0 (l.length - 0) := by unfold dealE; rw [if_neg hw0, if_neg h200]; rfl
  generalize dealE w l = E at *
  repeat' (first | refine goH ?_ | refine goV ?_ | refine goB (fun b => ?_) | refine goG ?_ | (refine Ops.k_guard ?_; first | (refine Ops.guard_dec rfl rfl (fun hc => ?_) (fun hc => ?_) <;> try (exfalso; omega)) | refine Ops.guard_split rfl rfl (fun hc => ?_) (fun hc => ?_)) | refine goI ?_ | (refine Cw.k_cond ?_; first | (refine Cw.cond_dec rfl (fun hc => ?_) (fun hc => ?_) <;> try (exfalso; omega)) | refine Cw.cond_bool rfl (fun hc => ?_) (fun hc => ?_)) | (refine Ops.k_calla ?_; first | (refine Ops.k_callf 20 ?_; refine Ops.callV k0 (Evs.cons rfl Evs.nil) rfl ?_)) | (apply OpW.k_call; first | (apply OpW.k_callf 20; exact OpW.callV k0 (Evs.cons rfl Evs.nil))) | refine goR ?_ | refine goP ?_ | apply PSeq.cons | apply PSeq.yes rfl rfl rfl | exact goW | fail)
  clear k0
  refine Cw.loopI [(1, _), (16, _), (17, _)] _ (fun n e c => ∃ k : Nat, n = l.length - k ∧ (k ≤ l.length ∧ E = firstE (dlE l) k (l.length - k)) ∧ e = [(18, .int k)] ∧ c = []) ⟨_, _, _, (Ent.mkP goSub goPm), 0, rfl, ⟨by omega, hV0⟩, rfl, rfl⟩ ?_
  clear hV0
  rintro _ _ _ ⟨k, rfl, ⟨hk, hV⟩, rfl, rfl⟩
  by_cases hkl : k < l.length
  rotate_left
  · rw [firstE_end hkl] at hV
    subst hV
    repeat' (first | refine goH ?_ | refine goV ?_ | refine goB (fun b => ?_) | refine goG ?_ | (refine Ops.k_guard ?_; first | (refine Ops.guard_dec rfl rfl (fun hc => ?_) (fun hc => ?_) <;> try (exfalso; omega)) | refine Ops.guard_split rfl rfl (fun hc => ?_) (fun hc => ?_)) | refine goI ?_ | (refine Cw.k_cond ?_; first | (refine Cw.cond_dec rfl (fun hc => ?_) (fun hc => ?_) <;> try (exfalso; omega)) | refine Cw.cond_bool rfl (fun hc => ?_) (fun hc => ?_)) | refine goR ?_ | refine goP ?_ | apply PSeq.cons | apply PSeq.yes rfl rfl rfl | exact goW | fail)
    exact Fin.ret (Ent.take goTk) (Outs.one rfl rfl) ⟨rfl, rfl⟩
  obtain ⟨x, hx⟩ := at_lt hkl
  have hrow : (l.map Dl.row)[k]? = some [.str x.key, .str x.group, .int x.many, .int x.free] := rows_at hx
  have k1 := keyOf_fn x.key
  have k2 := keyOf_fn x.group
  have kO := out_fn x.many 2 20
  have kO2 := out_fn x.free 1 (x.many - 1)
  have kc := fun b => containsFunc_dl (cin := [Chunk.box b 53 x.row]) (caps := [.pointer (some ⟨b, 0, none⟩)]) (g := 23) (p := fun y => decide (y.group = x.group)) (l := l.take k) (by rw [List.length_take]; omega) (fun y _ => deals1R_fn y x b _)
  have htk : (l.take k).map Dl.row = (l.map Dl.row).take k := List.map_take
  rw [htk] at kc
  unfold Dl.row at kc
  have htd : ((l.take k).any fun y => decide (y.group = x.group)) = twDl (l.take k) x := rfl
  rw [htd] at kc
  by_cases hk0 : k = 0
  · have F := dlF (p := none) hx (by rw [hk0]; rfl) hV hkl
    rw [show ordDl none x = false from rfl] at F
    generalize twDl (l.take k) x = tw at *
    generalize isKey x.key = q1 at *
    generalize isKey x.group = q2 at *
    clear hV hx htd
    repeat' (first | refine goH ?_ | refine goV ?_ | refine goB (fun b => ?_) | refine goG ?_ | (refine Ops.k_guard ?_; first | (refine Ops.guard_dec rfl rfl (fun hc => ?_) (fun hc => ?_) <;> try (exfalso; omega)) | refine Ops.guard_split rfl rfl (fun hc => ?_) (fun hc => ?_)) | refine goI ?_ | (refine Cw.k_cond ?_; first | (refine Cw.cond_dec rfl (fun hc => ?_) (fun hc => ?_) <;> try (exfalso; omega)) | refine Cw.cond_bool rfl (fun hc => ?_) (fun hc => ?_)) | (refine Ops.k_calla ?_; first | (refine Ops.k_callf 21 ?_; refine Ops.callV k1 (Evs.cons rfl Evs.nil) rfl ?_) | (refine Ops.k_callf 21 ?_; refine Ops.callV k2 (Evs.cons rfl Evs.nil) rfl ?_) | (refine Ops.k_callf 22 ?_; refine Ops.callS (kc _) (Evs.cons rfl (Evs.cons rfl Evs.nil)) goPm rfl ?_) | (refine Ops.k_callf 28 ?_; refine Ops.callV kO (Evs.cons rfl (Evs.cons rfl (Evs.cons rfl Evs.nil))) rfl ?_) | (refine Ops.k_callf 28 ?_; refine Ops.callV kO2 (Evs.cons rfl (Evs.cons rfl (Evs.cons rfl Evs.nil))) rfl ?_)) | (apply OpW.k_call; first | (apply OpW.k_callf 21; exact OpW.callV k1 (Evs.cons rfl Evs.nil)) | (apply OpW.k_callf 21; exact OpW.callV k2 (Evs.cons rfl Evs.nil)) | (apply OpW.k_callf 22; exact OpW.callS (kc _) (Evs.cons rfl (Evs.cons rfl Evs.nil)) goPm) | (apply OpW.k_callf 28; exact OpW.callV kO (Evs.cons rfl (Evs.cons rfl (Evs.cons rfl Evs.nil)))) | (apply OpW.k_callf 28; exact OpW.callV kO2 (Evs.cons rfl (Evs.cons rfl (Evs.cons rfl Evs.nil))))) | refine goR ?_ | refine goP ?_ | apply PSeq.cons | apply PSeq.yes rfl rfl rfl | exact goW | fail)
    all_goals first
      | (exfalso; omega)
      | exact ⟨_, _, _, (Ent.mk goSub goTk), ⟨k + 1, rfl, ⟨by omega, F.ok (by assumption) (by assumption) rfl (by assumption) (by omega)⟩, rfl, rfl⟩, by omega⟩
      | (refine Fin.ret (Ent.take goTk) (Outs.one rfl rfl) ⟨rfl, ?_⟩; first | (rw [F.e5a (by assumption)]; done) | (rw [F.e5b (by assumption) (by assumption)]; done) | (rw [F.e6 (by assumption) (by assumption) rfl (by assumption)]; done) | (rw [F.e1 (by assumption) (by assumption) rfl (by assumption) (by omega)]; done))
  obtain ⟨j, hj⟩ : ∃ j, k = j + 1 := ⟨k - 1, by omega⟩
  obtain ⟨y, hy⟩ := at_lt (l := l) (k := j) (by omega)
  have hrow2 : (l.map Dl.row)[((k : Int) - 1).toNat]? = some [.str y.key, .str y.group, .int y.many, .int y.free] := by rw [show ((k : Int) - 1).toNat = j by omega]; exact rows_at hy
  have F := dlF (p := some y) hx (by rw [hj]; exact hy) hV hkl
  rw [show ordDl (some y) x = (strLt x.key y.key || decide (x.key = y.key)) from rfl] at F
  generalize twDl (l.take k) x = tw at *
  generalize isKey x.key = q1 at *
  generalize isKey x.group = q2 at *
  clear hV hx hy htd
  repeat' (first | refine goH ?_ | refine goV ?_ | refine goB (fun b => ?_) | refine goG ?_ | (refine Ops.k_guard ?_; first | (refine Ops.guard_dec rfl rfl (fun hc => ?_) (fun hc => ?_) <;> try (exfalso; omega)) | refine Ops.guard_split rfl rfl (fun hc => ?_) (fun hc => ?_)) | refine goI ?_ | (refine Cw.k_cond ?_; first | (refine Cw.cond_dec rfl (fun hc => ?_) (fun hc => ?_) <;> try (exfalso; omega)) | refine Cw.cond_bool rfl (fun hc => ?_) (fun hc => ?_)) | (refine Ops.k_calla ?_; first | (refine Ops.k_callf 21 ?_; refine Ops.callV k1 (Evs.cons rfl Evs.nil) rfl ?_) | (refine Ops.k_callf 21 ?_; refine Ops.callV k2 (Evs.cons rfl Evs.nil) rfl ?_) | (refine Ops.k_callf 22 ?_; refine Ops.callS (kc _) (Evs.cons rfl (Evs.cons rfl Evs.nil)) goPm rfl ?_) | (refine Ops.k_callf 28 ?_; refine Ops.callV kO (Evs.cons rfl (Evs.cons rfl (Evs.cons rfl Evs.nil))) rfl ?_) | (refine Ops.k_callf 28 ?_; refine Ops.callV kO2 (Evs.cons rfl (Evs.cons rfl (Evs.cons rfl Evs.nil))) rfl ?_)) | (apply OpW.k_call; first | (apply OpW.k_callf 21; exact OpW.callV k1 (Evs.cons rfl Evs.nil)) | (apply OpW.k_callf 21; exact OpW.callV k2 (Evs.cons rfl Evs.nil)) | (apply OpW.k_callf 22; exact OpW.callS (kc _) (Evs.cons rfl (Evs.cons rfl Evs.nil)) goPm) | (apply OpW.k_callf 28; exact OpW.callV kO (Evs.cons rfl (Evs.cons rfl (Evs.cons rfl Evs.nil)))) | (apply OpW.k_callf 28; exact OpW.callV kO2 (Evs.cons rfl (Evs.cons rfl (Evs.cons rfl Evs.nil))))) | refine goR ?_ | refine goP ?_ | apply PSeq.cons | apply PSeq.yes rfl rfl rfl | exact goW | fail)
  all_goals first
    | (exfalso; omega)
    | exact ⟨_, _, _, (Ent.mk goSub goTk), ⟨k + 1, rfl, ⟨by omega, F.ok (by assumption) (by assumption) (by assumption) (by assumption) (by omega)⟩, rfl, rfl⟩, by omega⟩
    | (refine Fin.ret (Ent.take goTk) (Outs.one rfl rfl) ⟨rfl, ?_⟩; first | (rw [F.e5a (by assumption)]; done) | (rw [F.e5b (by assumption) (by assumption)]; done) | (rw [F.e7 (by assumption) (by assumption) (by assumption)]; done) | (rw [F.e6 (by assumption) (by assumption) (by assumption) (by assumption)]; done) | (rw [F.e1 (by assumption) (by assumption) (by assumption) (by assumption) (by omega)]; done))
end Lg
end
section
set_option linter.all false
set_option maxRecDepth 100000
set_option maxHeartbeats 4000000
namespace Lg
open Go Go.Proofs

/-! ### the price, in plain terms -/
def sumQ : List Int → Int
  | [] => 0
  | x :: l => x + sumQ l
theorem sumQ_app (a b : List Int) : sumQ (a ++ b) = sumQ a + sumQ b := by
  induction a with
  | nil => simp [sumQ]
  | cons x a ih => rw [List.cons_append, sumQ, sumQ, ih]; omega
theorem sumQ_bd {l : List Int} {B : Int} (h : ∀ x ∈ l, 0 ≤ x ∧ x ≤ B) : 0 ≤ sumQ l ∧ sumQ l ≤ (l.length : Int) * B := by
  induction l with
  | nil => simp [sumQ]
  | cons x l ih =>
    have h1 := h x (by simp)
    have h2 := ih (fun y hy => h y (by simp [hy]))
    rw [sumQ, List.length_cons, show ((l.length + 1 : Nat) : Int) * B = (l.length : Int) * B + B by rw [Int.natCast_add, Int.add_mul]; simp]
    omega
theorem sumQ_take {l : List Int} {k : Nat} {x : Int} (h : l[k]? = some x) : sumQ (l.take (k + 1)) = sumQ (l.take k) + x := by
  rw [List.take_succ, h, sumQ_app]
  simp [sumQ]
/-- what a deal takes off, of prices from high to low -/
def dOn (m f : Nat) : Nat → List Int → Int
  | 0, _ => 0
  | n + 1, S => if m ≤ S.length then sumQ ((S.take m).drop (m - f)) + dOn m f n (S.drop m) else 0
theorem dOn_fuel {m f : Nat} (hm : 1 ≤ m) : ∀ (n : Nat) (S : List Int), S.length ≤ n → dOn m f n S = dOn m f S.length S
  | 0, S, h => by
    rw [show S.length = 0 by omega]
  | n + 1, S, h => by
    by_cases hl : m ≤ S.length
    · obtain ⟨q, hq⟩ : ∃ q, S.length = q + 1 := ⟨S.length - 1, by omega⟩
      have hd : (S.drop m).length = S.length - m := List.length_drop
      rw [hq, dOn, dOn, if_pos hl, if_pos hl, dOn_fuel hm n _ (by omega), dOn_fuel hm q _ (by omega)]
    · rw [dOn, if_neg hl]
      cases hq : S.length with
      | zero => rfl
      | succ q => rw [dOn, if_neg (by omega)]
def dOff (m f : Nat) (S : List Int) : Int := dOn m f S.length S
theorem dOff_step {m f : Nat} {S : List Int} (hm : 1 ≤ m) (h : m ≤ S.length) : dOff m f S = sumQ ((S.take m).drop (m - f)) + dOff m f (S.drop m) := by
  have hd : (S.drop m).length = S.length - m := List.length_drop
  unfold dOff
  obtain ⟨q, hq⟩ : ∃ q, S.length = q + 1 := ⟨S.length - 1, by omega⟩
  rw [hq, dOn, if_pos (by omega), dOn_fuel hm q _ (by omega)]
theorem dOff_end {m f : Nat} {S : List Int} (h : S.length < m) : dOff m f S = 0 := by
  unfold dOff
  cases hq : S.length with
  | zero => rfl
  | succ q => rw [dOn, if_neg (by omega)]
/-- the prices of a group's units -/
def unitsG (w : List Wr) (g : ByteArray) : List Nm → List Int
  | [] => []
  | x :: b => (if (wrD w x.key).group = g then List.replicate x.many.toNat (wrD w x.key).price else []) ++ unitsG w g b
theorem unitsG_snoc (w : List Wr) (g : ByteArray) (b : List Nm) (x : Nm) : unitsG w g (b ++ [x]) = unitsG w g b ++ (if (wrD w x.key).group = g then List.replicate x.many.toNat (wrD w x.key).price else []) := by
  induction b with
  | nil => simp [unitsG]
  | cons y b ih => rw [List.cons_append, unitsG, ih, unitsG, List.append_assoc]
def totG (w : List Wr) : List Nm → Int
  | [] => 0
  | x :: b => (wrD w x.key).price * x.many + totG w b
theorem totG_snoc (w : List Wr) (b : List Nm) (x : Nm) : totG w (b ++ [x]) = totG w b + (wrD w x.key).price * x.many := by
  induction b with
  | nil => simp [totG]
  | cons y b ih => rw [List.cons_append, totG, ih, totG]; omega
/-- from high to low -/
def hiLo (l : List Int) : List Int := (l.mergeSort fun x y => decide (x ≤ y)).reverse
theorem hiLo_perm (l : List Int) : (hiLo l).Perm l := (List.reverse_perm _).trans (List.mergeSort_perm _ _)
theorem hiLo_len (l : List Int) : (hiLo l).length = l.length := (hiLo_perm l).length_eq
theorem hiLo_sorted (l : List Int) : (hiLo l).Pairwise fun a b => b ≤ a := by
  unfold hiLo
  rw [List.pairwise_reverse]
  have := List.pairwise_mergeSort (le := fun x y : Int => decide (x ≤ y)) (by intro a b c h1 h2; simp at *; omega) (by intro a b; simp; omega) l
  exact this.imp fun h => by simpa using h
theorem hiLo_uniq {ys l : List Int} (hp : ys.Perm l) (hs : ys.Pairwise fun a b => b ≤ a) : ys = hiLo l :=
  sorted_uniq (le := fun a b => b ≤ a) (hp.trans (hiLo_perm l).symm) (fun a _ b _ h1 h2 => Int.le_antisymm h2 h1) hs (hiLo_sorted l)
theorem hiLo_of_perm {l l2 : List Int} (h : l.Perm l2) : hiLo l = hiLo l2 := hiLo_uniq ((hiLo_perm l).trans h) (hiLo_sorted l)
def dlS (w : List Wr) (b : List Nm) (st : Int × List ByteArray) (x : Dl) : Int × List ByteArray :=
  (st.1 - dOff x.many.toNat x.free.toNat (hiLo (unitsG w x.group b)), if x.many.toNat ≤ (unitsG w x.group b).length then st.2 ++ [x.key] else st.2)
def prcP (w : List Wr) (d : List Dl) (b : List Nm) : Int × List ByteArray := d.foldl (dlS w b) (totG w b, [])
/-! ### right arguments -/
theorem wares_ok {w : List Wr} (h : waresE w = 0) : w.length ≤ 200 ∧ ∀ x ∈ w, 0 ≤ x.price ∧ x.price ≤ 100000 := by
  unfold waresE at h
  by_cases h0 : w.length > 200
  · rw [if_pos h0] at h; cases h
  rw [if_neg h0] at h
  refine ⟨by omega, fun x hx => ?_⟩
  obtain ⟨k, hk⟩ := List.getElem?_of_mem hx
  have hlt := (List.getElem?_eq_some_iff.1 hk).1
  have h1 := firstE_zero h k (by omega) (by omega)
  unfold wrE at h1
  rw [hk] at h1
  simp only [wrX] at h1
  repeat (split at h1; · cases h1)
  omega
theorem bask_ok {w : List Wr} {b : List Nm} (h : bskE w b = 0) : waresE w = 0 ∧ b.length ≤ 100 ∧ ∀ x ∈ b, (wrF1 w x.key).isSome = true ∧ 1 ≤ x.many ∧ x.many ≤ 100 := by
  unfold bskE at h
  by_cases h1 : waresE w ≠ 0
  · rw [if_pos h1] at h; exact absurd h h1
  rw [if_neg h1] at h
  by_cases h0 : b.length > 100
  · rw [if_pos h0] at h; cases h
  rw [if_neg h0] at h
  refine ⟨by omega, by omega, fun x hx => ?_⟩
  obtain ⟨k, hk⟩ := List.getElem?_of_mem hx
  have hlt := (List.getElem?_eq_some_iff.1 hk).1
  have h1 := firstE_zero h k (by omega) (by omega)
  unfold bkE at h1
  rw [hk] at h1
  simp only [bkX] at h1
  split at h1
  · cases h1
  rename_i hn
  repeat (split at h1; · cases h1)
  refine ⟨?_, by omega, by omega⟩
  cases hq : wrF1 w x.key with
  | none => rw [hq] at hn; exact absurd rfl hn
  | some y => rfl
theorem deal_ok {w : List Wr} {d : List Dl} (h : dealE w d = 0) : d.length ≤ 20 ∧ ∀ x ∈ d, 2 ≤ x.many ∧ x.many ≤ 20 ∧ 1 ≤ x.free ∧ x.free ≤ x.many - 1 := by
  unfold dealE at h
  by_cases h1 : waresE w ≠ 0
  · rw [if_pos h1] at h; exact absurd h h1
  rw [if_neg h1] at h
  by_cases h0 : d.length > 20
  · rw [if_pos h0] at h; cases h
  rw [if_neg h0] at h
  refine ⟨by omega, fun x hx => ?_⟩
  obtain ⟨k, hk⟩ := List.getElem?_of_mem hx
  have hlt := (List.getElem?_eq_some_iff.1 hk).1
  have h1 := firstE_zero h k (by omega) (by omega)
  unfold dlE at h1
  rw [hk] at h1
  simp only [dlX] at h1
  repeat (split at h1; · cases h1)
  omega
theorem wrD_bd {w : List Wr} (h : ∀ x ∈ w, 0 ≤ x.price ∧ x.price ≤ 100000) (k : ByteArray) : 0 ≤ (wrD w k).price ∧ (wrD w k).price ≤ 100000 := by
  unfold wrD
  cases hq : wrF1 w k with
  | none => simp
  | some y => exact h y (List.mem_of_find?_eq_some hq)
theorem unitsG_bd {w : List Wr} (h : ∀ x ∈ w, 0 ≤ x.price ∧ x.price ≤ 100000) (g : ByteArray) : ∀ (b : List Nm), ∀ y ∈ unitsG w g b, 0 ≤ y ∧ y ≤ 100000
  | [], y, hy => by cases hy
  | x :: b, y, hy => by
    rw [unitsG] at hy
    rcases List.mem_append.1 hy with h1 | h1
    · split at h1
      · rw [List.eq_of_mem_replicate h1]; exact wrD_bd h _
      · cases h1
    · exact unitsG_bd h g b y h1
theorem unitsG_len {w : List Wr} (g : ByteArray) : ∀ (b : List Nm), (∀ x ∈ b, x.many ≤ 100) → (unitsG w g b).length ≤ b.length * 100
  | [], _ => by simp [unitsG]
  | x :: b, hb => by
    have h1 := unitsG_len (w := w) g b (fun y hy => hb y (by simp [hy]))
    have h2 := hb x (by simp)
    rw [unitsG, List.length_append, List.length_cons]
    split
    · rw [List.length_replicate]; omega
    · simp; omega
theorem totG_bd {w : List Wr} (h : ∀ x ∈ w, 0 ≤ x.price ∧ x.price ≤ 100000) : ∀ (b : List Nm), (∀ x ∈ b, 1 ≤ x.many ∧ x.many ≤ 100) → 0 ≤ totG w b ∧ totG w b ≤ (b.length : Int) * 10000000
  | [], _ => by simp [totG]
  | x :: b, hb => by
    have h1 := totG_bd h b (fun y hy => hb y (by simp [hy]))
    have h2 := hb x (by simp)
    have h3 := wrD_bd h x.key
    have h4 : 0 ≤ (wrD w x.key).price * x.many := Int.mul_nonneg h3.1 (by omega)
    have h5 : (wrD w x.key).price * x.many ≤ 100000 * 100 := Int.mul_le_mul h3.2 h2.2 (by omega) (by omega)
    rw [totG, List.length_cons]
    omega
end Lg
end
