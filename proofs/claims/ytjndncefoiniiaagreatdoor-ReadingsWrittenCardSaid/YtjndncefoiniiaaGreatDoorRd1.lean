/- A part of the proof of a law of this seat: it adds no condition. By an AI agent. -/
import Derived.Test.YtjndncefoiniiaaGreatDoorLgLawV
import Derived.Test.YtjndncefoiniiaaGreatDoorNumT
section
set_option linter.all false
set_option maxRecDepth 100000
set_option maxHeartbeats 4000000
namespace Lg
open Go Go.Proofs

/-! ### base.Number -/
theorem trimS_size (s : ByteArray) : (trimS s).size = (trimM s.data.toList).length := rfl
theorem trimS_by (s : ByteArray) (j : Nat) : sby (trimS s) j = (((trimM s.data.toList).getD j 0).toNat : Int) := by unfold sby; rfl
def numDV (n : Nat) (l : List UInt8) : Int := if okNum n l = true then valNum l else 0
theorem numDV_f {n : Nat} {l : List UInt8} (h : okNum n l = false) : numDV n l = 0 := by unfold numDV; rw [h, if_neg (by simp)]
theorem okNum_f {n : Nat} {l : List UInt8} (h : ¬ okNum n l = true) : okNum n l = false := by cases h2 : okNum n l; rfl; exact absurd h2 h
theorem all_dig_at {l : List UInt8} : l.all isDig = true ↔ ∀ j, j < l.length → isDig (l.getD j 0) = true := by
  rw [List.all_eq_true]
  constructor
  · intro h j hj
    rw [List.getD_eq_getElem?_getD, List.getElem?_eq_getElem hj]
    exact h _ (List.getElem_mem hj)
  · intro h x hx
    obtain ⟨j, hj, rfl⟩ := List.getElem_of_mem hx
    have := h j hj
    rw [List.getD_eq_getElem?_getD, List.getElem?_eq_getElem hj] at this
    exact this
theorem numberD_fn (s : ByteArray) (hs : s.size ≤ 1000000000) (n : Nat) (hn : n ≤ 18) : Spec Tryz.prog 33 [.str s, .int n] [numC] (fun r cs => r = .tup [.int (numDV n s.data.toList), .bool (okNum n s.data.toList)] ∧ cs = [numC]) := by
  have k1 := atoi_fn s hs
  have k3 := trimP_fn s
  have hd := trimS_size s
  have hb := trimS_by s
  have hsl := str_list s
  have hle := trimM_le s.data.toList
  have hok := okNum_iff (n := n) (l := s.data.toList)
  have hat := fun h => ok_atoiB hn (l := s.data.toList) h
  have hV : okNum n s.data.toList = true → numDV n s.data.toList = valNum s.data.toList := fun h => by unfold numDV; rw [if_pos h]
  have hF : ¬ okNum n s.data.toList = true → numDV n s.data.toList = 0 ∧ okNum n s.data.toList = false := fun h => ⟨numDV_f (okNum_f h), okNum_f h⟩
  have hhd : (trimM s.data.toList).head? = some 48 ↔ ((trimM s.data.toList) ≠ [] ∧ sby (trimS s) 0 = 48) := by
    rw [hb]
    cases trimM s.data.toList with
    | nil => simp
    | cons c r =>
      simp only [List.head?_cons, Option.some.injEq, List.getD_cons_zero, ne_eq, reduceCtorEq, not_false_eq_true, true_and]
      constructor
      · rintro rfl; rfl
      · intro h
        have : c.toNat = 48 := by omega
        exact UInt8.toNat_inj.1 this
  have hne : (trimM s.data.toList) ≠ [] ↔ trimS s ≠ ⟨#[]⟩ := by
    rw [ne_eq, ne_eq, str_empty, hd, List.length_eq_zero_iff]
  have hdl : ∀ j, j < (trimS s).size → (isDig ((trimM s.data.toList).getD j 0) = true ↔ ¬ sby (trimS s) j < 48 ∧ ¬ 57 < sby (trimS s) j) := fun j hj => by
    rw [hb]
    unfold isDig
    rw [decide_eq_true_iff]
    omega
  have hal := all_dig_at (l := trimM s.data.toList)
  rw [← hd] at hal hok hle
  rw [hhd, hne] at hok
  generalize numDV n s.data.toList = V at *
  generalize okNum n s.data.toList = o at *
  generalize valNum s.data.toList = W at *
  generalize atoiB s.data.toList = ab at *
  generalize atoiV s.data.toList = av at *
  generalize (trimM s.data.toList).all isDig = al at *
  have hal2 : al = true ↔ ∀ j, j < (trimS s).size → (¬ sby (trimS s) j < 48 ∧ ¬ 57 < sby (trimS s) j) := by
    rw [hal]
    exact ⟨fun h j hj => (hdl j hj).1 (h j hj), fun h j hj => (hdl j hj).2 (h j hj)⟩
  clear hal hdl hb hd hhd hne
  rw [← hsl] at hle hok
  clear hsl
  generalize hD : trimS s = D at *
  refine Spec.body Tryz.func33 rfl rfl (Tryz.ntmps33) rfl fun w0 own0 M => ?_
  have bad : ¬ o = true → V = 0 ∧ o = false := hF
  by_cases h1 : D = ⟨#[]⟩
  · obtain ⟨b1, b2⟩ := bad (fun h => (hok.1 h).1.1 h1)
    rw [b1, b2]
    repeat' (first | refine goH ?_ | refine goV ?_ | refine goG ?_ | (refine Ops.k_guard ?_; first | (refine Ops.guard_dec rfl rfl (fun hc => ?_) (fun hc => ?_) <;> try (exfalso; omega)) | refine Ops.guard_split rfl rfl (fun hc => ?_) (fun hc => ?_)) | refine goI ?_ | (refine Cw.k_cond ?_; first | (refine Cw.cond_dec rfl (fun hc => ?_) (fun hc => ?_) <;> try (exfalso; omega)) | refine Cw.cond_bool rfl (fun hc => ?_) (fun hc => ?_)) | (refine Ops.k_calla ?_; first | (refine Ops.k_callf 57 ?_; refine Ops.callV k3 (Evs.cons rfl (Evs.cons rfl Evs.nil)) rfl ?_)) | (apply OpW.k_call; first | (apply OpW.k_callf 57; exact OpW.callV k3 (Evs.cons rfl (Evs.cons rfl Evs.nil)))) | refine goR ?_ | refine goP ?_ | apply PSeq.cons | apply PSeq.yes rfl rfl rfl | exact goW | fail)
    all_goals first | (exfalso; contradiction) | exact Fin.ret (Ent.take goTk) (Outs.two rfl rfl rfl) ⟨rfl, rfl⟩
  have hD0 : D.size ≠ 0 := fun h => h1 ((str_empty D).2 h)
  by_cases h2 : n < D.size
  · obtain ⟨b1, b2⟩ := bad (fun h => by have := (hok.1 h).1.2.1; omega)
    rw [b1, b2]
    repeat' (first | refine goH ?_ | refine goV ?_ | refine goG ?_ | (refine Ops.k_guard ?_; first | (refine Ops.guard_dec rfl rfl (fun hc => ?_) (fun hc => ?_) <;> try (exfalso; omega)) | refine Ops.guard_split rfl rfl (fun hc => ?_) (fun hc => ?_)) | refine goI ?_ | (refine Cw.k_cond ?_; first | (refine Cw.cond_dec rfl (fun hc => ?_) (fun hc => ?_) <;> try (exfalso; omega)) | refine Cw.cond_bool rfl (fun hc => ?_) (fun hc => ?_)) | (refine Ops.k_calla ?_; first | (refine Ops.k_callf 57 ?_; refine Ops.callV k3 (Evs.cons rfl (Evs.cons rfl Evs.nil)) rfl ?_)) | (apply OpW.k_call; first | (apply OpW.k_callf 57; exact OpW.callV k3 (Evs.cons rfl (Evs.cons rfl Evs.nil)))) | refine goR ?_ | refine goP ?_ | apply PSeq.cons | apply PSeq.yes rfl rfl rfl | exact goW | fail)
    all_goals first | (exfalso; contradiction) | (exfalso; omega) | exact Fin.ret (Ent.take goTk) (Outs.two rfl rfl rfl) ⟨rfl, rfl⟩
  by_cases h3 : sby D 0 = 48 ∧ (1 < D.size ∨ D.size < s.size)
  · obtain ⟨b1, b2⟩ := bad (fun h => (hok.1 h).1.2.2 ⟨⟨h1, h3.1⟩, h3.2⟩)
    rw [b1, b2]
    obtain ⟨h4, h5⟩ := h3
    repeat' (first | refine goH ?_ | refine goV ?_ | refine goG ?_ | (refine Ops.k_guard ?_; first | (refine Ops.guard_dec rfl rfl (fun hc => ?_) (fun hc => ?_) <;> try (exfalso; omega)) | refine Ops.guard_split rfl rfl (fun hc => ?_) (fun hc => ?_)) | refine goI ?_ | (refine Cw.k_cond ?_; first | (refine Cw.cond_dec rfl (fun hc => ?_) (fun hc => ?_) <;> try (exfalso; omega)) | refine Cw.cond_bool rfl (fun hc => ?_) (fun hc => ?_)) | (refine Ops.k_calla ?_; first | (refine Ops.k_callf 57 ?_; refine Ops.callV k3 (Evs.cons rfl (Evs.cons rfl Evs.nil)) rfl ?_)) | (apply OpW.k_call; first | (apply OpW.k_callf 57; exact OpW.callV k3 (Evs.cons rfl (Evs.cons rfl Evs.nil)))) | refine goR ?_ | refine goP ?_ | apply PSeq.cons | apply PSeq.yes rfl rfl rfl | exact goW | fail)
    all_goals first | (exfalso; contradiction) | (exfalso; omega) | exact Fin.ret (Ent.take goTk) (Outs.two rfl rfl rfl) ⟨rfl, rfl⟩
  have hsz : D.size ≤ 1000000000 := by omega
  by_cases h4 : sby D 0 = 48
  all_goals
    repeat' (first | refine goH ?_ | refine goV ?_ | refine goG ?_ | (refine Ops.k_guard ?_; first | (refine Ops.guard_dec rfl rfl (fun hc => ?_) (fun hc => ?_) <;> try (exfalso; omega)) | refine Ops.guard_split rfl rfl (fun hc => ?_) (fun hc => ?_)) | refine goI ?_ | (refine Cw.k_cond ?_; first | (refine Cw.cond_dec rfl (fun hc => ?_) (fun hc => ?_) <;> try (exfalso; omega)) | refine Cw.cond_bool rfl (fun hc => ?_) (fun hc => ?_)) | (refine Ops.k_calla ?_; first | (refine Ops.k_callf 57 ?_; refine Ops.callV k3 (Evs.cons rfl (Evs.cons rfl Evs.nil)) rfl ?_)) | (apply OpW.k_call; first | (apply OpW.k_callf 57; exact OpW.callV k3 (Evs.cons rfl (Evs.cons rfl Evs.nil)))) | refine goR ?_ | refine goP ?_ | apply PSeq.cons | apply PSeq.yes rfl rfl rfl | exact goW | fail)
    all_goals try first | (exfalso; contradiction) | (exfalso; omega)
    refine Cw.loopI [(0, _), (1, _), (6, _), (38, _)] _ (fun q e c => ∃ i : Nat, q = D.size - i ∧ (i ≤ D.size ∧ ∀ j, j < i → (¬ sby D j < 48 ∧ ¬ 57 < sby D j)) ∧ e = [(39, .int i)] ∧ c = []) ⟨_, _, _, (Ent.mkP goSub goPm), 0, rfl, ⟨by omega, fun j h => by omega⟩, rfl, rfl⟩ ?_
    rintro _ _ _ ⟨i, rfl, ⟨hi, hpre⟩, rfl, rfl⟩
    by_cases hil : i < D.size
    · by_cases g1 : sby D i < 48 ∨ 57 < sby D i
      · obtain ⟨b1, b2⟩ := bad (fun h => by have := hal2.1 (hok.1 h).2 i hil; omega)
        rw [b1, b2]
        repeat' (first | refine goH ?_ | refine goV ?_ | refine goG ?_ | (refine Ops.k_guard ?_; first | (refine Ops.guard_dec rfl rfl (fun hc => ?_) (fun hc => ?_) <;> try (exfalso; omega)) | refine Ops.guard_split rfl rfl (fun hc => ?_) (fun hc => ?_)) | refine goI ?_ | (refine Cw.k_cond ?_; first | (refine Cw.cond_dec rfl (fun hc => ?_) (fun hc => ?_) <;> try (exfalso; omega)) | refine Cw.cond_bool rfl (fun hc => ?_) (fun hc => ?_)) | refine goR ?_ | refine goP ?_ | apply PSeq.cons | apply PSeq.yes rfl rfl rfl | exact goW | fail)
        all_goals first | (exfalso; omega) | exact Fin.ret (Ent.take goTk) (Outs.two rfl rfl rfl) ⟨rfl, rfl⟩
      · have hnx : ∀ j, j < i + 1 → (¬ sby D j < 48 ∧ ¬ 57 < sby D j) := fun j hj => by
          by_cases e : j = i
          · subst e; omega
          · exact hpre j (by omega)
        clear hpre
        repeat' (first | refine goH ?_ | refine goV ?_ | refine goG ?_ | (refine Ops.k_guard ?_; first | (refine Ops.guard_dec rfl rfl (fun hc => ?_) (fun hc => ?_) <;> try (exfalso; omega)) | refine Ops.guard_split rfl rfl (fun hc => ?_) (fun hc => ?_)) | refine goI ?_ | (refine Cw.k_cond ?_; first | (refine Cw.cond_dec rfl (fun hc => ?_) (fun hc => ?_) <;> try (exfalso; omega)) | refine Cw.cond_bool rfl (fun hc => ?_) (fun hc => ?_)) | refine goR ?_ | refine goP ?_ | apply PSeq.cons | apply PSeq.yes rfl rfl rfl | exact goW | fail)
        all_goals first | (exfalso; omega) | exact ⟨_, _, _, (Ent.mk goSub goTk), ⟨i + 1, rfl, ⟨by omega, hnx⟩, rfl, rfl⟩, by omega⟩
    · have hiD : i = D.size := by omega
      have ho : o = true := hok.2 ⟨⟨h1, by omega, fun h => h3 ⟨h.1.2, h.2⟩⟩, hal2.2 fun j hj => hpre j (by omega)⟩
      obtain ⟨a1, a2⟩ := hat ho
      have a3 := hV ho
      rw [a1, a2] at k1
      rw [ho, a3]
      clear hpre
      repeat' (first | refine goH ?_ | refine goV ?_ | refine goG ?_ | (refine Ops.k_guard ?_; first | (refine Ops.guard_dec rfl rfl (fun hc => ?_) (fun hc => ?_) <;> try (exfalso; omega)) | refine Ops.guard_split rfl rfl (fun hc => ?_) (fun hc => ?_)) | refine goI ?_ | (refine Cw.k_cond ?_; first | (refine Cw.cond_dec rfl (fun hc => ?_) (fun hc => ?_) <;> try (exfalso; omega)) | refine Cw.cond_bool rfl (fun hc => ?_) (fun hc => ?_)) | exact OpV.w (OpV.eqlNil rfl) | (refine Ops.k_calla ?_; first | (refine Ops.k_callf 58 ?_; (refine Ops.call k1 (Evs.cons rfl Evs.nil) goPm rfl ?_; rintro r cs' ⟨rfl, rfl⟩))) | refine goR ?_ | refine goP ?_ | apply PSeq.cons | apply PSeq.yes rfl rfl rfl | exact goW | fail)
      exact Fin.ret (Ent.take goTk) (Outs.two rfl rfl rfl) ⟨rfl, rfl⟩
end Lg
end
section
set_option linter.all false
set_option maxRecDepth 100000
set_option maxHeartbeats 4000000
namespace Lg
open Go Go.Proofs

/-! ### the check digits of a line -/
def hexB : ByteArray := ⟨#[48, 49, 50, 51, 52, 53, 54, 55, 56, 57, 97, 98, 99, 100, 101, 102]⟩
def xorK (s : ByteArray) : Nat → Int
  | 0 => 0
  | k + 1 => bits .xor .u8 (xorK s k) (sby s k)
theorem xorK_bd (s : ByteArray) : ∀ k, 0 ≤ xorK s k ∧ xorK s k ≤ 255
  | 0 => by show (0 : Int) ≤ 0 ∧ (0 : Int) ≤ 255; omega
  | k + 1 => bits_u8 _ _ _
def chkS (s : ByteArray) : ByteArray := ⟨#[UInt8.ofNat (sby hexB (xorK s s.size / 16).toNat).toNat, UInt8.ofNat (sby hexB (xorK s s.size % 16).toNat).toNat]⟩
theorem chkS_size (s : ByteArray) : (chkS s).size = 2 := rfl
theorem bytR_at (s : ByteArray) {k : Nat} (h : k < s.size) : (bytR s)[k]? = some [Tr.raw (.int .u8 (sby s k))] := by
  have h2 : k < s.data.toList.length := h
  unfold bytR
  rw [List.getElem?_map, List.getElem?_eq_getElem h2]
  unfold sby
  rw [List.getD_eq_getElem?_getD, List.getElem?_eq_getElem h2]
  rfl
theorem OpV.convB2 {P : Program} {Γ : Ctx} {env : Env} {cs : List Chunk} {ty T T2 E : TypeId} {x : Operand} {p q : Int} (hp : 0 ≤ p ∧ p ≤ 255) (hq : 0 ≤ q ∧ q ≤ 255) (hT : P.underlying T = some (.slice E)) (h2 : P.underlying T2 = some .string) (hE : P.underlying E = some (.int .u8)) (hx : ev env x = some (.sl 1 [[Tr.raw (.int .u8 p)], [Tr.raw (.int .u8 q)]])) : OpV P Γ (.convert T T2 x) ty env cs (.str ⟨#[UInt8.ofNat p.toNat, UInt8.ofNat q.toNat]⟩) := by
  have e : ∀ p : Int, 0 ≤ p ∧ p ≤ 255 → ((UInt8.ofNat p.toNat).toNat : Int) = p := fun p h => by rw [UInt8.toNat_ofNat']; omega
  refine OpV.convBS (l := [UInt8.ofNat p.toNat, UInt8.ofNat q.toNat]) (by simp) hT h2 hE ?_
  rw [hx]
  unfold bysR
  rw [List.map_cons, List.map_cons, List.map_nil, e p hp, e q hq]
theorem folded_fn (s : ByteArray) (hs : s.size ≤ 1000000000) : PFn Tryz.prog 23 [.str s] (· = .str (chkS s)) := by
  refine PFn.mk (Spec.body Tryz.func23 rfl rfl (Tryz.ntmps23) rfl fun w0 own0 M => ?_)
  repeat' (first | refine goH ?_ | refine goV ?_ | refine goI ?_ | (refine Cw.k_cond ?_; first | (refine Cw.cond_dec rfl (fun hc => ?_) (fun hc => ?_) <;> try (exfalso; omega)) | refine Cw.cond_bool rfl (fun hc => ?_) (fun hc => ?_)) | refine goR ?_ | refine goP ?_ | apply PSeq.cons | apply PSeq.yes rfl rfl rfl | exact goW | fail)
  refine Cw.loopI [(0, _), (6, _)] _ (fun q e c => ∃ k : Nat, q = s.size - k ∧ k ≤ s.size ∧ e = [(3, Tr.raw (.int .u8 (xorK s k))), (7, .int k)] ∧ c = []) ⟨_, _, _, (Ent.mkP goSub goPm), 0, rfl, by omega, rfl, rfl⟩ ?_
  rintro _ _ _ ⟨k, rfl, hk, rfl, rfl⟩
  have hb := xorK_bd s k
  by_cases hkl : k < s.size
  · have hn : bits .xor .u8 (xorK s k) (sby s k) = xorK s (k + 1) := rfl
    generalize xorK s k = v at *
    repeat' (first | refine goH ?_ | refine goV ?_ | refine goI ?_ | (refine Cw.k_cond ?_; first | (refine Cw.cond_dec rfl (fun hc => ?_) (fun hc => ?_) <;> try (exfalso; omega)) | refine Cw.cond_bool rfl (fun hc => ?_) (fun hc => ?_)) | (refine Ops.val' rfl (OpV.xor8 rfl rfl) ?_; rw [hn]) | refine goR ?_ | refine goP ?_ | apply PSeq.cons | apply PSeq.yes rfl rfl rfl | exact goW | fail)
    exact ⟨_, _, _, (Ent.mk goSub goTk), ⟨k + 1, rfl, by omega, rfl, rfl⟩, by omega⟩
  · have hkn : k = s.size := by omega
    subst hkn
    unfold chkS
    generalize xorK s s.size = v at *
    have h16 : (⟨#[48, 49, 50, 51, 52, 53, 54, 55, 56, 57, 97, 98, 99, 100, 101, 102]⟩ : ByteArray).size = 16 := rfl
    have hb1 := sby_bd hexB (v / 16).toNat
    have hb2 := sby_bd hexB (v % 16).toNat
    have hhx : hexB = ⟨#[48, 49, 50, 51, 52, 53, 54, 55, 56, 57, 97, 98, 99, 100, 101, 102]⟩ := rfl
    rw [hhx] at *
    repeat' (first | refine goH ?_ | refine goV ?_ | refine goI ?_ | (refine Cw.k_cond ?_; first | (refine Cw.cond_dec rfl (fun hc => ?_) (fun hc => ?_) <;> try (exfalso; omega)) | refine Cw.cond_bool rfl (fun hc => ?_) (fun hc => ?_)) | exact OpV.w (OpV.shr4 rfl rfl hb) | exact OpV.w (OpV.and15 rfl rfl hb) | exact OpV.w (OpV.indexS rfl rfl rfl (by omega)) | exact OpV.w (OpV.convB2 hb1 hb2 Tryz.underlying68 Tryz.underlying9 Tryz.underlying5 rfl) | refine goR ?_ | refine goP ?_ | apply PSeq.cons | apply PSeq.yes rfl rfl rfl | exact goW | fail)
    exact Fin.ret (Ent.take goTk) (Outs.one rfl rfl) ⟨rfl, rfl⟩
theorem checkDigits_fn (s : ByteArray) (hs : s.size ≤ 1000000000) : PFn Tryz.prog 27 [.str s] (· = .str (chkS s)) := by
  have hL := bytR_len s
  refine PFn.mk (Spec.body Tryz.func27 rfl rfl (Tryz.ntmps27) rfl fun w0 own0 M => ?_)
  repeat' (first | refine goH ?_ | (refine Ops.k_convert ?_; first | (refine Ops.convSB Tryz.underlying9 Tryz.underlying68 Tryz.underlying5 rfl hs rfl ?_)) | refine goV ?_ | refine goI ?_ | (refine Cw.k_cond ?_; first | (refine Cw.cond_dec rfl (fun hc => ?_) (fun hc => ?_) <;> try (exfalso; omega)) | refine Cw.cond_bool rfl (fun hc => ?_) (fun hc => ?_)) | refine goR ?_ | refine goP ?_ | apply PSeq.cons | apply PSeq.yes rfl rfl rfl | exact goW | fail)
  refine Cw.loopI [(7, _), (8, _)] _ (fun q e c => ∃ k : Nat, q = s.size - k ∧ k ≤ s.size ∧ e = [(3, Tr.raw (.int .u8 (xorK s k))), (9, .int k)] ∧ c = []) ⟨_, _, _, (Ent.mkP goSub goPm), 0, rfl, by omega, rfl, rfl⟩ ?_
  rintro _ _ _ ⟨k, rfl, hk, rfl, rfl⟩
  have hb := xorK_bd s k
  by_cases hkl : k < s.size
  · have hrow := bytR_at s hkl
    have hn : bits .xor .u8 (xorK s k) (sby s k) = xorK s (k + 1) := rfl
    generalize xorK s k = v at *
    repeat' (first | refine goH ?_ | refine goV ?_ | refine goI ?_ | (refine Cw.k_cond ?_; first | (refine Cw.cond_dec rfl (fun hc => ?_) (fun hc => ?_) <;> try (exfalso; omega)) | refine Cw.cond_bool rfl (fun hc => ?_) (fun hc => ?_)) | (refine Ops.val' rfl (OpV.xor8 rfl rfl) ?_; rw [hn]) | refine goR ?_ | refine goP ?_ | apply PSeq.cons | apply PSeq.yes rfl rfl rfl | exact goW | fail)
    exact ⟨_, _, _, (Ent.mk goSub goTk), ⟨k + 1, rfl, by omega, rfl, rfl⟩, by omega⟩
  · have hkn : k = s.size := by omega
    subst hkn
    unfold chkS
    generalize xorK s s.size = v at *
    have h16 : (⟨#[48, 49, 50, 51, 52, 53, 54, 55, 56, 57, 97, 98, 99, 100, 101, 102]⟩ : ByteArray).size = 16 := rfl
    have hb1 := sby_bd hexB (v / 16).toNat
    have hb2 := sby_bd hexB (v % 16).toNat
    have hhx : hexB = ⟨#[48, 49, 50, 51, 52, 53, 54, 55, 56, 57, 97, 98, 99, 100, 101, 102]⟩ := rfl
    rw [hhx] at *
    repeat' (first | refine goH ?_ | refine goV ?_ | refine goI ?_ | (refine Cw.k_cond ?_; first | (refine Cw.cond_dec rfl (fun hc => ?_) (fun hc => ?_) <;> try (exfalso; omega)) | refine Cw.cond_bool rfl (fun hc => ?_) (fun hc => ?_)) | exact OpV.w (OpV.quo16 rfl rfl hb) | exact OpV.w (OpV.rem16 rfl rfl hb) | exact OpV.w (OpV.indexS rfl rfl rfl (by omega)) | exact OpV.w (OpV.convB2 hb1 hb2 Tryz.underlying68 Tryz.underlying9 Tryz.underlying5 rfl) | refine goR ?_ | refine goP ?_ | apply PSeq.cons | apply PSeq.yes rfl rfl rfl | exact goW | fail)
    exact Fin.ret (Ent.take goTk) (Outs.one rfl rfl) ⟨rfl, rfl⟩
end Lg
end
section
set_option linter.all false
set_option maxRecDepth 100000
set_option maxHeartbeats 4000000
namespace Lg
open Go Go.Proofs

/-! ### readings, in plain terms -/
structure Rdg where
  t : Int
  vs : List Int
theorem Rdg.ext' {x y : Rdg} (h1 : x.t = y.t) (h2 : x.vs = y.vs) : x = y := by
  cases x
  cases y
  simp at h1 h2
  rw [h1, h2]
/-! ### what happened between two readings -/
structure Stp where
  a : Int
  b : Int
  r : Bool
  s : List Int
def Stp.row (x : Stp) : List Tr := [.int x.a, .int x.b, .bool x.r, .ints x.s]
end Lg
end
