/- A part of the proof of a law of this seat: it adds no condition. By an AI agent. -/
import Derived.Test.YtlaemkjeagpbnaaDoorLay4
import Derived.Test.YtlaemkjeagpbnaaDoorAr6
set_option linter.all false
set_option maxRecDepth 100000
set_option maxHeartbeats 8000000
namespace Lg
open Go Go.Proofs

/-! ### a slice of which its length alone is known -/
section slN
variable {P : Program} {Γ : Ctx} {env : Env} {cs : List Chunk} {Q : Post} {R : Array Oper} {i : Tmp} {ty : TypeId} {pos : String} {af : Array Edge} {rest : List Oper} {x : Operand} {T : TypeId}
def Tr.slN (n : Nat) : Tr := ⟨fun _ _ v => ∃ a cap, v = .slice a n cap, fun _ h => h⟩
theorem Imp.slN {k : Nat} {rows : List (List Tr)} : Imp (.sl k rows) (Tr.slN rows.length) := by
  intro w A v h
  unfold Tr.sl at h
  obtain ⟨_, _, ad, cap, hv, _⟩ := h
  unfold Tr.slN
  exact ⟨ad, cap, hv⟩
theorem FreeT.slN {n : Nat} : FreeT (Tr.slN n) := by
  intro w A w' A' v h
  unfold Tr.slN at h ⊢
  exact h
theorem OpV.len_slN {E kk bb z} [h : TySl P T E kk bb z] {n : Nat} (hx : ev env x = some (Tr.slN n)) : OpV P Γ (.call ⟨.builtin .len, #[x], #[T]⟩) ty env cs (.int (n : Int)) := by
  unfold OpV
  intro a w d
  have hq := d.ev hx
  unfold Tr.slN at hq
  obtain ⟨ad, cap, hv⟩ := hq
  exact ⟨_, by simp [execOp, resolve, invoke, builtin, hv, run_len_slice' h.hT], raw_self _⟩
theorem Ops.len_slN {E kk bb z} [h : TySl P T E kk bb z] {n : Nat} (hx : ev env x = some (Tr.slN n)) (hi : Nat.blt i Γ.n = true)
    (r : Ops P Γ R rest ((i, .int (n : Int)) :: env) cs Q) : Ops P Γ R (⟨some i, .call ⟨.builtin .len, #[x], #[T]⟩, ty, pos, af, none⟩ :: rest) env cs Q :=
  Ops.val' hi (OpV.len_slN hx) r
end slN
theorem strRows_setR (N : List ByteArray) (i : Nat) (y : ByteArray) : (strRows N).set i [Tr.str y] = strRows (N.set i y) := by
  unfold strRows
  rw [List.map_set]
/-! ### the closure of PlaceOf -/
def bestT (B : List ByteArray) (m : Int) : Tr := if m < 0 then Tr.raw (.slice none 0 0) else .strs B
def leastI (n : Nat) (m : Int) : Int := if m < 0 then (n : Int) + 1 else m
abbrev tcCaps (b2 b3 b4 b5 b6 b7 b8 b9 : Nat) : List Value := [.pointer (some ⟨b2, 0, none⟩), .pointer (some ⟨b3, 0, none⟩), .pointer (some ⟨b4, 0, none⟩), .pointer (some ⟨b5, 0, none⟩), .pointer (some ⟨b6, 0, none⟩), .pointer (some ⟨b7, 0, none⟩), .pointer (some ⟨b8, 0, none⟩), .pointer (some ⟨b9, 0, none⟩)]
abbrev tcC (b2 b3 b4 b5 b6 b7 b8 b9 : Nat) (R C : Int) (l : List Offer) (xs : List ByteArray) (adN : Option Addr) (capN : Nat) (adL : Option Addr) (capL : Nat) (N : List ByteArray) (L : List Int) (ls : Int) (bt : Tr) : List Chunk :=
  [Chunk.box b2 3 [.int ls], Chunk.box b3 32 [.strs xs], Chunk.box b4 47 [.int R, .int C], Chunk.box b5 49 [.offers l], Chunk.box b6 32 [Tr.raw (.slice adN xs.length capN)], Chunk.box b7 32 [bt], Chunk.box b8 22 [Tr.raw (.slice adL (l.length + 1) capL)], Chunk.box b9 97 [Tr.raw (.func (.func 61) #[] (tcCaps b2 b3 b4 b5 b6 b7 b8 b9).toArray)], Chunk.own adN capN 1 9 (strRows N), Chunk.own adL capL 1 3 (intRows L)]
attribute [local irreducible] intRows strRows hatedB tryP clashX leastI bestT
theorem clashesL_fn (R C : Nat) (hR : 1 ≤ R ∧ R ≤ 10) (hC : 1 ≤ C ∧ C ≤ 10) (l : List Offer) (hl : OBd l) (hE : findO l ⟨#[]⟩ = none) (xs : List ByteArray) (hn : xs.length = R * C) (hx : xs.length ≤ 100) (hodd : xs.any (oddB l) = false) {ad : Option Addr} {n cap : Nat} (hnl : n = (strRows xs).length) :
    ∃ k : Nat, (okC R C l xs = decide (k = 0)) ∧ k ≤ 10000 ∧ Spec Tryd.prog 62 [.agg [.int R, .int C], .offers l, Tr.raw (.slice ad n cap)] [Chunk.own ad cap 1 9 (strRows xs)] (fun r cs => r = Tr.slN k ∧ cs = [Chunk.own ad cap 1 9 (strRows xs)]) := by
  have k := clashesIn_fn R C hR hC l hl hE xs hn hx hodd
  refine ⟨((clAll (hX l xs) C xs.length xs.length).map Touch.row).length, ?_, ?_, PFn.lendO (pre := [.agg [.int R, .int C], .offers l]) (suf := []) (PFn.imp k Imp.slN) hnl (fun w A w' A' v hr => FreeT.slN w A w' A' v hr)⟩
  · unfold okC clashX
    rw [Int.toNat_natCast, List.length_map]
    cases clAll (hX l xs) C xs.length xs.length <;> rfl
  · rw [List.length_map]
    have := clAll_len (hX l xs) C xs.length xs.length
    omega
theorem tryC_fn (R C : Nat) (hR : 1 ≤ R ∧ R ≤ 10) (hC : 1 ≤ C ∧ C ≤ 10) (l : List Offer) (hl : OBd l) (hE : findO l ⟨#[]⟩ = none) (hkey : ∀ o ∈ l, oddB l o.key = false) (xs : List ByteArray) (hxn : xs.length = R * C) (hx : xs.length ≤ 100) (b2 b3 b4 b5 b6 b7 b8 b9 : Nat) (adN : Option Addr) (capN : Nat) (adL : Option Addr) (capL : Nat) :
    ∀ (n i : Nat) (pre N : List ByteArray) (L : List Int) (d : Int) (B : List ByteArray) (m : Int), i + n = xs.length → pre.length = i → N.length = xs.length → N.take i = pre → (∀ x ∈ pre, oddB l x = false) → L.length = l.length + 1 → (∀ v ∈ L, 0 ≤ v ∧ v ≤ 1000) → (0 ≤ d ∧ d ≤ i) → m ≤ xs.length →
    Spec Tryd.prog 61 ([.int i, .int d] ++ (tcCaps b2 b3 b4 b5 b6 b7 b8 b9).map Tr.raw) (tcC b2 b3 b4 b5 b6 b7 b8 b9 R C l xs adN capN adL capL N L (leastI xs.length m) (bestT B m))
      (fun r cs => r = .tup [] ∧ ∃ N', N'.length = xs.length ∧ N'.take i = pre ∧ (tryP (keysL l) xs (okC R C l) n pre L d (B, m)).2 ≤ xs.length ∧ cs = tcC b2 b3 b4 b5 b6 b7 b8 b9 R C l xs adN capN adL capL N' L (leastI xs.length (tryP (keysL l) xs (okC R C l) n pre L d (B, m)).2) (bestT (tryP (keysL l) xs (okC R C l) n pre L d (B, m)).1 (tryP (keysL l) xs (okC R C l) n pre L d (B, m)).2)) := by
  have hxR := strRows_len xs
  intro n
  induction n with
  | zero =>
    intro i pre N L d B m hin hpi hNl hNp hodd hLl hLb hd hm
    have hNR := (strRows_len N).trans hNl
    by_cases hcut : leastI xs.length m ≤ d
    · have hc2 : 0 ≤ m ∧ m ≤ d := by
        have : leastI xs.length m = if m < 0 then (xs.length : Int) + 1 else m := by with_unfolding_all rfl
        rw [this] at hcut
        split at hcut <;> omega
      rw [tryP_cut _ _ _ _ _ hc2.1 hc2.2]
      refine Spec.body Tryd.func61 rfl rfl (Tryd.ntmps61) rfl fun w0 own0 M => ?_
      repeat' (first | refine goH ?_ | refine goV ?_ | refine goI ?_ | (refine Cw.k_cond ?_; first | (refine Cw.cond_dec rfl (fun hc => ?_) (fun hc => ?_) <;> try (exfalso; omega)) | refine Cw.cond_bool rfl (fun hc => ?_) (fun hc => ?_)) | refine goR ?_ | refine goP ?_ | apply PSeq.cons | apply PSeq.yes rfl rfl rfl | exact goW | fail)
      exact Fin.ret (Ent.take goTk) (Outs.zero rfl) ⟨rfl, N, hNl, hNp, hm, rfl⟩
    have hdm : m < 0 ∨ d < m := by
      have : leastI xs.length m = if m < 0 then (xs.length : Int) + 1 else m := by with_unfolding_all rfl
      rw [this] at hcut
      split at hcut <;> omega
    have hNe : N = pre := by rw [← hNp, List.take_of_length_le (by omega)]
    subst hNe
    have hany : N.any (oddB l) = false := by
      rw [List.any_eq_false]
      intro x hx
      rw [hodd x hx]
      simp
    obtain ⟨k, hk, hkb, kS⟩ := clashesL_fn R C hR hC l hl hE N (by omega) (by omega) hany (ad := adN) (cap := capN) (n := xs.length) hNR.symm
    have hs : tryP (keysL l) xs (okC R C l) 0 N L d (B, m) = if k = 0 then (N, d) else (B, m) := by
      rw [tryP, hk]
      by_cases h0 : k = 0
      · rw [if_pos h0, if_pos ⟨hdm, decide_eq_true h0⟩]
      · rw [if_neg h0, if_neg (fun h => h0 (of_decide_eq_true h.2))]
    rw [hs]
    clear hs hk
    have kC := cloneS_str (ad := adN) (cap := capN) (n := xs.length) (strRows N) hNR.symm (by omega)
    refine Spec.body Tryd.func61 rfl rfl (Tryd.ntmps61) rfl fun w0 own0 M => ?_
    by_cases h0 : k = 0
    · rw [if_pos h0]
      repeat' (first | refine goH ?_ | (refine Ops.k_c_len ?_; first | (refine Ops.len_slN rfl rfl ?_)) | refine goV ?_ | refine goI ?_ | (refine Cw.k_cond ?_; first | (refine Cw.cond_dec rfl (fun hc => ?_) (fun hc => ?_) <;> try (exfalso; omega)) | refine Cw.cond_bool rfl (fun hc => ?_) (fun hc => ?_)) | (refine Ops.k_calla ?_; first | refine Ops.callS kS (Evs.cons rfl (Evs.cons rfl (Evs.cons rfl Evs.nil))) goPm rfl ?_ | (refine Ops.k_callf 32 ?_; refine Ops.callS kC (Evs.cons rfl Evs.nil) goPm rfl ?_)) | (apply OpW.k_call; first | exact OpW.callS kS (Evs.cons rfl (Evs.cons rfl (Evs.cons rfl Evs.nil))) goPm | (apply OpW.k_callf 32; exact OpW.callS kC (Evs.cons rfl Evs.nil) goPm)) | refine goR ?_ | refine goP ?_ | apply PSeq.cons | apply PSeq.yes rfl rfl rfl | exact goW | fail)
      have e1 : leastI xs.length d = d := by
        have : leastI xs.length d = if d < 0 then (xs.length : Int) + 1 else d := by with_unfolding_all rfl
        rw [this, if_neg (by omega)]
      have e2 : bestT N d = .strs N := by
        have : bestT N d = if d < 0 then Tr.raw (.slice none 0 0) else .strs N := by with_unfolding_all rfl
        rw [this, if_neg (by omega)]
      simp only
      rw [e1, e2]
      exact Fin.ret (Ent.take goTk) (Outs.zero rfl) ⟨rfl, N, hNl, hNp, by omega, rfl⟩
    · rw [if_neg h0]
      repeat' (first | refine goH ?_ | (refine Ops.k_c_len ?_; first | (refine Ops.len_slN rfl rfl ?_)) | refine goV ?_ | refine goI ?_ | (refine Cw.k_cond ?_; first | (refine Cw.cond_dec rfl (fun hc => ?_) (fun hc => ?_) <;> try (exfalso; omega)) | refine Cw.cond_bool rfl (fun hc => ?_) (fun hc => ?_)) | (refine Ops.k_calla ?_; first | refine Ops.callS kS (Evs.cons rfl (Evs.cons rfl (Evs.cons rfl Evs.nil))) goPm rfl ?_) | (apply OpW.k_call; first | exact OpW.callS kS (Evs.cons rfl (Evs.cons rfl (Evs.cons rfl Evs.nil))) goPm) | refine goR ?_ | refine goP ?_ | apply PSeq.cons | apply PSeq.yes rfl rfl rfl | exact goW | fail)
      exact Fin.ret (Ent.take goTk) (Outs.zero rfl) ⟨rfl, N, hNl, hNp, hm, rfl⟩
  | succ n ih =>
    intro i pre N L d B m hin hpi hNl hNp hodd hLl hLb hd hm
    have hNR := (strRows_len N).trans hNl
    by_cases hcut : leastI xs.length m ≤ d
    · have hc2 : 0 ≤ m ∧ m ≤ d := by
        have : leastI xs.length m = if m < 0 then (xs.length : Int) + 1 else m := by with_unfolding_all rfl
        rw [this] at hcut
        split at hcut <;> omega
      rw [tryP_cut _ _ _ _ _ hc2.1 hc2.2]
      clear ih
      refine Spec.body Tryd.func61 rfl rfl (Tryd.ntmps61) rfl fun w0 own0 M => ?_
      repeat' (first | refine goH ?_ | refine goV ?_ | refine goI ?_ | (refine Cw.k_cond ?_; first | (refine Cw.cond_dec rfl (fun hc => ?_) (fun hc => ?_) <;> try (exfalso; omega)) | refine Cw.cond_bool rfl (fun hc => ?_) (fun hc => ?_)) | refine goR ?_ | refine goP ?_ | apply PSeq.cons | apply PSeq.yes rfl rfl rfl | exact goW | fail)
      exact Fin.ret (Ent.take goTk) (Outs.zero rfl) ⟨rfl, N, hNl, hNp, hm, rfl⟩
    obtain ⟨F, hF⟩ : ∃ F : Nat → PS → PS, F = fun k st => match L[k]?, (keysL l)[k]? with
      | some v, some key => if v = 0 then st else tryP (keysL l) xs (okC R C l) n (pre ++ [key]) (L.set k (v - 1)) (d + dif1 xs pre.length key) st
      | _, _ => st := ⟨_, rfl⟩
    have hs : tryP (keysL l) xs (okC R C l) (n + 1) pre L d (B, m) = itF F 0 (L.length - 0) (B, m) := by
      rw [tryP, Nat.sub_zero, hF]
      all_goals with_unfolding_all rfl
    rw [hs]
    clear hs
    have hFk : ∀ (k : Nat) (v : Int) (key : ByteArray) (st : PS), L[k]? = some v → (keysL l)[k]? = some key → F k st = if v = 0 then st else tryP (keysL l) xs (okC R C l) n (pre ++ [key]) (L.set k (v - 1)) (d + dif1 xs pre.length key) st := by
      intro k v key st h1 h2
      rw [hF]
      simp only [h1, h2]
    clear hF
    obtain ⟨S, hS⟩ : ∃ S, S = itF F 0 (L.length - 0) (B, m) := ⟨_, rfl⟩
    rw [← hS]
    obtain ⟨o, hold⟩ := at_lt (l := xs) (k := i) (by omega)
    have r0 := strRows_at hold
    have hdv : ∀ key, dif1 xs pre.length key = if key = o then 0 else 1 := by
      intro key
      unfold dif1
      rw [hpi, List.getD_eq_getElem?_getD, hold]
      rfl
    simp only [hdv] at hFk
    have hLR := (intRows_len L).trans hLl
    have hlR : (l.map Offer.row).length = l.length := List.length_map _
    have hl1 := hl.1
    clear hold hdv
    refine Spec.body Tryd.func61 rfl rfl (Tryd.ntmps61) rfl fun w0 own0 M => ?_
    repeat' (first | refine goH ?_ | refine goV ?_ | refine goI ?_ | (refine Cw.k_cond ?_; first | (refine Cw.cond_dec rfl (fun hc => ?_) (fun hc => ?_) <;> try (exfalso; omega)) | refine Cw.cond_bool rfl (fun hc => ?_) (fun hc => ?_)) | refine goR ?_ | refine goP ?_ | apply PSeq.cons | apply PSeq.yes rfl rfl rfl | exact goW | fail)
    refine Cw.loopI [(0, _), (1, _), (3, _), (5, _), (6, _), (8, _), (9, _), (30, _)] _ (fun z ee cc => ∃ (k : Nat) (N2 B2 : List ByteArray) (m2 : Int), z = l.length + 1 - k ∧ (k ≤ l.length + 1 ∧ S = itF F k (L.length - k) (B2, m2) ∧ N2.length = xs.length ∧ N2.take i = pre ∧ m2 ≤ xs.length) ∧ ee = [(31, .int k)] ∧ cc = tcC b2 b3 b4 b5 b6 b7 b8 b9 R C l xs adN capN adL capL N2 L (leastI xs.length m2) (bestT B2 m2))
      ⟨_, _, _, (Ent.mkP goSub goPm), 0, N, B, m, rfl, ⟨by omega, hS, hNl, hNp, hm⟩, rfl, rfl⟩ ?_
    clear hS hNl hNp hm hNR hcut
    rintro _ _ _ ⟨k, N2, B2, m2, rfl, ⟨hk, hV, hNl, hNp, hm⟩, rfl, rfl⟩
    have hNR := (strRows_len N2).trans hNl
    by_cases hkl : k < l.length + 1
    rotate_left
    · rw [show L.length - k = 0 by omega, itF] at hV
      subst hV
      clear ih hFk
      repeat' (first | refine goH ?_ | refine goV ?_ | refine goI ?_ | (refine Cw.k_cond ?_; first | (refine Cw.cond_dec rfl (fun hc => ?_) (fun hc => ?_) <;> try (exfalso; omega)) | refine Cw.cond_bool rfl (fun hc => ?_) (fun hc => ?_)) | refine goR ?_ | refine goP ?_ | apply PSeq.cons | apply PSeq.yes rfl rfl rfl | exact goW | fail)
      exact Fin.norm (Ent.take goTk) (Outs.zero rfl) ⟨rfl, N2, hNl, hNp, hm, rfl⟩
    obtain ⟨v, hv⟩ := at_lt (l := L) (k := k) (by omega)
    obtain ⟨key, hkey2⟩ := at_lt (l := keysL l) (k := k) (by simp; omega)
    rw [show L.length - k = (L.length - (k + 1)) + 1 by omega, itF, hFk k v key _ hv hkey2] at hV
    have hvb := hLb v (List.mem_of_getElem? hv)
    have r1 := intRows_at hv
    by_cases hv0 : v = 0
    · rw [if_pos hv0] at hV
      clear ih hFk hv hkey2
      repeat' (first | refine goH ?_ | refine goV ?_ | refine goI ?_ | (refine Cw.k_cond ?_; first | (refine Cw.cond_dec rfl (fun hc => ?_) (fun hc => ?_) <;> try (exfalso; omega)) | refine Cw.cond_bool rfl (fun hc => ?_) (fun hc => ?_)) | refine goR ?_ | refine goP ?_ | apply PSeq.cons | apply PSeq.yes rfl rfl rfl | exact goW | fail)
      exact ⟨_, _, _, (Ent.mk goSub goTk), ⟨k + 1, N2, B2, m2, rfl, ⟨by omega, hV, hNl, hNp, hm⟩, rfl, rfl⟩, by omega⟩
    rw [if_neg hv0] at hV
    have hkodd : oddB l key = false := by
      rcases List.mem_cons.1 (List.mem_of_getElem? hkey2) with h | h
      · rw [h]; with_unfolding_all rfl
      · obtain ⟨x, hx, rfl⟩ := List.mem_map.1 h
        exact hkey x hx
    have hLs : (L.set k (v - 1)).length = l.length + 1 := by rw [List.length_set]; exact hLl
    have hNs : ∀ y, (N2.set i y).length = xs.length := fun y => by rw [List.length_set]; exact hNl
    have hNt : (N2.set i key).take (i + 1) = pre ++ [key] := by
      have h2 : (N2.set i key)[i]? = some key := by rw [List.getElem?_set, if_pos rfl, if_pos (by omega)]
      rw [take_at h2, List.take_set_of_le (Nat.le_refl _), hNp]
    obtain ⟨w, hw⟩ : ∃ w : Int, w = d + (if key = o then 0 else 1) := ⟨_, rfl⟩
    have hwb : 0 ≤ w ∧ w ≤ i + 1 := by
      rw [hw]
      split <;> omega
    rw [← hw] at hV
    have kG := ih (i + 1) (pre ++ [key]) (N2.set i key) (L.set k (v - 1)) w B2 m2 (by omega) (by simp; exact hpi) (hNs key) hNt (fun y hy => by
      rcases List.mem_append.1 hy with h | h
      · exact hodd y h
      · rw [List.mem_singleton.1 h]; exact hkodd) hLs (fun y hy => by
      rcases List.mem_or_eq_of_mem_set hy with h | h
      · exact hLb y h
      · omega) (by omega) hm
    obtain ⟨B4, m4, hst4⟩ : ∃ B4 m4, tryP (keysL l) xs (okC R C l) n (pre ++ [key]) (L.set k (v - 1)) w (B2, m2) = (B4, m4) := ⟨_, _, rfl⟩
    rw [hst4] at hV
    simp only [hst4] at kG
    have hsetL := int_setR L k (v - 1)
    have hsetN := fun (N : List ByteArray) (y : ByteArray) => strRows_setR N i y
    have hback : (intRows (L.set k (v - 1))).set k [Tr.int (v - 1 + 1)] = intRows L := by
      rw [int_setR, List.set_set, show v - 1 + 1 = v by omega]
      congr 1
      apply List.ext_getElem?
      intro j
      rw [List.getElem?_set]
      split
      · rename_i h
        subst h
        rw [if_pos (by omega), hv]
      · rfl
    have r3 : (intRows (L.set k (v - 1)))[k]? = some [Tr.int (v - 1)] := intRows_at (by rw [List.getElem?_set, if_pos rfl, if_pos (by omega)])
    have hLR2 := (intRows_len (L.set k (v - 1))).trans hLs
    have r5 : ∀ y, (strRows (N2.set i y))[i]? = some [Tr.str y] := fun y => strRows_at (by rw [List.getElem?_set, if_pos rfl, if_pos (by omega)])
    have hNR5 := fun y => (strRows_len (N2.set i y)).trans (hNs y)
    obtain ⟨y0, hy0⟩ := at_lt (l := N2) (k := i) (by omega)
    have rN := strRows_at hy0
    clear hy0
    clear ih hFk hv hst4 hkodd hNs hLs hodd hNt
    by_cases hk0 : k = 0
    · subst hk0
      have hke : key = eS := by
        simp at hkey2
        exact hkey2.symm
      subst hke
      have r5 := r5 eS
      have hNR5 := hNR5 eS
      repeat' (first | refine goH ?_ | refine goV ?_ | refine goI ?_ | (refine Cw.k_cond ?_; first | (refine Cw.cond_dec rfl (fun hc => ?_) (fun hc => ?_) <;> try (exfalso; omega)) | refine Cw.cond_bool rfl (fun hc => ?_) (fun hc => ?_)) | fail)
      erw [hsetL, hsetN N2 eS]
      by_cases hk : eS = o
      · rw [if_pos hk] at hw
        have hwd : w = d := by omega
        clear hw
        subst hwd
        repeat' (first | refine goH ?_ | ((fail_if_success refine Ops.k_c_call ?_); refine goV ?_) | refine goI ?_ | (refine Cw.k_cond ?_; first | (refine Cw.cond_dec rfl (fun hc => ?_) (fun hc => ?_) <;> try (exfalso; omega)) | refine Cw.cond_bool rfl (fun hc => ?_) (fun hc => ?_)) | exact OpV.w (OpV.eqlS_t rfl rfl hk) | refine goR ?_ | refine goP ?_ | apply PSeq.cons | apply PSeq.yes rfl rfl rfl | exact goW | fail)
        refine Ops.k_calla ?_
        refine Ops.call_fn (caps := tcCaps b2 b3 b4 b5 b6 b7 b8 b9) (args := [.int ((i + 1 : Nat) : Int), .int w]) rfl kG (Evs.cons rfl (Evs.cons rfl Evs.nil)) goPm rfl ?_
        rintro r cs' ⟨rfl, N4, hN4, hN4t, hm4, rfl⟩
        have hN4p : N4.take i = pre := by
          have := congrArg (List.take i) hN4t
          rw [List.take_take, Nat.min_eq_left (by omega), List.take_left' hpi] at this
          exact this
        clear kG hN4t
        repeat' (first | refine goH ?_ | refine goV ?_ | refine goI ?_ | (refine Cw.k_cond ?_; first | (refine Cw.cond_dec rfl (fun hc => ?_) (fun hc => ?_) <;> try (exfalso; omega)) | refine Cw.cond_bool rfl (fun hc => ?_) (fun hc => ?_)) | refine goR ?_ | refine goP ?_ | apply PSeq.cons | apply PSeq.yes rfl rfl rfl | exact goW | fail)
        erw [hback]
        exact ⟨_, _, _, (Ent.mk goSub goTk), ⟨0 + 1, N4, B4, m4, rfl, ⟨by omega, hV, hN4, hN4p, hm4⟩, rfl, rfl⟩, by omega⟩
      · rw [if_neg hk] at hw
        subst hw
        repeat' (first | refine goH ?_ | ((fail_if_success refine Ops.k_c_call ?_); refine goV ?_) | refine goI ?_ | (refine Cw.k_cond ?_; first | (refine Cw.cond_dec rfl (fun hc => ?_) (fun hc => ?_) <;> try (exfalso; omega)) | refine Cw.cond_bool rfl (fun hc => ?_) (fun hc => ?_)) | exact OpV.w (OpV.eqlS_f rfl rfl hk) | refine goR ?_ | refine goP ?_ | apply PSeq.cons | apply PSeq.yes rfl rfl rfl | exact goW | fail)
        refine Ops.k_calla ?_
        refine Ops.call_fn (caps := tcCaps b2 b3 b4 b5 b6 b7 b8 b9) (args := [.int ((i + 1 : Nat) : Int), .int (d + 1)]) rfl kG (Evs.cons rfl (Evs.cons rfl Evs.nil)) goPm rfl ?_
        rintro r cs' ⟨rfl, N4, hN4, hN4t, hm4, rfl⟩
        have hN4p : N4.take i = pre := by
          have := congrArg (List.take i) hN4t
          rw [List.take_take, Nat.min_eq_left (by omega), List.take_left' hpi] at this
          exact this
        clear kG hN4t
        repeat' (first | refine goH ?_ | refine goV ?_ | refine goI ?_ | (refine Cw.k_cond ?_; first | (refine Cw.cond_dec rfl (fun hc => ?_) (fun hc => ?_) <;> try (exfalso; omega)) | refine Cw.cond_bool rfl (fun hc => ?_) (fun hc => ?_)) | refine goR ?_ | refine goP ?_ | apply PSeq.cons | apply PSeq.yes rfl rfl rfl | exact goW | fail)
        erw [hback]
        exact ⟨_, _, _, (Ent.mk goSub goTk), ⟨0 + 1, N4, B4, m4, rfl, ⟨by omega, hV, hN4, hN4p, hm4⟩, rfl, rfl⟩, by omega⟩
    · obtain ⟨q, rfl⟩ : ∃ q, k = q + 1 := ⟨k - 1, by omega⟩
      obtain ⟨x, hx, hxk⟩ : ∃ x, l[q]? = some x ∧ x.key = key := by
        have h : (l.map Offer.key)[q]? = some key := hkey2
        rw [List.getElem?_map] at h
        cases hq : l[q]? with
        | none => rw [hq] at h; cases h
        | some x => rw [hq] at h; exact ⟨x, rfl, Option.some.inj h⟩
      have rX : (l.map Offer.row)[(((q + 1 : Nat) : Int) - 1).toNat]? = some [.str x.key, .str x.group, .ints x.pr, .strs x.has, .strs x.hates] := by
        rw [show (((q + 1 : Nat) : Int) - 1).toNat = q by omega]
        exact rows_at hx
      rw [hxk] at rX
      have r5a := r5 eS
      have hNR5a := hNR5 eS
      have r5 := r5 key
      have hNR5 := hNR5 key
      clear hx hkey2
      repeat' (first | refine goH ?_ | refine goV ?_ | refine goI ?_ | (refine Cw.k_cond ?_; first | (refine Cw.cond_dec rfl (fun hc => ?_) (fun hc => ?_) <;> try (exfalso; omega)) | refine Cw.cond_bool rfl (fun hc => ?_) (fun hc => ?_)) | fail)
      erw [hsetL, hsetN N2 eS]
      refine goR ?_
      repeat' (first | refine goH ?_ | refine goV ?_ | refine goI ?_ | (refine Cw.k_cond ?_; first | (refine Cw.cond_dec rfl (fun hc => ?_) (fun hc => ?_) <;> try (exfalso; omega)) | refine Cw.cond_bool rfl (fun hc => ?_) (fun hc => ?_)) | refine goP ?_ | apply PSeq.cons | apply PSeq.yes rfl rfl rfl | exact goW | fail)
      erw [hsetN (N2.set i eS) key, List.set_set]
      by_cases hk : key = o
      · rw [if_pos hk] at hw
        have hwd : w = d := by omega
        clear hw
        subst hwd
        repeat' (first | refine goH ?_ | ((fail_if_success refine Ops.k_c_call ?_); refine goV ?_) | refine goI ?_ | (refine Cw.k_cond ?_; first | (refine Cw.cond_dec rfl (fun hc => ?_) (fun hc => ?_) <;> try (exfalso; omega)) | refine Cw.cond_bool rfl (fun hc => ?_) (fun hc => ?_)) | exact OpV.w (OpV.eqlS_t rfl rfl hk) | refine goR ?_ | refine goP ?_ | apply PSeq.cons | apply PSeq.yes rfl rfl rfl | exact goW | fail)
        refine Ops.k_calla ?_
        refine Ops.call_fn (caps := tcCaps b2 b3 b4 b5 b6 b7 b8 b9) (args := [.int ((i + 1 : Nat) : Int), .int w]) rfl kG (Evs.cons rfl (Evs.cons rfl Evs.nil)) goPm rfl ?_
        rintro r cs' ⟨rfl, N4, hN4, hN4t, hm4, rfl⟩
        have hN4p : N4.take i = pre := by
          have := congrArg (List.take i) hN4t
          rw [List.take_take, Nat.min_eq_left (by omega), List.take_left' hpi] at this
          exact this
        clear kG hN4t
        repeat' (first | refine goH ?_ | refine goV ?_ | refine goI ?_ | (refine Cw.k_cond ?_; first | (refine Cw.cond_dec rfl (fun hc => ?_) (fun hc => ?_) <;> try (exfalso; omega)) | refine Cw.cond_bool rfl (fun hc => ?_) (fun hc => ?_)) | refine goR ?_ | refine goP ?_ | apply PSeq.cons | apply PSeq.yes rfl rfl rfl | exact goW | fail)
        erw [hback]
        exact ⟨_, _, _, (Ent.mk goSub goTk), ⟨q + 1 + 1, N4, B4, m4, rfl, ⟨by omega, hV, hN4, hN4p, hm4⟩, rfl, rfl⟩, by omega⟩
      · rw [if_neg hk] at hw
        subst hw
        repeat' (first | refine goH ?_ | ((fail_if_success refine Ops.k_c_call ?_); refine goV ?_) | refine goI ?_ | (refine Cw.k_cond ?_; first | (refine Cw.cond_dec rfl (fun hc => ?_) (fun hc => ?_) <;> try (exfalso; omega)) | refine Cw.cond_bool rfl (fun hc => ?_) (fun hc => ?_)) | exact OpV.w (OpV.eqlS_f rfl rfl hk) | refine goR ?_ | refine goP ?_ | apply PSeq.cons | apply PSeq.yes rfl rfl rfl | exact goW | fail)
        refine Ops.k_calla ?_
        refine Ops.call_fn (caps := tcCaps b2 b3 b4 b5 b6 b7 b8 b9) (args := [.int ((i + 1 : Nat) : Int), .int (d + 1)]) rfl kG (Evs.cons rfl (Evs.cons rfl Evs.nil)) goPm rfl ?_
        rintro r cs' ⟨rfl, N4, hN4, hN4t, hm4, rfl⟩
        have hN4p : N4.take i = pre := by
          have := congrArg (List.take i) hN4t
          rw [List.take_take, Nat.min_eq_left (by omega), List.take_left' hpi] at this
          exact this
        clear kG hN4t
        repeat' (first | refine goH ?_ | refine goV ?_ | refine goI ?_ | (refine Cw.k_cond ?_; first | (refine Cw.cond_dec rfl (fun hc => ?_) (fun hc => ?_) <;> try (exfalso; omega)) | refine Cw.cond_bool rfl (fun hc => ?_) (fun hc => ?_)) | refine goR ?_ | refine goP ?_ | apply PSeq.cons | apply PSeq.yes rfl rfl rfl | exact goW | fail)
        erw [hback]
        exact ⟨_, _, _, (Ent.mk goSub goTk), ⟨q + 1 + 1, N4, B4, m4, rfl, ⟨by omega, hV, hN4, hN4p, hm4⟩, rfl, rfl⟩, by omega⟩
end Lg
