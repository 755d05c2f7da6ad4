/- A part of the proof of a law of this seat: it adds no condition. By an AI agent. -/
import Derived.Test.YtaoclkglimibeaaGreatDoorLz7
section
set_option linter.all false
set_option maxRecDepth 100000
set_option maxHeartbeats 8000000
namespace Lg
open Go Go.Proofs

/-! ### LedgerFrom -/
theorem pstR_st {L : List Ps} (hs : LSt L) (e : En) : LSt (pstR L e).1 := by
  by_cases he : entS e = 0
  · cases hl : earl L e
    · rw [pstR_ok he hl]
      have ho := ent_ok he
      exact addR_st hs (p := ⟨e, 0⟩) ⟨ho.len, fun x hx => (ho.line x hx).2⟩ (fun x hx => (ho.line x hx).1) ⟨by simp, by simp⟩ ho.day ho.text
    · rw [pstR_early he hl]; exact hs
  · rw [pstR_bad he]; exact hs
theorem cnlR_st {L : List Ps} (hs : LSt L) (no : Int) : LSt (cnlR L no).1 := by
  by_cases hno : no < 1 ∨ (L.length : Int) < no
  · rw [cnlR_no hno]; exact hs
  obtain ⟨p, hp⟩ := at_lt (l := L) (k := (no - 1).toNat) (by omega)
  obtain ⟨q, hq⟩ := at_lt (l := L) (k := L.length - 1) (by omega)
  cases ho : offB L no p
  · rw [cnlR_ok hno hp ho]
    obtain ⟨c1, c2, c3, c4, c5⟩ := cnlP_ok hs hno (List.mem_of_getElem? hp) (List.mem_of_getElem? hq) (lastDay_at hq)
    exact addR_st hs c1 c2 c3 c4 c5
  · rw [cnlR_off hno hp ho]; exact hs
theorem hdL_n {l : List UInt8} (h : brk l = none) : hdL l = none := by unfold hdL; rw [h]
theorem hdL_c {l b : List UInt8} (h : brk l = some (canL, b)) : hdL l = if okNum 10 b = true then some (.inl (valNum b)) else none := by unfold hdL; rw [h]; exact if_pos rfl
theorem ent_can : ¬ entL = canL := by decide
theorem hdL_e {l b d x : List UInt8} (h : brk l = some (entL, b)) (h2 : brk b = some (d, x)) : hdL l = if okNum 10 d = true then some (.inr (valNum d, mkB x)) else none := by
  unfold hdL
  rw [h]
  simp only [if_neg ent_can, if_pos, h2]
theorem hdL_e0 {l b : List UInt8} (h : brk l = some (entL, b)) (h2 : brk b = none) : hdL l = none := by
  unfold hdL
  rw [h]
  simp only [if_neg ent_can, if_pos, h2]
theorem hdL_o {l a b : List UInt8} (h : brk l = some (a, b)) (h1 : ¬ a = canL) (h2 : ¬ a = entL) : hdL l = none := by
  unfold hdL
  rw [h]
  simp only [if_neg h1, if_neg h2]
theorem lnL_n {l : List UInt8} (h : brk l = none) : lnL l = none := by unfold lnL; rw [h]
theorem lnL_f {l a b : List UInt8} (h : brk l = some (a, b)) (hk : okNum 10 b = false) : lnL l = none := by
  unfold lnL
  rw [h]
  simp only [hk]
  split <;> rfl
theorem lnL_e {l a b : List UInt8} (h : brk l = some (a, b)) (ha : a = []) : lnL l = none := by
  unfold lnL
  rw [h]
  exact if_pos ha
theorem lnL_t {l a b : List UInt8} (h : brk l = some (a, b)) (ha : ¬ a = []) (hk : okNum 10 b = true) : lnL l = some ⟨mkB a, valNum b⟩ := by
  unfold lnL
  rw [h]
  simp only [if_neg ha, hk, if_true]
theorem drop_hd {α : Type} {D : List α} {j : Nat} {s : α} {r : List α} (e : D.drop j = s :: r) : D[j]? = some s := by
  have h0 : (D.drop j)[0]? = some s := by rw [e]; rfl
  rw [List.getElem?_drop] at h0
  exact h0
theorem spl3_1 {s : ByteArray} (h : brk s.data.toList = none) : spl3 s = [s] := by unfold spl3; rw [splN_none h]; rfl
theorem spl3_2 {s : ByteArray} {a b : List UInt8} (h : brk s.data.toList = some (a, b)) (h2 : brk b = none) : spl3 s = [mkB a, mkB b] := by unfold spl3; rw [splN_some h, splN_none h2]; rfl
theorem spl3_3 {s : ByteArray} {a b d x : List UInt8} (h : brk s.data.toList = some (a, b)) (h2 : brk b = some (d, x)) : spl3 s = [mkB a, mkB d, mkB x] := by unfold spl3; rw [splN_some h, splN_some h2]; rfl
theorem num_v {l : List UInt8} (h : okNum 10 l = true) : atoiV l = valNum l := (ok_atoiB (by omega) h).2
def readQ (R : List Ps × Nat × Int) (r : Tr) (cs : List Chunk) : Prop :=
  (∃ (bx n cap cap2 : Nat) (ad ad2 : Option Addr), R.2.2 = 0 ∧ r = .tup [.ptr bx, .int 0, .int 0] ∧ LSt R.1 ∧ n = R.1.length ∧ cs = [bkC, ledY bx ad n cap ad2 n cap2, ownE ad cap R.1, ownB ad2 cap2 R.1])
  ∨ (R.2.2 ≠ 0 ∧ r = .tup [.raw (.pointer none), .int R.2.1, .int R.2.2] ∧ cs = [bkC])
end Lg
end
section
set_option linter.all false
set_option maxRecDepth 100000
set_option maxHeartbeats 4000000
namespace Lg
open Go Go.Proofs

/-! ### strings.Builder -/
abbrev bldB (b : Nat) (p ad : Option Addr) (cap : Nat) (t : ByteArray) : Chunk := Chunk.box b 72 [.raw (.pointer p), .raw (.slice ad t.size cap)]
abbrev bldO (ad : Option Addr) (cap : Nat) (t : ByteArray) : Chunk := Chunk.own ad cap 1 5 (bytR t)
structure BldI (b : Nat) (p ad : Option Addr) (cap : Nat) (t : ByteArray) : Prop where
  p : p = none ∨ p = some ⟨b, 0, none⟩
  n : ad ≠ none → t.size ≠ 0
theorem BldI.new (b : Nat) : BldI b none none 0 ⟨#[]⟩ := ⟨.inl rfl, fun h => absurd rfl h⟩
theorem str_emptyB (s : ByteArray) : s.size = 0 ↔ s = ⟨#[]⟩ := by
  constructor
  · intro h
    apply ByteArray.ext
    apply Array.eq_empty_of_size_eq_zero
    simpa using h
  · rintro rfl; rfl
theorem Cw.newbld {Γ : Ctx} {env : Env} {cs cf : List Chunk} {Q : Post} {c : Code} (b : Nat) (hp : cs.Perm (Chunk.box b 72 [.raw (.pointer none), .raw (.slice none 0 0)] :: cf)) (h : Cw Tryz.prog Γ c env (bldB b none none 0 ⟨#[]⟩ :: bldO none 0 ⟨#[]⟩ :: cf) Q) : Cw Tryz.prog Γ c env cs Q := by
  refine Cw.ent ((Ent.perm hp).trans ((Ent.nil 1 5).trans ?_)) h
  exact Ent.perm (List.Perm.swap _ _ _)
theorem noEscape_ext (v : Value) (w : World) : (callFunc 88 #[v]).run Tryz.prog w = .ok (.value v) w := rfl
theorem builder_info : ∃ j, Tryz.prog.info? 72 = some j ∧ j.size ≠ 0 := ⟨_, rfl, by decide⟩
theorem builder_info2 : ∃ j, Tryz.prog.info? 72 = some j := ⟨_, rfl⟩
theorem copyCheck_fn {b : Nat} {p ad : Option Addr} {cap : Nat} {t : ByteArray} (h : BldI b p ad cap t) : Spec Tryz.prog 59 [.ptr b] [bldB b p ad cap t] (fun r cs => r = .tup [] ∧ cs = [bldB b (some ⟨b, 0, none⟩) ad cap t]) := by
  obtain ⟨hp, _⟩ := h
  refine Spec.body Tryz.func59 rfl rfl (Tryz.ntmps59) rfl fun w0 own0 M => ?_
  rcases hp with rfl | rfl
  · repeat' (first | refine goH ?_ | (refine Ops.k_b_eql ?_; first | (refine Ops.val' rfl (OpV.eql_pn (b := true) rfl rfl builder_info rfl rfl) ?_)) | (refine Ops.k_convert ?_; first | (first | refine Ops.val' rfl (OpV.toUns (E := 72) rfl rfl builder_info rfl goPk (by simp)) ?_ | refine Ops.val' rfl (OpV.frUns (E := 72) (n := 2) rfl rfl builder_info2 rfl goPk (by decide +kernel) rfl) ?_)) | (refine Ops.k_b_neq ?_; first | (refine Ops.val' rfl (OpV.neq_pp rfl builder_info rfl rfl) ?_)) | refine goV ?_ | refine goI ?_ | (refine Cw.k_cond ?_; first | (refine Cw.cond_dec rfl (fun hc => ?_) (fun hc => ?_) <;> try (exfalso; omega)) | refine Cw.cond_bool rfl (fun hc => ?_) (fun hc => ?_)) | (refine Ops.ext1 (noEscape_ext _) rfl rfl ?_) | fail)
    all_goals exact Fin.norm (Ent.take goTk) (Outs.zero rfl) ⟨rfl, rfl⟩
  · repeat' (first | refine goH ?_ | (refine Ops.k_b_eql ?_; first | (refine Ops.val' rfl (OpV.eql_pn (b := false) rfl rfl builder_info rfl rfl) ?_)) | (refine Ops.k_b_neq ?_; first | (refine Ops.val' rfl (OpV.neq_pp rfl builder_info rfl rfl) ?_)) | refine goV ?_ | refine goI ?_ | (refine Cw.k_cond ?_; first | (refine Cw.cond_dec rfl (fun hc => ?_) (fun hc => ?_) <;> try (exfalso; omega)) | refine Cw.cond_bool rfl (fun hc => ?_) (fun hc => ?_)) | fail)
    all_goals exact Fin.norm (Ent.take goTk) (Outs.zero rfl) ⟨rfl, rfl⟩
theorem writeString_fn {b : Nat} {p ad : Option Addr} {cap : Nat} {t : ByteArray} (h : BldI b p ad cap t) (s : ByteArray) (hs : t.size + s.size ≤ 1000000000) : Spec Tryz.prog 31 [.ptr b, .str s] [bldB b p ad cap t, bldO ad cap t] (fun r cs => ∃ p2 ad2 cap2, BldI b p2 ad2 cap2 (t ++ s) ∧ r = .tup [.int s.size, .raw .nilIface] ∧ cs = [bldB b p2 ad2 cap2 (t ++ s), bldO ad2 cap2 (t ++ s)]) := by
  have k := copyCheck_fn h
  obtain ⟨_, hn⟩ := h
  have hsz : (t ++ s).size = t.size + s.size := ByteArray.size_append
  refine Spec.body Tryz.func31 rfl rfl (Tryz.ntmps31) rfl fun w0 own0 M => ?_
  by_cases had : ad = none
  · subst had
    refine Cw.own_none goPk ?_
    intro hr hc0
    have ht : t.size = 0 := by rw [← bytR_len, hr]; rfl
    clear hr
    repeat' (first | refine goH ?_ | refine goV ?_ | refine goC (fun ad cap => ?_) | refine goI ?_ | (refine Cw.k_cond ?_; first | (refine Cw.cond_dec rfl (fun hc => ?_) (fun hc => ?_) <;> try (exfalso; omega)) | refine Cw.cond_bool rfl (fun hc => ?_) (fun hc => ?_)) | (refine Ops.append_str (E := 5) rfl rfl rfl rfl goPk rfl (by omega) rfl ?_; intro ad2 cap2 hnil) | (refine Ops.k_calla ?_; first | (refine Ops.k_callf 59 ?_; (refine Ops.call k (Evs.cons rfl Evs.nil) goPm rfl ?_; rintro r cs' ⟨rfl, rfl⟩))) | fail)
    refine Fin.ret (Ent.take goTk) (Outs.two rfl rfl rfl) ⟨_, ad2, cap2, ⟨.inr rfl, fun h => ?_⟩, rfl, rfl⟩
    have := hnil rfl
    by_cases h0 : t.size + s.size = 0
    · exact absurd (this h0).1 h
    · omega
  · have := hn had
    repeat' (first | refine goH ?_ | refine goV ?_ | refine goC (fun ad cap => ?_) | refine goI ?_ | (refine Cw.k_cond ?_; first | (refine Cw.cond_dec rfl (fun hc => ?_) (fun hc => ?_) <;> try (exfalso; omega)) | refine Cw.cond_bool rfl (fun hc => ?_) (fun hc => ?_)) | (refine Ops.append_str (E := 5) rfl rfl rfl rfl goPk rfl (by omega) rfl ?_; intro ad2 cap2 hnil) | (refine Ops.k_calla ?_; first | (refine Ops.k_callf 59 ?_; (refine Ops.call k (Evs.cons rfl Evs.nil) goPm rfl ?_; rintro r cs' ⟨rfl, rfl⟩))) | fail)
    exact Fin.ret (Ent.take goTk) (Outs.two rfl rfl rfl) ⟨_, ad2, cap2, ⟨.inr rfl, fun h => by omega⟩, rfl, rfl⟩
theorem string_fn {b : Nat} {p ad : Option Addr} {cap : Nat} {t : ByteArray} (h : BldI b p ad cap t) (ht : t.size ≤ 1000000000) : Spec Tryz.prog 34 [.ptr b] [bldB b p ad cap t, bldO ad cap t] (fun r cs => r = .str t ∧ cs = []) := by
  obtain ⟨_, hn⟩ := h
  refine Spec.body Tryz.func34 rfl rfl (Tryz.ntmps34) rfl fun w0 own0 M => ?_
  by_cases had : ad = none
  · subst had
    refine Cw.own_none goPk ?_
    intro hr hc0
    have ht : t = ⟨#[]⟩ := (str_emptyB t).1 (by rw [← bytR_len, hr]; rfl)
    subst ht
    repeat' (first | refine goH ?_ | refine goV ?_ | refine goI ?_ | (refine Cw.k_cond ?_; first | (refine Cw.cond_dec rfl (fun hc => ?_) (fun hc => ?_) <;> try (exfalso; omega)) | refine Cw.cond_bool rfl (fun hc => ?_) (fun hc => ?_)) | fail)
    refine Cw.region_seqM 10 rfl (by decide +kernel) rfl ?_
    repeat' (first | refine goH ?_ | refine goV ?_ | refine goI ?_ | (refine Cw.k_cond ?_; first | (refine Cw.cond_dec rfl (fun hc => ?_) (fun hc => ?_) <;> try (exfalso; omega)) | refine Cw.cond_bool rfl (fun hc => ?_) (fun hc => ?_)) | exact OpV.w (OpV.sdata_none rfl) | (refine Ops.ustr_none rfl rfl rfl ?_) | refine goR ?_ | refine goP ?_ | apply PSeq.cons | apply PSeq.yes rfl rfl rfl | exact goW | fail)
    exact Fin.ret (Ent.take goTk) (Outs.one rfl rfl) ⟨rfl, rfl⟩
  · have h0 := hn had
    refine Cw.own_form goPk (by rw [bytR_len]; omega) ?_
    rintro g rfl h1 h2
    rw [bytR_len] at h1
    repeat' (first | refine goH ?_ | refine goV ?_ | refine goI ?_ | (refine Cw.k_cond ?_; first | (refine Cw.cond_dec rfl (fun hc => ?_) (fun hc => ?_) <;> try (exfalso; omega)) | refine Cw.cond_bool rfl (fun hc => ?_) (fun hc => ?_)) | fail)
    refine Cw.region_seqM 10 rfl (by decide +kernel) rfl ?_
    repeat' (first | refine goH ?_ | refine goV ?_ | refine goI ?_ | (refine Cw.k_cond ?_; first | (refine Cw.cond_dec rfl (fun hc => ?_) (fun hc => ?_) <;> try (exfalso; omega)) | refine Cw.cond_bool rfl (fun hc => ?_) (fun hc => ?_)) | exact OpV.w (OpV.sdata_some rfl (by omega)) | (refine Ops.ustr (s := t) rfl rfl rfl rfl rfl h0 goPk rfl ?_) | refine goR ?_ | refine goP ?_ | apply PSeq.cons | apply PSeq.yes rfl rfl rfl | exact goW | fail)
    exact Fin.ret (Ent.take goTk) (Outs.one rfl rfl) ⟨rfl, rfl⟩
end Lg
end
section
set_option linter.all false
set_option maxRecDepth 100000
set_option maxHeartbeats 8000000
namespace Lg
open Go Go.Proofs

/-! ### Print -/
abbrev nlK : ByteArray := ⟨#[10]⟩
abbrev spK : ByteArray := ⟨#[32]⟩
abbrev entK : ByteArray := ⟨#[101, 110, 116, 114, 121, 32]⟩
abbrev canK : ByteArray := ⟨#[99, 97, 110, 99, 101, 108, 32]⟩
def prtLn (x : Ln) : ByteArray := (((⟨#[32, 32]⟩ ++ x.acc) ++ spK) ++ itoaK x.c) ++ nlK
def prtLs (t : ByteArray) (l : List Ln) : ByteArray := l.foldl (fun t x => t ++ prtLn x) t
def prtHd (e : En) : ByteArray := (((entK ++ itoaK e.day) ++ spK) ++ e.text) ++ nlK
def prt1 (t : ByteArray) (p : Ps) : ByteArray := if 0 < p.back then t ++ ((canK ++ itoaK p.back) ++ nlK) else prtLs (t ++ prtHd p.e) p.e.ls
def prtT (L : List Ps) : ByteArray := L.foldl prt1 ⟨#[]⟩
def prtR (L : List Ps) : Tr := if 200000 < (prtT L).size then .tup [.str ⟨#[]⟩, .int 2] else .tup [.str (prtT L), .int 0]
theorem prtLs_step {t : ByteArray} {l : List Ln} {k : Nat} {x : Ln} (h : l[k]? = some x) : prtLs t (l.take (k + 1)) = prtLs t (l.take k) ++ prtLn x := by
  unfold prtLs
  rw [List.take_add_one, h, Option.toList_some, List.foldl_append]
  rfl
theorem prtT_step {L : List Ps} {k : Nat} {p : Ps} (h : L[k]? = some p) : prtT (L.take (k + 1)) = prt1 (prtT (L.take k)) p := by
  unfold prtT
  rw [List.take_add_one, h, Option.toList_some, List.foldl_append]
  rfl
theorem key_size {a : ByteArray} (h : isKey a = true) : a.size ≤ 40 := by
  unfold isKey at h
  exact (of_decide_eq_true h).2.1
theorem prtLn_size {x : Ln} (hk : isKey x.acc = true) (hc : -1000000000 ≤ x.c ∧ x.c ≤ 1000000000) : (prtLn x).size ≤ 70 := by
  have h1 := key_size hk
  have h2 := itoaK_size (x := x.c) (by omega) (by omega)
  have e1 : (⟨#[32, 32]⟩ : ByteArray).size = 2 := rfl
  have e2 : spK.size = 1 := rfl
  have e3 : nlK.size = 1 := rfl
  unfold prtLn
  rw [ByteArray.size_append, ByteArray.size_append, ByteArray.size_append, ByteArray.size_append]
  omega
theorem prtLs_size {t : ByteArray} : ∀ {l : List Ln}, (∀ x ∈ l, isKey x.acc = true ∧ -1000000000 ≤ x.c ∧ x.c ≤ 1000000000) → (prtLs t l).size ≤ t.size + 70 * l.length
  | [], _ => Nat.le_refl _
  | x :: l, h => by
    have h1 := prtLn_size (h x (List.mem_cons_self ..)).1 (h x (List.mem_cons_self ..)).2
    have h2 := prtLs_size (t := t ++ prtLn x) (l := l) fun y hy => h y (List.mem_cons_of_mem _ hy)
    rw [ByteArray.size_append] at h2
    unfold prtLs at h2 ⊢
    rw [List.foldl_cons, List.length_cons]
    omega
theorem prtHd_size {e : En} (hd : 0 ≤ e.day ∧ e.day ≤ 4000) (ht : e.text.size ≤ 60) : (prtHd e).size ≤ 100 := by
  have h2 := itoaK_size (x := e.day) (by omega) (by omega)
  have e1 : entK.size = 6 := rfl
  have e2 : spK.size = 1 := rfl
  have e3 : nlK.size = 1 := rfl
  unfold prtHd
  rw [ByteArray.size_append, ByteArray.size_append, ByteArray.size_append, ByteArray.size_append]
  omega
theorem prt_take {L : List Ps} (hs : LSt L) : ∀ {k : Nat}, k ≤ L.length → (prtT (L.take k)).size ≤ 2000 * k
  | 0, _ => Nat.le_refl _
  | k + 1, hk => by
    have ih := prt_take hs (k := k) (by omega)
    obtain ⟨p, hp⟩ := at_lt (l := L) (k := k) (by omega)
    have hm := List.mem_of_getElem? hp
    obtain ⟨o1, o2⟩ := hs.ok.2 p hm
    have hb := hs.bk p hm
    have hl := hs.ok.1
    rw [prtT_step hp]
    unfold prt1
    split
    · have h2 := itoaK_size (x := p.back) (by omega) (by omega)
      have e1 : canK.size = 7 := rfl
      have e3 : nlK.size = 1 := rfl
      rw [ByteArray.size_append, ByteArray.size_append, ByteArray.size_append]
      omega
    · have h1 := prtLs_size (t := prtT (L.take k) ++ prtHd p.e) (l := p.e.ls) fun x hx => ⟨hs.ky p hm x hx, o2 x hx⟩
      have h2 := prtHd_size (hs.dy p hm) (hs.tx p hm)
      rw [ByteArray.size_append] at h1
      omega
theorem len_fn {b : Nat} {p ad : Option Addr} {cap : Nat} {t : ByteArray} : Spec Tryz.prog 33 [.ptr b] [bldB b p ad cap t, bldO ad cap t] (fun r cs => r = .int t.size ∧ cs = [bldB b p ad cap t, bldO ad cap t]) := by
  refine Spec.body Tryz.func33 rfl rfl (Tryz.ntmps33) rfl fun w0 own0 M => ?_
  repeat' (first | refine goH ?_ | refine goV ?_ | refine goI ?_ | (refine Cw.k_cond ?_; first | (refine Cw.cond_dec rfl (fun hc => ?_) (fun hc => ?_) <;> try (exfalso; omega)) | refine Cw.cond_bool rfl (fun hc => ?_) (fun hc => ?_)) | fail)
  exact Fin.ret (Ent.take goTk) (Outs.one rfl rfl) ⟨rfl, rfl⟩
attribute [local irreducible] prtT prtLs itoaK
theorem prt1_back {t : ByteArray} {p : Ps} (h : 0 < p.back) : prt1 t p = t ++ ((canK ++ itoaK p.back) ++ nlK) := by unfold prt1; exact if_pos h
theorem prt1_ent {t : ByteArray} {p : Ps} (h : ¬ 0 < p.back) : prt1 t p = prtLs (t ++ prtHd p.e) (p.e.ls.take p.e.ls.length) := by unfold prt1; rw [List.take_length]; exact if_neg h
theorem prtLs_0 (t : ByteArray) (l : List Ln) : t = prtLs t (l.take 0) := by rw [List.take_zero]; with_unfolding_all rfl
theorem printX_fn (bx n cap bm : Nat) (ad ad2 : Option Addr) (cap2 : Nat) (L : List Ps) (hs : LSt L) (hn : n = L.length) :
    Spec Tryz.prog 8 [.ptr bx] [bkC, (ledX bx ad n cap bm), (ownX ad cap (flgO L) L)] (fun r cs => r = prtR L ∧ cs = [bkC, (ledX bx ad n cap bm), (ownX ad cap (flgO L) L)]) := by
  have hL : (rowsF (flgO L) L 0).length = n := by rw [rowsF_len, hn]
  have hL2 : (L.map enR).length = n := by rw [List.length_map, hn]
  have hL3 : (intRows (L.map Ps.back)).length = n := by rw [intRows_len, List.length_map, hn]
  have hLl := hs.ok.1
  refine Spec.body Tryz.func8 rfl rfl (Tryz.ntmps8) rfl fun w0 own0 M => ?_
  unfold prtR
  have hT : prtT L = prtT (L.take n) := by rw [hn, List.take_length]
  have hT2 := prt_take hs (k := n) (by omega)
  rw [← hT] at hT2
  have e0 : prtT (L.take 0) = ⟨#[]⟩ := by rw [List.take_zero]; with_unfolding_all rfl
  repeat' (first | refine goH ?_ | refine goV ?_ | refine goB (fun b => ?_) | refine goI ?_ | (refine Cw.k_cond ?_; first | (refine Cw.cond_dec rfl (fun hc => ?_) (fun hc => ?_) <;> try (exfalso; omega)) | refine Cw.cond_bool rfl (fun hc => ?_) (fun hc => ?_)) | refine goR ?_ | refine goP ?_ | apply PSeq.cons | apply PSeq.yes rfl rfl rfl | exact goW | fail)
  refine Cw.newbld b goPk ?_
  obtain ⟨B, rfl⟩ : ∃ B, B = b := ⟨_, rfl⟩
  refine Cw.loopI [(4, _), (12, _), (13, _)] _ (fun q e c => ∃ (k : Nat) (t : ByteArray) (p ad : Option Addr) (cap : Nat), q = n - k ∧ (k ≤ n ∧ BldI B p ad cap t ∧ t = prtT (L.take k)) ∧ e = [(14, .int k)] ∧ c = [bldB B p ad cap t, bldO ad cap t]) ⟨_, _, _, (Ent.mkP goSub goPm), 0, _, _, _, _, rfl, ⟨by omega, BldI.new B, e0.symm⟩, rfl, rfl⟩ ?_
  rintro _ _ _ ⟨k, t, pb, adb, capb, rfl, ⟨hk, hI, ht⟩, rfl, rfl⟩
  have hts := prt_take hs (k := k) (by omega)
  rw [← ht] at hts
  by_cases hkl : k < n
  rotate_left
  · have hke : t = prtT L := by rw [ht, hT]; congr 2; omega
    rw [← hke]
    rw [← hke] at hT2
    have kl := len_fn (b := B) (p := pb) (ad := adb) (cap := capb) (t := t)
    have kS := string_fn hI (by omega)
    by_cases hbig : 200000 < t.size
    · rw [if_pos hbig]
      repeat' (first | refine goH ?_ | refine goV ?_ | refine goB (fun b => ?_) | refine goI ?_ | (refine Cw.k_cond ?_; first | (refine Cw.cond_dec rfl (fun hc => ?_) (fun hc => ?_) <;> try (exfalso; omega)) | refine Cw.cond_bool rfl (fun hc => ?_) (fun hc => ?_)) | (refine Ops.k_calla ?_; first | (refine Ops.k_callf 33 ?_; refine Ops.callS kl (Evs.cons rfl Evs.nil) goPm rfl ?_)) | (apply OpW.k_call; first | (apply OpW.k_callf 33; exact OpW.callS kl (Evs.cons rfl Evs.nil) goPm)) | refine goR ?_ | refine goP ?_ | apply PSeq.cons | apply PSeq.yes rfl rfl rfl | exact goW | fail)
      exact Fin.ret (Ent.take goTk) (Outs.many rfl (OutL.cons goOe (OutL.cons goOe OutL.nil)) rfl) ⟨rfl, rfl⟩
    · rw [if_neg hbig]
      repeat' (first | refine goH ?_ | refine goV ?_ | refine goB (fun b => ?_) | refine goI ?_ | (refine Cw.k_cond ?_; first | (refine Cw.cond_dec rfl (fun hc => ?_) (fun hc => ?_) <;> try (exfalso; omega)) | refine Cw.cond_bool rfl (fun hc => ?_) (fun hc => ?_)) | (refine Ops.k_calla ?_; first | (refine Ops.k_callf 33 ?_; refine Ops.callS kl (Evs.cons rfl Evs.nil) goPm rfl ?_) | (refine Ops.k_callf 34 ?_; (refine Ops.call kS (Evs.cons rfl Evs.nil) goPm rfl ?_; rintro r cs' ⟨rfl, rfl⟩))) | (apply OpW.k_call; first | (apply OpW.k_callf 33; exact OpW.callS kl (Evs.cons rfl Evs.nil) goPm)) | refine goR ?_ | refine goP ?_ | apply PSeq.cons | apply PSeq.yes rfl rfl rfl | exact goW | fail)
      exact Fin.ret (Ent.take goTk) (Outs.many rfl (OutL.cons goOe (OutL.cons goOe OutL.nil)) rfl) ⟨rfl, rfl⟩
  obtain ⟨p, hp⟩ := at_lt (l := L) (k := k) (by omega)
  have hm := List.mem_of_getElem? hp
  obtain ⟨o1, o2⟩ := hs.ok.2 p hm
  have hbk := hs.bk p hm
  have hdy := hs.dy p hm
  have htx := hs.tx p hm
  have hky := hs.ky p hm
  have hstep := prtT_step hp
  rw [← ht] at hstep
  have hrow := (rowsF_at (flgO L) (i:=0) hp)
  have hrow2 : (intRows (L.map Ps.back))[k]? = some [Tr.int p.back] := intRows_at (by rw [List.getElem?_map, hp]; rfl)
  have z1 : (⟨#[99, 97, 110, 99, 101, 108, 32]⟩ : ByteArray).size = 7 := rfl
  have z2 : (⟨#[10]⟩ : ByteArray).size = 1 := rfl
  have z3 : (⟨#[101, 110, 116, 114, 121, 32]⟩ : ByteArray).size = 6 := rfl
  have z4 : (⟨#[32]⟩ : ByteArray).size = 1 := rfl
  have z6 : canK.size = 7 := rfl
  have z7 : nlK.size = 1 := rfl
  have z5 : (⟨#[32, 32]⟩ : ByteArray).size = 2 := rfl
  have hts2 := prt_take hs (k := k + 1) (by omega)
  rw [hstep] at hts2
  unfold rowP at hrow
  by_cases hb : 0 < p.back
  · have hi := itoaK_fn p.back (by omega) (by omega)
    have hiz := itoaK_size (x := p.back) (by omega) (by omega)
    have kw := writeString_fn hI ((canK ++ itoaK p.back) ++ nlK) (by rw [ByteArray.size_append, ByteArray.size_append]; omega)
    rw [prt1_back hb] at hstep
    repeat' (first | refine goH ?_ | (refine Ops.k_b_add ?_; first | (first | refine Ops.catB rfl rfl (by (try simp only [ByteArray.size_append]); omega) rfl ?_ | refine Ops.add (by omega) rfl rfl rfl ?_)) | refine goV ?_ | refine goB (fun b => ?_) | refine goI ?_ | (refine Cw.k_cond ?_; first | (refine Cw.cond_dec rfl (fun hc => ?_) (fun hc => ?_) <;> try (exfalso; omega)) | refine Cw.cond_bool rfl (fun hc => ?_) (fun hc => ?_)) | (refine Ops.k_calla ?_; first | (refine Ops.k_callf 32 ?_; refine Ops.callS hi (Evs.cons rfl Evs.nil) goPm rfl ?_) | (refine Ops.k_callf 31 ?_; (refine Ops.call kw (Evs.cons rfl (Evs.cons rfl Evs.nil)) goPm rfl ?_; rintro r cs' ⟨p5, ad5, cap5, hI5, rfl, rfl⟩))) | (apply OpW.k_call; first | (apply OpW.k_callf 32; exact OpW.callS hi (Evs.cons rfl Evs.nil) goPm)) | refine goR ?_ | refine goP ?_ | apply PSeq.cons | apply PSeq.yes rfl rfl rfl | exact goW | fail)
    exact ⟨_, _, _, (Ent.mk goSub goTk), ⟨k + 1, _, _, _, _, rfl, ⟨by omega, by assumption, hstep.symm⟩, rfl, rfl⟩, by omega⟩
  · rw [prt1_ent hb] at hstep
    have hi := itoaK_fn p.e.day (by omega) (by omega)
    have hiz := itoaK_size (x := p.e.day) (by omega) (by omega)
    have hhd : prtHd p.e = (((entK ++ itoaK p.e.day) ++ spK) ++ p.e.text) ++ nlK := rfl
    have hhz := prtHd_size hdy htx
    have kw := writeString_fn hI (prtHd p.e) (by omega)
    have hts3 : (t ++ prtHd p.e).size ≤ t.size + 100 := by rw [ByteArray.size_append]; omega
    have h0 := prtLs_0 (t ++ prtHd p.e) p.e.ls
    have hlr : (p.e.ls.map Ln.row).length = p.e.ls.length := List.length_map _
    rw [hhd] at kw
    repeat' (first | refine goH ?_ | refine goV ?_ | refine goB (fun b => ?_) | refine goI ?_ | (refine Cw.k_cond ?_; first | (refine Cw.cond_dec rfl (fun hc => ?_) (fun hc => ?_) <;> try (exfalso; omega)) | refine Cw.cond_bool rfl (fun hc => ?_) (fun hc => ?_)) | fail)
    refine Cw.region_seqM 11 rfl (by decide +kernel) rfl ?_
    repeat (apply PSeq.cons; first | exact goW | exact OpW.callS hi (Evs.cons rfl Evs.nil) goPm | exact OpV.w (OpV.catB rfl rfl (by (try simp only [ByteArray.size_append]); omega)))
    repeat' (first | refine goH ?_ | ((fail_if_success refine Ops.k_c_call ?_); refine goV ?_) | ((fail_if_success refine Ops.k_c_call ?_); refine goB (fun b => ?_)) | refine goI ?_ | (refine Cw.k_cond ?_; first | (refine Cw.cond_dec rfl (fun hc => ?_) (fun hc => ?_) <;> try (exfalso; omega)) | refine Cw.cond_bool rfl (fun hc => ?_) (fun hc => ?_)) | refine goR ?_ | refine goP ?_ | apply PSeq.cons | apply PSeq.yes rfl rfl rfl | exact goW | fail)
    refine Ops.call kw (Evs.cons rfl (Evs.cons rfl Evs.nil)) goPm rfl ?_; rintro r cs' ⟨p5, ad5, cap5, hI5, rfl, rfl⟩
    rw [← hhd] at hI5 ⊢
    generalize t ++ prtHd p.e = t5 at *
    clear kw hhd hI hi
    repeat' (first | refine goH ?_ | refine goV ?_ | refine goB (fun b => ?_) | refine goI ?_ | (refine Cw.k_cond ?_; first | (refine Cw.cond_dec rfl (fun hc => ?_) (fun hc => ?_) <;> try (exfalso; omega)) | refine Cw.cond_bool rfl (fun hc => ?_) (fun hc => ?_)) | refine goR ?_ | refine goP ?_ | apply PSeq.cons | apply PSeq.yes rfl rfl rfl | exact goW | fail)
    refine Cw.loopI [(4, _), (12, _), (13, _), (14, _), (41, _), (42, _)] _ (fun q e c => ∃ (j : Nat) (t' : ByteArray) (p' ad' : Option Addr) (cap' : Nat), q = p.e.ls.length - j ∧ (j ≤ p.e.ls.length ∧ BldI B p' ad' cap' t' ∧ t' = prtLs t5 (p.e.ls.take j)) ∧ e = [(43, .int j)] ∧ c = [bldB B p' ad' cap' t', bldO ad' cap' t']) ⟨_, _, _, (Ent.mkP goSub goPm), 0, _, _, _, _, rfl, ⟨by omega, hI5, h0⟩, rfl, rfl⟩ ?_
    rintro _ _ _ ⟨j, t', p', ad', cap', rfl, ⟨hj, hI, ht'⟩, rfl, rfl⟩
    have hzj := prtLs_size (t := t5) (l := p.e.ls.take j) fun x hx => ⟨hky x (List.mem_of_mem_take hx), o2 x (List.mem_of_mem_take hx)⟩
    rw [← ht', List.length_take] at hzj
    by_cases hjl : j < p.e.ls.length
    rotate_left
    · have hjj : j = p.e.ls.length := by omega
      have hn2 : t' = prtT (L.take (k + 1)) := by rw [hstep, ht', hjj]
      repeat' (first | refine goH ?_ | refine goV ?_ | refine goB (fun b => ?_) | refine goI ?_ | (refine Cw.k_cond ?_; first | (refine Cw.cond_dec rfl (fun hc => ?_) (fun hc => ?_) <;> try (exfalso; omega)) | refine Cw.cond_bool rfl (fun hc => ?_) (fun hc => ?_)) | refine goR ?_ | refine goP ?_ | apply PSeq.cons | apply PSeq.yes rfl rfl rfl | exact goW | fail)
      exact ⟨_, _, _, (Ent.mk goSub goTk), ⟨k + 1, _, _, _, _, rfl, ⟨by omega, hI, hn2⟩, rfl, rfl⟩, by omega⟩
    obtain ⟨x, hx⟩ := at_lt (l := p.e.ls) (k := j) (by omega)
    have hxm := List.mem_of_getElem? hx
    have hxk := key_size (hky x hxm)
    have hxc := o2 x hxm
    have hr2 : (p.e.ls.map Ln.row)[j]? = some [.str x.acc, .int x.c] := rows_at hx
    have hi := itoaK_fn x.c (by omega) (by omega)
    have hiz := itoaK_size (x := x.c) (by omega) (by omega)
    have hll : prtLn x = (((⟨#[32, 32]⟩ ++ x.acc) ++ spK) ++ itoaK x.c) ++ nlK := rfl
    have hlz := prtLn_size (hky x hxm) hxc
    have kw := writeString_fn hI (prtLn x) (by omega)
    have hnx : t' ++ prtLn x = prtLs t5 (p.e.ls.take (j + 1)) := by rw [prtLs_step hx, ht']
    rw [hll] at kw
    repeat' (first | refine goH ?_ | refine goV ?_ | refine goB (fun b => ?_) | refine goI ?_ | (refine Cw.k_cond ?_; first | (refine Cw.cond_dec rfl (fun hc => ?_) (fun hc => ?_) <;> try (exfalso; omega)) | refine Cw.cond_bool rfl (fun hc => ?_) (fun hc => ?_)) | fail)
    refine Cw.region_seqM 9 rfl (by decide +kernel) rfl ?_
    repeat (apply PSeq.cons; first | exact goW | exact OpW.callS hi (Evs.cons rfl Evs.nil) goPm | exact OpV.w (OpV.catB rfl rfl (by (try simp only [ByteArray.size_append]); omega)))
    repeat' (first | refine goH ?_ | ((fail_if_success refine Ops.k_c_call ?_); refine goV ?_) | ((fail_if_success refine Ops.k_c_call ?_); refine goB (fun b => ?_)) | refine goI ?_ | (refine Cw.k_cond ?_; first | (refine Cw.cond_dec rfl (fun hc => ?_) (fun hc => ?_) <;> try (exfalso; omega)) | refine Cw.cond_bool rfl (fun hc => ?_) (fun hc => ?_)) | refine goR ?_ | refine goP ?_ | apply PSeq.cons | apply PSeq.yes rfl rfl rfl | exact goW | fail)
    refine Ops.call kw (Evs.cons rfl (Evs.cons rfl Evs.nil)) goPm rfl ?_; rintro r cs' ⟨p6, ad6, cap6, hI6, rfl, rfl⟩
    rw [← hll] at hI6 ⊢
    repeat' (first | refine goH ?_ | refine goV ?_ | refine goB (fun b => ?_) | refine goI ?_ | (refine Cw.k_cond ?_; first | (refine Cw.cond_dec rfl (fun hc => ?_) (fun hc => ?_) <;> try (exfalso; omega)) | refine Cw.cond_bool rfl (fun hc => ?_) (fun hc => ?_)) | refine goR ?_ | refine goP ?_ | apply PSeq.cons | apply PSeq.yes rfl rfl rfl | exact goW | fail)
    exact ⟨_, _, _, (Ent.mk goSub goTk), ⟨j + 1, _, _, _, _, rfl, ⟨by omega, hI6, hnx⟩, rfl, rfl⟩, by omega⟩
theorem printY_fn (bx n cap bm : Nat) (ad ad2 : Option Addr) (cap2 : Nat) (L : List Ps) (hs : LSt L) (hn : n = L.length) :
    Spec Tryz.prog 9 [.ptr bx] [bkC, (ledY bx ad n cap ad2 n cap2), (ownE ad cap L), (Chunk.own ad2 cap2 1 3 (intRows (L.map Ps.back)))] (fun r cs => r = prtR L ∧ cs = [bkC, (ledY bx ad n cap ad2 n cap2), (ownE ad cap L), (Chunk.own ad2 cap2 1 3 (intRows (L.map Ps.back)))]) := by
  have hL : (rowsF (flgO L) L 0).length = n := by rw [rowsF_len, hn]
  have hL2 : (L.map enR).length = n := by rw [List.length_map, hn]
  have hL3 : (intRows (L.map Ps.back)).length = n := by rw [intRows_len, List.length_map, hn]
  have hLl := hs.ok.1
  refine Spec.body Tryz.func9 rfl rfl (Tryz.ntmps9) rfl fun w0 own0 M => ?_
  unfold prtR
  have hT : prtT L = prtT (L.take n) := by rw [hn, List.take_length]
  have hT2 := prt_take hs (k := n) (by omega)
  rw [← hT] at hT2
  have e0 : prtT (L.take 0) = ⟨#[]⟩ := by rw [List.take_zero]; with_unfolding_all rfl
  repeat' (first | refine goH ?_ | refine goV ?_ | refine goB (fun b => ?_) | refine goI ?_ | (refine Cw.k_cond ?_; first | (refine Cw.cond_dec rfl (fun hc => ?_) (fun hc => ?_) <;> try (exfalso; omega)) | refine Cw.cond_bool rfl (fun hc => ?_) (fun hc => ?_)) | refine goR ?_ | refine goP ?_ | apply PSeq.cons | apply PSeq.yes rfl rfl rfl | exact goW | fail)
  refine Cw.newbld b goPk ?_
  obtain ⟨B, rfl⟩ : ∃ B, B = b := ⟨_, rfl⟩
  refine Cw.loopI [(0, _), (4, _), (12, _), (13, _)] _ (fun q e c => ∃ (k : Nat) (t : ByteArray) (p ad : Option Addr) (cap : Nat), q = n - k ∧ (k ≤ n ∧ BldI B p ad cap t ∧ t = prtT (L.take k)) ∧ e = [(14, .int k)] ∧ c = [bldB B p ad cap t, bldO ad cap t]) ⟨_, _, _, (Ent.mkP goSub goPm), 0, _, _, _, _, rfl, ⟨by omega, BldI.new B, e0.symm⟩, rfl, rfl⟩ ?_
  rintro _ _ _ ⟨k, t, pb, adb, capb, rfl, ⟨hk, hI, ht⟩, rfl, rfl⟩
  have hts := prt_take hs (k := k) (by omega)
  rw [← ht] at hts
  by_cases hkl : k < n
  rotate_left
  · have hke : t = prtT L := by rw [ht, hT]; congr 2; omega
    rw [← hke]
    rw [← hke] at hT2
    have kl := len_fn (b := B) (p := pb) (ad := adb) (cap := capb) (t := t)
    have kS := string_fn hI (by omega)
    by_cases hbig : 200000 < t.size
    · rw [if_pos hbig]
      repeat' (first | refine goH ?_ | refine goV ?_ | refine goB (fun b => ?_) | refine goI ?_ | (refine Cw.k_cond ?_; first | (refine Cw.cond_dec rfl (fun hc => ?_) (fun hc => ?_) <;> try (exfalso; omega)) | refine Cw.cond_bool rfl (fun hc => ?_) (fun hc => ?_)) | (refine Ops.k_calla ?_; first | (refine Ops.k_callf 33 ?_; refine Ops.callS kl (Evs.cons rfl Evs.nil) goPm rfl ?_)) | (apply OpW.k_call; first | (apply OpW.k_callf 33; exact OpW.callS kl (Evs.cons rfl Evs.nil) goPm)) | refine goR ?_ | refine goP ?_ | apply PSeq.cons | apply PSeq.yes rfl rfl rfl | exact goW | fail)
      exact Fin.ret (Ent.take goTk) (Outs.many rfl (OutL.cons goOe (OutL.cons goOe OutL.nil)) rfl) ⟨rfl, rfl⟩
    · rw [if_neg hbig]
      repeat' (first | refine goH ?_ | refine goV ?_ | refine goB (fun b => ?_) | refine goI ?_ | (refine Cw.k_cond ?_; first | (refine Cw.cond_dec rfl (fun hc => ?_) (fun hc => ?_) <;> try (exfalso; omega)) | refine Cw.cond_bool rfl (fun hc => ?_) (fun hc => ?_)) | (refine Ops.k_calla ?_; first | (refine Ops.k_callf 33 ?_; refine Ops.callS kl (Evs.cons rfl Evs.nil) goPm rfl ?_) | (refine Ops.k_callf 34 ?_; (refine Ops.call kS (Evs.cons rfl Evs.nil) goPm rfl ?_; rintro r cs' ⟨rfl, rfl⟩))) | (apply OpW.k_call; first | (apply OpW.k_callf 33; exact OpW.callS kl (Evs.cons rfl Evs.nil) goPm)) | refine goR ?_ | refine goP ?_ | apply PSeq.cons | apply PSeq.yes rfl rfl rfl | exact goW | fail)
      exact Fin.ret (Ent.take goTk) (Outs.many rfl (OutL.cons goOe (OutL.cons goOe OutL.nil)) rfl) ⟨rfl, rfl⟩
  obtain ⟨p, hp⟩ := at_lt (l := L) (k := k) (by omega)
  have hm := List.mem_of_getElem? hp
  obtain ⟨o1, o2⟩ := hs.ok.2 p hm
  have hbk := hs.bk p hm
  have hdy := hs.dy p hm
  have htx := hs.tx p hm
  have hky := hs.ky p hm
  have hstep := prtT_step hp
  rw [← ht] at hstep
  have hrow := (rows_at (f:=enR) hp)
  have hrow2 : (intRows (L.map Ps.back))[k]? = some [Tr.int p.back] := intRows_at (by rw [List.getElem?_map, hp]; rfl)
  have z1 : (⟨#[99, 97, 110, 99, 101, 108, 32]⟩ : ByteArray).size = 7 := rfl
  have z2 : (⟨#[10]⟩ : ByteArray).size = 1 := rfl
  have z3 : (⟨#[101, 110, 116, 114, 121, 32]⟩ : ByteArray).size = 6 := rfl
  have z4 : (⟨#[32]⟩ : ByteArray).size = 1 := rfl
  have z6 : canK.size = 7 := rfl
  have z7 : nlK.size = 1 := rfl
  have z5 : (⟨#[32, 32]⟩ : ByteArray).size = 2 := rfl
  have hts2 := prt_take hs (k := k + 1) (by omega)
  rw [hstep] at hts2
  unfold rowP at hrow
  by_cases hb : 0 < p.back
  · have hi := itoaK_fn p.back (by omega) (by omega)
    have hiz := itoaK_size (x := p.back) (by omega) (by omega)
    have kw := writeString_fn hI ((canK ++ itoaK p.back) ++ nlK) (by rw [ByteArray.size_append, ByteArray.size_append]; omega)
    rw [prt1_back hb] at hstep
    repeat' (first | refine goH ?_ | (refine Ops.k_b_add ?_; first | (first | refine Ops.catB rfl rfl (by (try simp only [ByteArray.size_append]); omega) rfl ?_ | refine Ops.add (by omega) rfl rfl rfl ?_)) | refine goV ?_ | refine goB (fun b => ?_) | refine goI ?_ | (refine Cw.k_cond ?_; first | (refine Cw.cond_dec rfl (fun hc => ?_) (fun hc => ?_) <;> try (exfalso; omega)) | refine Cw.cond_bool rfl (fun hc => ?_) (fun hc => ?_)) | (refine Ops.k_calla ?_; first | (refine Ops.k_callf 32 ?_; refine Ops.callS hi (Evs.cons rfl Evs.nil) goPm rfl ?_) | (refine Ops.k_callf 31 ?_; (refine Ops.call kw (Evs.cons rfl (Evs.cons rfl Evs.nil)) goPm rfl ?_; rintro r cs' ⟨p5, ad5, cap5, hI5, rfl, rfl⟩))) | (apply OpW.k_call; first | (apply OpW.k_callf 32; exact OpW.callS hi (Evs.cons rfl Evs.nil) goPm)) | refine goR ?_ | refine goP ?_ | apply PSeq.cons | apply PSeq.yes rfl rfl rfl | exact goW | fail)
    exact ⟨_, _, _, (Ent.mk goSub goTk), ⟨k + 1, _, _, _, _, rfl, ⟨by omega, by assumption, hstep.symm⟩, rfl, rfl⟩, by omega⟩
  · rw [prt1_ent hb] at hstep
    have hi := itoaK_fn p.e.day (by omega) (by omega)
    have hiz := itoaK_size (x := p.e.day) (by omega) (by omega)
    have hhd : prtHd p.e = (((entK ++ itoaK p.e.day) ++ spK) ++ p.e.text) ++ nlK := rfl
    have hhz := prtHd_size hdy htx
    have kw := writeString_fn hI (prtHd p.e) (by omega)
    have hts3 : (t ++ prtHd p.e).size ≤ t.size + 100 := by rw [ByteArray.size_append]; omega
    have h0 := prtLs_0 (t ++ prtHd p.e) p.e.ls
    have hlr : (p.e.ls.map Ln.row).length = p.e.ls.length := List.length_map _
    rw [hhd] at kw
    repeat' (first | refine goH ?_ | refine goV ?_ | refine goB (fun b => ?_) | refine goI ?_ | (refine Cw.k_cond ?_; first | (refine Cw.cond_dec rfl (fun hc => ?_) (fun hc => ?_) <;> try (exfalso; omega)) | refine Cw.cond_bool rfl (fun hc => ?_) (fun hc => ?_)) | fail)
    refine Cw.region_seqM 9 rfl (by decide +kernel) rfl ?_
    repeat (apply PSeq.cons; first | exact goW | exact OpW.callS hi (Evs.cons rfl Evs.nil) goPm | exact OpV.w (OpV.catB rfl rfl (by (try simp only [ByteArray.size_append]); omega)))
    repeat' (first | refine goH ?_ | ((fail_if_success refine Ops.k_c_call ?_); refine goV ?_) | ((fail_if_success refine Ops.k_c_call ?_); refine goB (fun b => ?_)) | refine goI ?_ | (refine Cw.k_cond ?_; first | (refine Cw.cond_dec rfl (fun hc => ?_) (fun hc => ?_) <;> try (exfalso; omega)) | refine Cw.cond_bool rfl (fun hc => ?_) (fun hc => ?_)) | refine goR ?_ | refine goP ?_ | apply PSeq.cons | apply PSeq.yes rfl rfl rfl | exact goW | fail)
    refine Ops.call kw (Evs.cons rfl (Evs.cons rfl Evs.nil)) goPm rfl ?_; rintro r cs' ⟨p5, ad5, cap5, hI5, rfl, rfl⟩
    rw [← hhd] at hI5 ⊢
    generalize t ++ prtHd p.e = t5 at *
    clear kw hhd hI hi
    repeat' (first | refine goH ?_ | refine goV ?_ | refine goB (fun b => ?_) | refine goI ?_ | (refine Cw.k_cond ?_; first | (refine Cw.cond_dec rfl (fun hc => ?_) (fun hc => ?_) <;> try (exfalso; omega)) | refine Cw.cond_bool rfl (fun hc => ?_) (fun hc => ?_)) | refine goR ?_ | refine goP ?_ | apply PSeq.cons | apply PSeq.yes rfl rfl rfl | exact goW | fail)
    refine Cw.loopI [(0, _), (4, _), (12, _), (13, _), (14, _), (49, _), (50, _)] _ (fun q e c => ∃ (j : Nat) (t' : ByteArray) (p' ad' : Option Addr) (cap' : Nat), q = p.e.ls.length - j ∧ (j ≤ p.e.ls.length ∧ BldI B p' ad' cap' t' ∧ t' = prtLs t5 (p.e.ls.take j)) ∧ e = [(51, .int j)] ∧ c = [bldB B p' ad' cap' t', bldO ad' cap' t']) ⟨_, _, _, (Ent.mkP goSub goPm), 0, _, _, _, _, rfl, ⟨by omega, hI5, h0⟩, rfl, rfl⟩ ?_
    rintro _ _ _ ⟨j, t', p', ad', cap', rfl, ⟨hj, hI, ht'⟩, rfl, rfl⟩
    have hzj := prtLs_size (t := t5) (l := p.e.ls.take j) fun x hx => ⟨hky x (List.mem_of_mem_take hx), o2 x (List.mem_of_mem_take hx)⟩
    rw [← ht', List.length_take] at hzj
    by_cases hjl : j < p.e.ls.length
    rotate_left
    · have hjj : j = p.e.ls.length := by omega
      have hn2 : t' = prtT (L.take (k + 1)) := by rw [hstep, ht', hjj]
      repeat' (first | refine goH ?_ | refine goV ?_ | refine goB (fun b => ?_) | refine goI ?_ | (refine Cw.k_cond ?_; first | (refine Cw.cond_dec rfl (fun hc => ?_) (fun hc => ?_) <;> try (exfalso; omega)) | refine Cw.cond_bool rfl (fun hc => ?_) (fun hc => ?_)) | refine goR ?_ | refine goP ?_ | apply PSeq.cons | apply PSeq.yes rfl rfl rfl | exact goW | fail)
      exact ⟨_, _, _, (Ent.mk goSub goTk), ⟨k + 1, _, _, _, _, rfl, ⟨by omega, hI, hn2⟩, rfl, rfl⟩, by omega⟩
    obtain ⟨x, hx⟩ := at_lt (l := p.e.ls) (k := j) (by omega)
    have hxm := List.mem_of_getElem? hx
    have hxk := key_size (hky x hxm)
    have hxc := o2 x hxm
    have hr2 : (p.e.ls.map Ln.row)[j]? = some [.str x.acc, .int x.c] := rows_at hx
    have hi := itoaK_fn x.c (by omega) (by omega)
    have hiz := itoaK_size (x := x.c) (by omega) (by omega)
    have hll : prtLn x = (((⟨#[32, 32]⟩ ++ x.acc) ++ spK) ++ itoaK x.c) ++ nlK := rfl
    have hlz := prtLn_size (hky x hxm) hxc
    have kw := writeString_fn hI (prtLn x) (by omega)
    have hnx : t' ++ prtLn x = prtLs t5 (p.e.ls.take (j + 1)) := by rw [prtLs_step hx, ht']
    rw [hll] at kw
    repeat' (first | refine goH ?_ | refine goV ?_ | refine goB (fun b => ?_) | refine goI ?_ | (refine Cw.k_cond ?_; first | (refine Cw.cond_dec rfl (fun hc => ?_) (fun hc => ?_) <;> try (exfalso; omega)) | refine Cw.cond_bool rfl (fun hc => ?_) (fun hc => ?_)) | fail)
    refine Cw.region_seqM 9 rfl (by decide +kernel) rfl ?_
    repeat (apply PSeq.cons; first | exact goW | exact OpW.callS hi (Evs.cons rfl Evs.nil) goPm | exact OpV.w (OpV.catB rfl rfl (by (try simp only [ByteArray.size_append]); omega)))
    repeat' (first | refine goH ?_ | ((fail_if_success refine Ops.k_c_call ?_); refine goV ?_) | ((fail_if_success refine Ops.k_c_call ?_); refine goB (fun b => ?_)) | refine goI ?_ | (refine Cw.k_cond ?_; first | (refine Cw.cond_dec rfl (fun hc => ?_) (fun hc => ?_) <;> try (exfalso; omega)) | refine Cw.cond_bool rfl (fun hc => ?_) (fun hc => ?_)) | refine goR ?_ | refine goP ?_ | apply PSeq.cons | apply PSeq.yes rfl rfl rfl | exact goW | fail)
    refine Ops.call kw (Evs.cons rfl (Evs.cons rfl Evs.nil)) goPm rfl ?_; rintro r cs' ⟨p6, ad6, cap6, hI6, rfl, rfl⟩
    rw [← hll] at hI6 ⊢
    repeat' (first | refine goH ?_ | refine goV ?_ | refine goB (fun b => ?_) | refine goI ?_ | (refine Cw.k_cond ?_; first | (refine Cw.cond_dec rfl (fun hc => ?_) (fun hc => ?_) <;> try (exfalso; omega)) | refine Cw.cond_bool rfl (fun hc => ?_) (fun hc => ?_)) | refine goR ?_ | refine goP ?_ | apply PSeq.cons | apply PSeq.yes rfl rfl rfl | exact goW | fail)
    exact ⟨_, _, _, (Ent.mk goSub goTk), ⟨j + 1, _, _, _, _, rfl, ⟨by omega, hI6, hnx⟩, rfl, rfl⟩, by omega⟩
end Lg
end
