/- A part of the proof of a law of this seat: it adds no condition. By an AI agent. -/
import Derived.Test.YteidkgalobokbaaDoorItoaT
section
set_option linter.all false
set_option maxRecDepth 100000
set_option maxHeartbeats 4000000
namespace Lg
open Go Go.Proofs

/-! ### strings.Builder -/
abbrev bldB (b : Nat) (p ad : Option Addr) (cap : Nat) (t : ByteArray) : Chunk := Chunk.box b 74 [.raw (.pointer p), .raw (.slice ad t.size cap)]
abbrev bldO (ad : Option Addr) (cap : Nat) (t : ByteArray) : Chunk := Chunk.own ad cap 1 5 (bytR t)
structure BldI (b : Nat) (p ad : Option Addr) (cap : Nat) (t : ByteArray) : Prop where
  p : p = none ∨ p = some ⟨b, 0, none⟩
  n : ad ≠ none → t.size ≠ 0
theorem BldI.new (b : Nat) : BldI b none none 0 ⟨#[]⟩ := ⟨.inl rfl, fun h => absurd rfl h⟩
theorem str_emptyB (s : ByteArray) : s.size = 0 ↔ s = ⟨#[]⟩ := by
  constructor
  · intro h
    apply ByteArray.ext
    apply Array.eq_empty_of_size_eq_zero
    simpa using h
  · rintro rfl; rfl
theorem Cw.newbld {Γ : Ctx} {env : Env} {cs cf : List Chunk} {Q : Post} {c : Code} (b : Nat) (hp : cs.Perm (Chunk.box b 74 [.raw (.pointer none), .raw (.slice none 0 0)] :: cf)) (h : Cw Tryd.prog Γ c env (bldB b none none 0 ⟨#[]⟩ :: bldO none 0 ⟨#[]⟩ :: cf) Q) : Cw Tryd.prog Γ c env cs Q := by
  refine Cw.ent ((Ent.perm hp).trans ((Ent.nil 1 5).trans ?_)) h
  exact Ent.perm (List.Perm.swap _ _ _)
theorem noEscape_ext (v : Value) (w : World) : (callFunc 56 #[v]).run Tryd.prog w = .ok (.value v) w := rfl
theorem builder_info : ∃ j, Tryd.prog.info? 74 = some j ∧ j.size ≠ 0 := ⟨_, rfl, by decide⟩
theorem builder_info2 : ∃ j, Tryd.prog.info? 74 = some j := ⟨_, rfl⟩
theorem copyCheck_fn {b : Nat} {p ad : Option Addr} {cap : Nat} {t : ByteArray} (h : BldI b p ad cap t) : Spec Tryd.prog 53 [.ptr b] [bldB b p ad cap t] (fun r cs => r = .tup [] ∧ cs = [bldB b (some ⟨b, 0, none⟩) ad cap t]) := by
  obtain ⟨hp, _⟩ := h
  refine Spec.body Tryd.func53 rfl rfl (Tryd.ntmps53) rfl fun w0 own0 M => ?_
  rcases hp with rfl | rfl
  · repeat' (first | refine goH ?_ | (refine Ops.k_b_eql ?_; first | (refine Ops.val' rfl (OpV.eql_pn (b := true) rfl rfl builder_info rfl rfl) ?_)) | (refine Ops.k_convert ?_; first | (first | refine Ops.val' rfl (OpV.toUns (E := 74) rfl rfl builder_info rfl goPk (by simp)) ?_ | refine Ops.val' rfl (OpV.frUns (E := 74) (n := 2) rfl rfl builder_info2 rfl goPk (by decide +kernel) rfl) ?_)) | (refine Ops.k_b_neq ?_; first | (refine Ops.val' rfl (OpV.neq_pp rfl builder_info rfl rfl) ?_)) | refine goV ?_ | refine goI ?_ | (refine Cw.k_cond ?_; first | (refine Cw.cond_dec rfl (fun hc => ?_) (fun hc => ?_) <;> try (exfalso; omega)) | refine Cw.cond_bool rfl (fun hc => ?_) (fun hc => ?_)) | (refine Ops.ext1 (noEscape_ext _) rfl rfl ?_) | fail)
    all_goals exact Fin.norm (Ent.take goTk) (Outs.zero rfl) ⟨rfl, rfl⟩
  · repeat' (first | refine goH ?_ | (refine Ops.k_b_eql ?_; first | (refine Ops.val' rfl (OpV.eql_pn (b := false) rfl rfl builder_info rfl rfl) ?_)) | (refine Ops.k_b_neq ?_; first | (refine Ops.val' rfl (OpV.neq_pp rfl builder_info rfl rfl) ?_)) | refine goV ?_ | refine goI ?_ | (refine Cw.k_cond ?_; first | (refine Cw.cond_dec rfl (fun hc => ?_) (fun hc => ?_) <;> try (exfalso; omega)) | refine Cw.cond_bool rfl (fun hc => ?_) (fun hc => ?_)) | fail)
    all_goals exact Fin.norm (Ent.take goTk) (Outs.zero rfl) ⟨rfl, rfl⟩
theorem writeString_fn {b : Nat} {p ad : Option Addr} {cap : Nat} {t : ByteArray} (h : BldI b p ad cap t) (s : ByteArray) (hs : t.size + s.size ≤ 1000000000) : Spec Tryd.prog 43 [.ptr b, .str s] [bldB b p ad cap t, bldO ad cap t] (fun r cs => ∃ p2 ad2 cap2, BldI b p2 ad2 cap2 (t ++ s) ∧ r = .tup [.int s.size, .raw .nilIface] ∧ cs = [bldB b p2 ad2 cap2 (t ++ s), bldO ad2 cap2 (t ++ s)]) := by
  have k := copyCheck_fn h
  obtain ⟨_, hn⟩ := h
  have hsz : (t ++ s).size = t.size + s.size := ByteArray.size_append
  refine Spec.body Tryd.func43 rfl rfl (Tryd.ntmps43) rfl fun w0 own0 M => ?_
  by_cases had : ad = none
  · subst had
    refine Cw.own_none goPk ?_
    intro hr hc0
    have ht : t.size = 0 := by rw [← bytR_len, hr]; rfl
    clear hr
    repeat' (first | refine goH ?_ | refine goV ?_ | refine goC (fun ad cap => ?_) | refine goI ?_ | (refine Cw.k_cond ?_; first | (refine Cw.cond_dec rfl (fun hc => ?_) (fun hc => ?_) <;> try (exfalso; omega)) | refine Cw.cond_bool rfl (fun hc => ?_) (fun hc => ?_)) | (refine Ops.append_str (E := 5) rfl rfl rfl rfl goPk rfl (by omega) rfl ?_; intro ad2 cap2 hnil) | (refine Ops.k_calla ?_; first | (refine Ops.k_callf 53 ?_; (refine Ops.call k (Evs.cons rfl Evs.nil) goPm rfl ?_; rintro r cs' ⟨rfl, rfl⟩))) | fail)
    refine Fin.ret (Ent.take goTk) (Outs.two rfl rfl rfl) ⟨_, ad2, cap2, ⟨.inr rfl, fun h => ?_⟩, rfl, rfl⟩
    have := hnil rfl
    by_cases h0 : t.size + s.size = 0
    · exact absurd (this h0).1 h
    · omega
  · have := hn had
    repeat' (first | refine goH ?_ | refine goV ?_ | refine goC (fun ad cap => ?_) | refine goI ?_ | (refine Cw.k_cond ?_; first | (refine Cw.cond_dec rfl (fun hc => ?_) (fun hc => ?_) <;> try (exfalso; omega)) | refine Cw.cond_bool rfl (fun hc => ?_) (fun hc => ?_)) | (refine Ops.append_str (E := 5) rfl rfl rfl rfl goPk rfl (by omega) rfl ?_; intro ad2 cap2 hnil) | (refine Ops.k_calla ?_; first | (refine Ops.k_callf 53 ?_; (refine Ops.call k (Evs.cons rfl Evs.nil) goPm rfl ?_; rintro r cs' ⟨rfl, rfl⟩))) | fail)
    exact Fin.ret (Ent.take goTk) (Outs.two rfl rfl rfl) ⟨_, ad2, cap2, ⟨.inr rfl, fun h => by omega⟩, rfl, rfl⟩
theorem string_fn {b : Nat} {p ad : Option Addr} {cap : Nat} {t : ByteArray} (h : BldI b p ad cap t) (ht : t.size ≤ 1000000000) : Spec Tryd.prog 44 [.ptr b] [bldB b p ad cap t, bldO ad cap t] (fun r cs => r = .str t ∧ cs = []) := by
  obtain ⟨_, hn⟩ := h
  refine Spec.body Tryd.func44 rfl rfl (Tryd.ntmps44) rfl fun w0 own0 M => ?_
  by_cases had : ad = none
  · subst had
    refine Cw.own_none goPk ?_
    intro hr hc0
    have ht : t = ⟨#[]⟩ := (str_emptyB t).1 (by rw [← bytR_len, hr]; rfl)
    subst ht
    repeat' (first | refine goH ?_ | refine goV ?_ | refine goI ?_ | (refine Cw.k_cond ?_; first | (refine Cw.cond_dec rfl (fun hc => ?_) (fun hc => ?_) <;> try (exfalso; omega)) | refine Cw.cond_bool rfl (fun hc => ?_) (fun hc => ?_)) | fail)
    refine Cw.region_seqM 10 rfl (by decide +kernel) rfl ?_
    repeat' (first | refine goH ?_ | refine goV ?_ | refine goI ?_ | (refine Cw.k_cond ?_; first | (refine Cw.cond_dec rfl (fun hc => ?_) (fun hc => ?_) <;> try (exfalso; omega)) | refine Cw.cond_bool rfl (fun hc => ?_) (fun hc => ?_)) | exact OpV.w (OpV.sdata_none rfl) | (refine Ops.ustr_none rfl rfl rfl ?_) | refine goR ?_ | refine goP ?_ | apply PSeq.cons | apply PSeq.yes rfl rfl rfl | exact goW | fail)
    exact Fin.ret (Ent.take goTk) (Outs.one rfl rfl) ⟨rfl, rfl⟩
  · have h0 := hn had
    refine Cw.own_form goPk (by rw [bytR_len]; omega) ?_
    rintro g rfl h1 h2
    rw [bytR_len] at h1
    repeat' (first | refine goH ?_ | refine goV ?_ | refine goI ?_ | (refine Cw.k_cond ?_; first | (refine Cw.cond_dec rfl (fun hc => ?_) (fun hc => ?_) <;> try (exfalso; omega)) | refine Cw.cond_bool rfl (fun hc => ?_) (fun hc => ?_)) | fail)
    refine Cw.region_seqM 10 rfl (by decide +kernel) rfl ?_
    repeat' (first | refine goH ?_ | refine goV ?_ | refine goI ?_ | (refine Cw.k_cond ?_; first | (refine Cw.cond_dec rfl (fun hc => ?_) (fun hc => ?_) <;> try (exfalso; omega)) | refine Cw.cond_bool rfl (fun hc => ?_) (fun hc => ?_)) | exact OpV.w (OpV.sdata_some rfl (by omega)) | (refine Ops.ustr (s := t) rfl rfl rfl rfl rfl h0 goPk rfl ?_) | refine goR ?_ | refine goP ?_ | apply PSeq.cons | apply PSeq.yes rfl rfl rfl | exact goW | fail)
    exact Fin.ret (Ent.take goTk) (Outs.one rfl rfl) ⟨rfl, rfl⟩
end Lg
end
section
set_option linter.all false
set_option maxRecDepth 100000
set_option maxHeartbeats 4000000
namespace Lg
open Go Go.Proofs

/-! ### two digits -/
theorem bs_app (a b : List UInt8) : (⟨a.toArray⟩ ++ ⟨b.toArray⟩ : ByteArray) = ⟨(a ++ b).toArray⟩ := by
  apply ByteArray.ext
  rw [ByteArray.data_append]
  apply Array.ext'
  simp
def digB (d : Int) : UInt8 := UInt8.ofNat (48 + d.toNat)
def twoL (n : Int) : List UInt8 := if n < 10 then [48, digB n] else if n < 100 then [digB (n / 10), digB (n % 10)] else [digB (n / 100), digB (n / 10 % 10), digB (n % 10)]
def twoS (n : Int) : ByteArray := ⟨(twoL n).toArray⟩
theorem twoL_len (n : Int) : 2 ≤ (twoL n).length ∧ (twoL n).length ≤ 3 := by
  unfold twoL
  split
  · simp
  split <;> simp
theorem itoa_two (n : Int) (h0 : 0 ≤ n) (h1 : n < 1000) : Lib.itoa n = if n < 10 then [digB n] else twoL n := by
  obtain ⟨m, rfl⟩ := Int.eq_ofNat_of_zero_le h0
  unfold Lib.itoa
  rw [if_neg (by omega), Int.toNat_natCast]
  by_cases h : (m : Int) < 10
  · rw [if_pos h, Lib.decDigits, dif_pos (by omega)]
    unfold digB
    rw [Int.toNat_natCast]
  rw [if_neg h]
  unfold twoL
  rw [if_neg h]
  by_cases h2 : (m : Int) < 100
  · rw [if_pos h2, Lib.decDigits, dif_neg (by omega), Lib.decDigits, dif_pos (by omega)]
    unfold digB
    rw [show ((m : Int) / 10).toNat = m / 10 by omega, show ((m : Int) % 10).toNat = m % 10 by omega]
    rfl
  · rw [if_neg h2, Lib.decDigits, dif_neg (by omega), Lib.decDigits, dif_neg (by omega), Lib.decDigits, dif_pos (by omega)]
    unfold digB
    rw [show ((m : Int) / 100).toNat = m / 10 / 10 by omega, show ((m : Int) / 10 % 10).toNat = m / 10 % 10 by omega, show ((m : Int) % 10).toNat = m % 10 by omega]
    rfl
theorem twoD_fn (n : Int) (h0 : 0 ≤ n) (h1 : n < 1000) : Spec Tryd.prog 41 [.int n] [tab10] (fun r cs => r = .str (twoS n) ∧ cs = [tab10]) := by
  have k := itoa_fn n (by omega) (by omega)
  unfold itoaS at k
  rw [itoa_two n h0 h1] at k
  have hcat : (⟨#[48]⟩ ++ ⟨[digB n].toArray⟩ : ByteArray) = ⟨[48, digB n].toArray⟩ := bs_app [48] [digB n]
  refine Spec.body Tryd.func41 rfl rfl (Tryd.ntmps41) rfl fun w0 own0 M => ?_
  unfold twoS
  by_cases h : n < 10
  · rw [if_pos h] at k
    repeat' (first | refine goH ?_ | (refine Ops.k_b_add ?_; first | (refine Ops.val' rfl (OpV.catS rfl rfl (by simp [ByteArray.size])) ?_)) | refine goV ?_ | refine goI ?_ | (refine Cw.k_cond ?_; first | (refine Cw.cond_dec rfl (fun hc => ?_) (fun hc => ?_) <;> try (exfalso; omega)) | refine Cw.cond_bool rfl (fun hc => ?_) (fun hc => ?_)) | (refine Ops.k_calla ?_; first | (refine Ops.k_callf 42 ?_; (refine Ops.callS k (Evs.cons rfl Evs.nil) goPm rfl ?_))) | fail)
    refine Fin.ret Ent.refl (Outs.one rfl rfl) ⟨?_, rfl⟩
    rw [hcat]
    unfold twoL
    rw [if_pos h]
  · rw [if_neg h] at k
    repeat' (first | refine goH ?_ | (refine Ops.k_b_add ?_; first | (refine Ops.val' rfl (OpV.catS rfl rfl (by decide)) ?_)) | refine goV ?_ | refine goI ?_ | (refine Cw.k_cond ?_; first | (refine Cw.cond_dec rfl (fun hc => ?_) (fun hc => ?_) <;> try (exfalso; omega)) | refine Cw.cond_bool rfl (fun hc => ?_) (fun hc => ?_)) | (refine Ops.k_calla ?_; first | (refine Ops.k_callf 42 ?_; (refine Ops.callS k (Evs.cons rfl Evs.nil) goPm rfl ?_))) | fail)
    exact Fin.ret (Ent.take goTk) (Outs.one rfl rfl) ⟨rfl, rfl⟩

theorem enc_dig (d : Int) (h0 : 0 ≤ d) (h1 : d ≤ 9) : Utf8.encode (48 + d) = ⟨[digB d].toArray⟩ := by
  obtain ⟨m, rfl⟩ := Int.eq_ofNat_of_zero_le h0
  have : ∀ m : Nat, m ≤ 9 → Utf8.encode (48 + (m : Int)) = ⟨[digB (m : Int)].toArray⟩ := by decide +kernel
  exact this m (by omega)
def wrL : Nat → Nat → List UInt8 → List UInt8
  | 0, _, l => l
  | q + 1, m, l => if 0 < m ∨ l.length < 2 then wrL q (m / 10) (digB ((m % 10 : Nat) : Int) :: l) else l
theorem wrL_two (f m : Nat) (h : m < 1000) : wrL (f + 4) m [] = twoL m := by
  unfold twoL
  by_cases h1 : (m : Int) < 10
  · rw [if_pos h1]
    have e : m / 10 = 0 := by omega
    have e2 : m % 10 = m := by omega
    simp [wrL, e, e2]
    all_goals rfl
  rw [if_neg h1]
  by_cases h2 : (m : Int) < 100
  · rw [if_pos h2]
    have e : m / 10 / 10 = 0 := by omega
    have e2 : m / 10 % 10 = m / 10 := by omega
    have e3 : 0 < m := by omega
    have e4 : 0 < m / 10 := by omega
    simp only [wrL, e, e2, if_pos (Or.inl e3), if_pos (Or.inl e4)]
    simp
  · rw [if_neg h2]
    have e : m / 10 / 10 / 10 = 0 := by omega
    have e2 : m / 10 / 10 % 10 = m / 10 / 10 := by omega
    have e3 : 0 < m := by omega
    have e4 : 0 < m / 10 := by omega
    have e5 : 0 < m / 10 / 10 := by omega
    simp only [wrL, e, e2, if_pos (Or.inl e3), if_pos (Or.inl e4), if_pos (Or.inl e5)]
    simp
    rw [show ((m : Int) / 100) = ((m / 10 / 10 : Nat) : Int) by omega, show ((m : Int) / 10 / 10) = ((m / 10 / 10 : Nat) : Int) by omega]
theorem twoR_fn (n : Int) (h0 : 0 ≤ n) (h1 : n < 1000) : PFn Tryd.prog 46 [.int n] (· = .str (twoS n)) := by
  obtain ⟨m0, rfl⟩ := Int.eq_ofNat_of_zero_le h0
  have hfin : wrL (m0 + 4) m0 [] = twoL m0 := wrL_two m0 m0 (by omega)
  refine PFn.mk (Spec.body Tryd.func46 rfl rfl (Tryd.ntmps46) rfl fun w0 own0 M => ?_)
  repeat' (first | refine goH ?_ | refine goV ?_ | refine goG ?_ | (refine Ops.k_guard ?_; first | (refine Ops.guard_dec rfl rfl (fun hc => ?_) (fun hc => ?_) <;> try (exfalso; omega)) | refine Ops.guard_split rfl rfl (fun hc => ?_) (fun hc => ?_)) | refine goI ?_ | (refine Cw.k_cond ?_; first | (refine Cw.cond_dec rfl (fun hc => ?_) (fun hc => ?_) <;> try (exfalso; omega)) | refine Cw.cond_bool rfl (fun hc => ?_) (fun hc => ?_)) | fail)
  refine Cw.loopI [] _ (fun q e c => ∃ (f m : Nat) (l : List UInt8), q = f ∧ (wrL f m l = twoL m0 ∧ m < 1000 ∧ l.length + f ≤ m0 + 4 ∧ m + (2 - l.length) + 1 ≤ f) ∧ e = [(0, .int m), (3, .str ⟨l.toArray⟩)] ∧ c = []) ⟨_, _, _, (Ent.mkP goSub goPm), m0 + 4, m0, [], rfl, ⟨hfin, by omega, by simp, by simp⟩, rfl, rfl⟩ ?_
  rintro n _ _ ⟨f, m, l, rfl, ⟨hw, hm, hl, hf⟩, rfl, rfl⟩
  have hsz : (⟨l.toArray⟩ : ByteArray).size = l.length := by simp [ByteArray.size]
  have he := enc_dig ((m : Int) % 10) (by omega) (by omega)
  have ha := bs_app [digB ((m : Int) % 10)] l
  have hcs : (Utf8.encode (48 + (m : Int) % 10)).size + (⟨l.toArray⟩ : ByteArray).size ≤ 1000000 := by rw [he, hsz]; simp [ByteArray.size]; omega
  by_cases hc : 0 < m ∨ l.length < 2
  · have h1 : 0 < m ∨ (⟨l.toArray⟩ : ByteArray).size < 2 := by rw [hsz]; exact hc
    obtain ⟨f, rfl⟩ : ∃ f', n = f' + 1 := ⟨n - 1, by omega⟩
    rw [wrL, if_pos hc] at hw
    have hmi : ((m : Int) / 10) = ((m / 10 : Nat) : Int) := by omega
    have hmi2 : ((m : Int) % 10) = ((m % 10 : Nat) : Int) := by omega
    have hle : (digB ((m % 10 : Nat) : Int) :: l).length = l.length + 1 := rfl
    rcases h1 with h1 | h1
    all_goals
      repeat' (first | refine goH ?_ | (refine Ops.k_b_add ?_; first | (refine Ops.val' rfl (OpV.catS rfl rfl hcs) ?_)) | (refine Ops.k_convert ?_; first | (first | refine Ops.convN Tryd.underlying3 Tryd.underlying21 rfl (wrap_i32 (by omega)) rfl ?_ | refine Ops.val' rfl (OpV.convS Tryd.underlying21 Tryd.underlying9 rfl) ?_)) | refine goV ?_ | refine goG ?_ | (refine Ops.k_guard ?_; first | (refine Ops.guard_dec rfl rfl (fun hc => ?_) (fun hc => ?_) <;> try (exfalso; omega)) | refine Ops.guard_split rfl rfl (fun hc => ?_) (fun hc => ?_)) | refine goI ?_ | (refine Cw.k_cond ?_; first | (refine Cw.cond_dec rfl (fun hc => ?_) (fun hc => ?_) <;> try (exfalso; omega)) | refine Cw.cond_bool rfl (fun hc => ?_) (fun hc => ?_)) | fail)
      all_goals
        rw [he, ha, hmi, hmi2]
        exact ⟨_, _, _, (Ent.mk goSub goTk), ⟨f, m / 10, digB ((m % 10 : Nat) : Int) :: l, rfl, ⟨hw, by omega, by omega, by omega⟩, rfl, rfl⟩, by omega⟩
  · repeat' (first | refine goH ?_ | refine goV ?_ | refine goG ?_ | (refine Ops.k_guard ?_; first | (refine Ops.guard_dec rfl rfl (fun hc => ?_) (fun hc => ?_) <;> try (exfalso; omega)) | refine Ops.guard_split rfl rfl (fun hc => ?_) (fun hc => ?_)) | refine goI ?_ | (refine Cw.k_cond ?_; first | (refine Cw.cond_dec rfl (fun hc => ?_) (fun hc => ?_) <;> try (exfalso; omega)) | refine Cw.cond_bool rfl (fun hc => ?_) (fun hc => ?_)) | fail)
    refine Fin.ret (Ent.take goTk) (Outs.one rfl rfl) ⟨rfl, ?_⟩
    have : wrL n m l = l := by
      cases n with
      | zero => rfl
      | succ n => rw [wrL, if_neg (by omega)]
    rw [this] at hw
    unfold twoS
    rw [hw]
end Lg
end
section
set_option linter.all false
set_option maxRecDepth 100000
set_option maxHeartbeats 8000000
namespace Lg
open Go Go.Proofs

/-! ### the text of a tour -/
def lineS (b : Int) (k : ByteArray) : ByteArray := ((((twoS (b / 60) ++ ⟨#[58]⟩) ++ twoS (b % 60)) ++ ⟨#[32]⟩) ++ k) ++ ⟨#[10]⟩
def tourS : List Stop → List Int → ByteArray → ByteArray
  | s :: l, b :: bs, t => tourS l bs (t ++ lineS b s.key)
  | _, _, t => t
theorem tourS_at {l : List Stop} {bs : List Int} {k : Nat} {s : Stop} {b : Int} (hs : l[k]? = some s) (hb : bs[k]? = some b) (t : ByteArray) : tourS (l.drop k) (bs.drop k) t = tourS (l.drop (k + 1)) (bs.drop (k + 1)) (t ++ lineS b s.key) := by
  rw [List.drop_eq_getElem_cons (List.getElem?_eq_some_iff.1 hs).1, List.drop_eq_getElem_cons (List.getElem?_eq_some_iff.1 hb).1, (List.getElem?_eq_some_iff.1 hs).2, (List.getElem?_eq_some_iff.1 hb).2]
  rfl
theorem tourS_end {l : List Stop} {bs : List Int} {k : Nat} (h : l.length ≤ k) (t : ByteArray) : tourS (l.drop k) (bs.drop k) t = t := by
  rw [List.drop_eq_nil_of_le h]
  cases bs.drop k <;> rfl
theorem twoS_size (n : Int) : (twoS n).size ≤ 3 := by
  have := (twoL_len n).2
  unfold twoS
  simpa [ByteArray.size] using this
theorem lineS_size (b : Int) (k : ByteArray) : (lineS b k).size ≤ k.size + 9 := by
  have h1 := twoS_size (b / 60)
  have h2 := twoS_size (b % 60)
  unfold lineS
  simp only [ByteArray.size_append]
  have e1 : (⟨#[58]⟩ : ByteArray).size = 1 := rfl
  have e2 : (⟨#[32]⟩ : ByteArray).size = 1 := rfl
  have e3 : (⟨#[10]⟩ : ByteArray).size = 1 := rfl
  omega
theorem stops_keys {l : List Stop} (h : stopsE l = 0) : ∀ s ∈ l, s.key.size ≤ 1000 := by
  unfold stopsE at h
  by_cases h0 : l.length > 60
  · rw [if_pos h0] at h; cases h
  rw [if_neg h0] at h
  intro s hs
  obtain ⟨k, hk⟩ := List.getElem?_of_mem hs
  have hlt := (List.getElem?_eq_some_iff.1 hk).1
  have h1 := firstE_zero h k (by omega) (by omega)
  unfold stopE at h1
  rw [hk] at h1
  simp only at h1
  cases hq : isKey s.key with
  | false => rw [if_pos hq] at h1; cases h1
  | true =>
    unfold isKey at hq
    have := of_decide_eq_true hq
    omega
attribute [local irreducible] twoS intRows
theorem printD_fn (l : List Stop) (bs : List Int) (e w q : Int) (hl : l.length ≤ 1000) (hb : bs.length ≤ 1000) : Spec Tryd.prog 16 [.stops l, .tour bs e w q] [tab10] (fun r cs => r = .tup [.str (if tourE l bs = 0 then tourS l bs ⟨#[]⟩ else ⟨#[]⟩), .int (tourE l bs)] ∧ cs = [tab10]) := by
  have k1 := checkStops_fn l hl
  have hL : (l.map Stop.row).length = l.length := List.length_map _
  have hbR := intRows_len bs
  have k2 : Spec Tryd.prog 39 [.ints bs, Tr.raw (.func (.func 40) #[] #[])] [] (fun r cs => r = .bool (bs.any begB) ∧ cs = []) := by
    unfold Tr.ints intRows
    exact containsFunc_int (cin := []) (caps := []) (g := 40) (p := begB) (l := bs) (by omega) (fun n _ => (begD_fn n).lend)
  unfold tourE
  refine Spec.body Tryd.func16 rfl rfl (Tryd.ntmps16) rfl fun w0 own0 M => ?_
  by_cases h1 : stopsE l ≠ 0
  · rw [if_pos h1]
    clear k2
    generalize stopsE l = z at *
    repeat' (first | refine goH ?_ | refine goV ?_ | refine goB (fun b => ?_) | refine goI ?_ | (refine Cw.k_cond ?_; first | (refine Cw.cond_dec rfl (fun hc => ?_) (fun hc => ?_) <;> try (exfalso; omega)) | refine Cw.cond_bool rfl (fun hc => ?_) (fun hc => ?_)) | (refine Ops.k_calla ?_; first | (refine Ops.k_callf 9 ?_; refine Ops.callV k1 (Evs.cons rfl Evs.nil) rfl ?_)) | (apply OpW.k_call; first | (apply OpW.k_callf 9; exact OpW.callV k1 (Evs.cons rfl Evs.nil))) | refine goR ?_ | refine goP ?_ | apply PSeq.cons | apply PSeq.yes rfl rfl rfl | exact goW | fail)
    exact Fin.ret (Ent.take goTk) (Outs.two rfl rfl rfl) ⟨by rw [if_neg h1], rfl⟩
  rw [if_neg h1]
  have hk := stops_keys (show stopsE l = 0 by omega)
  rw [show stopsE l = 0 by omega] at k1
  by_cases h2 : bs.length ≠ l.length
  · rw [if_pos h2]
    clear k2
    repeat' (first | refine goH ?_ | refine goV ?_ | refine goB (fun b => ?_) | refine goI ?_ | (refine Cw.k_cond ?_; first | (refine Cw.cond_dec rfl (fun hc => ?_) (fun hc => ?_) <;> try (exfalso; omega)) | refine Cw.cond_bool rfl (fun hc => ?_) (fun hc => ?_)) | (refine Ops.k_calla ?_; first | (refine Ops.k_callf 9 ?_; refine Ops.callV k1 (Evs.cons rfl Evs.nil) rfl ?_)) | (apply OpW.k_call; first | (apply OpW.k_callf 9; exact OpW.callV k1 (Evs.cons rfl Evs.nil))) | refine goR ?_ | refine goP ?_ | apply PSeq.cons | apply PSeq.yes rfl rfl rfl | exact goW | fail)
    exact Fin.ret (Ent.take goTk) (Outs.two rfl rfl rfl) ⟨rfl, rfl⟩
  rw [if_neg h2]
  cases h3 : bs.any begB
  rotate_left
  · rw [h3] at k2
    rw [if_pos rfl]
    repeat' (first | refine goH ?_ | refine goV ?_ | refine goB (fun b => ?_) | refine goI ?_ | (refine Cw.k_cond ?_; first | (refine Cw.cond_dec rfl (fun hc => ?_) (fun hc => ?_) <;> try (exfalso; omega)) | refine Cw.cond_bool rfl (fun hc => ?_) (fun hc => ?_)) | (refine Ops.k_calla ?_; first | (refine Ops.k_callf 9 ?_; refine Ops.callV k1 (Evs.cons rfl Evs.nil) rfl ?_) | (refine Ops.k_callf 39 ?_; (refine Ops.callS k2 (Evs.cons rfl (Evs.cons rfl Evs.nil)) goPm rfl ?_))) | (apply OpW.k_call; first | (apply OpW.k_callf 9; exact OpW.callV k1 (Evs.cons rfl Evs.nil)) | (apply OpW.k_callf 39; exact OpW.callS k2 (Evs.cons rfl (Evs.cons rfl Evs.nil)) goPm)) | refine goR ?_ | refine goP ?_ | apply PSeq.cons | apply PSeq.yes rfl rfl rfl | exact goW | fail)
    exact Fin.ret (Ent.take goTk) (Outs.two rfl rfl rfl) ⟨rfl, rfl⟩
  rw [h3] at k2
  rw [if_neg Bool.false_ne_true]
  have hany : ∀ x ∈ bs, 0 ≤ x ∧ x ≤ 14400 := fun x hx => by
    have := List.any_eq_false.1 h3 x hx
    simp [begB] at this
    omega
  repeat' (first | refine goH ?_ | refine goV ?_ | refine goB (fun b => ?_) | refine goI ?_ | (refine Cw.k_cond ?_; first | (refine Cw.cond_dec rfl (fun hc => ?_) (fun hc => ?_) <;> try (exfalso; omega)) | refine Cw.cond_bool rfl (fun hc => ?_) (fun hc => ?_)) | (refine Ops.k_calla ?_; first | (refine Ops.k_callf 9 ?_; refine Ops.callV k1 (Evs.cons rfl Evs.nil) rfl ?_) | (refine Ops.k_callf 39 ?_; (refine Ops.callS k2 (Evs.cons rfl (Evs.cons rfl Evs.nil)) goPm rfl ?_))) | (apply OpW.k_call; first | (apply OpW.k_callf 9; exact OpW.callV k1 (Evs.cons rfl Evs.nil)) | (apply OpW.k_callf 39; exact OpW.callS k2 (Evs.cons rfl (Evs.cons rfl Evs.nil)) goPm)) | refine goR ?_ | refine goP ?_ | apply PSeq.cons | apply PSeq.yes rfl rfl rfl | exact goW | fail)
  refine Cw.newbld b goPk ?_
  clear k1 k2
  refine Cw.loopI [(0, _), (7, _), (8, _), (26, _), (27, _)] _ (fun n e c => ∃ (k : Nat) (t : ByteArray) (p ad : Option Addr) (cap : Nat), n = l.length - k ∧ (k ≤ l.length ∧ BldI b p ad cap t ∧ t.size ≤ k * 1009 ∧ tourS (l.drop k) (bs.drop k) t = tourS l bs ⟨#[]⟩) ∧ e = [(28, .int k)] ∧ c = [bldB b p ad cap t, bldO ad cap t]) ⟨_, _, _, (Ent.mkP goSub goPm), 0, ⟨#[]⟩, none, none, 0, rfl, ⟨by omega, BldI.new b, by simp [ByteArray.size], rfl⟩, rfl, rfl⟩ ?_
  rintro n _ _ ⟨k, t, p, ad, cap, rfl, ⟨hkl, hI, hts, hT⟩, rfl, rfl⟩
  by_cases hc : k < l.length
  · obtain ⟨s, hs⟩ : ∃ s, l[k]? = some s := ⟨_, List.getElem?_eq_getElem hc⟩
    obtain ⟨y, hy⟩ : ∃ y, bs[k]? = some y := ⟨_, List.getElem?_eq_getElem (by omega)⟩
    have hsm := hk s (List.mem_of_getElem? hs)
    have hyb := hany y (List.mem_of_getElem? hy)
    have hr1 : (l.map Stop.row)[k]? = some s.row := by rw [List.getElem?_map, hs]; rfl
    have hr2 : (intRows bs)[k]? = some [Tr.int y] := intRows_at hy
    have hls := lineS_size y s.key
    have kw := writeString_fn hI (lineS y s.key) (by omega)
    have kA := twoD_fn (y / 60) (by omega) (by omega)
    have kB := twoD_fn (y % 60) (by omega) (by omega)
    have hz1 := twoS_size (y / 60)
    have hz2 := twoS_size (y % 60)
    have e1 : (⟨#[58]⟩ : ByteArray).size = 1 := rfl
    have e2 : (⟨#[32]⟩ : ByteArray).size = 1 := rfl
    have e3 : (⟨#[10]⟩ : ByteArray).size = 1 := rfl
    have hlin : lineS y s.key = ((((twoS (y / 60) ++ ⟨#[58]⟩) ++ twoS (y % 60)) ++ ⟨#[32]⟩) ++ s.key) ++ ⟨#[10]⟩ := rfl
    rw [hlin] at kw
    repeat' (first | refine goH ?_ | refine goV ?_ | refine goB (fun b => ?_) | refine goI ?_ | (refine Cw.k_cond ?_; first | (refine Cw.cond_dec rfl (fun hc => ?_) (fun hc => ?_) <;> try (exfalso; omega)) | refine Cw.cond_bool rfl (fun hc => ?_) (fun hc => ?_)) | fail)
    refine Cw.region_seqM 18 rfl (by decide +kernel) rfl ?_
    iterate 3 (apply PSeq.cons; exact goW)
    apply PSeq.cons
    exact OpW.callS_fn (caps := []) (args := [Tr.int _]) (cin := [tab10]) rfl (twoD_fn _ (by omega) (by omega)) (Evs.cons rfl Evs.nil) goPm
    apply PSeq.cons
    exact OpV.w (OpV.catS rfl rfl (by omega))
    iterate 3 (apply PSeq.cons; exact goW)
    apply PSeq.cons
    exact OpW.callS_fn (caps := []) (args := [Tr.int _]) (cin := [tab10]) rfl (twoD_fn _ (by omega) (by omega)) (Evs.cons rfl Evs.nil) goPm
    apply PSeq.cons
    exact OpV.w (OpV.catS rfl rfl (by (try simp only [ByteArray.size_append]); omega))
    apply PSeq.cons
    exact OpV.w (OpV.catS rfl rfl (by (try simp only [ByteArray.size_append]); omega))
    iterate 5 (apply PSeq.cons; exact goW)
    apply PSeq.cons
    exact OpV.w (OpV.catS rfl rfl (by (try simp only [ByteArray.size_append]); omega))
    apply PSeq.cons
    exact OpV.w (OpV.catS rfl rfl (by (try simp only [ByteArray.size_append]); omega))
    repeat' (first | refine goH ?_ | ((fail_if_success refine Ops.k_c_call ?_); refine goV ?_) | ((fail_if_success refine Ops.k_c_call ?_); refine goB (fun b => ?_)) | refine goI ?_ | (refine Cw.k_cond ?_; first | (refine Cw.cond_dec rfl (fun hc => ?_) (fun hc => ?_) <;> try (exfalso; omega)) | refine Cw.cond_bool rfl (fun hc => ?_) (fun hc => ?_)) | refine goR ?_ | refine goP ?_ | apply PSeq.cons | apply PSeq.yes rfl rfl rfl | exact goW | fail)
    refine Ops.call kw (Evs.cons rfl (Evs.cons rfl Evs.nil)) goPm rfl ?_; rintro r cs' ⟨p2, ad2, cap2, hI2, rfl, rfl⟩
    rw [← hlin] at hI2 ⊢
    repeat' (first | refine goH ?_ | refine goV ?_ | refine goB (fun b => ?_) | refine goI ?_ | (refine Cw.k_cond ?_; first | (refine Cw.cond_dec rfl (fun hc => ?_) (fun hc => ?_) <;> try (exfalso; omega)) | refine Cw.cond_bool rfl (fun hc => ?_) (fun hc => ?_)) | refine goR ?_ | refine goP ?_ | apply PSeq.cons | apply PSeq.yes rfl rfl rfl | exact goW | fail)
    rw [tourS_at hs hy] at hT
    have hsz : (t ++ lineS y s.key).size = t.size + (lineS y s.key).size := ByteArray.size_append
    exact ⟨_, _, _, (Ent.mk goSub goTk), ⟨k + 1, t ++ lineS y s.key, p2, ad2, cap2, rfl, ⟨by omega, hI2, by omega, hT⟩, rfl, rfl⟩, by omega⟩
  · have kS := string_fn hI (by omega)
    rw [tourS_end (by omega)] at hT
    subst hT
    repeat' (first | refine goH ?_ | refine goV ?_ | refine goB (fun b => ?_) | refine goI ?_ | (refine Cw.k_cond ?_; first | (refine Cw.cond_dec rfl (fun hc => ?_) (fun hc => ?_) <;> try (exfalso; omega)) | refine Cw.cond_bool rfl (fun hc => ?_) (fun hc => ?_)) | (refine Ops.k_calla ?_; first | (refine Ops.k_callf 44 ?_; (refine Ops.call kS (Evs.cons rfl Evs.nil) goPm rfl ?_; rintro r cs' ⟨rfl, rfl⟩))) | refine goR ?_ | refine goP ?_ | apply PSeq.cons | apply PSeq.yes rfl rfl rfl | exact goW | fail)
    exact Fin.ret (Ent.take goTk) (Outs.two rfl rfl rfl) ⟨rfl, rfl⟩
end Lg
end
