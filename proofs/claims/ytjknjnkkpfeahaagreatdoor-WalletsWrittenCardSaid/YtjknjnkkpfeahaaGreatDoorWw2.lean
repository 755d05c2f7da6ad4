/- A part of the proof of a law of this seat: it adds no condition. By an AI agent. -/
import Derived.Lib.ItoaLen
import Derived.Test.YtjknjnkkpfeahaaGreatDoorWal16
import Derived.Test.YtjknjnkkpfeahaaGreatDoorNumT
section
set_option linter.all false
set_option maxRecDepth 100000
set_option maxHeartbeats 4000000
namespace Lg
open Go Go.Proofs

/-! ### strings.Builder -/
abbrev bldB (b : Nat) (p ad : Option Addr) (cap : Nat) (t : ByteArray) : Chunk := Chunk.box b 54 [.raw (.pointer p), .raw (.slice ad t.size cap)]
abbrev bldO (ad : Option Addr) (cap : Nat) (t : ByteArray) : Chunk := Chunk.own ad cap 1 5 (bytR t)
structure BldI (b : Nat) (p ad : Option Addr) (cap : Nat) (t : ByteArray) : Prop where
  p : p = none ∨ p = some ⟨b, 0, none⟩
  n : ad ≠ none → t.size ≠ 0
theorem BldI.new (b : Nat) : BldI b none none 0 ⟨#[]⟩ := ⟨.inl rfl, fun h => absurd rfl h⟩
theorem str_emptyB (s : ByteArray) : s.size = 0 ↔ s = ⟨#[]⟩ := by
  constructor
  · intro h
    apply ByteArray.ext
    apply Array.eq_empty_of_size_eq_zero
    simpa using h
  · rintro rfl; rfl
theorem Cw.newbld {Γ : Ctx} {env : Env} {cs cf : List Chunk} {Q : Post} {c : Code} (b : Nat) (hp : cs.Perm (Chunk.box b 54 [.raw (.pointer none), .raw (.slice none 0 0)] :: cf)) (h : Cw Tryz.prog Γ c env (bldB b none none 0 ⟨#[]⟩ :: bldO none 0 ⟨#[]⟩ :: cf) Q) : Cw Tryz.prog Γ c env cs Q := by
  refine Cw.ent ((Ent.perm hp).trans ((Ent.nil 1 5).trans ?_)) h
  exact Ent.perm (List.Perm.swap _ _ _)
theorem noEscape_ext (v : Value) (w : World) : (callFunc 69 #[v]).run Tryz.prog w = .ok (.value v) w := rfl
theorem builder_info : ∃ j, Tryz.prog.info? 54 = some j ∧ j.size ≠ 0 := ⟨_, rfl, by decide⟩
theorem builder_info2 : ∃ j, Tryz.prog.info? 54 = some j := ⟨_, rfl⟩
theorem copyCheck_fn {b : Nat} {p ad : Option Addr} {cap : Nat} {t : ByteArray} (h : BldI b p ad cap t) : Spec Tryz.prog 54 [.ptr b] [bldB b p ad cap t] (fun r cs => r = .tup [] ∧ cs = [bldB b (some ⟨b, 0, none⟩) ad cap t]) := by
  obtain ⟨hp, _⟩ := h
  refine Spec.body Tryz.func54 rfl rfl (Tryz.ntmps54) rfl fun w0 own0 M => ?_
  rcases hp with rfl | rfl
  · repeat' (first | refine goH ?_ | (refine Ops.k_b_eql ?_; first | (refine Ops.val' rfl (OpV.eql_pn (b := true) rfl rfl builder_info rfl rfl) ?_)) | (refine Ops.k_convert ?_; first | (first | refine Ops.val' rfl (OpV.toUns (E := 54) rfl rfl builder_info rfl goPk (by simp)) ?_ | refine Ops.val' rfl (OpV.frUns (E := 54) (n := 2) rfl rfl builder_info2 rfl goPk (by decide +kernel) rfl) ?_)) | (refine Ops.k_b_neq ?_; first | (refine Ops.val' rfl (OpV.neq_pp rfl builder_info rfl rfl) ?_)) | refine goV ?_ | refine goI ?_ | (refine Cw.k_cond ?_; first | (refine Cw.cond_dec rfl (fun hc => ?_) (fun hc => ?_) <;> try (exfalso; omega)) | refine Cw.cond_bool rfl (fun hc => ?_) (fun hc => ?_)) | (refine Ops.ext1 (noEscape_ext _) rfl rfl ?_) | fail)
    all_goals exact Fin.norm (Ent.take goTk) (Outs.zero rfl) ⟨rfl, rfl⟩
  · repeat' (first | refine goH ?_ | (refine Ops.k_b_eql ?_; first | (refine Ops.val' rfl (OpV.eql_pn (b := false) rfl rfl builder_info rfl rfl) ?_)) | (refine Ops.k_b_neq ?_; first | (refine Ops.val' rfl (OpV.neq_pp rfl builder_info rfl rfl) ?_)) | refine goV ?_ | refine goI ?_ | (refine Cw.k_cond ?_; first | (refine Cw.cond_dec rfl (fun hc => ?_) (fun hc => ?_) <;> try (exfalso; omega)) | refine Cw.cond_bool rfl (fun hc => ?_) (fun hc => ?_)) | fail)
    all_goals exact Fin.norm (Ent.take goTk) (Outs.zero rfl) ⟨rfl, rfl⟩
theorem writeString_fn {b : Nat} {p ad : Option Addr} {cap : Nat} {t : ByteArray} (h : BldI b p ad cap t) (s : ByteArray) (hs : t.size + s.size ≤ 1000000000) : Spec Tryz.prog 22 [.ptr b, .str s] [bldB b p ad cap t, bldO ad cap t] (fun r cs => ∃ p2 ad2 cap2, BldI b p2 ad2 cap2 (t ++ s) ∧ r = .tup [.int s.size, .raw .nilIface] ∧ cs = [bldB b p2 ad2 cap2 (t ++ s), bldO ad2 cap2 (t ++ s)]) := by
  have k := copyCheck_fn h
  obtain ⟨_, hn⟩ := h
  have hsz : (t ++ s).size = t.size + s.size := ByteArray.size_append
  refine Spec.body Tryz.func22 rfl rfl (Tryz.ntmps22) rfl fun w0 own0 M => ?_
  by_cases had : ad = none
  · subst had
    refine Cw.own_none goPk ?_
    intro hr hc0
    have ht : t.size = 0 := by rw [← bytR_len, hr]; rfl
    clear hr
    repeat' (first | refine goH ?_ | refine goV ?_ | refine goC (fun ad cap => ?_) | refine goI ?_ | (refine Cw.k_cond ?_; first | (refine Cw.cond_dec rfl (fun hc => ?_) (fun hc => ?_) <;> try (exfalso; omega)) | refine Cw.cond_bool rfl (fun hc => ?_) (fun hc => ?_)) | (refine Ops.append_str (E := 5) rfl rfl rfl rfl goPk rfl (by omega) rfl ?_; intro ad2 cap2 hnil) | (refine Ops.k_calla ?_; first | (refine Ops.k_callf 54 ?_; (refine Ops.call k (Evs.cons rfl Evs.nil) goPm rfl ?_; rintro r cs' ⟨rfl, rfl⟩))) | fail)
    refine Fin.ret (Ent.take goTk) (Outs.two rfl rfl rfl) ⟨_, ad2, cap2, ⟨.inr rfl, fun h => ?_⟩, rfl, rfl⟩
    have := hnil rfl
    by_cases h0 : t.size + s.size = 0
    · exact absurd (this h0).1 h
    · omega
  · have := hn had
    repeat' (first | refine goH ?_ | refine goV ?_ | refine goC (fun ad cap => ?_) | refine goI ?_ | (refine Cw.k_cond ?_; first | (refine Cw.cond_dec rfl (fun hc => ?_) (fun hc => ?_) <;> try (exfalso; omega)) | refine Cw.cond_bool rfl (fun hc => ?_) (fun hc => ?_)) | (refine Ops.append_str (E := 5) rfl rfl rfl rfl goPk rfl (by omega) rfl ?_; intro ad2 cap2 hnil) | (refine Ops.k_calla ?_; first | (refine Ops.k_callf 54 ?_; (refine Ops.call k (Evs.cons rfl Evs.nil) goPm rfl ?_; rintro r cs' ⟨rfl, rfl⟩))) | fail)
    exact Fin.ret (Ent.take goTk) (Outs.two rfl rfl rfl) ⟨_, ad2, cap2, ⟨.inr rfl, fun h => by omega⟩, rfl, rfl⟩
theorem string_fn {b : Nat} {p ad : Option Addr} {cap : Nat} {t : ByteArray} (h : BldI b p ad cap t) (ht : t.size ≤ 1000000000) : Spec Tryz.prog 25 [.ptr b] [bldB b p ad cap t, bldO ad cap t] (fun r cs => r = .str t ∧ cs = []) := by
  obtain ⟨_, hn⟩ := h
  refine Spec.body Tryz.func25 rfl rfl (Tryz.ntmps25) rfl fun w0 own0 M => ?_
  by_cases had : ad = none
  · subst had
    refine Cw.own_none goPk ?_
    intro hr hc0
    have ht : t = ⟨#[]⟩ := (str_emptyB t).1 (by rw [← bytR_len, hr]; rfl)
    subst ht
    repeat' (first | refine goH ?_ | refine goV ?_ | refine goI ?_ | (refine Cw.k_cond ?_; first | (refine Cw.cond_dec rfl (fun hc => ?_) (fun hc => ?_) <;> try (exfalso; omega)) | refine Cw.cond_bool rfl (fun hc => ?_) (fun hc => ?_)) | fail)
    refine Cw.region_seqM 10 rfl (by decide +kernel) rfl ?_
    repeat' (first | refine goH ?_ | refine goV ?_ | refine goI ?_ | (refine Cw.k_cond ?_; first | (refine Cw.cond_dec rfl (fun hc => ?_) (fun hc => ?_) <;> try (exfalso; omega)) | refine Cw.cond_bool rfl (fun hc => ?_) (fun hc => ?_)) | exact OpV.w (OpV.sdata_none rfl) | (refine Ops.ustr_none rfl rfl rfl ?_) | refine goR ?_ | refine goP ?_ | apply PSeq.cons | apply PSeq.yes rfl rfl rfl | exact goW | fail)
    exact Fin.ret (Ent.take goTk) (Outs.one rfl rfl) ⟨rfl, rfl⟩
  · have h0 := hn had
    refine Cw.own_form goPk (by rw [bytR_len]; omega) ?_
    rintro g rfl h1 h2
    rw [bytR_len] at h1
    repeat' (first | refine goH ?_ | refine goV ?_ | refine goI ?_ | (refine Cw.k_cond ?_; first | (refine Cw.cond_dec rfl (fun hc => ?_) (fun hc => ?_) <;> try (exfalso; omega)) | refine Cw.cond_bool rfl (fun hc => ?_) (fun hc => ?_)) | fail)
    refine Cw.region_seqM 10 rfl (by decide +kernel) rfl ?_
    repeat' (first | refine goH ?_ | refine goV ?_ | refine goI ?_ | (refine Cw.k_cond ?_; first | (refine Cw.cond_dec rfl (fun hc => ?_) (fun hc => ?_) <;> try (exfalso; omega)) | refine Cw.cond_bool rfl (fun hc => ?_) (fun hc => ?_)) | exact OpV.w (OpV.sdata_some rfl (by omega)) | (refine Ops.ustr (s := t) rfl rfl rfl rfl rfl h0 goPk rfl ?_) | refine goR ?_ | refine goP ?_ | apply PSeq.cons | apply PSeq.yes rfl rfl rfl | exact goW | fail)
    exact Fin.ret (Ent.take goTk) (Outs.one rfl rfl) ⟨rfl, rfl⟩
end Lg
end
section
set_option linter.all false
set_option maxRecDepth 100000
set_option maxHeartbeats 8000000
namespace Lg
open Go Go.Proofs

/-! ### a wallet as a text -/
def nlB : ByteArray := ⟨#[10]⟩
def spB : ByteArray := ⟨#[32]⟩
def walB : ByteArray := ⟨#[119, 97, 108, 108, 101, 116]⟩
def siT (s : ByteArray) (l : List ByteArray) : ByteArray := l.foldl (fun s x => s ++ (spB ++ x)) s
def ceT (s : ByteArray) (l : List Int) : ByteArray := l.foldl (fun s n => s ++ (spB ++ itoaS n)) s
def rowC (w : Wal) (i : Nat) : List Int := w.rights.getD i [] ++ [w.used.getD i 0]
def boT (w : Wal) (s : ByteArray) : Nat → ByteArray
  | 0 => s
  | k + 1 => ceT (boT w s k ++ w.sites.getD k ⟨#[]⟩) (rowC w k) ++ nlB
def walT (w : Wal) : ByteArray := boT w (siT walB w.sites ++ nlB) w.sites.length
theorem nlB_size : nlB.size = 1 := rfl
theorem spB_size : spB.size = 1 := rfl
theorem itoaS_sz {x : Int} (h0 : -9223372036854775808 ≤ x) (h1 : x ≤ 9223372036854775807) : (itoaS x).size ≤ 21 := Lib.itoa_length_le x h0 h1
theorem siT_snoc (s : ByteArray) (l : List ByteArray) (x : ByteArray) : siT s (l ++ [x]) = siT s l ++ (spB ++ x) := by unfold siT; rw [List.foldl_append]; rfl
theorem ceT_snoc (s : ByteArray) (l : List Int) (x : Int) : ceT s (l ++ [x]) = ceT s l ++ (spB ++ itoaS x) := by unfold ceT; rw [List.foldl_append]; rfl
theorem siT_size (l : List ByteArray) (h : ∀ x ∈ l, x.size ≤ 40) : ∀ s, (siT s l).size ≤ s.size + l.length * 41 := by
  induction l with
  | nil => intro s; exact Nat.le_add_right _ _
  | cons x l ih =>
    intro s
    have h1 := ih (fun y hy => h y (List.mem_cons_of_mem _ hy)) (s ++ (spB ++ x))
    have h2 := h x (List.mem_cons_self ..)
    rw [ByteArray.size_append, ByteArray.size_append, spB_size] at h1
    show (siT (s ++ (spB ++ x)) l).size ≤ _
    rw [List.length_cons]
    omega
theorem ceT_size (l : List Int) (h : ∀ x ∈ l, 0 ≤ x ∧ x ≤ 1000000000) : ∀ s, (ceT s l).size ≤ s.size + l.length * 22 := by
  induction l with
  | nil => intro s; exact Nat.le_add_right _ _
  | cons x l ih =>
    intro s
    have h1 := ih (fun y hy => h y (List.mem_cons_of_mem _ hy)) (s ++ (spB ++ itoaS x))
    have h2 := h x (List.mem_cons_self ..)
    have h3 := itoaS_sz (x := x) (by omega) (by omega)
    rw [ByteArray.size_append, ByteArray.size_append, spB_size] at h1
    show (ceT (s ++ (spB ++ itoaS x)) l).size ≤ _
    rw [List.length_cons]
    omega
/-- the row of a wallet's line -/
structure RowI (w : Wal) (k : Nat) (l : List Int) (u : Int) (x : ByteArray) : Prop where
  e : rowC w k = l ++ [u]
  es : w.sites.getD k ⟨#[]⟩ = x
  r : w.rights[k]? = some l
  hu : w.used[k]? = some u
  s : w.sites[k]? = some x
  n : l.length = w.sites.length
  b : ∀ y ∈ l ++ [u], 0 ≤ y ∧ y ≤ 1000000000
theorem WOk.row' {w : Wal} (h : WOk w) {k : Nat} (hk : k < w.sites.length) : ∃ l u x, RowI w k l u x := by
  obtain ⟨l, hl⟩ := at_lt (l := w.rights) (k := k) (by rw [h.r]; exact hk)
  obtain ⟨u, hu⟩ := at_lt (l := w.used) (k := k) (by rw [h.u]; exact hk)
  obtain ⟨x, hx⟩ := at_lt (l := w.sites) (k := k) hk
  refine ⟨l, u, x, ⟨?_, ?_, hl, hu, hx, h.rr l (List.mem_of_getElem? hl), ?_⟩⟩
  · unfold rowC
    rw [List.getD_eq_getElem?_getD, hl, List.getD_eq_getElem?_getD, hu]
    rfl
  · rw [List.getD_eq_getElem?_getD, hx]
    rfl
  · intro y hy
    rcases List.mem_append.1 hy with hy | hy
    · exact h.rx l (List.mem_of_getElem? hl) y hy
    · rw [List.mem_singleton.1 hy]
      exact h.ru u (List.mem_of_getElem? hu)
theorem boT_size {w : Wal} (h : WOk w) (hk : ∀ x ∈ w.sites, x.size ≤ 40) (s : ByteArray) : ∀ k, k ≤ w.sites.length → (boT w s k).size ≤ s.size + k * 330
  | 0, _ => Nat.le_add_right _ _
  | k + 1, hl => by
    have ih := boT_size h hk s k (by omega)
    obtain ⟨l, u, x, R⟩ := h.row' (k := k) (by omega)
    have h1 := ceT_size (l ++ [u]) R.b (boT w s k ++ x)
    have h2 := hk x (List.mem_of_getElem? R.s)
    have h3 := h.n1
    have h4 := R.n
    unfold boT
    rw [R.e, R.es, ByteArray.size_append, nlB_size]
    rw [List.length_append, List.length_singleton, ByteArray.size_append] at h1
    omega
theorem sitE_sz {l : List ByteArray} (h : sitE l = 0) : 0 < l.length ∧ l.length ≤ 12 ∧ (∀ x ∈ l, isKey x = true) ∧ ∀ x ∈ l, x.size ≤ 40 := by
  have hK : (0 < l.length ∧ l.length ≤ 12) ∧ ∀ x ∈ l, isKey x = true := by
    unfold sitE at h
    split at h
    · omega
    split at h
    · omega
    refine ⟨by omega, fun x hx => ?_⟩
    obtain ⟨j, hj, rfl⟩ := List.getElem_of_mem hx
    unfold riseE at h
    have := firstE_zero h j (by omega) (by omega)
    unfold keyE at this
    rw [List.getElem?_eq_getElem hj] at this
    simp only at this
    cases h9 : isKey l[j] with
    | true => rfl
    | false => rw [h9, if_pos rfl] at this; cases this
  refine ⟨hK.1.1, hK.1.2, hK.2, fun x hx => ?_⟩
  have := hK.2 x hx
  unfold isKey at this
  rw [decide_eq_true_iff] at this
  exact this.2.1
end Lg
end
section
set_option linter.all false
set_option maxRecDepth 100000
set_option maxHeartbeats 8000000
namespace Lg
open Go Go.Proofs

/-! ### depot.Print -/
theorem len_bld {b : Nat} {p ad : Option Addr} {cap : Nat} {t : ByteArray} : Spec Tryz.prog 24 [.ptr b] [bldB b p ad cap t] (fun r cs => r = .int t.size ∧ cs = [bldB b p ad cap t]) := by
  refine Spec.body Tryz.func24 rfl rfl (Tryz.ntmps24) rfl fun w0 own0 M => ?_
  repeat' (first | refine goH ?_ | refine goV ?_ | refine goI ?_ | (refine Cw.k_cond ?_; first | (refine Cw.cond_dec rfl (fun hc => ?_) (fun hc => ?_) <;> try (exfalso; omega)) | refine Cw.cond_bool rfl (fun hc => ?_) (fun hc => ?_)) | fail)
  exact Fin.ret (Ent.take goTk) (Outs.one rfl rfl) ⟨rfl, rfl⟩
theorem Ops.newbld {Γ : Ctx} {env : Env} {cs cf : List Chunk} {Q : Post} {R : Array Oper} {l : List Oper} (b : Nat) (hp : cs.Perm (Chunk.box b 54 [.raw (.pointer none), .raw (.slice none 0 0)] :: cf)) (h : Ops Tryz.prog Γ R l env (bldB b none none 0 ⟨#[]⟩ :: bldO none 0 ⟨#[]⟩ :: cf) Q) : Ops Tryz.prog Γ R l env cs Q := by
  refine Ops.ent ((Ent.perm hp).trans ((Ent.nil 1 5).trans ?_)) h
  exact Ent.perm (List.Perm.swap _ _ _)
theorem nil_appB (s : ByteArray) : (⟨#[]⟩ : ByteArray) ++ s = s := ByteArray.empty_append
theorem intRows_snocW (l : List Int) (u : Int) : intRows l ++ [[Tr.int u]] = intRows (l ++ [u]) := by rw [intRows_app]; rfl
attribute [local irreducible] intRows intsR strRows
theorem print_ok (w : Wal) (h0 : walE w = 0) : Spec Tryz.prog 5 [.wal w] [numC] (fun r cs => r = .tup [.str (walT w), .int 0] ∧ cs = [numC]) := by
  have hok := wok_E h0
  have hbd := hok.bd
  have kC := checkWallet_fn w hbd
  rw [h0] at kC
  have hs0 : sitE w.sites = 0 := by
    unfold walE at h0
    by_cases h : sitE w.sites ≠ 0
    · rw [if_pos h] at h0; exact absurd h0 h
    · omega
  obtain ⟨hn0, hn1, hkey, hsz⟩ := sitE_sz hs0
  have hS := strRows_len w.sites
  have hR := intsR_len w.rights
  have hU := intRows_len w.used
  have hru := hok.u
  have hrr := hok.r
  have z1 : ByteArray.size ⟨#[32]⟩ = 1 := rfl
  have z2 : ByteArray.size ⟨#[10]⟩ = 1 := rfl
  have hW1 : ∀ k, k ≤ w.sites.length → (siT walB (w.sites.take k)).size ≤ 6 + k * 41 := fun k hk => by
    have := siT_size (w.sites.take k) (fun x hx => hsz x (List.mem_of_mem_take hx)) walB
    rw [List.length_take, show walB.size = 6 from rfl] at this
    have e : min k w.sites.length = k := by omega
    rw [e] at this
    exact this
  have hW2 : ∀ k, k ≤ w.sites.length → (boT w (siT walB w.sites ++ nlB) k).size ≤ 600 + k * 330 := fun k hk => by
    have := boT_size hok hsz (siT walB w.sites ++ nlB) k hk
    have h2 := hW1 w.sites.length (Nat.le_refl _)
    rw [List.take_length] at h2
    rw [ByteArray.size_append, nlB_size] at this
    omega
  refine Spec.body Tryz.func5 rfl rfl (Tryz.ntmps5) rfl fun w0 own0 M => ?_
  repeat' (first | refine goH ?_ | ((fail_if_success refine Ops.k_c_call ?_); refine goV ?_) | ((fail_if_success refine Ops.k_c_call ?_); refine goB (fun b => ?_)) | ((fail_if_success refine Ops.k_c_call ?_); refine goC (fun ad cap => ?_)) | refine goI ?_ | (refine Cw.k_cond ?_; first | (refine Cw.cond_dec rfl (fun hc => ?_) (fun hc => ?_) <;> try (exfalso; omega)) | refine Cw.cond_bool rfl (fun hc => ?_) (fun hc => ?_)) | (refine Ops.k_calla ?_; first | (refine Ops.k_callf 21 ?_; refine Ops.callV kC (Evs.cons rfl Evs.nil) rfl ?_)) | (apply OpW.k_call; first | (apply OpW.k_callf 21; exact OpW.callV kC (Evs.cons rfl Evs.nil))) | refine goR ?_ | refine goP ?_ | apply PSeq.cons | apply PSeq.yes rfl rfl rfl | exact goW | fail)
  refine Ops.newbld b (by exact goPk) ?_
  have k1 := writeString_fn (BldI.new b) walB (by rw [show walB.size = 6 from rfl]; show 0 + 6 ≤ 1000000000; omega)
  rw [nil_appB] at k1
  repeat' (first | refine goH ?_ | refine goV ?_ | refine goB (fun b => ?_) | refine goC (fun ad cap => ?_) | refine goI ?_ | (refine Cw.k_cond ?_; first | (refine Cw.cond_dec rfl (fun hc => ?_) (fun hc => ?_) <;> try (exfalso; omega)) | refine Cw.cond_bool rfl (fun hc => ?_) (fun hc => ?_)) | (refine Ops.k_calla ?_; first | (refine Ops.k_callf 22 ?_; (refine Ops.call k1 (Evs.cons rfl (Evs.cons rfl Evs.nil)) goPm rfl ?_; rintro r cs' ⟨p2, ad2, cap2, hI2, rfl, rfl⟩))) | refine goR ?_ | refine goP ?_ | apply PSeq.cons | apply PSeq.yes rfl rfl rfl | exact goW | fail)
  rename_i b1
  refine Cw.loopI [(1, _), (5, _), (19, _), (20, _)] _ (fun q e c => ∃ (k : Nat) (t : ByteArray) (p ad : Option Addr) (cap : Nat), q = w.sites.length - k ∧ (k ≤ w.sites.length ∧ BldI b p ad cap t ∧ t = siT walB (w.sites.take k)) ∧ e = [(21, .int k)] ∧ c = [bldB b p ad cap t, bldO ad cap t]) ⟨_, _, _, (Ent.mkP goSub goPm), 0, _, _, _, _, rfl, ⟨by omega, hI2, rfl⟩, rfl, rfl⟩ ?_
  rintro _ _ _ ⟨k, t, p, ad, cap, rfl, ⟨hk, hI, ht⟩, rfl, rfl⟩
  have hts := hW1 k hk
  rw [← ht] at hts
  by_cases hkl : k < w.sites.length
  · obtain ⟨x, hx⟩ := at_lt hkl
    have hxs := hsz x (List.mem_of_getElem? hx)
    have hr1 : (strRows w.sites)[k]? = some [.str x] := strRows_at hx
    have htk : w.sites.take (k + 1) = w.sites.take k ++ [x] := by rw [List.take_add_one, hx]; rfl
    have e1 : (⟨#[32]⟩ ++ x : ByteArray).size = x.size + 1 := by rw [ByteArray.size_append]; show 1 + x.size = _; omega
    have kw := writeString_fn hI (⟨#[32]⟩ ++ x) (by omega)
    have hnx : t ++ (⟨#[32]⟩ ++ x) = siT walB (w.sites.take (k + 1)) := by rw [htk, siT_snoc, ht]; rfl
    clear ht htk
    repeat' (first | refine goH ?_ | (refine Ops.k_b_add ?_; first | (first | refine Ops.catB rfl rfl (by omega) rfl ?_ | refine Ops.add (by omega) rfl rfl rfl ?_)) | refine goV ?_ | refine goB (fun b => ?_) | refine goC (fun ad cap => ?_) | refine goI ?_ | (refine Cw.k_cond ?_; first | (refine Cw.cond_dec rfl (fun hc => ?_) (fun hc => ?_) <;> try (exfalso; omega)) | refine Cw.cond_bool rfl (fun hc => ?_) (fun hc => ?_)) | (refine Ops.k_calla ?_; first | (refine Ops.k_callf 22 ?_; (refine Ops.call kw (Evs.cons rfl (Evs.cons rfl Evs.nil)) goPm rfl ?_; rintro r cs' ⟨p2, ad2, cap2, hI2, rfl, rfl⟩))) | refine goR ?_ | refine goP ?_ | apply PSeq.cons | apply PSeq.yes rfl rfl rfl | exact goW | fail)
    exact ⟨_, _, _, (Ent.mk goSub goTk), ⟨k + 1, _, _, _, _, rfl, ⟨by omega, by assumption, hnx⟩, rfl, rfl⟩, by omega⟩
  have hkn : k = w.sites.length := by omega
  rw [hkn, List.take_length] at ht
  have kw := writeString_fn hI ⟨#[10]⟩ (by omega)
  have hw20 := hW2 0 (by omega)
  rw [show t ++ (⟨#[10]⟩ : ByteArray) = boT w (siT walB w.sites ++ nlB) 0 by rw [ht]; rfl] at kw
  obtain ⟨t0, ht00⟩ : ∃ t0, t0 = siT walB w.sites ++ nlB := ⟨_, rfl⟩
  rw [show boT w (siT walB w.sites ++ nlB) 0 = siT walB w.sites ++ nlB from rfl] at kw
  unfold walT
  rw [← ht00] at kw hW2 ⊢
  clear ht hI
  repeat' (first | refine goH ?_ | refine goV ?_ | refine goB (fun b => ?_) | refine goC (fun ad cap => ?_) | refine goI ?_ | (refine Cw.k_cond ?_; first | (refine Cw.cond_dec rfl (fun hc => ?_) (fun hc => ?_) <;> try (exfalso; omega)) | refine Cw.cond_bool rfl (fun hc => ?_) (fun hc => ?_)) | (refine Ops.k_calla ?_; first | (refine Ops.k_callf 22 ?_; (refine Ops.call kw (Evs.cons rfl (Evs.cons rfl Evs.nil)) goPm rfl ?_; rintro r cs' ⟨p3, ad3, cap3, hI3, rfl, rfl⟩))) | refine goR ?_ | refine goP ?_ | apply PSeq.cons | apply PSeq.yes rfl rfl rfl | exact goW | fail)
  have hsz2 := hsz
  have ht0 : t0 = boT w t0 0 := rfl
  have hW3 : ∀ k, k ≤ w.sites.length → (boT w t0 k).size ≤ 600 + k * 330 := by assumption
  refine Cw.loopI [(1, _), (5, _), (31, _), (32, _)] _ (fun q e c => ∃ (k : Nat) (t : ByteArray) (p ad : Option Addr) (cap : Nat), q = w.sites.length - k ∧ (k ≤ w.sites.length ∧ BldI b p ad cap t ∧ t = boT w t0 k) ∧ e = [(33, .int k)] ∧ c = [bldB b p ad cap t, bldO ad cap t]) ⟨_, _, _, (Ent.mkP goSub goPm), 0, _, _, _, _, rfl, ⟨by omega, hI3, ht0⟩, rfl, rfl⟩ ?_
  clear hI3 ht0 hW2 hW1 ht00 hw20 kw k1 hsz
  rintro _ _ _ ⟨k, t, p, ad, cap, rfl, ⟨hk, hI, ht⟩, rfl, rfl⟩
  have hts := hW3 k hk
  rw [← ht] at hts
  by_cases hkl : k < w.sites.length
  · obtain ⟨l, u, x, RI⟩ := hok.row' hkl
    have hxs : x.size ≤ 40 := hsz2 x (List.mem_of_getElem? RI.s)
    have hr1 : (strRows w.sites)[k]? = some [.str x] := strRows_at RI.s
    have hr2 : (intsR w.rights)[k]? = some [.ints l] := intsR_at RI.r
    have hr3 : (intRows w.used)[k]? = some [.int u] := intRows_at RI.hu
    have hln := RI.n
    have hll := intRows_len l
    have kw := writeString_fn hI x (by omega)
    have kcl := clone_int (intRows l) (intRows_k _) (by omega)
    have hnx : boT w t0 (k + 1) = ceT (t ++ x) (l ++ [u]) ++ nlB := by rw [ht, ← RI.e, ← RI.es]; rfl
    have hb := RI.b
    have hts2 := hW3 (k + 1) (by omega)
    have htx : (t ++ x).size = t.size + x.size := ByteArray.size_append
    have hrow : intRows l ++ [[Tr.int u]] = intRows (l ++ [u]) := intRows_snocW l u
    have hcs : ∀ j, j ≤ (l ++ [u]).length → (ceT (t ++ x) ((l ++ [u]).take j)).size ≤ 5000 + j * 22 := fun j hj => by
      have := ceT_size ((l ++ [u]).take j) (fun y hy => hb y (List.mem_of_mem_take hy)) (t ++ x)
      rw [List.length_take] at this
      have e : min j (l ++ [u]).length = j := by omega
      rw [e] at this
      omega
    have hLn : (intRows (l ++ [u])).length = l.length + 1 := by rw [intRows_len, List.length_append]; rfl
    have hLn2 : (l ++ [u]).length = l.length + 1 := by rw [List.length_append]; rfl
    clear RI ht hW3
    repeat' (first | refine goH ?_ | refine goV ?_ | refine goB (fun b => ?_) | refine goC (fun ad cap => ?_) | refine goI ?_ | (refine Cw.k_cond ?_; first | (refine Cw.cond_dec rfl (fun hc => ?_) (fun hc => ?_) <;> try (exfalso; omega)) | refine Cw.cond_bool rfl (fun hc => ?_) (fun hc => ?_)) | (refine Ops.k_calla ?_; first | (refine Ops.k_callf 22 ?_; (refine Ops.call kw (Evs.cons rfl (Evs.cons rfl Evs.nil)) goPm rfl ?_; rintro r cs' ⟨p2, ad2, cap2, hI2, rfl, rfl⟩))) | fail)
    first | refine Cw.region_YP (fun ξ S => bldB b p2 ad2 cap2 (t ++ x) :: bldO ad2 cap2 (t ++ x) :: Chunk.box b1 29 [.strs w.sites, .sl 1 (intsR w.rights), .ints w.used] :: numC :: (stg (S 5) [] (stg (S 12) [ownV (ξ 5) 1 3 (intRows l)] [ownV (ξ 12) 1 3 (intRows l ++ [[.int u]])]) ++ [])) rfl (by decide +kernel) rfl ((fun (ξ : Nat → Value) (S : Nat → Bool) => bldB b p2 ad2 cap2 (t ++ x) :: bldO ad2 cap2 (t ++ x) :: Chunk.box b1 29 [.strs w.sites, .sl 1 (intsR w.rights), .ints w.used] :: numC :: (stg (S 5) [] (stg (S 12) [ownV (ξ 5) 1 3 (intRows l)] [ownV (ξ 12) 1 3 (intRows l ++ [[.int u]])]) ++ [])) (fun _ => undef) (fun _ => false)) (by simp only [upd_same, updD_same, upd_ne, updD_ne, ne_eq, Nat.reduceEqDiff, not_false_eq_true, stg_t, stg_f, vAd_s, vCap_s, blk_p, List.cons_append, List.nil_append, b2n_t, b2n_f]; exact goXm) (fun _ => rfl) ?_ | fail
    apply YSeq.w (by intro _ _ _; rfl)
    · intro ξ S h1 h2 h3 h4
      have hN0_1 := closed_false h1 h3 (k := 1) rfl (by decide)
      have hN0_3 := closed_false hN0_1 h3 (k := 3) rfl (by decide)
      have hN0_4 := closed_false hN0_3 h3 (k := 4) rfl (by decide)
      have hN0_5 := closed_false hN0_4 h3 (k := 5) rfl (by decide)
      have hN0_12 := closed_false hN0_5 h3 (k := 12) rfl (by decide)
      try simp only [upd_same, updD_same, upd_ne, updD_ne, ne_eq, Nat.reduceEqDiff, not_false_eq_true, stg_t, stg_f, vAd_s, vCap_s, blk_p, List.cons_append, List.nil_append, b2n_t, b2n_f, hN0_5, hN0_12]
      exact goW
    · intro ξ v; rfl
    · intro ξ k v S h3 hn hk
      first
      | rfl
    apply YSeq.w (by intro _ _ _; rfl)
    · intro ξ S h1 h2 h3 h4
      have hN1_3 := closed_false h1 h3 (k := 3) rfl (by decide)
      have hN1_4 := closed_false hN1_3 h3 (k := 4) rfl (by decide)
      have hN1_5 := closed_false hN1_4 h3 (k := 5) rfl (by decide)
      have hN1_12 := closed_false hN1_5 h3 (k := 12) rfl (by decide)
      try simp only [upd_same, updD_same, upd_ne, updD_ne, ne_eq, Nat.reduceEqDiff, not_false_eq_true, stg_t, stg_f, vAd_s, vCap_s, blk_p, List.cons_append, List.nil_append, b2n_t, b2n_f, hN1_5, hN1_12]
      exact goW
    · intro ξ v; rfl
    · intro ξ k v S h3 hn hk
      first
      | rfl
    apply YSeq.w (by intro _ _ _; rfl)
    · intro ξ S h1 h2 h3 h4
      have hN2_3 := closed_false h1 h3 (k := 3) rfl (by decide)
      have hN2_4 := closed_false hN2_3 h3 (k := 4) rfl (by decide)
      have hN2_5 := closed_false hN2_4 h3 (k := 5) rfl (by decide)
      have hN2_12 := closed_false hN2_5 h3 (k := 12) rfl (by decide)
      try simp only [upd_same, updD_same, upd_ne, updD_ne, ne_eq, Nat.reduceEqDiff, not_false_eq_true, stg_t, stg_f, vAd_s, vCap_s, blk_p, List.cons_append, List.nil_append, b2n_t, b2n_f, hN2_5, hN2_12]
      exact goW
    · intro ξ v; rfl
    · intro ξ k v S h3 hn hk
      first
      | rfl
    apply YSeq.w (by intro _ _ _; rfl)
    · intro ξ S h1 h2 h3 h4
      have hN3_4 := closed_false h1 h3 (k := 4) rfl (by decide)
      have hN3_5 := closed_false hN3_4 h3 (k := 5) rfl (by decide)
      have hN3_12 := closed_false hN3_5 h3 (k := 12) rfl (by decide)
      try simp only [upd_same, updD_same, upd_ne, updD_ne, ne_eq, Nat.reduceEqDiff, not_false_eq_true, stg_t, stg_f, vAd_s, vCap_s, blk_p, List.cons_append, List.nil_append, b2n_t, b2n_f, hN3_5, hN3_12]
      exact goW
    · intro ξ v; rfl
    · intro ξ k v S h3 hn hk
      first
      | rfl
    apply YSeq.w (by intro _ _ _; rfl)
    · intro ξ S h1 h2 h3 h4
      have hN4_5 := closed_false h1 h3 (k := 5) rfl (by decide)
      have hN4_12 := closed_false hN4_5 h3 (k := 12) rfl (by decide)
      try simp only [upd_same, updD_same, upd_ne, updD_ne, ne_eq, Nat.reduceEqDiff, not_false_eq_true, stg_t, stg_f, vAd_s, vCap_s, blk_p, List.cons_append, List.nil_append, b2n_t, b2n_f, hN4_5, hN4_12]
      exact goW
    · intro ξ v; rfl
    · intro ξ k v S h3 hn hk
      first
      | rfl
    apply YSeq.callO ((intRows l).length)
    · intro ξ S h1 h2 h3 h4
      have hN5_12 := closed_false h1 h3 (k := 12) rfl (by decide)
      refine ⟨_, _, kcl, (Evs.cons rfl Evs.nil), (by first | rfl | simp | omega), fun ad cap => ?_⟩
      simp only [upd_same, updD_same, upd_ne, updD_ne, ne_eq, Nat.reduceEqDiff, not_false_eq_true, stg_t, stg_f, vAd_s, vCap_s, blk_p, List.cons_append, List.nil_append, b2n_t, b2n_f, h1, hN5_12]
      exact goXm
    apply YSeq.w (by intro _ _ _; rfl)
    · intro ξ S h1 h2 h3 h4
      have hN6_7 := closed_false h1 h3 (k := 7) rfl (by decide)
      have hN6_9 := closed_false hN6_7 h3 (k := 9) rfl (by decide)
      have hN6_10 := closed_false hN6_9 h3 (k := 10) rfl (by decide)
      have hN6_11 := closed_false hN6_10 h3 (k := 11) rfl (by decide)
      have hN6_12 := closed_false hN6_11 h3 (k := 12) rfl (by decide)
      try simp only [upd_same, updD_same, upd_ne, updD_ne, ne_eq, Nat.reduceEqDiff, not_false_eq_true, stg_t, stg_f, vAd_s, vCap_s, blk_p, List.cons_append, List.nil_append, b2n_t, b2n_f, hN6_12]
      exact goW
    · intro ξ v; rfl
    · intro ξ k v S h3 hn hk
      first
      | rfl
    apply YSeq.w (by intro _ _ _; rfl)
    · intro ξ S h1 h2 h3 h4
      have hN7_9 := closed_false h1 h3 (k := 9) rfl (by decide)
      have hN7_10 := closed_false hN7_9 h3 (k := 10) rfl (by decide)
      have hN7_11 := closed_false hN7_10 h3 (k := 11) rfl (by decide)
      have hN7_12 := closed_false hN7_11 h3 (k := 12) rfl (by decide)
      try simp only [upd_same, updD_same, upd_ne, updD_ne, ne_eq, Nat.reduceEqDiff, not_false_eq_true, stg_t, stg_f, vAd_s, vCap_s, blk_p, List.cons_append, List.nil_append, b2n_t, b2n_f, hN7_12]
      exact goW
    · intro ξ v; rfl
    · intro ξ k v S h3 hn hk
      first
      | rfl
    apply YSeq.w (by intro _ _ _; rfl)
    · intro ξ S h1 h2 h3 h4
      have hN8_9 := closed_false h1 h3 (k := 9) rfl (by decide)
      have hN8_10 := closed_false hN8_9 h3 (k := 10) rfl (by decide)
      have hN8_11 := closed_false hN8_10 h3 (k := 11) rfl (by decide)
      have hN8_12 := closed_false hN8_11 h3 (k := 12) rfl (by decide)
      try simp only [upd_same, updD_same, upd_ne, updD_ne, ne_eq, Nat.reduceEqDiff, not_false_eq_true, stg_t, stg_f, vAd_s, vCap_s, blk_p, List.cons_append, List.nil_append, b2n_t, b2n_f, hN8_12]
      exact goW
    · intro ξ v; rfl
    · intro ξ k v S h3 hn hk
      first
      | rfl
    apply YSeq.w (by intro _ _ _; rfl)
    · intro ξ S h1 h2 h3 h4
      have hN9_10 := closed_false h1 h3 (k := 10) rfl (by decide)
      have hN9_11 := closed_false hN9_10 h3 (k := 11) rfl (by decide)
      have hN9_12 := closed_false hN9_11 h3 (k := 12) rfl (by decide)
      try simp only [upd_same, updD_same, upd_ne, updD_ne, ne_eq, Nat.reduceEqDiff, not_false_eq_true, stg_t, stg_f, vAd_s, vCap_s, blk_p, List.cons_append, List.nil_append, b2n_t, b2n_f, hN9_12]
      exact goW
    · intro ξ v; rfl
    · intro ξ k v S h3 hn hk
      first
      | rfl
    apply YSeq.w (by intro _ _ _; rfl)
    · intro ξ S h1 h2 h3 h4
      have hN10_11 := closed_false h1 h3 (k := 11) rfl (by decide)
      have hN10_12 := closed_false hN10_11 h3 (k := 12) rfl (by decide)
      try simp only [upd_same, updD_same, upd_ne, updD_ne, ne_eq, Nat.reduceEqDiff, not_false_eq_true, stg_t, stg_f, vAd_s, vCap_s, blk_p, List.cons_append, List.nil_append, b2n_t, b2n_f, hN10_12]
      exact goW
    · intro ξ v; rfl
    · intro ξ k v S h3 hn hk
      first
      | rfl
    apply YSeq.w (by intro _ _ _; rfl)
    · intro ξ S h1 h2 h3 h4
      have hN11_12 := closed_false h1 h3 (k := 12) rfl (by decide)
      try simp only [upd_same, updD_same, upd_ne, updD_ne, ne_eq, Nat.reduceEqDiff, not_false_eq_true, stg_t, stg_f, vAd_s, vCap_s, blk_p, List.cons_append, List.nil_append, b2n_t, b2n_f, hN11_12]
      exact goW
    · intro ξ v; rfl
    · intro ξ k v S h3 hn hk
      first
      | rfl
    apply YSeq.append ((intRows l).length + 1)
    · intro ξ S h1 h2 h3 h4
      have hY12_5 : S 5 = true := h2 5 (by decide)
      simp only [upd_same, updD_same, upd_ne, updD_ne, ne_eq, Nat.reduceEqDiff, not_false_eq_true, stg_t, stg_f, vAd_s, vCap_s, blk_p, List.cons_append, List.nil_append, b2n_t, b2n_f, hY12_5, h1]
      refine ⟨_, _, _, _, _, _, rfl, rfl, goXp, (by first | rfl | (simp; done) | omega), (by first | rfl | omega | (simp; done) | (simp; omega)), (by first | omega | (simp; done) | (simp; omega)), (by first | omega | (simp; done) | (simp; omega)), fun ad' cap' => ?_⟩
      exact goXm
    apply YSeq.w (by intro _ _ _; rfl)
    · intro ξ S h1 h2 h3 h4
      have hY13_12 : S 12 = true := h2 12 (by decide)
      have hY13_5 : S 5 = true := h3 12 _ rfl hY13_12 5 (by decide)
      try simp only [upd_same, updD_same, upd_ne, updD_ne, ne_eq, Nat.reduceEqDiff, not_false_eq_true, stg_t, stg_f, vAd_s, vCap_s, blk_p, List.cons_append, List.nil_append, b2n_t, b2n_f, hY13_5, hY13_12]
      exact goW
    · intro ξ v; rfl
    · intro ξ k v S h3 hn hk
      first
      | rfl
      | skip
        have hY13_12 : S 12 = true := h3 13 _ rfl hn 12 (by decide)
        have hY13_5 : S 5 = true := h3 12 _ rfl hY13_12 5 (by decide)
        simp only [upd_S hY13_5 hk, upd_S hY13_12 hk]
    apply YSeq.w (by intro _ _ _; rfl)
    · intro ξ S h1 h2 h3 h4
      try simp only [upd_same, updD_same, upd_ne, updD_ne, ne_eq, Nat.reduceEqDiff, not_false_eq_true, stg_t, stg_f, vAd_s, vCap_s, blk_p, List.cons_append, List.nil_append, b2n_t, b2n_f]
      exact goW
    · intro ξ v; rfl
    · intro ξ k v S h3 hn hk
      first
      | rfl
    refine YSeq.nil fun ξ hf => ?_
    refine ⟨[(1, _), (5, _), (8, _), (31, _), (32, _), (33, _), (52, _), (53, _), (54, _)], _, Ent.trans (Ent.eqc rfl (by first | (simp only [upd_same, updD_same, upd_ne, updD_ne, ne_eq, Nat.reduceEqDiff, not_false_eq_true, stg_t, stg_f, vAd_s, vCap_s, blk_p, List.cons_append, List.nil_append, b2n_t, b2n_f, ownV, slV, ptV] <;> rfl) | rfl)) (Ent.sub goSub), ?_⟩
    clear hf
    generalize vAd (ξ 5) = ad45
    generalize vCap (ξ 5) = cap45
    generalize vAd (ξ 12) = ad52
    generalize vCap (ξ 12) = cap52
    rw [hrow, hll]
    refine Then.norm ?_
    refine Cw.ent (Ent.settle (s := 52) rfl goPk hLn.symm) ?_
    have hLi := hLn2
    obtain ⟨m, hm⟩ : ∃ m, m = l ++ [u] := ⟨_, rfl⟩
    rw [← hm] at hnx hcs hb hLn hLn2 hrow ⊢
    obtain ⟨t1, ht1⟩ : ∃ t1, t1 = t ++ x := ⟨_, rfl⟩
    rw [← ht1] at hnx hcs hI2 ⊢
    clear kw kcl hI hLi hrow
    repeat' (first | refine goH ?_ | refine goV ?_ | refine goB (fun b => ?_) | refine goC (fun ad cap => ?_) | refine goI ?_ | (refine Cw.k_cond ?_; first | (refine Cw.cond_dec rfl (fun hc => ?_) (fun hc => ?_) <;> try (exfalso; omega)) | refine Cw.cond_bool rfl (fun hc => ?_) (fun hc => ?_)) | refine goR ?_ | refine goP ?_ | apply PSeq.cons | apply PSeq.yes rfl rfl rfl | exact goW | fail)
    refine Cw.loopI [(1, _), (5, _), (31, _), (32, _), (33, _), (52, _), (53, _)] _ (fun q e c => ∃ (j : Nat) (t : ByteArray) (p ad : Option Addr) (cap : Nat), q = m.length - j ∧ (j ≤ m.length ∧ BldI b p ad cap t ∧ t = ceT t1 (m.take j)) ∧ e = [(54, .int j)] ∧ c = [bldB b p ad cap t, bldO ad cap t]) ⟨_, _, _, (Ent.mkP goSub goPm), 0, _, _, _, _, rfl, ⟨by omega, hI2, rfl⟩, rfl, rfl⟩ ?_
    clear hI2 hm ht1
    rintro _ _ _ ⟨j, t2, p4, ad4, cap4, rfl, ⟨hj, hI4, ht2⟩, rfl, rfl⟩
    have hz := hcs j hj
    rw [← ht2] at hz
    by_cases hjl : j < m.length
    · obtain ⟨y, hy⟩ := at_lt hjl
      have hyb := hb y (List.mem_of_getElem? hy)
      have hr4 : (intRows m)[j]? = some [.int y] := intRows_at hy
      have kI := itoa_fn y (by omega) (by omega)
      have hX := itoaS_sz (x := y) (by omega) (by omega)
      have hny : t2 ++ (⟨#[32]⟩ ++ itoaS y) = ceT t1 (m.take (j + 1)) := by rw [List.take_add_one, hy]; show _ = ceT t1 (m.take j ++ [y]); rw [ceT_snoc, ht2]; rfl
      generalize itoaS y = Y at *
      have e1 : (⟨#[32]⟩ ++ Y : ByteArray).size = Y.size + 1 := by rw [ByteArray.size_append]; show 1 + Y.size = _; omega
      have kw := writeString_fn hI4 (⟨#[32]⟩ ++ Y) (by omega)
      clear ht2 hcs hnx hts2
      repeat' (first | refine goH ?_ | (refine Ops.k_b_add ?_; first | (first | refine Ops.catB rfl rfl (by omega) rfl ?_ | refine Ops.add (by omega) rfl rfl rfl ?_)) | refine goV ?_ | refine goB (fun b => ?_) | refine goC (fun ad cap => ?_) | refine goI ?_ | (refine Cw.k_cond ?_; first | (refine Cw.cond_dec rfl (fun hc => ?_) (fun hc => ?_) <;> try (exfalso; omega)) | refine Cw.cond_bool rfl (fun hc => ?_) (fun hc => ?_)) | (refine Ops.k_calla ?_; first | (refine Ops.k_callf 22 ?_; (refine Ops.call kw (Evs.cons rfl (Evs.cons rfl Evs.nil)) goPm rfl ?_; rintro r cs' ⟨p2, ad2, cap2, hI2, rfl, rfl⟩)) | (refine Ops.k_callf 23 ?_; (refine Ops.call kI (Evs.cons rfl Evs.nil) goPm rfl ?_; rintro r cs' ⟨rfl, rfl⟩))) | refine goR ?_ | refine goP ?_ | apply PSeq.cons | apply PSeq.yes rfl rfl rfl | exact goW | fail)
      exact ⟨_, _, _, (Ent.mk goSub goTk), ⟨j + 1, _, _, _, _, rfl, ⟨by omega, by assumption, hny⟩, rfl, rfl⟩, by omega⟩
    · have hjn : j = m.length := by omega
      rw [hjn, List.take_length] at ht2
      have kw := writeString_fn hI4 ⟨#[10]⟩ (by omega)
      have hn2 : t2 ++ (⟨#[10]⟩ : ByteArray) = boT w t0 (k + 1) := by rw [hnx, ht2]; rfl
      rw [hn2] at kw
      clear ht2 hcs hnx
      repeat' (first | refine goH ?_ | refine goV ?_ | refine goB (fun b => ?_) | refine goC (fun ad cap => ?_) | refine goI ?_ | (refine Cw.k_cond ?_; first | (refine Cw.cond_dec rfl (fun hc => ?_) (fun hc => ?_) <;> try (exfalso; omega)) | refine Cw.cond_bool rfl (fun hc => ?_) (fun hc => ?_)) | (refine Ops.k_calla ?_; first | (refine Ops.k_callf 22 ?_; (refine Ops.call kw (Evs.cons rfl (Evs.cons rfl Evs.nil)) goPm rfl ?_; rintro r cs' ⟨p2, ad2, cap2, hI2, rfl, rfl⟩))) | refine goR ?_ | refine goP ?_ | apply PSeq.cons | apply PSeq.yes rfl rfl rfl | exact goW | fail)
      exact ⟨_, _, _, (Ent.mk goSub goTk), ⟨k + 1, _, _, _, _, rfl, ⟨by omega, by assumption, rfl⟩, rfl, rfl⟩, by omega⟩
  · have hkn2 : k = w.sites.length := by omega
    subst hkn2
    rw [← ht]
    have kL := len_bld (b := b) (p := p) (ad := ad) (cap := cap) (t := t)
    have kT := string_fn hI (by omega)
    clear ht
    repeat' (first | refine goH ?_ | refine goV ?_ | refine goB (fun b => ?_) | refine goC (fun ad cap => ?_) | refine goI ?_ | (refine Cw.k_cond ?_; first | (refine Cw.cond_dec rfl (fun hc => ?_) (fun hc => ?_) <;> try (exfalso; omega)) | refine Cw.cond_bool rfl (fun hc => ?_) (fun hc => ?_)) | (refine Ops.k_calla ?_; first | (refine Ops.k_callf 24 ?_; (refine Ops.call kL (Evs.cons rfl Evs.nil) goPm rfl ?_; rintro r cs' ⟨rfl, rfl⟩)) | (refine Ops.k_callf 25 ?_; (refine Ops.call kT (Evs.cons rfl Evs.nil) goPm rfl ?_; rintro r cs' ⟨rfl, rfl⟩))) | refine goR ?_ | refine goP ?_ | apply PSeq.cons | apply PSeq.yes rfl rfl rfl | exact goW | fail)
    all_goals first | (exfalso; omega) | exact Fin.ret (Ent.take goTk) (Outs.two rfl rfl rfl) ⟨rfl, rfl⟩
end Lg
end
