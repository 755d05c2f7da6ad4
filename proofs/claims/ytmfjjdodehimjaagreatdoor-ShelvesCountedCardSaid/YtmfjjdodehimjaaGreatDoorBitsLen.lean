/- A part of the proof of a law of this seat: it adds no condition. By an AI agent. -/
import Derived.Test.YtmfjjdodehimjaaGreatDoorDd
import Derived.Test.YtmfjjdodehimjaaGreatDoorCmpOrI
section
set_option linter.all false
set_option maxRecDepth 100000
set_option maxHeartbeats 1000000
namespace Lg
open Go Go.Proofs

/-! ### ShelvesCounted in plain terms -/
structure Mv where
  site : ByteArray
  no : Int
  day : Int
  ware : ByteArray
  many : Int
deriving DecidableEq
abbrev Mv.row (x : Mv) : List Tr := [.str x.site, .int x.no, .int x.day, .str x.ware, .int x.many]
abbrev Tr.mvs (l : List Mv) : Tr := .sl 5 (l.map Mv.row)
def cfM (a b : Mv) : Int := orI [cmpS a.site b.site, cmpI a.no b.no]
theorem orI2 (x y : Int) : orI [x, y] = if x ≠ 0 then x else y := by
  rw [orI_cons, orI_cons, orI]
  split
  · rfl
  · split <;> omega
theorem cmpI_eq0 (a b : Int) : cmpI a b = 0 ↔ a = b := by unfold cmpI; split <;> (try split) <;> omega
theorem cmpI_neg (a b : Int) : cmpI b a = -cmpI a b := by unfold cmpI; split <;> (try split) <;> (try split) <;> omega
theorem cmpS_neg (a b : ByteArray) : cmpS b a = -cmpS a b := by
  unfold cmpS
  cases h1 : strLt a b <;> cases h2 : strLt b a
  · rfl
  · rfl
  · rfl
  · rw [strLt_asymm h1] at h2; cases h2
theorem cfM_neg (a b : Mv) : cfM b a = -cfM a b := by
  unfold cfM
  rw [orI2, orI2, cmpS_neg a.site b.site, cmpI_neg a.no b.no]
  split
  · rw [if_pos (by omega)]
  · rw [if_neg (by omega)]
theorem cfM_eq0 (a b : Mv) : cfM a b = 0 ↔ a.site = b.site ∧ a.no = b.no := by
  unfold cfM
  rw [orI2, ← cmpS_eq a.site b.site, ← cmpI_eq0 a.no b.no]
  split
  · constructor
    · intro h; omega
    · rintro ⟨h, _⟩; omega
  · constructor
    · intro h; exact ⟨by omega, h⟩
    · exact fun h => h.2
theorem cfM_lt (a b : Mv) : cfM a b < 0 ↔ strLt a.site b.site = true ∨ (a.site = b.site ∧ a.no < b.no) := by
  unfold cfM
  rw [orI2, ← cmpS_lt, ← cmpS_eq a.site b.site, ← cmpI_lt a.no b.no]
  split
  · constructor
    · exact fun h => .inl h
    · rintro (h | ⟨h, _⟩)
      · exact h
      · omega
  · constructor
    · exact fun h => .inr ⟨by omega, h⟩
    · rintro (h | ⟨_, h⟩)
      · omega
      · exact h
def Mv.lt (a b : Mv) : Prop := cfM a b < 0
theorem Mv.lt_irrefl (a : Mv) : ¬ a.lt a := by
  unfold Mv.lt
  have := (cfM_eq0 a a).2 ⟨rfl, rfl⟩
  omega
theorem Mv.lt_trans (a b c : Mv) (h1 : a.lt b) (h2 : b.lt c) : a.lt c := by
  unfold Mv.lt at *
  rw [cfM_lt] at *
  rcases h1 with h1 | ⟨h1, h3⟩
  · rcases h2 with h2 | ⟨h2, h4⟩
    · exact .inl (strLt_trans h1 h2)
    · exact .inl (h2 ▸ h1)
  · rcases h2 with h2 | ⟨h2, h4⟩
    · exact .inl (h1 ▸ h2)
    · exact .inr ⟨h1.trans h2, by omega⟩
theorem Mv.lt_of (a b : Mv) (h1 : ¬ b.lt a) (h2 : cfM a b ≠ 0) : a.lt b := by
  unfold Mv.lt at *
  rw [cfM_neg a b] at h1
  omega
/-- what is not less than b, which is not less than c, is not less than c -/
theorem Mv.ntrans (a b c : Mv) (h1 : ¬ b.lt a) (h2 : ¬ c.lt b) : ¬ c.lt a := by
  intro h
  by_cases h3 : cfM a b = 0
  · have e := (cfM_eq0 a b).1 h3
    refine h2 ?_
    unfold Mv.lt at *
    rw [cfM_lt] at *
    rw [← e.1, ← e.2]
    exact h
  · exact h2 (Mv.lt_trans c a b h (Mv.lt_of a b h1 h3))
theorem Mv.le_lt (a b c : Mv) (h1 : a.lt b) (h2 : ¬ c.lt b) : a.lt c := by
  by_cases h3 : cfM b c = 0
  · have e := (cfM_eq0 b c).1 h3
    unfold Mv.lt at *
    rw [cfM_lt] at *
    rw [← e.1, ← e.2]
    exact h1
  · exact Mv.lt_trans a b c h1 (Mv.lt_of b c h2 h3)
def ltM (a b : Mv) : Bool := decide (cfM a b < 0)
theorem ltM_nf (a b : Mv) : ltM a b = false ↔ ¬ a.lt b := by unfold ltM Mv.lt; rw [decide_eq_false_iff_not]
theorem pw_mem {α : Type} {R : α → α → Prop} : ∀ {l : List α}, l.Pairwise R → ∀ x ∈ l, ∀ y ∈ l, x = y ∨ R x y ∨ R y x
  | [], _, x, hx, _, _ => by cases hx
  | a :: l, h, x, hx, y, hy => by
    have hh := List.pairwise_cons.1 h
    rcases List.mem_cons.1 hx with h1 | h1
    · rcases List.mem_cons.1 hy with h2 | h2
      · exact .inl (h1.trans h2.symm)
      · exact .inr (.inl (h1 ▸ hh.1 y h2))
    · rcases List.mem_cons.1 hy with h2 | h2
      · exact .inr (.inr (h2 ▸ hh.1 x h1))
      · exact pw_mem hh.2 x h1 y h2
/-- two neighbours of the same place -/
def adjC : List Mv → Bool
  | a :: b :: l => decide (cfM a b = 0) || adjC (b :: l)
  | _ => false
theorem strict_of : ∀ {l : List Mv}, (l.Pairwise fun a b => ¬ b.lt a) → adjC l = false → l.Pairwise Mv.lt
  | [], _, _ => List.Pairwise.nil
  | [a], _, _ => List.pairwise_singleton _ _
  | a :: b :: l, h, hc => by
    have hh := List.pairwise_cons.1 h
    rw [adjC, Bool.or_eq_false_iff, decide_eq_false_iff_not] at hc
    have ih := strict_of hh.2 hc.2
    have hab := Mv.lt_of a b (hh.1 b (by simp)) hc.1
    refine List.pairwise_cons.2 ⟨fun y hy => ?_, ih⟩
    rcases List.mem_cons.1 hy with rfl | hy
    · exact hab
    · exact Mv.lt_trans a b y hab ((List.pairwise_cons.1 ih).1 y hy)
theorem adj_dd : ∀ {l : List Mv}, (∀ x ∈ l, ∀ y ∈ l, cfM x y = 0 → x = y) → adjC (dd l) = false
  | [], _ => rfl
  | [a], _ => rfl
  | a :: b :: l, h => by
    have ih := adj_dd (l := b :: l) (fun x hx y hy => h x (List.mem_cons_of_mem _ hx) y (List.mem_cons_of_mem _ hy))
    unfold dd
    split
    · exact ih
    · rename_i hne
      obtain ⟨r, hr⟩ := dd_head b l
      rw [hr] at ih ⊢
      rw [adjC, ih, Bool.or_false, decide_eq_false_iff_not]
      exact fun h0 => hne (h a (by simp) b (by simp) h0)
/-- one after another; none: two that exclude each other -/
def tgGo (out : List Mv) : List Mv → Option (List Mv)
  | [] => some out
  | m :: l => match out.find? (fun x => decide (cfM x m = 0)) with
    | some x => if x = m then tgGo out l else none
    | none => tgGo (out ++ [m]) l
theorem tgGo_none : ∀ {l out : List Mv}, tgGo out l = none → ∃ x ∈ out ++ l, ∃ y ∈ out ++ l, cfM x y = 0 ∧ x ≠ y
  | [], out, h => by cases h
  | m :: l, out, h => by
    unfold tgGo at h
    split at h
    · rename_i x hx
      have h1 := List.find?_some hx
      have h2 := List.mem_of_find?_eq_some hx
      simp only [decide_eq_true_eq] at h1
      split at h
      · obtain ⟨u, hu, v, hv, h3⟩ := tgGo_none h
        have e : ∀ z, z ∈ out ++ l → z ∈ out ++ m :: l := fun z hz => by
          rw [List.mem_append] at hz ⊢
          exact hz.imp id (List.mem_cons_of_mem _)
        exact ⟨u, e u hu, v, e v hv, h3⟩
      · rename_i hne
        exact ⟨x, by simp [h2], m, by simp, h1, hne⟩
    · obtain ⟨u, hu, v, hv, h3⟩ := tgGo_none h
      rw [List.append_assoc] at hu hv
      exact ⟨u, hu, v, hv, h3⟩
theorem tgGo_some : ∀ {l out R : List Mv}, tgGo out l = some R → (out.Pairwise fun a b => cfM a b ≠ 0) → (R.Pairwise fun a b => cfM a b ≠ 0) ∧ (∀ x, x ∈ R ↔ x ∈ out ∨ x ∈ l)
  | [], out, R, h, hp => by
    cases h
    exact ⟨hp, fun x => by simp⟩
  | m :: l, out, R, h, hp => by
    unfold tgGo at h
    split at h
    · rename_i x hx
      have h2 := List.mem_of_find?_eq_some hx
      split at h
      · rename_i he
        subst he
        obtain ⟨h3, h4⟩ := tgGo_some h hp
        refine ⟨h3, fun y => ?_⟩
        rw [h4, List.mem_cons]
        constructor
        · rintro (h5 | h5)
          · exact .inl h5
          · exact .inr (.inr h5)
        · rintro (h5 | h5 | h5)
          · exact .inl h5
          · exact .inl (h5 ▸ h2)
          · exact .inr h5
      · cases h
    · rename_i hx
      have h2 := List.find?_eq_none.1 hx
      have hp2 : (out ++ [m]).Pairwise fun a b => cfM a b ≠ 0 := by
        rw [List.pairwise_append]
        refine ⟨hp, List.pairwise_singleton _ _, fun a ha b hb => ?_⟩
        rw [List.mem_singleton] at hb
        subst hb
        have := h2 a ha
        simpa using this
      obtain ⟨h3, h4⟩ := tgGo_some h hp2
      refine ⟨h3, fun y => ?_⟩
      rw [h4, List.mem_append, List.mem_singleton, List.mem_cons]
      constructor
      · rintro ((h5 | h5) | h5)
        · exact .inl h5
        · exact .inr (.inl h5)
        · exact .inr (.inr h5)
      · rintro (h5 | h5 | h5)
        · exact .inl (.inl h5)
        · exact .inl (.inr h5)
        · exact .inr h5
theorem srtM_sorted (c : List Mv) : (isort ltM c).Pairwise fun a b => ¬ b.lt a := by
  have := isort_sorted (lt := ltM) (fun a b h => by
    rw [ltM_nf]
    unfold ltM at h
    rw [decide_eq_true_eq] at h
    unfold Mv.lt
    rw [cfM_neg a b]
    omega) (fun a b c h1 h2 => by
    rw [ltM_nf] at *
    exact Mv.ntrans a b c h1 h2) c
  exact this.imp fun h => (ltM_nf _ _).1 h
theorem ddM_sorted (c : List Mv) : (dd (isort ltM c)).Pairwise fun a b => ¬ b.lt a := (srtM_sorted c).sublist (dd_sub _)
theorem ddM_mem (c : List Mv) (x : Mv) : x ∈ dd (isort ltM c) ↔ x ∈ c := by rw [dd_mem, (isort_perm ltM c).mem_iff]
theorem tog_none {c : List Mv} (h : tgGo [] c = none) : adjC (dd (isort ltM c)) = true := by
  obtain ⟨x, hx, y, hy, h1, h2⟩ := tgGo_none h
  rw [List.nil_append] at hx hy
  cases ha : adjC (dd (isort ltM c))
  · have hs := strict_of (ddM_sorted c) ha
    rcases pw_mem hs x ((ddM_mem c x).2 hx) y ((ddM_mem c y).2 hy) with h3 | h3 | h3
    · exact absurd h3 h2
    · unfold Mv.lt at h3; omega
    · unfold Mv.lt at h3; rw [cfM_neg x y] at h3; omega
  · rfl
theorem tog_some {c R : List Mv} (h : tgGo [] c = some R) : adjC (dd (isort ltM c)) = false ∧ ∀ L : List Mv, L.Perm R → (L.Pairwise fun a b => ¬ b.lt a) → L = dd (isort ltM c) := by
  obtain ⟨hR, hm⟩ := tgGo_some h List.Pairwise.nil
  have hu : ∀ x ∈ c, ∀ y ∈ c, cfM x y = 0 → x = y := fun x hx y hy h0 => by
    rcases pw_mem hR x ((hm x).2 (.inr hx)) y ((hm y).2 (.inr hy)) with h3 | h3 | h3
    · exact h3
    · exact absurd h0 h3
    · rw [cfM_neg x y] at h3; omega
  have ha : adjC (dd (isort ltM c)) = false := adj_dd fun x hx y hy => hu x ((isort_perm ltM c).mem_iff.1 hx) y ((isort_perm ltM c).mem_iff.1 hy)
  refine ⟨ha, fun L hL hs => ?_⟩
  have hL2 : L.Pairwise fun a b => cfM a b ≠ 0 := (hL.pairwise_iff (fun {a b} h => by rw [cfM_neg a b]; omega)).2 hR
  have hs2 : L.Pairwise Mv.lt := (hs.and hL2).imp fun {a b} h => Mv.lt_of a b h.1 h.2
  refine strict_uniq Mv.lt_irrefl Mv.lt_trans hs2 (strict_of (ddM_sorted c) ha) fun x => ?_
  rw [hL.mem_iff, hm, ddM_mem]
  simp
end Lg
end
section
set_option linter.all false
set_option maxRecDepth 100000
set_option maxHeartbeats 8000000
namespace Lg
open Go Go.Proofs

/-! ### strings compared; names with numbers -/
theorem cmpString_fn (a b : ByteArray) : PFn Tryz.prog 91 [.str a, .str b] (· = .int (cmpS a b)) := by
  have hx : ∀ w, (callFunc 124 #[.string a, .string b]).run Tryz.prog w = .ok (.value (.int .i64 (cmpS a b))) w := fun w => by
    rw [run_callFunc_extern Tryz.func124 (by kernel_rfl) (by kernel_rfl) (by kernel_rfl) (e := Extern.BytealgCompare.compare) (by kernel_rfl), Lib.run_compareString, cmpS_cb]
    rfl
  refine PFn.mk (Spec.body Tryz.func91 rfl rfl (Tryz.ntmps91) rfl fun w0 own0 M => ?_)
  repeat' (first | refine Ops.nil ?_ | refine Then.norm ?_ | refine Cw.seq ?_ | refine Cw.region ?_ | refine Cw.block ?_ | refine Cw.exit ?_ | refine Cw.skip ?_ | refine Cw.ret ?_ | refine Then.exit ?_ | refine Then.ret ?_ | refine InB.exit ?_ | refine InB.norm ?_ | refine InB.ret ?_ | refine InB.exit_ne rfl ?_ | (refine Ops.k_move ?_; first | refine Ops.move rfl rfl ?_ | refine Ops.move_any rfl ?_) | (refine Ops.k_assign ?_; first | refine Ops.assign rfl rfl ?_ | refine Ops.assign_any rfl ?_) | (refine Cw.k_cond ?_; first | refine Cw.cond_true rfl ?_ | refine Cw.cond_false rfl ?_ | (refine Cw.cond_dec rfl (fun hc => ?_) (fun hc => ?_) <;> try (exfalso; omega)) | refine Cw.cond_bool rfl (fun hc => ?_) (fun hc => ?_)) | refine Ops.ext2 hx rfl rfl rfl ?_)
  exact Fin.ret (Ent.take goTk) (Outs.one rfl rfl) ⟨rfl, rfl⟩
theorem compareS_fn (a b : ByteArray) : PFn Tryz.prog 73 [.str a, .str b] (· = .int (cmpS a b)) := by
  have k1 := cmpString_fn a b
  refine PFn.mk (Spec.body Tryz.func73 rfl rfl (Tryz.ntmps73) rfl fun w0 own0 M => ?_)
  repeat' (first | refine Ops.nil ?_ | refine Then.norm ?_ | refine Cw.seq ?_ | refine Cw.region ?_ | refine Cw.block ?_ | refine Cw.exit ?_ | refine Cw.skip ?_ | refine Cw.ret ?_ | refine Then.exit ?_ | refine Then.ret ?_ | refine InB.exit ?_ | refine InB.norm ?_ | refine InB.ret ?_ | refine InB.exit_ne rfl ?_ | (refine Ops.k_move ?_; first | refine Ops.move rfl rfl ?_ | refine Ops.move_any rfl ?_) | (refine Ops.k_assign ?_; first | refine Ops.assign rfl rfl ?_ | refine Ops.assign_any rfl ?_) | (refine Cw.k_cond ?_; first | refine Cw.cond_true rfl ?_ | refine Cw.cond_false rfl ?_ | (refine Cw.cond_dec rfl (fun hc => ?_) (fun hc => ?_) <;> try (exfalso; omega)) | refine Cw.cond_bool rfl (fun hc => ?_) (fun hc => ?_)) | (refine Ops.k_calla ?_; first | (refine Ops.k_callf 91 ?_; refine Ops.callV k1 (Evs.cons rfl (Evs.cons rfl Evs.nil)) rfl ?_)))
  exact Fin.ret (Ent.take goTk) (Outs.one rfl rfl) ⟨rfl, rfl⟩
end Lg
end
section
set_option linter.all false
set_option maxRecDepth 100000
set_option maxHeartbeats 4000000
namespace Lg
open Go Go.Proofs

/-- the length in bits of a small number: some number -/
theorem len64_fn (n : Int) (hn : 0 ≤ n ∧ n ≤ 200) : PFn Tryz.prog 104 [Tr.raw (.int .u64 n)] (fun r => ∃ v : Int, r = .int v) := by
  refine PFn.mk (Spec.body Tryz.func104 rfl rfl (Tryz.ntmps104) rfl fun w0 own0 M => ?_)
  repeat' (first | refine goH ?_ | (refine Ops.k_convert ?_; first | (refine Ops.convN Tryz.underlying137 Tryz.underlying5 rfl (wrap_u8 (by omega)) rfl ?_) | (refine Ops.convN Tryz.underlying5 Tryz.underlying3 rfl (wrap_i64 (by omega)) rfl ?_)) | (refine Ops.k_index ?_; first | (refine Ops.indexS_any Tryz.underlying9 rfl rfl (by refine ⟨by omega, ?_⟩; show n < 256; omega) rfl (fun v hv => ?_))) | refine goV ?_ | refine goI ?_ | (refine Cw.k_cond ?_; first | (refine Cw.cond_dec rfl (fun hc => ?_) (fun hc => ?_) <;> try (exfalso; omega)) | refine Cw.cond_bool rfl (fun hc => ?_) (fun hc => ?_)) | fail)
  exact Fin.ret (Ent.take goTk) (Outs.one rfl rfl) ⟨rfl, _, rfl⟩
theorem bitsLen_fn (n : Int) (hn : 0 ≤ n ∧ n ≤ 200) : PFn Tryz.prog 82 [Tr.raw (.int .u64 n)] (fun r => ∃ v : Int, r = .int v) := by
  have h := len64_fn n hn
  unfold PFn at h
  refine PFn.mk (Spec.body Tryz.func82 rfl rfl (Tryz.ntmps82) rfl fun w0 own0 M => ?_)
  repeat' (first | refine goH ?_ | refine goV ?_ | refine goI ?_ | (refine Cw.k_cond ?_; first | (refine Cw.cond_dec rfl (fun hc => ?_) (fun hc => ?_) <;> try (exfalso; omega)) | refine Cw.cond_bool rfl (fun hc => ?_) (fun hc => ?_)) | (refine Ops.k_calla ?_; first | (refine Ops.call (cf := []) h (Evs.cons rfl Evs.nil) (by simp) rfl ?_; rintro r cs' ⟨rfl, v, rfl⟩)) | fail)
  exact Fin.ret (Ent.take goTk) (Outs.one rfl rfl) ⟨rfl, _, rfl⟩
end Lg
end
