/- A part of the proof of a law of this seat: it adds no condition. By an AI agent. -/
import Derived.Test.YtjknjnkkpfeahaaGreatDoorWal11
section
set_option linter.all false
set_option maxRecDepth 100000
set_option maxHeartbeats 8000000
namespace Lg
open Go Go.Proofs

theorem Fin.ent {P : Program} {Γ : Ctx} {env env1 : Env} {cs cs1 : List Chunk} {fn : Func} {post : Tr → List Chunk → Prop} {ex : Exit} (h : Ent Γ env cs env1 cs1) (k : Fin P fn Γ post ex env1 cs1) : Fin P fn Γ post ex env cs := by
  unfold Fin at k ⊢
  obtain ⟨h0, e2, c2, r, h1, h2, h3⟩ := k
  exact ⟨h0, e2, c2, r, h.trans h1, h2, h3⟩
/-- a wallet of one's own is written no more -/
theorem Ent.settle_wal {Γ : Ctx} {env : Env} {cs cf : List Chunk} {adR adU : Option Addr} {capR capU n b : Nat} {E E2 T : TypeId} {L : List IL} {u : List Int} {s : List ByteArray} (hp : cs.Perm (Chunk.own adR capR 1 E (rowsW L) :: Chunk.bun (ownsW E2 L) :: Chunk.own adU capU 1 E2 (intRows u) :: Chunk.box b T [.strs s, Tr.raw (.slice adR n capR), Tr.raw (.slice adU n capU)] :: cf)) (h1 : (rowsW L).length = n) (h2 : (intRows u).length = n) :
    Ent Γ env cs env (Chunk.box b T [.strs s, .sl 1 (intsR (valsW L)), .ints u] :: cf) := by
  have h3 : n = (intsR (valsW L)).length := by rw [intsR_len, valsW_len, ← rowsW_len, h1]
  exact Ent.trans (ent_nestW (E2 := E2) hp (List.Perm.refl _)) (Ent.trans (Ent.settle_box (b := b) (i := 1) (ad := adR) (kk := 1) (rows := intsR (valsW L)) (List.Perm.cons _ (List.Perm.swap _ _ _)) rfl h3 rfl) (Ent.settle_box (b := b) (i := 2) (ad := adU) (kk := 1) (rows := intRows u) (List.Perm.swap _ _ _) rfl h2.symm rfl))
attribute [local irreducible] intRows intsR strRows valsW rowsW idxS rgt at2 set2
theorem spent_fn (w : Wal) (h : WOk w) (a : ByteArray) (c : Int) (hc64 : -1000000000000 ≤ c ∧ c ≤ 1000000000000) : PFn Tryz.prog 45 [.wal w, .str a, .int c] (· = resW (spW w a c) (spE w a c)) := by
  have n12 := h.n1
  have kI := index_fn w.sites a (by omega)
  have kO := walletCopy_fn w h.bd
  have hcs := idxS_cases w.sites a
  have he : spE w a c = if idxS w.sites a < 0 then 8 else if c < 1 ∨ 1000000000 < c then 1 else if rgt w (idxS w.sites a).toNat < c then 16 else if w.used.getD (idxS w.sites a).toNat 0 + c > 1000000000 then 12 else 0 := rfl
  have hW : spW w a c = ⟨w.sites, w.rights, w.used.set (idxS w.sites a).toNat (w.used.getD (idxS w.sites a).toNat 0 + c)⟩ := rfl
  generalize idxS w.sites a = i at *
  generalize spW w a c = W at *
  generalize spE w a c = E at *
  refine PFn.mk (Spec.body Tryz.func45 rfl rfl (Tryz.ntmps45) rfl fun w0 own0 M => ?_)
  rcases hcs with rfl | ⟨k, rfl, _, hk⟩
  · rw [if_pos (by omega)] at he
    subst he
    rw [resW_bad (by decide)]
    repeat' (first | refine goH ?_ | refine goV ?_ | refine goB (fun b => ?_) | refine goG ?_ | (refine Ops.k_guard ?_; first | (refine Ops.guard_dec rfl rfl (fun hc => ?_) (fun hc => ?_) <;> try (exfalso; omega)) | refine Ops.guard_split rfl rfl (fun hc => ?_) (fun hc => ?_)) | refine goI ?_ | (refine Cw.k_cond ?_; first | (refine Cw.cond_dec rfl (fun hc => ?_) (fun hc => ?_) <;> try (exfalso; omega)) | refine Cw.cond_bool rfl (fun hc => ?_) (fun hc => ?_)) | (refine Ops.k_calla ?_; first | (refine Ops.k_callf 62 ?_; refine Ops.callV kI (Evs.cons rfl (Evs.cons rfl Evs.nil)) rfl ?_)) | fail)
    refine Fin.ret (Ent.trans (Ent.imp_box goPk impW0) (Ent.trans (Ent.setbox (s := 6) rfl goPk) (Ent.take goTk))) (Outs.many rfl (OutL.cons goOe (OutL.cons goOe OutL.nil)) rfl) ⟨rfl, rfl⟩
  rw [if_neg (by omega)] at he
  rw [Int.toNat_natCast] at he hW
  have kR := rightsR_fn w h k hk
  obtain ⟨y, hy, hyd, hy1, hy2⟩ := h.us hk
  rw [hyd] at he hW
  have hUk := intRows_at hy
  have hUl := (intRows_len w.used).trans h.u
  have hUw := intRows_len w.used
  have hRw : Unit → (intsR w.rights).length = w.sites.length := fun _ => (intsR_len _).trans h.r
  by_cases q2 : c < 1 ∨ 1000000000 < c
  · rw [if_pos q2] at he
    subst he
    rw [resW_bad (by decide)]
    repeat' (first | refine goH ?_ | refine goV ?_ | refine goB (fun b => ?_) | refine goG ?_ | (refine Ops.k_guard ?_; first | (refine Ops.guard_dec rfl rfl (fun hc => ?_) (fun hc => ?_) <;> try (exfalso; omega)) | refine Ops.guard_split rfl rfl (fun hc => ?_) (fun hc => ?_)) | refine goI ?_ | (refine Cw.k_cond ?_; first | (refine Cw.cond_dec rfl (fun hc => ?_) (fun hc => ?_) <;> try (exfalso; omega)) | refine Cw.cond_bool rfl (fun hc => ?_) (fun hc => ?_)) | (refine Ops.k_calla ?_; first | (refine Ops.k_callf 62 ?_; refine Ops.callV kI (Evs.cons rfl (Evs.cons rfl Evs.nil)) rfl ?_)) | fail)
    all_goals refine Fin.ret (Ent.trans (Ent.imp_box goPk impW0) (Ent.trans (Ent.setbox (s := 6) rfl goPk) (Ent.take goTk))) (Outs.many rfl (OutL.cons goOe (OutL.cons goOe OutL.nil)) rfl) ⟨rfl, rfl⟩
  rw [if_neg q2] at he
  have q2' : 1 ≤ c ∧ c ≤ 1000000000 := by omega
  clear q2 hc64
  by_cases q3 : rgt w k < c
  · rw [if_pos q3] at he
    subst he
    rw [resW_bad (by decide)]
    repeat' (first | refine goH ?_ | refine goV ?_ | refine goB (fun b => ?_) | refine goG ?_ | (refine Ops.k_guard ?_; first | (refine Ops.guard_dec rfl rfl (fun hc => ?_) (fun hc => ?_) <;> try (exfalso; omega)) | refine Ops.guard_split rfl rfl (fun hc => ?_) (fun hc => ?_)) | refine goI ?_ | (refine Cw.k_cond ?_; first | (refine Cw.cond_dec rfl (fun hc => ?_) (fun hc => ?_) <;> try (exfalso; omega)) | refine Cw.cond_bool rfl (fun hc => ?_) (fun hc => ?_)) | (refine Ops.k_calla ?_; first | (refine Ops.k_callf 62 ?_; refine Ops.callV kI (Evs.cons rfl (Evs.cons rfl Evs.nil)) rfl ?_) | (refine Ops.k_callf 30 ?_; refine Ops.callV kR (Evs.cons rfl (Evs.cons rfl Evs.nil)) rfl ?_)) | fail)
    all_goals refine Fin.ret (Ent.trans (Ent.imp_box goPk impW0) (Ent.trans (Ent.setbox (s := 6) rfl goPk) (Ent.take goTk))) (Outs.many rfl (OutL.cons goOe (OutL.cons goOe OutL.nil)) rfl) ⟨rfl, rfl⟩
  rw [if_neg q3] at he
  by_cases q4 : y + c > 1000000000
  · rw [if_pos q4] at he
    subst he
    rw [resW_bad (by decide)]
    repeat' (first | refine goH ?_ | refine goV ?_ | refine goB (fun b => ?_) | refine goG ?_ | (refine Ops.k_guard ?_; first | (refine Ops.guard_dec rfl rfl (fun hc => ?_) (fun hc => ?_) <;> try (exfalso; omega)) | refine Ops.guard_split rfl rfl (fun hc => ?_) (fun hc => ?_)) | refine goI ?_ | (refine Cw.k_cond ?_; first | (refine Cw.cond_dec rfl (fun hc => ?_) (fun hc => ?_) <;> try (exfalso; omega)) | refine Cw.cond_bool rfl (fun hc => ?_) (fun hc => ?_)) | (refine Ops.k_calla ?_; first | (refine Ops.k_callf 62 ?_; refine Ops.callV kI (Evs.cons rfl (Evs.cons rfl Evs.nil)) rfl ?_) | (refine Ops.k_callf 30 ?_; refine Ops.callV kR (Evs.cons rfl (Evs.cons rfl Evs.nil)) rfl ?_)) | fail)
    all_goals refine Fin.ret (Ent.trans (Ent.imp_box goPk impW0) (Ent.trans (Ent.setbox (s := 6) rfl goPk) (Ent.take goTk))) (Outs.many rfl (OutL.cons goOe (OutL.cons goOe OutL.nil)) rfl) ⟨rfl, rfl⟩
  rw [if_neg q4] at he
  subst he
  rw [resW_ok rfl]
  have e1 : (intRows w.used).set ((k : Nat) : Int).toNat ([Tr.int y].set 0 (Tr.int (y + c))) = intRows (w.used.set k (y + c)) := setI _ _ _ _
  have hUs : (intRows (w.used.set k (y + c))).length = w.sites.length := by rw [intRows_len, List.length_set]; exact h.u
  repeat' (first | refine goH ?_ | (refine Ops.k_store ?_; first | (refine Ops.store_own1 rfl rfl goPk (by first | rfl | assumption | (simp [*]; done)) (by decide) ?_; rw [e1])) | refine goV ?_ | refine goB (fun b => ?_) | refine goG ?_ | (refine Ops.k_guard ?_; first | (refine Ops.guard_dec rfl rfl (fun hc => ?_) (fun hc => ?_) <;> try (exfalso; omega)) | refine Ops.guard_split rfl rfl (fun hc => ?_) (fun hc => ?_)) | refine goI ?_ | (refine Cw.k_cond ?_; first | (refine Cw.cond_dec rfl (fun hc => ?_) (fun hc => ?_) <;> try (exfalso; omega)) | refine Cw.cond_bool rfl (fun hc => ?_) (fun hc => ?_)) | (refine Ops.k_calla ?_; first | (refine Ops.k_callf 62 ?_; refine Ops.callV kI (Evs.cons rfl (Evs.cons rfl Evs.nil)) rfl ?_) | (refine Ops.k_callf 30 ?_; refine Ops.callV kR (Evs.cons rfl (Evs.cons rfl Evs.nil)) rfl ?_) | (refine Ops.k_callf 65 ?_; (refine Ops.call kO (Evs.cons rfl Evs.nil) goPm rfl ?_; rintro r cs' ⟨adR, capR, L, adU, capU, rfl, hv, rfl⟩; have hLl : (rowsW L).length = w.sites.length := (by rw [rowsW_len, ← valsW_len, hv]; exact h.r); rw [walV_n hLl hUl]))) | fail)
  rename_i b3 b6 g1 g2 g3
  refine Fin.ret (Ent.trans (Ent.settle_wal (b := b6) (by exact Perm.cons' goPk (Perm.cons' goPk (Perm.cons' goPk (Perm.cons' goPk (List.Perm.refl _))))) hLl hUs) (Ent.trans (Ent.setbox (s := 6) rfl goPk) (Ent.take goTk))) (Outs.many rfl (OutL.cons goOe (OutL.cons goOe OutL.nil)) rfl) ⟨rfl, ?_⟩
  rw [hW, hv]
end Lg
end
section
set_option linter.all false
set_option maxRecDepth 100000
set_option maxHeartbeats 8000000
namespace Lg
open Go Go.Proofs

attribute [local irreducible] intRows intsR strRows valsW rowsW idxS rgt at2 set2
theorem given_fn (w : Wal) (h : WOk w) (a b : ByteArray) (c : Int) (cr : Bool) (hc64 : -1000000000000 ≤ c ∧ c ≤ 1000000000000) : PFn Tryz.prog 44 [.wal w, .str a, .str b, .int c, .bool cr] (· = resW (gvW w a b c) (gvE w a b c cr)) := by
  have n12 := h.n1
  have kI := index_fn w.sites a (by omega)
  have kJ := index_fn w.sites b (by omega)
  have kO := walletCopy_fn w h.bd
  have hcs := idxS_cases w.sites a
  have hct := idxS_cases w.sites b
  have he : gvE w a b c cr = if idxS w.sites a < 0 ∨ idxS w.sites b < 0 then 8 else if cr = false ∧ idxS w.sites a = idxS w.sites b then 6 else if c < 1 ∨ 1000000000 < c then 1
    else if cr = false ∧ rgt w (idxS w.sites a).toNat < c then 16 else if at2 w.rights (idxS w.sites a).toNat (idxS w.sites b).toNat + c > 1000000000 then 12 else 0 := rfl
  have hW : gvW w a b c = ⟨w.sites, set2 w.rights (idxS w.sites a).toNat (idxS w.sites b).toNat (at2 w.rights (idxS w.sites a).toNat (idxS w.sites b).toNat + c), w.used⟩ := rfl
  generalize idxS w.sites a = i at *
  generalize idxS w.sites b = j at *
  generalize gvW w a b c = W at *
  generalize gvE w a b c cr = E at *
  refine PFn.mk (Spec.body Tryz.func44 rfl rfl (Tryz.ntmps44) rfl fun w0 own0 M => ?_)
  rcases hcs with rfl | ⟨i, rfl, _, hi⟩
  · rw [if_pos (by omega)] at he
    subst he
    rw [resW_bad (by decide)]
    clear hct
    repeat' (first | refine goH ?_ | refine goV ?_ | refine goB (fun b => ?_) | refine goG ?_ | (refine Ops.k_guard ?_; first | (refine Ops.guard_dec rfl rfl (fun hc => ?_) (fun hc => ?_) <;> try (exfalso; omega)) | refine Ops.guard_split rfl rfl (fun hc => ?_) (fun hc => ?_)) | refine goI ?_ | (refine Cw.k_cond ?_; first | (refine Cw.cond_dec rfl (fun hc => ?_) (fun hc => ?_) <;> try (exfalso; omega)) | refine Cw.cond_bool rfl (fun hc => ?_) (fun hc => ?_)) | (refine Ops.k_calla ?_; first | (refine Ops.k_callf 62 ?_; refine Ops.callV kI (Evs.cons rfl (Evs.cons rfl Evs.nil)) rfl ?_) | (refine Ops.k_callf 62 ?_; refine Ops.callV kJ (Evs.cons rfl (Evs.cons rfl Evs.nil)) rfl ?_)) | (apply OpW.k_call; first | (apply OpW.k_callf 62; exact OpW.callV kI (Evs.cons rfl (Evs.cons rfl Evs.nil))) | (apply OpW.k_callf 62; exact OpW.callV kJ (Evs.cons rfl (Evs.cons rfl Evs.nil)))) | refine goR ?_ | refine goP ?_ | apply PSeq.cons | apply PSeq.yes rfl rfl rfl | exact goW | fail)
    all_goals refine Fin.ret (Ent.trans (Ent.imp_box goPk impW0) (Ent.trans (Ent.setbox (s := 10) rfl goPk) (Ent.take goTk))) (Outs.many rfl (OutL.cons goOe (OutL.cons goOe OutL.nil)) rfl) ⟨rfl, rfl⟩
  rcases hct with rfl | ⟨j, rfl, _, hj⟩
  · rw [if_pos (by omega)] at he
    subst he
    rw [resW_bad (by decide)]
    repeat' (first | refine goH ?_ | refine goV ?_ | refine goB (fun b => ?_) | refine goG ?_ | (refine Ops.k_guard ?_; first | (refine Ops.guard_dec rfl rfl (fun hc => ?_) (fun hc => ?_) <;> try (exfalso; omega)) | refine Ops.guard_split rfl rfl (fun hc => ?_) (fun hc => ?_)) | refine goI ?_ | (refine Cw.k_cond ?_; first | (refine Cw.cond_dec rfl (fun hc => ?_) (fun hc => ?_) <;> try (exfalso; omega)) | refine Cw.cond_bool rfl (fun hc => ?_) (fun hc => ?_)) | (refine Ops.k_calla ?_; first | (refine Ops.k_callf 62 ?_; refine Ops.callV kI (Evs.cons rfl (Evs.cons rfl Evs.nil)) rfl ?_) | (refine Ops.k_callf 62 ?_; refine Ops.callV kJ (Evs.cons rfl (Evs.cons rfl Evs.nil)) rfl ?_)) | (apply OpW.k_call; first | (apply OpW.k_callf 62; exact OpW.callV kI (Evs.cons rfl (Evs.cons rfl Evs.nil))) | (apply OpW.k_callf 62; exact OpW.callV kJ (Evs.cons rfl (Evs.cons rfl Evs.nil)))) | refine goR ?_ | refine goP ?_ | apply PSeq.cons | apply PSeq.yes rfl rfl rfl | exact goW | fail)
    all_goals refine Fin.ret (Ent.trans (Ent.imp_box goPk impW0) (Ent.trans (Ent.setbox (s := 10) rfl goPk) (Ent.take goTk))) (Outs.many rfl (OutL.cons goOe (OutL.cons goOe OutL.nil)) rfl) ⟨rfl, rfl⟩
  rw [if_neg (by omega)] at he
  rw [Int.toNat_natCast, Int.toNat_natCast] at he hW
  have kR := rightsR_fn w h i hi
  obtain ⟨l, x, e1, e2, e3, b1, b2⟩ := h.at2 hi hj
  rw [e3] at he hW
  have hR1 := intsR_at e1
  have hR2 := intRows_at e2
  have hl2 : Unit → l.length = w.sites.length := fun _ => h.rr l (List.mem_of_getElem? e1)
  have hlr := (intRows_len l).trans (hl2 ())
  have hUl := (intRows_len w.used).trans h.u
  have hRw := (intsR_len w.rights).trans h.r
  by_cases q2 : cr = false ∧ (i : Int) = j
  · rw [if_pos q2] at he
    subst he
    obtain ⟨rfl, q2⟩ := q2
    rw [resW_bad (by decide)]
    repeat' (first | refine goH ?_ | refine goV ?_ | refine goB (fun b => ?_) | refine goG ?_ | (refine Ops.k_guard ?_; first | (refine Ops.guard_dec rfl rfl (fun hc => ?_) (fun hc => ?_) <;> try (exfalso; omega)) | refine Ops.guard_split rfl rfl (fun hc => ?_) (fun hc => ?_)) | refine goI ?_ | (refine Cw.k_cond ?_; first | (refine Cw.cond_dec rfl (fun hc => ?_) (fun hc => ?_) <;> try (exfalso; omega)) | refine Cw.cond_bool rfl (fun hc => ?_) (fun hc => ?_)) | (refine Ops.k_calla ?_; first | (refine Ops.k_callf 62 ?_; refine Ops.callV kI (Evs.cons rfl (Evs.cons rfl Evs.nil)) rfl ?_) | (refine Ops.k_callf 62 ?_; refine Ops.callV kJ (Evs.cons rfl (Evs.cons rfl Evs.nil)) rfl ?_)) | (apply OpW.k_call; first | (apply OpW.k_callf 62; exact OpW.callV kI (Evs.cons rfl (Evs.cons rfl Evs.nil))) | (apply OpW.k_callf 62; exact OpW.callV kJ (Evs.cons rfl (Evs.cons rfl Evs.nil)))) | refine goR ?_ | refine goP ?_ | apply PSeq.cons | apply PSeq.yes rfl rfl rfl | exact goW | fail)
    all_goals refine Fin.ret (Ent.trans (Ent.imp_box goPk impW0) (Ent.trans (Ent.setbox (s := 10) rfl goPk) (Ent.take goTk))) (Outs.many rfl (OutL.cons goOe (OutL.cons goOe OutL.nil)) rfl) ⟨rfl, rfl⟩
  rw [if_neg q2] at he
  have q2' : cr = true ∨ cr = false ∧ (i : Int) ≠ j := by
    cases cr
    · exact .inr ⟨rfl, fun e => q2 ⟨rfl, e⟩⟩
    · exact .inl rfl
  by_cases q3 : c < 1 ∨ 1000000000 < c
  · rw [if_pos q3] at he
    subst he
    rw [resW_bad (by decide)]
    clear q2
    rcases q2' with rfl | ⟨rfl, q2⟩
    all_goals
      repeat' (first | refine goH ?_ | refine goV ?_ | refine goB (fun b => ?_) | refine goG ?_ | (refine Ops.k_guard ?_; first | (refine Ops.guard_dec rfl rfl (fun hc => ?_) (fun hc => ?_) <;> try (exfalso; omega)) | refine Ops.guard_split rfl rfl (fun hc => ?_) (fun hc => ?_)) | refine goI ?_ | (refine Cw.k_cond ?_; first | (refine Cw.cond_dec rfl (fun hc => ?_) (fun hc => ?_) <;> try (exfalso; omega)) | refine Cw.cond_bool rfl (fun hc => ?_) (fun hc => ?_)) | (refine Ops.k_calla ?_; first | (refine Ops.k_callf 62 ?_; refine Ops.callV kI (Evs.cons rfl (Evs.cons rfl Evs.nil)) rfl ?_) | (refine Ops.k_callf 62 ?_; refine Ops.callV kJ (Evs.cons rfl (Evs.cons rfl Evs.nil)) rfl ?_)) | (apply OpW.k_call; first | (apply OpW.k_callf 62; exact OpW.callV kI (Evs.cons rfl (Evs.cons rfl Evs.nil))) | (apply OpW.k_callf 62; exact OpW.callV kJ (Evs.cons rfl (Evs.cons rfl Evs.nil)))) | refine goR ?_ | refine goP ?_ | apply PSeq.cons | apply PSeq.yes rfl rfl rfl | exact goW | fail)
      all_goals refine Fin.ret (Ent.trans (Ent.imp_box goPk impW0) (Ent.trans (Ent.setbox (s := 10) rfl goPk) (Ent.take goTk))) (Outs.many rfl (OutL.cons goOe (OutL.cons goOe OutL.nil)) rfl) ⟨rfl, rfl⟩
  rw [if_neg q3] at he
  have q3' : 1 ≤ c ∧ c ≤ 1000000000 := by omega
  clear q3 hc64 q2
  by_cases q4 : cr = false ∧ rgt w i < c
  · rw [if_pos q4] at he
    subst he
    rw [resW_bad (by decide)]
    obtain ⟨rfl, q4⟩ := q4
    rcases q2' with h0 | ⟨_, q2⟩
    · cases h0
    repeat' (first | refine goH ?_ | refine goV ?_ | refine goB (fun b => ?_) | refine goG ?_ | (refine Ops.k_guard ?_; first | (refine Ops.guard_dec rfl rfl (fun hc => ?_) (fun hc => ?_) <;> try (exfalso; omega)) | refine Ops.guard_split rfl rfl (fun hc => ?_) (fun hc => ?_)) | refine goI ?_ | (refine Cw.k_cond ?_; first | (refine Cw.cond_dec rfl (fun hc => ?_) (fun hc => ?_) <;> try (exfalso; omega)) | refine Cw.cond_bool rfl (fun hc => ?_) (fun hc => ?_)) | (refine Ops.k_calla ?_; first | (refine Ops.k_callf 62 ?_; refine Ops.callV kI (Evs.cons rfl (Evs.cons rfl Evs.nil)) rfl ?_) | (refine Ops.k_callf 62 ?_; refine Ops.callV kJ (Evs.cons rfl (Evs.cons rfl Evs.nil)) rfl ?_) | (refine Ops.k_callf 30 ?_; refine Ops.callV kR (Evs.cons rfl (Evs.cons rfl Evs.nil)) rfl ?_)) | (apply OpW.k_call; first | (apply OpW.k_callf 62; exact OpW.callV kI (Evs.cons rfl (Evs.cons rfl Evs.nil))) | (apply OpW.k_callf 62; exact OpW.callV kJ (Evs.cons rfl (Evs.cons rfl Evs.nil))) | (apply OpW.k_callf 30; exact OpW.callV kR (Evs.cons rfl (Evs.cons rfl Evs.nil)))) | refine goR ?_ | refine goP ?_ | apply PSeq.cons | apply PSeq.yes rfl rfl rfl | exact goW | fail)
    all_goals refine Fin.ret (Ent.trans (Ent.imp_box goPk impW0) (Ent.trans (Ent.setbox (s := 10) rfl goPk) (Ent.take goTk))) (Outs.many rfl (OutL.cons goOe (OutL.cons goOe OutL.nil)) rfl) ⟨rfl, rfl⟩
  rw [if_neg q4] at he
  have q4' : cr = true ∨ cr = false ∧ (i : Int) ≠ j ∧ ¬ rgt w i < c := by
    rcases q2' with h0 | ⟨h0, h2⟩
    · exact .inl h0
    · exact .inr ⟨h0, h2, fun e => q4 ⟨h0, e⟩⟩
  clear q4 q2'
  by_cases q5 : x + c > 1000000000
  · rw [if_pos q5] at he
    subst he
    rw [resW_bad (by decide)]
    rcases q4' with rfl | ⟨rfl, q2, q4⟩
    all_goals
      repeat' (first | refine goH ?_ | refine goV ?_ | refine goB (fun b => ?_) | refine goG ?_ | (refine Ops.k_guard ?_; first | (refine Ops.guard_dec rfl rfl (fun hc => ?_) (fun hc => ?_) <;> try (exfalso; omega)) | refine Ops.guard_split rfl rfl (fun hc => ?_) (fun hc => ?_)) | refine goI ?_ | (refine Cw.k_cond ?_; first | (refine Cw.cond_dec rfl (fun hc => ?_) (fun hc => ?_) <;> try (exfalso; omega)) | refine Cw.cond_bool rfl (fun hc => ?_) (fun hc => ?_)) | (refine Ops.k_calla ?_; first | (refine Ops.k_callf 62 ?_; refine Ops.callV kI (Evs.cons rfl (Evs.cons rfl Evs.nil)) rfl ?_) | (refine Ops.k_callf 62 ?_; refine Ops.callV kJ (Evs.cons rfl (Evs.cons rfl Evs.nil)) rfl ?_) | (refine Ops.k_callf 30 ?_; refine Ops.callV kR (Evs.cons rfl (Evs.cons rfl Evs.nil)) rfl ?_)) | (apply OpW.k_call; first | (apply OpW.k_callf 62; exact OpW.callV kI (Evs.cons rfl (Evs.cons rfl Evs.nil))) | (apply OpW.k_callf 62; exact OpW.callV kJ (Evs.cons rfl (Evs.cons rfl Evs.nil))) | (apply OpW.k_callf 30; exact OpW.callV kR (Evs.cons rfl (Evs.cons rfl Evs.nil)))) | refine goR ?_ | refine goP ?_ | apply PSeq.cons | apply PSeq.yes rfl rfl rfl | exact goW | fail)
      all_goals refine Fin.ret (Ent.trans (Ent.imp_box goPk impW0) (Ent.trans (Ent.setbox (s := 10) rfl goPk) (Ent.take goTk))) (Outs.many rfl (OutL.cons goOe (OutL.cons goOe OutL.nil)) rfl) ⟨rfl, rfl⟩
  rw [if_neg q5] at he
  subst he
  rw [resW_ok rfl]
  have e6 : (intRows l).set ((j : Nat) : Int).toNat ([Tr.int x].set 0 (Tr.int (x + c))) = intRows (l.set j (x + c)) := setI _ _ _ _
  have hls : (intRows (l.set j (x + c))).length = w.sites.length := by rw [intRows_len, List.length_set]; exact hl2 ()
  have hs2 : set2 w.rights i j (x + c) = w.rights.set i (l.set j (x + c)) := by unfold set2; rw [List.getD_eq_getElem?_getD, e1, Option.getD_some]
  have pull : ∀ L : List IL, valsW L = w.rights → ∃ p, L[i]? = some p ∧ p.xs = l ∧ (rowsW L)[i]? = some [Tr.raw (.slice p.ad w.sites.length p.cap)] := by
    intro L hv
    have e := congrArg (fun l => l[i]?) hv
    simp only [e1] at e
    unfold valsW at e
    rw [List.getElem?_map] at e
    cases hp : L[i]? with
    | none => rw [hp] at e; cases e
    | some p =>
      rw [hp] at e
      have e7 : p.xs = l := Option.some.inj e
      refine ⟨p, rfl, e7, ?_⟩
      rw [rowsW_get hp]
      unfold IL.val
      rw [e7, hlr]
  rcases q4' with rfl | ⟨rfl, q2, q4⟩
  all_goals
    repeat' (first | refine goH ?_ | (refine Ops.k_store ?_; first | (refine Ops.store_own1 rfl rfl goPk (by first | rfl | assumption | (simp [*]; done)) (by decide) ?_; rw [e6])) | refine goV ?_ | refine goB (fun b => ?_) | refine goG ?_ | (refine Ops.k_guard ?_; first | (refine Ops.guard_dec rfl rfl (fun hc => ?_) (fun hc => ?_) <;> try (exfalso; omega)) | refine Ops.guard_split rfl rfl (fun hc => ?_) (fun hc => ?_)) | refine goI ?_ | (refine Cw.k_cond ?_; first | (refine Cw.cond_dec rfl (fun hc => ?_) (fun hc => ?_) <;> try (exfalso; omega)) | refine Cw.cond_bool rfl (fun hc => ?_) (fun hc => ?_)) | (refine Ops.k_calla ?_; first | (refine Ops.k_callf 62 ?_; refine Ops.callV kI (Evs.cons rfl (Evs.cons rfl Evs.nil)) rfl ?_) | (refine Ops.k_callf 62 ?_; refine Ops.callV kJ (Evs.cons rfl (Evs.cons rfl Evs.nil)) rfl ?_) | (refine Ops.k_callf 30 ?_; refine Ops.callV kR (Evs.cons rfl (Evs.cons rfl Evs.nil)) rfl ?_) | (refine Ops.k_callf 65 ?_; (refine Ops.call kO (Evs.cons rfl Evs.nil) goPm rfl ?_; rintro r cs' ⟨adR, capR, L, adU, capU, rfl, hv, rfl⟩; have hLl : (rowsW L).length = w.sites.length := (by rw [rowsW_len, ← valsW_len, hv]; exact h.r); rw [walV_n hLl hUl]; obtain ⟨p, hp, hpx, hpr⟩ := pull L hv; refine Ops.ent (ent_pullW (E := 3) hp (by exact goPk)) ?_; rw [hpx]))) | (apply OpW.k_call; first | (apply OpW.k_callf 62; exact OpW.callV kI (Evs.cons rfl (Evs.cons rfl Evs.nil))) | (apply OpW.k_callf 62; exact OpW.callV kJ (Evs.cons rfl (Evs.cons rfl Evs.nil))) | (apply OpW.k_callf 30; exact OpW.callV kR (Evs.cons rfl (Evs.cons rfl Evs.nil)))) | refine goR ?_ | refine goP ?_ | apply PSeq.cons | apply PSeq.yes rfl rfl rfl | exact goW | fail)
    have hq : (⟨p.ad, p.cap, l.set j (x + c)⟩ : IL).val = p.val := by unfold IL.val; rw [hls, hpx, hlr]
    have hLs : (rowsW (L.set i ⟨p.ad, p.cap, l.set j (x + c)⟩)).length = w.sites.length := by rw [rowsW_set hp hq]; exact hLl
    first | (rename_i b5 b10 g1 g2; have _t : Nat := b10) | (rename_i b5 b10 g0 g1 g2 g3; have _t : Nat := b10)
    refine Fin.ent (ent_putW (E := 3) (q := ⟨p.ad, p.cap, l.set j (x + c)⟩) hp (by exact goPk) (by exact goPk)) ?_
    rw [← rowsW_set hp hq]
    refine Fin.ret (Ent.trans (Ent.settle_wal (b := b10) (by exact Perm.cons' goPk (Perm.cons' goPk (Perm.cons' goPk (Perm.cons' goPk (List.Perm.refl _))))) hLs hUl) (Ent.trans (Ent.setbox (s := 10) rfl goPk) (Ent.take goTk))) (Outs.many rfl (OutL.cons goOe (OutL.cons goOe OutL.nil)) rfl) ⟨rfl, ?_⟩
    rw [hW, hs2, valsW_set, hv]
end Lg
end
