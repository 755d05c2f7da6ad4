/- A part of the proof of a law of this seat: it adds no condition. By an AI agent. -/
import Derived.Test.YtnhnmjgjmlmahaaTk4
import Derived.Test.YtnhnmjgjmlmahaaLgX3
set_option linter.all false
set_option maxRecDepth 100000
set_option maxHeartbeats 8000000
namespace Lg
open Go Go.Proofs

abbrev InL := List (Unit × In1)
def rowsV (L : InL) : List (List Tr) := L.map fun p => [Tr.raw p.2.val]
def ownsV (E : TypeId) (L : InL) : List Chunk := L.map fun p => p.2.own 1 E
theorem rowsV_len (L : InL) : (rowsV L).length = L.length := by simp [rowsV]
theorem rowsV_snoc (L : InL) (p : In1) : rowsV L ++ [[Tr.raw p.val]] = rowsV (L ++ [((), p)]) := by simp [rowsV]
theorem ownsV_snoc (E : TypeId) (L : InL) (p : In1) : ownsV E L ++ [p.own 1 E] = ownsV E (L ++ [((), p)]) := by simp [ownsV]
theorem repI_set_any (n j : Nat) : (repI n).set j [Tr.intS fun _ : Int => True] = repI n := by
  unfold repI
  simp
theorem rep_snoc {L : InL} {n m : Nat} {ad2 : Option Addr} {cap2 : Nat} (h : ∀ p ∈ L, p.2.rows = repI n) (hm : m = n) : ∀ p ∈ L ++ [((), (⟨ad2, cap2, repI m⟩ : In1))], p.2.rows = repI n := by
  intro p hp
  rcases List.mem_append.1 hp with h1 | h1
  · exact h p h1
  · rw [List.mem_singleton.1 h1, hm]
def tsI (L : InL) : List Tr := L.map fun p => Tr.sl 1 p.2.rows
theorem tsI_eq (L : InL) : rowsT (tsI L) = L.map fun p => (fun _ => []) p.1 ++ Tr.sl 1 p.2.rows :: (fun _ => []) p.1 := by simp [rowsT, tsI]
theorem tsI_len (L : InL) : (tsI L).length = L.length := by simp [tsI]
theorem tsI_opn {L : InL} {n : Nat} (h : ∀ p ∈ L, p.2.rows = repI n) (hn : n ≤ 1000) : ∀ t ∈ tsI L, OpnI 1000 t := by
  intro t ht
  obtain ⟨p, hp, rfl⟩ := List.mem_map.1 ht
  rw [h p hp]
  exact opnI_rep hn
theorem tsI_snoc (L : InL) : rowsT (tsI L) ++ [[Tr.sl 1 [[Tr.int 0]]]] = rowsT (tsI L ++ [Tr.sl 1 [[Tr.int 0]]]) := by simp [rowsT]
theorem ent_nest {Γ : Ctx} {env : Env} {cs cf cf' : List Chunk} {E E2 : TypeId} {L : InL} {ad : Option Addr} {cap : Nat} (h1 : cs.Perm (Chunk.own ad cap 1 E (rowsV L) :: cf')) (h2 : cf'.Perm (Chunk.bun (ownsV E2 L) :: cf)) : Ent Γ env cs env (Chunk.own ad cap 1 E (rowsT (tsI L)) :: cf) := by
  rw [tsI_eq]
  exact Ent.settle_nest (fun _ => []) (fun _ => []) h1 h2 rfl rfl
theorem OpV.ent_eptr {P : Program} {Γ : Ctx} {op : Op} {ty : TypeId} {env : Env} {cs cs' : List Chunk} {ad : Option Addr} {k e j : Nat} (he : Ent Γ env cs env cs') (h : OpV P Γ op ty env cs' (Tr.eptr ad k e j)) : OpV P Γ op ty env cs (Tr.eptr ad k e j) := by
  unfold OpV at h ⊢
  intro a w d
  unfold Ent at he
  obtain ⟨v, h1, h2⟩ := h a w (he a w d)
  refine ⟨v, h1, ?_⟩
  unfold Tr.eptr at h2 ⊢
  exact h2
theorem rowsV_get {L : InL} {k : Nat} (h : k < L.length) : (rowsV L)[k]? = some [Tr.raw (L[k]).2.val] := by simp [rowsV, h]
theorem ent_in {Γ : Ctx} {env : Env} {cs cf : List Chunk} {E : TypeId} {L : InL} {n : Nat} {p : In1} (hL : ∀ q ∈ L, q.2.rows = repI n) (hp : ∃ q ∈ L, q.2 = p) (h : cs.Perm (Chunk.bun (ownsV E L) :: cf)) :
    ∃ cf', (∀ env, Ent Γ env cs env (Chunk.own p.ad p.cap 1 E (repI n) :: cf')) ∧ ∀ env, Ent Γ env (Chunk.own p.ad p.cap 1 E (repI n) :: cf') env (Chunk.bun (ownsV E L) :: cf) := by
  obtain ⟨q, hq, rfl⟩ := hp
  obtain ⟨A, B, rfl⟩ := List.append_of_mem hq
  have e : ownsV E (A ++ q :: B) = ownsV E A ++ q.2.own 1 E :: ownsV E B := by simp [ownsV]
  have e2 : q.2.own 1 E = Chunk.own q.2.ad q.2.cap 1 E (repI n) := by unfold In1.own; rw [hL q hq]
  rw [e, e2] at h ⊢
  refine ⟨Chunk.bun (ownsV E A ++ ownsV E B) :: cf, fun env => Ent.pull h, fun env => Ent.putb (List.Perm.refl _) (List.Perm.refl _)⟩
abbrev inP (L : InL) (p : In1) : Prop := ∃ q ∈ L, q.2 = p
theorem in1_val {L : InL} {n : Nat} {p : In1} (hL : ∀ q ∈ L, q.2.rows = repI n) (hp : inP L p) : p.val = .slice p.ad (repI n).length p.cap := by
  obtain ⟨q, hq, rfl⟩ := hp
  unfold In1.val
  rw [hL q hq]
theorem Imp.exE {ι : Type} {p : ι → Prop} {f : ι → Tr} {t : Tr} (x : ι) (e : f x = t) (h : p x) : Imp t (Tr.exS p f) := by
  rw [← e]
  exact Imp.exS h
abbrev tcs (bs : Nat) (xs : List Int) (b b2 : Nat) (ad : Option Addr) (cap : Nat) (L : InL) (c : Nat) : List Chunk := [Chunk.strm 25 bs (intRows xs) c, Chunk.box b 68 [Tr.raw (.slice ad (rowsV L).length cap)], Chunk.own ad cap 1 22 (rowsV L), Chunk.bun (ownsV 3 L), Chunk.box b2 68 [Tr.raw (.slice none 0 0)]]
abbrev tcs0 (bs : Nat) (xs : List Int) (b b2 : Nat) (ad : Option Addr) (cap : Nat) (L : InL) (c : Nat) : List Chunk := [Chunk.strm 25 bs (intRows xs) c, Chunk.box b 68 [Tr.raw (.slice ad (rowsV L).length cap)], Chunk.own ad cap 1 22 (rowsV L), Chunk.box b2 68 [Tr.raw (.slice none 0 0)]]
theorem table_gen : Gen Try.prog 25 43 [] 40 (fun r => ∃ ts : List Tr, r = .agg [.sl 1 (rowsT ts)] ∧ ts.length ≤ 5 ∧ ∀ t ∈ ts, OpnI 1000 t) := by
  unfold Gen
  intro bs xs N hN
  refine Spec.body Try.func43 rfl rfl (Try.ntmps43) rfl fun w0 own0 M => ?_
  repeat' (first | refine goH ?_ | refine goV ?_ | refine goB (fun b => ?_) | refine goC (fun ad cap => ?_) | refine goI ?_ | (refine Cw.k_cond ?_; first | (refine Cw.cond_dec rfl (fun hc => ?_) (fun hc => ?_) <;> try (exfalso; omega)) | refine Cw.cond_bool rfl (fun hc => ?_) (fun hc => ?_)) | (refine Ops.k_calla ?_; first | (refine Ops.k_callf 89 ?_; (refine Ops.callG (range_gen _ _ (by omega)) (Evs.cons rfl (Evs.cons rfl (Evs.cons rfl Evs.nil))) (by first | exact pick0 | exact pickS pick0 | exact pickS (pickS pick0) | exact pickS (pickS (pickS pick0)) | exact pickS (pickS (pickS (pickS pick0)))) (by omega) rfl ?_; rintro r ⟨w, rfl, hw⟩))) | refine goR ?_ | refine goP ?_ | apply PSeq.cons | apply PSeq.yes rfl rfl rfl | exact goW | fail)
  rename_i b2
  refine Cw.loopI [(0, _), (2, _), (3, _), (4, _), (12, _)] _ (fun q e cc => ∃ (k : Nat) (ad : Option Addr) (cap : Nat) (L : InL) (c : Nat), q = 4 - k ∧ ((k : Int) ≤ w ∧ L.length = k ∧ (∀ p ∈ L, p.2.rows = repI w.toNat) ∧ c ≤ N + 1 + 5 * k) ∧ e = [(13, .int k)] ∧ cc = [Chunk.box b 68 [Tr.raw (.slice ad (rowsV L).length cap)], Chunk.own ad cap 1 22 (rowsV L), Chunk.bun (ownsV 3 L), Chunk.strm 25 bs (intRows xs) c])
    ⟨_, _, _, Ent.trans (Ent.nil 1 22) (Ent.trans Ent.bun0 (Ent.mkP (by repeat' (first | exact Sub.nil | refine Sub.cons rfl ?_)) (by repeat' (first | exact List.Perm.refl _ | refine Perm.cons' (by first | exact pick0 | exact pickS pick0 | exact pickS (pickS pick0) | exact pickS (pickS (pickS pick0)) | exact pickS (pickS (pickS (pickS pick0)))) ?_)))), 0, none, 0, [], N + 1, rfl, ⟨by omega, rfl, by simp, by omega⟩, rfl, rfl⟩ ?_
  rintro _ _ _ ⟨k, ad, cap, L, c, rfl, ⟨hk, hL, hrep, h3⟩, rfl, rfl⟩
  have hVl : (rowsV L).length = k := by rw [rowsV_len, hL]
  by_cases hkl : (k : Int) < w
  · repeat' (first | refine goH ?_ | refine goV ?_ | refine goB (fun b => ?_) | refine goC (fun ad cap => ?_) | refine goI ?_ | (refine Cw.k_cond ?_; first | (refine Cw.cond_dec rfl (fun hc => ?_) (fun hc => ?_) <;> try (exfalso; omega)) | refine Cw.cond_bool rfl (fun hc => ?_) (fun hc => ?_)) | refine goR ?_ | refine goP ?_ | apply PSeq.cons | apply PSeq.yes rfl rfl rfl | exact goW | fail)
    refine Cw.loopI [(0, _), (2, _), (3, _), (4, _), (5, _), (12, _), (13, _), (16, _)] _ (fun q e cc => ∃ (i : Nat) (ad2 : Option Addr) (cap2 : Nat) (gs : List Int) (c2 : Nat) (p : Int), q = 4 - i ∧ ((i : Int) ≤ w ∧ gs.length = i ∧ c2 ≤ c + i ∧ 0 ≤ p ∧ p ≤ 100) ∧ e = [(6, .int p), (7, Tr.raw (.slice ad2 (intRows gs).length cap2)), (17, .int i)] ∧ cc = [Chunk.own ad2 cap2 1 3 (intRows gs), Chunk.strm 25 bs (intRows xs) c2])
      ⟨_, _, _, Ent.trans (Ent.nil 1 3) (Ent.mkP (by repeat' (first | exact Sub.nil | refine Sub.cons rfl ?_)) (by repeat' (first | exact List.Perm.refl _ | refine Perm.cons' (by first | exact pick0 | exact pickS pick0 | exact pickS (pickS pick0) | exact pickS (pickS (pickS pick0)) | exact pickS (pickS (pickS (pickS pick0)))) ?_))), 0, none, 0, [], c, 100, rfl, ⟨by omega, rfl, by omega, by omega, by omega⟩, rfl, rfl⟩ ?_
    rintro _ _ _ ⟨i, ad2, cap2, gs, c2, p, rfl, ⟨hi, hgl, hc2, hp1, hp2⟩, rfl, rfl⟩
    have hgr := intRows_len gs
    have key : ∀ a : Int, intRows gs ++ [[Tr.int a]] = intRows (gs ++ [a]) := by intro a; rw [intRows_app]; rfl
    by_cases hil : (i : Int) < w
    · repeat' (first | refine goH ?_ | refine goV ?_ | refine goB (fun b => ?_) | refine goC (fun ad cap => ?_) | refine goI ?_ | (refine Cw.k_cond ?_; first | (refine Cw.cond_dec rfl (fun hc => ?_) (fun hc => ?_) <;> try (exfalso; omega)) | refine Cw.cond_bool rfl (fun hc => ?_) (fun hc => ?_)) | (refine Ops.k_calla ?_; first | (refine Ops.k_callf 22 ?_; (refine Ops.callG (pick_gen (by repeat' (first | exact IsInts.nil | apply IsInts.cons)) (by simp)) (Evs.cons rfl (Evs.cons rfl Evs.nil)) (by first | exact pick0 | exact pickS pick0 | exact pickS (pickS pick0) | exact pickS (pickS (pickS pick0)) | exact pickS (pickS (pickS (pickS pick0)))) (by omega) rfl ?_; rintro r ⟨x, rfl, hx⟩; have hxb : 0 ≤ x ∧ x ≤ 50 := (by simp at hx; omega); clear hx))) | refine goR ?_ | refine goP ?_ | apply PSeq.cons | apply PSeq.yes rfl rfl rfl | exact goW | fail)
      all_goals (rw [key]; exact ⟨_, _, _, (Ent.mk (by repeat' (first | exact Sub.nil | refine Sub.cons rfl ?_)) (by repeat' (first | exact Take.nil | refine Take.cons (by first | exact pick0 | exact pickS pick0 | exact pickS (pickS pick0) | exact pickS (pickS (pickS pick0)) | exact pickS (pickS (pickS (pickS pick0)))) ?_))), ⟨i + 1, _, _, gs ++ [_], _, _, rfl, ⟨by omega, by simp [hgl], by omega, by omega, by omega⟩, rfl, rfl⟩, by omega⟩)
    · have hgw : gs.length = w.toNat := by omega
      refine Cw.ent (Ent.trans (Ent.own_repI (xs := gs) (by exact (by first | exact pick0 | exact pickS pick0 | exact pickS (pickS pick0) | exact pickS (pickS (pickS pick0)) | exact pickS (pickS (pickS (pickS pick0)))))) (Ent.push (c := (⟨ad2, cap2, repI gs.length⟩ : In1).own 1 3) (L := ownsV 3 L) (by exact (by first | exact pick0 | exact pickS pick0 | exact pickS (pickS pick0) | exact pickS (pickS (pickS pick0)) | exact pickS (pickS (pickS (pickS pick0))))) (by exact (by first | exact pick0 | exact pickS pick0 | exact pickS (pickS pick0) | exact pickS (pickS (pickS pick0)) | exact pickS (pickS (pickS (pickS pick0))))))) ?_
      rw [ownsV_snoc]
      repeat' (first | refine goH ?_ | refine goV ?_ | refine goB (fun b => ?_) | refine goC (fun ad cap => ?_) | refine goI ?_ | (refine Cw.k_cond ?_; first | (refine Cw.cond_dec rfl (fun hc => ?_) (fun hc => ?_) <;> try (exfalso; omega)) | refine Cw.cond_bool rfl (fun hc => ?_) (fun hc => ?_)) | refine goR ?_ | refine goP ?_ | apply PSeq.cons | apply PSeq.yes rfl rfl rfl | exact goW | fail)
      have e7 : [[Tr.raw (.slice ad2 (intRows gs).length cap2)]] = [[Tr.raw (⟨ad2, cap2, repI gs.length⟩ : In1).val]] := by simp only [In1.val, repI_len, hgr]
      rw [e7, rowsV_snoc]
      exact ⟨_, _, _, (Ent.mk (by repeat' (first | exact Sub.nil | refine Sub.cons rfl ?_)) (by repeat' (first | exact Take.nil | refine Take.cons (by first | exact pick0 | exact pickS pick0 | exact pickS (pickS pick0) | exact pickS (pickS (pickS pick0)) | exact pickS (pickS (pickS (pickS pick0)))) ?_))), ⟨k + 1, _, _, L ++ [((), ⟨ad2, cap2, repI gs.length⟩)], _, rfl, ⟨by omega, by simp [hL], rep_snoc hrep hgw, by omega⟩, rfl, rfl⟩, by omega⟩
  · repeat' (first | refine goH ?_ | ((fail_if_success refine Ops.k_c_append ?_); refine goV ?_) | ((fail_if_success refine Ops.k_c_append ?_); refine goB (fun b => ?_)) | ((fail_if_success refine Ops.k_c_append ?_); refine goC (fun ad cap => ?_)) | refine goI ?_ | (refine Cw.k_cond ?_; first | (refine Cw.cond_dec rfl (fun hc => ?_) (fun hc => ?_) <;> try (exfalso; omega)) | refine Cw.cond_bool rfl (fun hc => ?_) (fun hc => ?_)) | (refine Ops.k_calla ?_; first | (refine Ops.k_callf 59 ?_; (refine Ops.callG (flip_gen _ (by omega)) (Evs.cons rfl (Evs.cons rfl Evs.nil)) (by first | exact pick0 | exact pickS pick0 | exact pickS (pickS pick0) | exact pickS (pickS (pickS pick0)) | exact pickS (pickS (pickS (pickS pick0)))) (by omega) rfl ?_; rintro r ⟨v, rfl⟩)) | (refine Ops.k_callf 58 ?_; (refine Ops.callG (next_gen 3 (by omega)) (Evs.cons rfl (Evs.cons rfl Evs.nil)) (by first | exact pick0 | exact pickS pick0 | exact pickS (pickS pick0) | exact pickS (pickS (pickS pick0)) | exact pickS (pickS (pickS (pickS pick0)))) (by omega) rfl ?_; rintro r ⟨u, rfl, hu⟩; unfold InRange at hu; have hu3 : u = 0 ∨ u = 1 ∨ u = 2 := (by omega); clear hu))) | fail)
    · have hLw : L.length = w.toNat := by omega
      refine Cw.region_X (fun ξ S => tcs bs xs b b2 ad cap L (c + 1 + 1 + (b2n (S 4) + b2n (S 9) + b2n (S 12)))) rfl (by decide +kernel) rfl (fun _ => rfl) ?_
      have cnt : ∀ S : Nat → Bool, b2n (S 4) ≤ 1 ∧ b2n (S 9) ≤ 1 ∧ b2n (S 12) ≤ 1 := fun S => ⟨b2n_le _, b2n_le _, b2n_le _⟩
      apply XSeq.w (by intro _ _ _; rfl)
      · intro ξ S h1 h2 h3 h4; exact goW
      apply XSeq.w (t := Tr.raw (.slice ad (rowsV L).length cap)) (by intro _ _ _; rfl)
      · intro ξ S h1 h2 h3 h4; exact goW
      apply XSeq.w (by intro _ _ _; rfl)
      · intro ξ S h1 h2 h3 h4; exact goW
      apply XSeq.w (by intro _ _ _; rfl)
      · intro ξ S h1 h2 h3 h4; exact goW
      apply XSeq.callG (t := Tr.intS fun x => 0 ≤ x ∧ x < w) (next_gen w (by omega)) (fun _ => (Evs.cons rfl (Evs.cons rfl Evs.nil))) (by rintro r ⟨v, rfl, h⟩; unfold InRange at h; exact Imp.intS (by omega))
      · intro ξ S h1 h3
        have hc := cnt S
        refine ⟨_, _, ?_, List.Perm.refl _, fun v => perm_strm ?_⟩
        · omega
        · show c + 1 + 1 + (b2n true + b2n (S 9) + b2n (S 12)) = _
          rw [h1]; simp only [b2n]; omega
      apply XSeq.w (t := Tr.exS (fun k : Nat => k < L.length) (fun k => Tr.eptr ad 1 k 0)) (by intro _ _ _; rfl)
      · intro ξ S h1 h2 h3 h4
        apply OpV.w
        refine OpV.openS (s := 55) rfl open_intS ?_
        intro x hx
        refine OpV.imp (OpV.indexAddr_own rfl rfl (by first | exact pick0 | exact pickS pick0 | exact pickS (pickS pick0) | exact pickS (pickS (pickS pick0)) | exact pickS (pickS (pickS (pickS pick0)))) rfl (by omega) (by omega)) ?_
        exact Imp.exE x.toNat rfl (by omega)
      apply XSeq.w (t := Tr.exS (inP L) (fun p => Tr.raw p.val)) (by intro _ _ _; rfl)
      · intro ξ S h1 h2 h3 h4
        apply OpV.w
        refine OpV.openS (s := 56) rfl open_exS ?_
        intro k hk
        refine OpV.imp (OpV.load_own_one rfl (by first | exact pick0 | exact pickS pick0 | exact pickS (pickS pick0) | exact pickS (pickS (pickS pick0)) | exact pickS (pickS (pickS (pickS pick0)))) (rowsV_get hk) rfl) ?_
        exact Imp.exE L[k].2 rfl ⟨L[k], List.getElem_mem hk, rfl⟩
      apply XSeq.w (by intro _ _ _; rfl)
      · intro ξ S h1 h2 h3 h4; exact goW
      apply XSeq.w (by intro _ _ _; rfl)
      · intro ξ S h1 h2 h3 h4; exact goW
      apply XSeq.callG (t := Tr.intS fun x => 0 ≤ x ∧ x < w) (next_gen w (by omega)) (fun _ => (Evs.cons rfl (Evs.cons rfl Evs.nil))) (by rintro r ⟨v, rfl, h⟩; unfold InRange at h; exact Imp.intS (by omega))
      · intro ξ S h1 h3
        have hc := cnt S
        refine ⟨_, _, ?_, List.Perm.refl _, fun v => perm_strm ?_⟩
        · omega
        · show c + 1 + 1 + (b2n (S 4) + b2n true + b2n (S 12)) = _
          rw [h1]; simp only [b2n]; omega
      apply XSeq.w (by intro _ _ _; rfl)
      · intro ξ S h1 h2 h3 h4; exact goW
      apply XSeq.w (by intro _ _ _; rfl)
      · intro ξ S h1 h2 h3 h4; exact goW
      apply XSeq.callG (t := Tr.intS fun _ => True) (pick_gen (l := [-1, 5, 101, 100]) (by repeat' (first | exact IsInts.nil | apply IsInts.cons)) (by simp)) (fun _ => (Evs.cons rfl (Evs.cons rfl Evs.nil))) (by rintro r ⟨v, rfl, h⟩; exact Imp.intS trivial)
      · intro ξ S h1 h3
        have hc := cnt S
        refine ⟨_, _, ?_, List.Perm.refl _, fun v => perm_strm ?_⟩
        · omega
        · show c + 1 + 1 + (b2n (S 4) + b2n (S 9) + b2n true) = _
          rw [h1]; simp only [b2n]; omega
      apply XSeq.w (t := Tr.exS (fun x : In1 × Nat => inP L x.1 ∧ x.2 < w.toNat) (fun x => Tr.eptr x.1.ad 1 x.2 0)) (by intro _ _ _; rfl)
      · intro ξ S h1 h2 h3 h4
        apply OpV.w
        refine OpV.openS (s := 60) rfl open_intS ?_
        intro x hx
        refine OpV.openS (s := 57) rfl open_exS ?_
        intro p hp
        obtain ⟨cf', hE1, hE2⟩ := ent_in (Γ := { w0 := w0, own0 := own0, M := M, n := 74 }) (env := []) (E := 3) hrep hp (show (tcs bs xs b b2 ad cap L (c + 1 + 1 + (b2n (S 4) + b2n (S 9) + b2n (S 12)))).Perm (_ :: tcs0 bs xs b b2 ad cap L (c + 1 + 1 + (b2n (S 4) + b2n (S 9) + b2n (S 12)))) from (by first | exact pick0 | exact pickS pick0 | exact pickS (pickS pick0) | exact pickS (pickS (pickS pick0)) | exact pickS (pickS (pickS (pickS pick0)))))
        have hv := in1_val hrep hp
        refine OpV.imp (t := Tr.eptr p.ad 1 x.toNat 0) (OpV.ent_eptr (hE1 _) ?_) (Imp.exE (p, x.toNat) rfl ⟨hp, by omega⟩)
        rw [hv]
        have hrl := repI_len w.toNat
        exact OpV.indexAddr_own rfl rfl (by first | exact pick0 | exact pickS pick0 | exact pickS (pickS pick0) | exact pickS (pickS (pickS pick0)) | exact pickS (pickS (pickS (pickS pick0)))) rfl (by omega) (by omega)
      apply XSeq.storeE
      · intro ξ S h1 h2 h3 h4
        refine ⟨_, _, rfl, rfl, inferInstance, ?_⟩
        intro w1 A v1 hr
        obtain ⟨⟨p, j⟩, ⟨hp, hj⟩, hr⟩ := open_exS w1 A v1 hr
        simp only at hp hj hr
        obtain ⟨cf', hE1, hE2⟩ := ent_in (Γ := { w0 := w0, own0 := own0, M := M, n := 74 }) (env := []) (E := 3) hrep hp (show (tcs bs xs b b2 ad cap L (c + 1 + 1 + (b2n (S 4) + b2n (S 9) + b2n (S 12)))).Perm (_ :: tcs0 bs xs b b2 ad cap L (c + 1 + 1 + (b2n (S 4) + b2n (S 9) + b2n (S 12)))) from (by first | exact pick0 | exact pickS pick0 | exact pickS (pickS pick0) | exact pickS (pickS (pickS pick0)) | exact pickS (pickS (pickS (pickS pick0)))))
        refine ⟨p.ad, p.cap, 1, j, 0, 3, repI w.toNat, _, cf', hr, hE1, repI_get hj, by omega, ?_⟩
        intro env2
        rw [show ([Tr.intS fun _ : Int => True].set 0 (Tr.intS fun _ : Int => True)) = [Tr.intS fun _ : Int => True] from rfl, repI_set_any]
        exact Ent.trans (hE2 env2) (Ent.perm (show (_ :: tcs0 bs xs b b2 ad cap L (c + 1 + 1 + (b2n (S 4) + b2n (S 9) + b2n (S 12)))).Perm (tcs bs xs b b2 ad cap L (c + 1 + 1 + (b2n (S 4) + b2n (S 9) + b2n (S 12)))) from (by repeat' (first | exact List.Perm.refl _ | refine Perm.cons' (by first | exact pick0 | exact pickS pick0 | exact pickS (pickS pick0) | exact pickS (pickS (pickS pick0)) | exact pickS (pickS (pickS (pickS pick0)))) ?_))))
      refine XSeq.nil fun ξ hf => ?_
      refine ⟨[(0, .ptr bs), (2, Tr.raw (.pointer (some ⟨b2, 0, none⟩))), (4, Tr.raw (.pointer (some ⟨b, 0, none⟩)))], tcs bs xs b b2 ad cap L (c + 5), Ent.sub (by repeat' (first | exact Sub.nil | refine Sub.cons rfl ?_)), ?_⟩
      refine InB.norm (Then.norm ?_)
      repeat' (first | refine goH ?_ | refine goV ?_ | refine goB (fun b => ?_) | refine goC (fun ad cap => ?_) | refine goI ?_ | (refine Cw.k_cond ?_; first | (refine Cw.cond_dec rfl (fun hc => ?_) (fun hc => ?_) <;> try (exfalso; omega)) | refine Cw.cond_bool rfl (fun hc => ?_) (fun hc => ?_)) | refine goR ?_ | refine goP ?_ | apply PSeq.cons | apply PSeq.yes rfl rfl rfl | exact goW | fail)
      refine Fin.ret (Ent.trans (ent_nest (E := 22) (E2 := 3) (by first | exact pick0 | exact pickS pick0 | exact pickS (pickS pick0) | exact pickS (pickS (pickS pick0)) | exact pickS (pickS (pickS (pickS pick0)))) (by first | exact pick0 | exact pickS pick0 | exact pickS (pickS pick0) | exact pickS (pickS (pickS pick0)) | exact pickS (pickS (pickS (pickS pick0))))) (Ent.trans (Ent.settle_box (b := b2) (i := 0) (kk := 1) (by exact Perm.cons' (by first | exact pick0 | exact pickS pick0 | exact pickS (pickS pick0) | exact pickS (pickS (pickS pick0)) | exact pickS (pickS (pickS (pickS pick0)))) (Perm.cons' (by first | exact pick0 | exact pickS pick0 | exact pickS (pickS pick0) | exact pickS (pickS (pickS pick0)) | exact pickS (pickS (pickS (pickS pick0)))) (List.Perm.refl _))) rfl (by rw [rowsT_len, tsI_len, rowsV_len]) rfl) (Ent.trans (Ent.setbox (s := 2) rfl (by first | exact pick0 | exact pickS pick0 | exact pickS (pickS pick0) | exact pickS (pickS (pickS pick0)) | exact pickS (pickS (pickS (pickS pick0))))) (Ent.strm_only (by first | exact pick0 | exact pickS pick0 | exact pickS (pickS pick0) | exact pickS (pickS (pickS pick0)) | exact pickS (pickS (pickS (pickS pick0)))) (by omega))))) (Outs.sole rfl (by exact OutE.agg inferInstance rfl rfl)) ⟨rfl, tsI L, rfl, ?_, ?_⟩
      · rw [tsI_len]; omega
      · exact tsI_opn hrep (by omega)
    · refine Ops.ent (ent_nest (E := 22) (E2 := 3) (by first | exact pick0 | exact pickS pick0 | exact pickS (pickS pick0) | exact pickS (pickS (pickS pick0)) | exact pickS (pickS (pickS (pickS pick0)))) (by first | exact pick0 | exact pickS pick0 | exact pickS (pickS pick0) | exact pickS (pickS (pickS pick0)) | exact pickS (pickS (pickS (pickS pick0))))) ?_
      have hTl : (rowsT (tsI L)).length = (rowsV L).length := by rw [rowsT_len, tsI_len, rowsV_len]
      repeat' (first | refine goH ?_ | refine goV ?_ | refine goB (fun b => ?_) | refine goC (fun ad cap => ?_) | refine goI ?_ | (refine Cw.k_cond ?_; first | (refine Cw.cond_dec rfl (fun hc => ?_) (fun hc => ?_) <;> try (exfalso; omega)) | refine Cw.cond_bool rfl (fun hc => ?_) (fun hc => ?_)) | refine goR ?_ | refine goP ?_ | apply PSeq.cons | apply PSeq.yes rfl rfl rfl | exact goW | fail)
      rw [tsI_snoc]
      refine Fin.ret (Ent.trans (Ent.settle_box (b := b2) (i := 0) (kk := 1) (by exact Perm.cons' (by first | exact pick0 | exact pickS pick0 | exact pickS (pickS pick0) | exact pickS (pickS (pickS pick0)) | exact pickS (pickS (pickS (pickS pick0)))) (Perm.cons' (by first | exact pick0 | exact pickS pick0 | exact pickS (pickS pick0) | exact pickS (pickS (pickS pick0)) | exact pickS (pickS (pickS (pickS pick0)))) (List.Perm.refl _))) rfl rfl rfl) (Ent.trans (Ent.setbox (s := 2) rfl (by first | exact pick0 | exact pickS pick0 | exact pickS (pickS pick0) | exact pickS (pickS (pickS pick0)) | exact pickS (pickS (pickS (pickS pick0))))) (Ent.strm_only (by first | exact pick0 | exact pickS pick0 | exact pickS (pickS pick0) | exact pickS (pickS (pickS pick0)) | exact pickS (pickS (pickS (pickS pick0)))) (by omega)))) (Outs.sole rfl (by exact OutE.agg inferInstance rfl rfl)) ⟨rfl, _, rfl, ?_, ?_⟩
      · rw [List.length_append, tsI_len]; simp; omega
      · intro t ht
        rcases List.mem_append.1 ht with h | h
        · exact tsI_opn hrep (by omega) t h
        · rw [List.mem_singleton.1 h]
          exact opnI_ints (xs := [0]) (by simp)
    · refine Fin.ret (Ent.trans (Ent.imp_box (b := b2) (by first | exact pick0 | exact pickS pick0 | exact pickS (pickS pick0) | exact pickS (pickS (pickS pick0)) | exact pickS (pickS (pickS (pickS pick0)))) (ImpL.cons (Imp.nil (k := 1)) ImpL.nil)) (Ent.trans (Ent.setbox (s := 2) rfl (by first | exact pick0 | exact pickS pick0 | exact pickS (pickS pick0) | exact pickS (pickS (pickS pick0)) | exact pickS (pickS (pickS (pickS pick0))))) (Ent.strm_only (by first | exact pick0 | exact pickS pick0 | exact pickS (pickS pick0) | exact pickS (pickS (pickS pick0)) | exact pickS (pickS (pickS (pickS pick0)))) (by omega)))) (Outs.sole rfl (by exact OutE.agg inferInstance rfl rfl)) ⟨rfl, [], rfl, ?_, ?_⟩
      · simp
      · simp
    · refine Fin.ret (Ent.trans (ent_nest (E := 22) (E2 := 3) (by first | exact pick0 | exact pickS pick0 | exact pickS (pickS pick0) | exact pickS (pickS (pickS pick0)) | exact pickS (pickS (pickS (pickS pick0)))) (by first | exact pick0 | exact pickS pick0 | exact pickS (pickS pick0) | exact pickS (pickS (pickS pick0)) | exact pickS (pickS (pickS (pickS pick0))))) (Ent.trans (Ent.settle_box (b := b2) (i := 0) (kk := 1) (by exact Perm.cons' (by first | exact pick0 | exact pickS pick0 | exact pickS (pickS pick0) | exact pickS (pickS (pickS pick0)) | exact pickS (pickS (pickS (pickS pick0)))) (Perm.cons' (by first | exact pick0 | exact pickS pick0 | exact pickS (pickS pick0) | exact pickS (pickS (pickS pick0)) | exact pickS (pickS (pickS (pickS pick0)))) (List.Perm.refl _))) rfl (by rw [rowsT_len, tsI_len, rowsV_len]) rfl) (Ent.trans (Ent.setbox (s := 2) rfl (by first | exact pick0 | exact pickS pick0 | exact pickS (pickS pick0) | exact pickS (pickS (pickS pick0)) | exact pickS (pickS (pickS (pickS pick0))))) (Ent.strm_only (by first | exact pick0 | exact pickS pick0 | exact pickS (pickS pick0) | exact pickS (pickS (pickS pick0)) | exact pickS (pickS (pickS (pickS pick0)))) (by omega))))) (Outs.sole rfl (by exact OutE.agg inferInstance rfl rfl)) ⟨rfl, tsI L, rfl, ?_, ?_⟩
      · rw [tsI_len]; omega
      · exact tsI_opn hrep (by omega)
end Lg
