/- A part of the proof of a law of this seat: it adds no condition. By an AI agent. -/
import Derived.Test.YteooghfcfmmkkaaCo3
section
set_option linter.all false
set_option maxRecDepth 100000
set_option maxHeartbeats 1000000
namespace Lg
open Go Go.Proofs
theorem indexFunc_int {l : List Int} {p : Int → Bool} {g : Nat} {caps : List Value} {cin : List Chunk} (hl : l.length ≤ 1000000000)
    (hs : ∀ x, x ∈ l → Spec Try.prog g ([Tr.int x] ++ caps.map Tr.raw) cin (fun r cs => r = Tr.bool (p x) ∧ cs = cin)) :
    Spec Try.prog 45 [Tr.sl 1 (l.map (fun x => [Tr.int x])), Tr.raw (.func (.func g) #[] caps.toArray)] cin (fun r cs => r = Tr.int (idxFrom p l 0) ∧ cs = cin) := by
  refine Spec.body Try.func45 rfl rfl (Try.ntmps45) rfl fun w0 own0 M => ?_
  have hL : (l.map (fun x => [Tr.int x])).length = l.length := List.length_map _
  repeat' (first | refine Ops.nil ?_ | refine Then.norm ?_ | refine Cw.seq ?_ | refine Cw.region ?_ | refine Cw.block ?_ | refine Cw.exit ?_ | refine Cw.skip ?_ | refine Cw.ret ?_ | refine Then.exit ?_ | refine Then.ret ?_ | refine InB.exit ?_ | refine InB.norm ?_ | refine InB.ret ?_ | refine InB.exit_ne rfl ?_ | (refine Ops.k_move ?_; first | refine Ops.move rfl rfl ?_ | refine Ops.move_any rfl ?_) | (refine Ops.k_assign ?_; first | refine Ops.assign rfl rfl ?_ | refine Ops.assign_any rfl ?_) | (refine Ops.k_load ?_; first | refine Ops.load_ref_one rfl rfl ?_ | refine Ops.load_ref_agg rfl rfl rfl ?_ | refine Ops.load_box_one rfl goPk rfl rfl ?_ | refine Ops.load_box_agg rfl goPk rfl rfl ?_ | refine Ops.load_own_one rfl goPk (by first | rfl | assumption | (simp [*]; done)) rfl rfl ?_ | refine Ops.load_own_agg rfl goPk (by first | rfl | assumption | (simp [*]; done)) rfl ?_ | refine Ops.load_box_part rfl goPk rfl rfl rfl ?_ | refine Ops.load_q_one rfl goPk (by first | rfl | assumption | (simp [*]; done)) rfl rfl ?_) | (refine Ops.k_c_len ?_; first | refine Ops.len_raw rfl rfl ?_ | refine Ops.len_sl rfl rfl ?_ | refine Ops.len_str rfl rfl rfl ?_ | refine Ops.len_q rfl rfl ?_) | (refine Ops.k_b_lss ?_; first | refine Ops.lss rfl rfl rfl ?_) | (refine Ops.k_b_add ?_; first | refine Ops.add rfl rfl (by first | omega | (simp; done) | (simp; omega)) rfl ?_) | (refine Ops.k_indexAddr ?_; first | refine Ops.indexAddr_sl rfl rfl (by omega) (by first | rfl | assumption | (simp [*]; done)) rfl ?_ | refine Ops.indexAddr_own rfl rfl goPk (by first | rfl | omega | (simp; done) | (simp; omega)) (by first | omega | (simp; done) | (simp; omega)) (by first | omega | (simp; done) | (simp; omega)) rfl ?_ | refine Ops.indexAddr_q rfl rfl goPk (by first | rfl | omega | (simp; done) | (simp; omega)) (by first | omega | (simp; done) | (simp; omega)) (by first | omega | (simp; done) | (simp; omega)) rfl ?_) | (refine Cw.k_cond ?_; first | refine Cw.cond_true rfl ?_ | refine Cw.cond_false rfl ?_ | (refine Cw.cond_dec rfl (fun hc => ?_) (fun hc => ?_) <;> try (exfalso; omega)) | refine Cw.cond_bool rfl (fun hc => ?_) (fun hc => ?_)))
  refine Cw.loop (ι := Nat) (fun k => k ≤ l.length ∧ idxFrom p l 0 = idxFrom p (l.drop k) k) (fun k => [(0, Tr.sl 1 (l.map (fun x => [Tr.int x]))), (1, Tr.raw (.func (.func g) #[] caps.toArray)), (7, .int (l.map (fun x => [Tr.int x])).length), (8, .int k)]) (fun _ => cin) (fun k => l.length - k) ⟨0, ⟨by omega, rfl⟩, Ent.sub goSub⟩ ?_
  rintro k ⟨hk, hgo⟩
  by_cases hkl : k < l.length
  · obtain ⟨x, hx⟩ : ∃ x, l[k]? = some x := ⟨_, List.getElem?_eq_getElem hkl⟩
    have hrow : (l.map (fun x => [Tr.int x]))[k]? = some [Tr.int x] := rows_at hx
    have hdrop := idxFrom_drop p hx
    rw [hdrop] at hgo
    have hsx := hs x (List.mem_of_getElem? hx)
    by_cases hp : p x = true
    · rw [if_pos hp] at hgo
      rw [hp] at hsx
      repeat' (first | refine Ops.nil ?_ | refine Then.norm ?_ | refine Cw.seq ?_ | refine Cw.region ?_ | refine Cw.block ?_ | refine Cw.exit ?_ | refine Cw.skip ?_ | refine Cw.ret ?_ | refine Then.exit ?_ | refine Then.ret ?_ | refine InB.exit ?_ | refine InB.norm ?_ | refine InB.ret ?_ | refine InB.exit_ne rfl ?_ | (refine Ops.k_move ?_; first | refine Ops.move rfl rfl ?_ | refine Ops.move_any rfl ?_) | (refine Ops.k_assign ?_; first | refine Ops.assign rfl rfl ?_ | refine Ops.assign_any rfl ?_) | (refine Ops.k_load ?_; first | refine Ops.load_ref_one rfl rfl ?_ | refine Ops.load_ref_agg rfl rfl rfl ?_ | refine Ops.load_box_one rfl goPk rfl rfl ?_ | refine Ops.load_box_agg rfl goPk rfl rfl ?_ | refine Ops.load_own_one rfl goPk (by first | rfl | assumption | (simp [*]; done)) rfl rfl ?_ | refine Ops.load_own_agg rfl goPk (by first | rfl | assumption | (simp [*]; done)) rfl ?_ | refine Ops.load_box_part rfl goPk rfl rfl rfl ?_ | refine Ops.load_q_one rfl goPk (by first | rfl | assumption | (simp [*]; done)) rfl rfl ?_) | (refine Ops.k_c_len ?_; first | refine Ops.len_raw rfl rfl ?_ | refine Ops.len_sl rfl rfl ?_ | refine Ops.len_str rfl rfl rfl ?_ | refine Ops.len_q rfl rfl ?_) | (refine Ops.k_b_lss ?_; first | refine Ops.lss rfl rfl rfl ?_) | (refine Ops.k_b_add ?_; first | refine Ops.add rfl rfl (by first | omega | (simp; done) | (simp; omega)) rfl ?_) | (refine Ops.k_indexAddr ?_; first | refine Ops.indexAddr_sl rfl rfl (by omega) (by first | rfl | assumption | (simp [*]; done)) rfl ?_ | refine Ops.indexAddr_own rfl rfl goPk (by first | rfl | omega | (simp; done) | (simp; omega)) (by first | omega | (simp; done) | (simp; omega)) (by first | omega | (simp; done) | (simp; omega)) rfl ?_ | refine Ops.indexAddr_q rfl rfl goPk (by first | rfl | omega | (simp; done) | (simp; omega)) (by first | omega | (simp; done) | (simp; omega)) (by first | omega | (simp; done) | (simp; omega)) rfl ?_) | (refine Cw.k_cond ?_; first | refine Cw.cond_true rfl ?_ | refine Cw.cond_false rfl ?_ | (refine Cw.cond_dec rfl (fun hc => ?_) (fun hc => ?_) <;> try (exfalso; omega)) | refine Cw.cond_bool rfl (fun hc => ?_) (fun hc => ?_)) | (refine Ops.k_calla ?_; first | (refine Ops.call_fn rfl hsx (Evs.cons rfl Evs.nil) (by rw [List.append_nil]) rfl ?_; rintro r cs' ⟨rfl, hcs⟩; rw [hcs, List.append_nil])))
      exact Fin.ret Ent.refl (Outs.one rfl rfl) ⟨by rw [hgo], rfl⟩
    · rw [if_neg hp] at hgo
      rw [Bool.not_eq_true] at hp
      rw [hp] at hsx
      repeat' (first | refine Ops.nil ?_ | refine Then.norm ?_ | refine Cw.seq ?_ | refine Cw.region ?_ | refine Cw.block ?_ | refine Cw.exit ?_ | refine Cw.skip ?_ | refine Cw.ret ?_ | refine Then.exit ?_ | refine Then.ret ?_ | refine InB.exit ?_ | refine InB.norm ?_ | refine InB.ret ?_ | refine InB.exit_ne rfl ?_ | (refine Ops.k_move ?_; first | refine Ops.move rfl rfl ?_ | refine Ops.move_any rfl ?_) | (refine Ops.k_assign ?_; first | refine Ops.assign rfl rfl ?_ | refine Ops.assign_any rfl ?_) | (refine Ops.k_load ?_; first | refine Ops.load_ref_one rfl rfl ?_ | refine Ops.load_ref_agg rfl rfl rfl ?_ | refine Ops.load_box_one rfl goPk rfl rfl ?_ | refine Ops.load_box_agg rfl goPk rfl rfl ?_ | refine Ops.load_own_one rfl goPk (by first | rfl | assumption | (simp [*]; done)) rfl rfl ?_ | refine Ops.load_own_agg rfl goPk (by first | rfl | assumption | (simp [*]; done)) rfl ?_ | refine Ops.load_box_part rfl goPk rfl rfl rfl ?_ | refine Ops.load_q_one rfl goPk (by first | rfl | assumption | (simp [*]; done)) rfl rfl ?_) | (refine Ops.k_c_len ?_; first | refine Ops.len_raw rfl rfl ?_ | refine Ops.len_sl rfl rfl ?_ | refine Ops.len_str rfl rfl rfl ?_ | refine Ops.len_q rfl rfl ?_) | (refine Ops.k_b_lss ?_; first | refine Ops.lss rfl rfl rfl ?_) | (refine Ops.k_b_add ?_; first | refine Ops.add rfl rfl (by first | omega | (simp; done) | (simp; omega)) rfl ?_) | (refine Ops.k_indexAddr ?_; first | refine Ops.indexAddr_sl rfl rfl (by omega) (by first | rfl | assumption | (simp [*]; done)) rfl ?_ | refine Ops.indexAddr_own rfl rfl goPk (by first | rfl | omega | (simp; done) | (simp; omega)) (by first | omega | (simp; done) | (simp; omega)) (by first | omega | (simp; done) | (simp; omega)) rfl ?_ | refine Ops.indexAddr_q rfl rfl goPk (by first | rfl | omega | (simp; done) | (simp; omega)) (by first | omega | (simp; done) | (simp; omega)) (by first | omega | (simp; done) | (simp; omega)) rfl ?_) | (refine Cw.k_cond ?_; first | refine Cw.cond_true rfl ?_ | refine Cw.cond_false rfl ?_ | (refine Cw.cond_dec rfl (fun hc => ?_) (fun hc => ?_) <;> try (exfalso; omega)) | refine Cw.cond_bool rfl (fun hc => ?_) (fun hc => ?_)) | (refine Ops.k_calla ?_; first | (refine Ops.call_fn rfl hsx (Evs.cons rfl Evs.nil) (by rw [List.append_nil]) rfl ?_; rintro r cs' ⟨rfl, hcs⟩; rw [hcs, List.append_nil])))
      exact ⟨k + 1, ⟨by omega, hgo⟩, by omega, Ent.sub goSub⟩
  · rw [List.drop_eq_nil_of_le (by omega), idxFrom] at hgo
    repeat' (first | refine Ops.nil ?_ | refine Then.norm ?_ | refine Cw.seq ?_ | refine Cw.region ?_ | refine Cw.block ?_ | refine Cw.exit ?_ | refine Cw.skip ?_ | refine Cw.ret ?_ | refine Then.exit ?_ | refine Then.ret ?_ | refine InB.exit ?_ | refine InB.norm ?_ | refine InB.ret ?_ | refine InB.exit_ne rfl ?_ | (refine Ops.k_move ?_; first | refine Ops.move rfl rfl ?_ | refine Ops.move_any rfl ?_) | (refine Ops.k_assign ?_; first | refine Ops.assign rfl rfl ?_ | refine Ops.assign_any rfl ?_) | (refine Ops.k_load ?_; first | refine Ops.load_ref_one rfl rfl ?_ | refine Ops.load_ref_agg rfl rfl rfl ?_ | refine Ops.load_box_one rfl goPk rfl rfl ?_ | refine Ops.load_box_agg rfl goPk rfl rfl ?_ | refine Ops.load_own_one rfl goPk (by first | rfl | assumption | (simp [*]; done)) rfl rfl ?_ | refine Ops.load_own_agg rfl goPk (by first | rfl | assumption | (simp [*]; done)) rfl ?_ | refine Ops.load_box_part rfl goPk rfl rfl rfl ?_ | refine Ops.load_q_one rfl goPk (by first | rfl | assumption | (simp [*]; done)) rfl rfl ?_) | (refine Ops.k_c_len ?_; first | refine Ops.len_raw rfl rfl ?_ | refine Ops.len_sl rfl rfl ?_ | refine Ops.len_str rfl rfl rfl ?_ | refine Ops.len_q rfl rfl ?_) | (refine Ops.k_b_lss ?_; first | refine Ops.lss rfl rfl rfl ?_) | (refine Ops.k_b_add ?_; first | refine Ops.add rfl rfl (by first | omega | (simp; done) | (simp; omega)) rfl ?_) | (refine Ops.k_indexAddr ?_; first | refine Ops.indexAddr_sl rfl rfl (by omega) (by first | rfl | assumption | (simp [*]; done)) rfl ?_ | refine Ops.indexAddr_own rfl rfl goPk (by first | rfl | omega | (simp; done) | (simp; omega)) (by first | omega | (simp; done) | (simp; omega)) (by first | omega | (simp; done) | (simp; omega)) rfl ?_ | refine Ops.indexAddr_q rfl rfl goPk (by first | rfl | omega | (simp; done) | (simp; omega)) (by first | omega | (simp; done) | (simp; omega)) (by first | omega | (simp; done) | (simp; omega)) rfl ?_) | (refine Cw.k_cond ?_; first | refine Cw.cond_true rfl ?_ | refine Cw.cond_false rfl ?_ | (refine Cw.cond_dec rfl (fun hc => ?_) (fun hc => ?_) <;> try (exfalso; omega)) | refine Cw.cond_bool rfl (fun hc => ?_) (fun hc => ?_)))
    exact Fin.ret Ent.refl (Outs.one rfl rfl) ⟨by rw [hgo], rfl⟩

theorem containsFunc_int {l : List Int} {p : Int → Bool} {g : Nat} {caps : List Value} {cin : List Chunk} (hl : l.length ≤ 1000000000)
    (hs : ∀ x, x ∈ l → Spec Try.prog g ([Tr.int x] ++ caps.map Tr.raw) cin (fun r cs => r = Tr.bool (p x) ∧ cs = cin)) :
    Spec Try.prog 25 [Tr.sl 1 (l.map (fun x => [Tr.int x])), Tr.raw (.func (.func g) #[] caps.toArray)] cin (fun r cs => r = Tr.bool (l.any p) ∧ cs = cin) := by
  refine Spec.body Try.func25 rfl rfl (Try.ntmps25) rfl fun w0 own0 M => ?_
  repeat' (first | refine Ops.nil ?_ | refine Then.norm ?_ | refine Cw.seq ?_ | refine Cw.region ?_ | refine Cw.block ?_ | refine Cw.exit ?_ | refine Cw.skip ?_ | refine Cw.ret ?_ | refine Then.exit ?_ | refine Then.ret ?_ | refine InB.exit ?_ | refine InB.norm ?_ | refine InB.ret ?_ | refine InB.exit_ne rfl ?_ | (refine Ops.k_move ?_; first | refine Ops.move rfl rfl ?_ | refine Ops.move_any rfl ?_) | (refine Ops.k_assign ?_; first | refine Ops.assign rfl rfl ?_ | refine Ops.assign_any rfl ?_) | (refine Ops.k_b_geq ?_; first | refine Ops.geq rfl rfl rfl ?_) | (refine Cw.k_cond ?_; first | refine Cw.cond_true rfl ?_ | refine Cw.cond_false rfl ?_ | (refine Cw.cond_dec rfl (fun hc => ?_) (fun hc => ?_) <;> try (exfalso; omega)) | refine Cw.cond_bool rfl (fun hc => ?_) (fun hc => ?_)) | (refine Ops.k_calla ?_; first | (refine Ops.k_callf 45 ?_; (refine Ops.call (indexFunc_int hl hs) (Evs.cons rfl (Evs.cons rfl Evs.nil)) (by rw [List.append_nil]) rfl ?_; rintro r cs' ⟨rfl, hcs⟩; rw [hcs, List.append_nil]))))
  refine Fin.ret Ent.refl (Outs.one rfl rfl) ⟨congrArg Tr.bool ?_, rfl⟩
  have := idxFrom_ge p l 0 (Int.le_refl _)
  by_cases h : 0 ≤ idxFrom p l 0
  · simp [h, this.1 h]
  · have h2 : l.any p = false := by rw [← Bool.not_eq_true]; exact fun e => h (this.2 e)
    simp [h, h2]

end Lg
end
section
set_option linter.all false
set_option maxRecDepth 100000
set_option maxHeartbeats 4000000
namespace Lg
open Go Go.Proofs

theorem grow_fn (n : Nat) (hn : n ≤ 1000000) : PFnO Try.prog 50 [Tr.raw (.slice none 0 0), .int n] 1 3 (· = []) := by
  unfold PFnO
  refine Spec.body Try.func50 rfl rfl (Try.ntmps50) rfl fun w0 own0 M => ?_
  refine Cw.ent (Ent.nil 1 3) ?_
  by_cases h0 : 0 < n
  · repeat' (first | refine goH ?_ | refine goV ?_ | refine goC (fun ad cap => ?_) | refine goI ?_ | (refine Cw.k_cond ?_; first | (refine Cw.cond_dec rfl (fun hc => ?_) (fun hc => ?_) <;> try (exfalso; omega)) | refine Cw.cond_bool rfl (fun hc => ?_) (fun hc => ?_)) | (refine Ops.val' rfl (OpV.cap Try.underlying22 rfl) ?_) | (refine Ops.append_zeros (n := n) Try.underlying3 rfl ?_ h0 (by omega) (by omega) rfl (fun ad cap => ?_)) | fail)
    · show some (Tr.int ((n : Int) - (((0 : Nat) : Int) - ((0 : Nat) : Int)))) = some (Tr.int (n : Int))
      rw [show (n : Int) - (((0 : Nat) : Int) - ((0 : Nat) : Int)) = (n : Int) by omega]
    · exact Fin.ret (Ent.take goTk) (Outs.one rfl rfl) ⟨_, _, [], rfl, rfl, rfl⟩
  · repeat' (first | refine goH ?_ | refine goV ?_ | refine goC (fun ad cap => ?_) | refine goI ?_ | (refine Cw.k_cond ?_; first | (refine Cw.cond_dec rfl (fun hc => ?_) (fun hc => ?_) <;> try (exfalso; omega)) | refine Cw.cond_bool rfl (fun hc => ?_) (fun hc => ?_)) | (refine Ops.val' rfl (OpV.cap Try.underlying22 rfl) ?_) | fail)
    exact Fin.ret (Ent.take goTk) (Outs.one rfl rfl) ⟨none, 0, [], rfl, rfl, rfl⟩

def intsR (L : List (List Int)) : List (List Tr) := L.map fun l => [.ints l]
theorem intsR_len (L : List (List Int)) : (intsR L).length = L.length := by simp [intsR]
theorem intsR_at {L : List (List Int)} {k : Nat} {l : List Int} (h : L[k]? = some l) : (intsR L)[k]? = some [.ints l] := rows_at h
theorem flat_take {L : List (List Int)} {k : Nat} {l : List Int} (h : L[k]? = some l) : (L.take (k + 1)).flatten = (L.take k).flatten ++ l := by rw [take_at h, List.flatten_append]; simp
theorem flat_le (L : List (List Int)) (k : Nat) : (L.take k).flatten.length ≤ L.flatten.length := by
  have h := List.take_append_drop k L
  have h2 := congrArg (fun l => l.flatten.length) h
  simp only [List.flatten_append, List.length_append] at h2
  omega
theorem concat_fn (L : List (List Int)) (h1 : L.length ≤ 1000) (h2 : L.flatten.length ≤ 1000000) : PFnO Try.prog 35 [.sl 1 (intsR L)] 1 3 (· = intRows L.flatten) := by
  have hL := intsR_len L
  unfold PFnO
  refine Spec.body Try.func35 rfl rfl (Try.ntmps35) rfl fun w0 own0 M => ?_
  repeat' (first | refine goH ?_ | refine goV ?_ | refine goC (fun ad cap => ?_) | refine goI ?_ | (refine Cw.k_cond ?_; first | (refine Cw.cond_dec rfl (fun hc => ?_) (fun hc => ?_) <;> try (exfalso; omega)) | refine Cw.cond_bool rfl (fun hc => ?_) (fun hc => ?_)) | fail)
  refine Cw.loopI [(0, _), (9, _), (10, _)] _ (fun q e cc => ∃ (k : Nat), q = L.length - k ∧ (k ≤ L.length) ∧ e = [(3, .int ((L.take k).flatten.length : Nat)), (11, .int k)] ∧ cc = []) ⟨_, _, _, (Ent.mkP goSub goPm), 0, rfl, by omega, rfl, rfl⟩ ?_
  rintro _ _ _ ⟨k, rfl, hk, rfl, rfl⟩
  by_cases hkl : k < L.length
  · obtain ⟨l, hl⟩ := at_lt hkl
    have hrow := intsR_at hl
    have hst := congrArg List.length (flat_take hl)
    rw [List.length_append] at hst
    have hb := flat_le L (k + 1)
    have hlr := intRows_len l
    repeat' (first | refine goH ?_ | refine goV ?_ | refine goC (fun ad cap => ?_) | refine goI ?_ | (refine Cw.k_cond ?_; first | (refine Cw.cond_dec rfl (fun hc => ?_) (fun hc => ?_) <;> try (exfalso; omega)) | refine Cw.cond_bool rfl (fun hc => ?_) (fun hc => ?_)) | fail)
    exact ⟨_, _, _, Ent.mk (by first | (refine Sub.cons (by show some (Tr.int _) = some (Tr.int _); congr 2; omega) ?_; repeat' (first | exact Sub.nil | refine Sub.cons rfl ?_))) goTk, ⟨k + 1, rfl, by omega, rfl, rfl⟩, by omega⟩
  · have hkk : k = L.length := by omega
    subst hkk
    have hg := grow_fn L.flatten.length h2
    rw [List.take_of_length_le (Nat.le_refl _)]
    generalize hN : L.flatten.length = N at *
    repeat' (first | refine goH ?_ | refine goV ?_ | refine goC (fun ad cap => ?_) | refine goI ?_ | (refine Cw.k_cond ?_; first | (refine Cw.cond_dec rfl (fun hc => ?_) (fun hc => ?_) <;> try (exfalso; omega)) | refine Cw.cond_bool rfl (fun hc => ?_) (fun hc => ?_)) | (refine Ops.k_calla ?_; first | (refine Ops.k_callf 50 ?_; (refine Ops.callO hg (Evs.cons rfl (Evs.cons rfl Evs.nil)) rfl (fun ad cap rows hr => ?_); subst hr))) | fail)
    refine Cw.loopI [(25, _), (26, _)] _ (fun q e cc => ∃ (k : Nat) (ad : Option Addr) (cap : Nat) (rows : List (List Tr)), q = L.length - k ∧ (k ≤ L.length ∧ rows = intRows (L.take k).flatten ∧ rows.length ≤ N) ∧ e = [(6, Tr.raw (.slice ad rows.length cap)), (27, .int k)] ∧ cc = [Chunk.own ad cap 1 3 rows])
      ⟨_, _, _, (Ent.mkP goSub goPm), 0, ad, cap, [], rfl, ⟨by omega, rfl, by simp⟩, rfl, rfl⟩ ?_
    clear ad cap
    rintro _ _ _ ⟨k, ad, cap, rows, rfl, ⟨hk, hrows, hrl⟩, rfl, rfl⟩
    by_cases hkl : k < L.length
    · obtain ⟨l, hl⟩ := at_lt hkl
      have hrow := intsR_at hl
      have hst := flat_take hl
      have hb := flat_le L (k + 1)
      have hlr := intRows_len l
      have key : rows ++ intRows l = intRows (L.take (k + 1)).flatten := by rw [hst, intRows_app, hrows]
      have hkl2 := congrArg List.length key
      rw [List.length_append, intRows_len, intRows_len] at hkl2
      repeat' (first | refine goH ?_ | refine goV ?_ | refine goC (fun ad cap => ?_) | refine goI ?_ | (refine Cw.k_cond ?_; first | (refine Cw.cond_dec rfl (fun hc => ?_) (fun hc => ?_) <;> try (exfalso; omega)) | refine Cw.cond_bool rfl (fun hc => ?_) (fun hc => ?_)) | fail)
      exact ⟨_, _, _, (Ent.mk goSub goTk), ⟨k + 1, _, _, _, rfl, ⟨by omega, key, by rw [List.length_append, intRows_len]; omega⟩, rfl, rfl⟩, by omega⟩
    · rw [List.take_of_length_le (by omega)] at hrows
      repeat' (first | refine goH ?_ | refine goV ?_ | refine goC (fun ad cap => ?_) | refine goI ?_ | (refine Cw.k_cond ?_; first | (refine Cw.cond_dec rfl (fun hc => ?_) (fun hc => ?_) <;> try (exfalso; omega)) | refine Cw.cond_bool rfl (fun hc => ?_) (fun hc => ?_)) | fail)
      exact Fin.ret (Ent.take goTk) (Outs.one rfl rfl) ⟨ad, cap, rows, rfl, rfl, hrows⟩
end Lg
end
section
set_option linter.all false
set_option maxRecDepth 100000
set_option maxHeartbeats 8000000
namespace Lg
open Go Go.Proofs

def coB (x : Int) : Bool := outB x 0 10000
def odB (x : Int) : Bool := outB x 1 20000
def settle1 (T : List Tube) (A : List Int) : Int := if A.length ≠ T.length then 3 else if A.any coB = true then 1 else 0
def doubt1 (p t : List Int) : Int := if p.length > 60 ∨ t.length > 20 then 2 else if (p.any odB || t.any odB) = true then 1 else 0
theorem stlC_fn (x : Int) : PFn Try.prog 26 [.int x] (· = .bool (coB x)) := by
  refine PFn.mk (Spec.body Try.func26 rfl rfl (Try.ntmps26) rfl fun w0 own0 M => ?_)
  repeat' (first | refine goH ?_ | refine goV ?_ | refine goI ?_ | (refine Cw.k_cond ?_; first | (refine Cw.cond_dec rfl (fun hc => ?_) (fun hc => ?_) <;> try (exfalso; omega)) | refine Cw.cond_bool rfl (fun hc => ?_) (fun hc => ?_)) | (refine Ops.k_calla ?_; first | (refine Ops.k_callf 27 ?_; refine Ops.callV (out_fn _ _ _) (Evs.cons rfl (Evs.cons rfl (Evs.cons rfl Evs.nil))) rfl ?_)) | fail)
  exact Fin.ret (Ent.take goTk) (Outs.one rfl rfl) ⟨rfl, rfl⟩
theorem stlCR_fn (x : Int) : PFn Try.prog 34 [.int x] (· = .bool (coB x)) := by
  refine PFn.mk (Spec.body Try.func34 rfl rfl (Try.ntmps34) rfl fun w0 own0 M => ?_)
  repeat' (first | refine goH ?_ | refine goV ?_ | refine goG ?_ | (refine Ops.k_guard ?_; first | (refine Ops.guard_dec rfl rfl (fun hc => ?_) (fun hc => ?_) <;> try (exfalso; omega)) | refine Ops.guard_split rfl rfl (fun hc => ?_) (fun hc => ?_)) | refine goI ?_ | (refine Cw.k_cond ?_; first | (refine Cw.cond_dec rfl (fun hc => ?_) (fun hc => ?_) <;> try (exfalso; omega)) | refine Cw.cond_bool rfl (fun hc => ?_) (fun hc => ?_)) | fail)
  all_goals
    refine Fin.ret (Ent.take goTk) (Outs.one rfl rfl) ⟨rfl, congrArg Tr.bool ?_⟩
    unfold coB outB
    rw [Bool.eq_iff_iff]
    simp
    try omega
theorem dbtC_fn (x : Int) : PFn Try.prog 29 [.int x] (· = .bool (odB x)) := by
  refine PFn.mk (Spec.body Try.func29 rfl rfl (Try.ntmps29) rfl fun w0 own0 M => ?_)
  repeat' (first | refine goH ?_ | refine goV ?_ | refine goI ?_ | (refine Cw.k_cond ?_; first | (refine Cw.cond_dec rfl (fun hc => ?_) (fun hc => ?_) <;> try (exfalso; omega)) | refine Cw.cond_bool rfl (fun hc => ?_) (fun hc => ?_)) | (refine Ops.k_calla ?_; first | (refine Ops.k_callf 27 ?_; refine Ops.callV (out_fn _ _ _) (Evs.cons rfl (Evs.cons rfl (Evs.cons rfl Evs.nil))) rfl ?_)) | fail)
  exact Fin.ret (Ent.take goTk) (Outs.one rfl rfl) ⟨rfl, rfl⟩
theorem settleFault_fn (T : List Tube) (A : List Int) (hl : A.length ≤ 1000) : PFn Try.prog 12 [.tubes T, .ints A] (· = .int (settle1 T A)) := by
  have hA := intRows_len A
  have hT : (T.map Tube.row).length = T.length := List.length_map _
  have k3 : Spec Try.prog 25 [.ints A, Tr.raw (.func (.func 34) #[] #[])] [] (fun x cs => x = .bool (A.any coB) ∧ cs = []) := containsFunc_int (p := coB) (caps := []) (cin := []) (l := A) (by omega) (fun x _ => (stlCR_fn x).lend)
  unfold settle1
  refine PFn.mk (Spec.body Try.func12 rfl rfl (Try.ntmps12) rfl fun w0 own0 M => ?_)
  by_cases h2 : A.length = T.length
  rotate_left
  · rw [if_pos h2]
    repeat' (first | refine goH ?_ | refine goV ?_ | refine goI ?_ | (refine Cw.k_cond ?_; first | (refine Cw.cond_dec rfl (fun hc => ?_) (fun hc => ?_) <;> try (exfalso; omega)) | refine Cw.cond_bool rfl (fun hc => ?_) (fun hc => ?_)) | fail)
    all_goals exact Fin.ret (Ent.take goTk) (Outs.one rfl rfl) ⟨rfl, rfl⟩
  rw [if_neg (by omega)]
  cases h4 : A.any coB
  all_goals
    rw [h4] at k3
    repeat' (first | refine goH ?_ | refine goV ?_ | refine goI ?_ | (refine Cw.k_cond ?_; first | (refine Cw.cond_dec rfl (fun hc => ?_) (fun hc => ?_) <;> try (exfalso; omega)) | refine Cw.cond_bool rfl (fun hc => ?_) (fun hc => ?_)) | (refine Ops.k_calla ?_; first | (refine Ops.k_callf 25 ?_; refine Ops.callS k3 (Evs.cons rfl (Evs.cons rfl Evs.nil)) (List.Perm.refl _) rfl ?_)) | fail)
    all_goals exact Fin.ret (Ent.take goTk) (Outs.one rfl rfl) ⟨rfl, rfl⟩
def settleR (T : List Tube) (A : List Int) : List Tube × Int × Int := if tubesErr T ≠ 0 then ([], 0, tubesErr T) else if settle1 T A ≠ 0 then ([], 0, settle1 T A) else (stlT T A, stlR T A, 0)
theorem settle_fn (T : List Tube) (A : List Int) (hl : A.length ≤ 1000) (k1 : PFn Try.prog 24 [.tubes T] (· = .int (tubesErr T))) : PFn Try.prog 8 [.tubes T, .ints A] (· = .tup [.tubes (settleR T A).1, .int (settleR T A).2.1, .int (settleR T A).2.2]) := by
  have hA := intRows_len A
  have hTr : (T.map Tube.row).length = T.length := List.length_map _
  have k3 : Spec Try.prog 25 [.ints A, Tr.raw (.func (.func 26) #[] #[])] [] (fun x cs => x = .bool (A.any coB) ∧ cs = []) := containsFunc_int (p := coB) (caps := []) (cin := []) (l := A) (by omega) (fun x _ => (stlC_fn x).lend)
  by_cases h0 : tubesErr T ≠ 0
  · rw [show settleR T A = ([], 0, tubesErr T) by unfold settleR; rw [if_pos h0]]
    refine PFn.mk (Spec.body Try.func8 rfl rfl (Try.ntmps8) rfl fun w0 own0 M => ?_)
    repeat' (first | refine goH ?_ | refine goV ?_ | refine goI ?_ | (refine Cw.k_cond ?_; first | (refine Cw.cond_dec rfl (fun hc => ?_) (fun hc => ?_) <;> try (exfalso; omega)) | refine Cw.cond_bool rfl (fun hc => ?_) (fun hc => ?_)) | (refine Ops.k_calla ?_; first | refine Ops.callV k1 (Evs.cons rfl Evs.nil) rfl ?_) | fail)
    exact Fin.ret (Ent.trans (Ent.nilsl 3 (s := 4) rfl) (Ent.take goTk)) (Outs.three rfl rfl rfl rfl) ⟨rfl, rfl⟩
  replace h0 : tubesErr T = 0 := by omega
  rw [show settleR T A = if settle1 T A ≠ 0 then ([], 0, settle1 T A) else (stlT T A, stlR T A, 0) by unfold settleR; rw [if_neg (by omega)]]
  rw [h0] at k1
  have ho := tubesErr_ok h0
  by_cases h2 : A.length = T.length
  rotate_left
  · rw [show settle1 T A = 3 by unfold settle1; rw [if_pos h2]]
    refine PFn.mk (Spec.body Try.func8 rfl rfl (Try.ntmps8) rfl fun w0 own0 M => ?_)
    repeat' (first | refine goH ?_ | refine goV ?_ | refine goI ?_ | (refine Cw.k_cond ?_; first | (refine Cw.cond_dec rfl (fun hc => ?_) (fun hc => ?_) <;> try (exfalso; omega)) | refine Cw.cond_bool rfl (fun hc => ?_) (fun hc => ?_)) | (refine Ops.k_calla ?_; first | refine Ops.callV k1 (Evs.cons rfl Evs.nil) rfl ?_) | fail)
    all_goals exact Fin.ret (Ent.trans (Ent.nilsl 3 (s := 4) rfl) (Ent.take goTk)) (Outs.three rfl rfl rfl rfl) ⟨rfl, rfl⟩
  cases h4 : A.any coB
  rotate_left
  · rw [h4] at k3
    rw [show settle1 T A = 1 by unfold settle1; rw [if_neg (by omega), if_pos h4]]
    refine PFn.mk (Spec.body Try.func8 rfl rfl (Try.ntmps8) rfl fun w0 own0 M => ?_)
    repeat' (first | refine goH ?_ | refine goV ?_ | refine goI ?_ | (refine Cw.k_cond ?_; first | (refine Cw.cond_dec rfl (fun hc => ?_) (fun hc => ?_) <;> try (exfalso; omega)) | refine Cw.cond_bool rfl (fun hc => ?_) (fun hc => ?_)) | (refine Ops.k_calla ?_; first | refine Ops.callV k1 (Evs.cons rfl Evs.nil) rfl ?_ | (refine Ops.k_callf 25 ?_; refine Ops.callS k3 (Evs.cons rfl (Evs.cons rfl Evs.nil)) (List.Perm.refl _) rfl ?_)) | fail)
    all_goals exact Fin.ret (Ent.trans (Ent.nilsl 3 (s := 4) rfl) (Ent.take goTk)) (Outs.three rfl rfl rfl rfl) ⟨rfl, rfl⟩
  rw [h4] at k3
  rw [show settle1 T A = 0 by unfold settle1; rw [if_neg (by omega), if_neg (by rw [h4]; simp)]]
  have hb : ∀ a ∈ A, 0 ≤ a ∧ a ≤ 10000 := fun a ha => by
    have := List.any_eq_false.1 h4 a ha
    simp [coB, outB] at this
    omega
  have hlen := ho.len
  have k4 := settled_fn T A (by omega) h2 (fun d hd => ⟨(ho.val d hd).1, (ho.val d hd).2, (ho.cnt d hd).1, (ho.cnt d hd).2.1, (ho.cnt d hd).2.2⟩) (fun a ha => by have := hb a ha; omega)
  have hsl : ((stlT T A).map Tube.row).length = T.length := by rw [List.length_map]; exact stlT_len T A h2
  rw [if_neg (by omega)]
  rw [← hsl] at k4
  refine PFn.mk (Spec.body Try.func8 rfl rfl (Try.ntmps8) rfl fun w0 own0 M => ?_)
  repeat' (first | refine goH ?_ | refine goV ?_ | refine goI ?_ | (refine Cw.k_cond ?_; first | (refine Cw.cond_dec rfl (fun hc => ?_) (fun hc => ?_) <;> try (exfalso; omega)) | refine Cw.cond_bool rfl (fun hc => ?_) (fun hc => ?_)) | (refine Ops.k_calla ?_; first | refine Ops.callV k1 (Evs.cons rfl Evs.nil) rfl ?_ | (refine Ops.k_callf 25 ?_; refine Ops.callS k3 (Evs.cons rfl (Evs.cons rfl Evs.nil)) (List.Perm.refl _) rfl ?_) | (refine Ops.k_callf 28 ?_; (refine Ops.call k4 (Evs.cons rfl (Evs.cons rfl Evs.nil)) goPm rfl ?_; rintro y cs' ⟨ad, cap, rfl, rfl⟩))) | fail)
  refine Fin.ret (Ent.trans (Ent.settle (s := 4) rfl goPk rfl) (Ent.take goTk)) (Outs.many rfl (OutL.cons goOe (OutL.cons goOe (OutL.cons goOe OutL.nil))) rfl) ⟨rfl, rfl⟩
theorem doubtsFault_fn (p t : List Int) (hp : p.length ≤ 1000) (ht : t.length ≤ 1000) : PFn Try.prog 13 [.ints p, .ints t] (· = .int (doubt1 p t)) := by
  have hP := intRows_len p
  have hT := intRows_len t
  have hfl : ([p, t] : List (List Int)).flatten = p ++ t := by simp
  have k2 := (concat_fn [p, t] (by simp) (by rw [hfl, List.length_append]; omega)).val
  rw [hfl] at k2
  have hA := intRows_len (p ++ t)
  have hAl : (p ++ t).length = p.length + t.length := List.length_append
  unfold doubt1
  by_cases h1 : p.length > 60
  · rw [if_pos (by omega)]
    refine PFn.mk (Spec.body Try.func13 rfl rfl (Try.ntmps13) rfl fun w0 own0 M => ?_)
    repeat' (first | refine goH ?_ | refine goV ?_ | refine goG ?_ | (refine Ops.k_guard ?_; first | (refine Ops.guard_dec rfl rfl (fun hc => ?_) (fun hc => ?_) <;> try (exfalso; omega)) | refine Ops.guard_split rfl rfl (fun hc => ?_) (fun hc => ?_)) | refine goI ?_ | (refine Cw.k_cond ?_; first | (refine Cw.cond_dec rfl (fun hc => ?_) (fun hc => ?_) <;> try (exfalso; omega)) | refine Cw.cond_bool rfl (fun hc => ?_) (fun hc => ?_)) | fail)
    all_goals exact Fin.ret (Ent.take goTk) (Outs.one rfl rfl) ⟨rfl, rfl⟩
  by_cases h2 : t.length > 20
  · rw [if_pos (by omega)]
    refine PFn.mk (Spec.body Try.func13 rfl rfl (Try.ntmps13) rfl fun w0 own0 M => ?_)
    repeat' (first | refine goH ?_ | refine goV ?_ | refine goG ?_ | (refine Ops.k_guard ?_; first | (refine Ops.guard_dec rfl rfl (fun hc => ?_) (fun hc => ?_) <;> try (exfalso; omega)) | refine Ops.guard_split rfl rfl (fun hc => ?_) (fun hc => ?_)) | refine goI ?_ | (refine Cw.k_cond ?_; first | (refine Cw.cond_dec rfl (fun hc => ?_) (fun hc => ?_) <;> try (exfalso; omega)) | refine Cw.cond_bool rfl (fun hc => ?_) (fun hc => ?_)) | fail)
    all_goals exact Fin.ret (Ent.take goTk) (Outs.one rfl rfl) ⟨rfl, rfl⟩
  rw [if_neg (by omega), ← List.any_append]
  obtain ⟨R, hR⟩ : ∃ R : Int, R = if (p ++ t).any odB = true then 1 else 0 := ⟨_, rfl⟩
  rw [← hR]
  refine PFn.mk (Spec.body Try.func13 rfl rfl (Try.ntmps13) rfl fun w0 own0 M => ?_)
  repeat' (first | refine goH ?_ | refine goV ?_ | refine goG ?_ | (refine Ops.k_guard ?_; first | (refine Ops.guard_dec rfl rfl (fun hc => ?_) (fun hc => ?_) <;> try (exfalso; omega)) | refine Ops.guard_split rfl rfl (fun hc => ?_) (fun hc => ?_)) | refine goI ?_ | (refine Cw.k_cond ?_; first | (refine Cw.cond_dec rfl (fun hc => ?_) (fun hc => ?_) <;> try (exfalso; omega)) | refine Cw.cond_bool rfl (fun hc => ?_) (fun hc => ?_)) | (refine Ops.k_calla ?_; first | (refine Ops.k_callf 35 ?_; refine Ops.callV k2 (Evs.cons rfl Evs.nil) rfl ?_)) | fail)
  generalize (p ++ t) = L at *
  refine Cw.loopI [(18, _), (19, _)] _ (fun q e cc => ∃ (k : Nat), q = L.length - k ∧ (k ≤ L.length ∧ R = if (L.drop k).any odB = true then 1 else 0) ∧ e = [(4, .int 0), (20, .int k)] ∧ cc = []) ⟨_, _, _, (Ent.mkP goSub goPm), 0, rfl, ⟨by omega, by rw [List.drop_zero]; exact hR⟩, rfl, rfl⟩ ?_
  clear hR
  rintro _ _ _ ⟨k, rfl, ⟨hk, hR⟩, rfl, rfl⟩
  by_cases hkl : k < L.length
  · obtain ⟨x, hx⟩ := at_lt (l := L) (k := k) (by omega)
    have r1 := intRows_at hx
    rw [drop_at hx, List.any_cons] at hR
    by_cases c1 : x < 1
    · rw [show odB x = true by unfold odB outB; simp; omega] at hR
      simp only [Bool.true_or, if_true] at hR
      subst hR
      clear hx
      repeat' (first | refine goH ?_ | refine goV ?_ | refine goG ?_ | (refine Ops.k_guard ?_; first | (refine Ops.guard_dec rfl rfl (fun hc => ?_) (fun hc => ?_) <;> try (exfalso; omega)) | refine Ops.guard_split rfl rfl (fun hc => ?_) (fun hc => ?_)) | refine goI ?_ | (refine Cw.k_cond ?_; first | (refine Cw.cond_dec rfl (fun hc => ?_) (fun hc => ?_) <;> try (exfalso; omega)) | refine Cw.cond_bool rfl (fun hc => ?_) (fun hc => ?_)) | fail)
      all_goals exact Fin.ret (Ent.take goTk) (Outs.one rfl rfl) ⟨rfl, rfl⟩
    by_cases c2 : 20000 < x
    · rw [show odB x = true by unfold odB outB; simp; omega] at hR
      simp only [Bool.true_or, if_true] at hR
      subst hR
      clear hx
      repeat' (first | refine goH ?_ | refine goV ?_ | refine goG ?_ | (refine Ops.k_guard ?_; first | (refine Ops.guard_dec rfl rfl (fun hc => ?_) (fun hc => ?_) <;> try (exfalso; omega)) | refine Ops.guard_split rfl rfl (fun hc => ?_) (fun hc => ?_)) | refine goI ?_ | (refine Cw.k_cond ?_; first | (refine Cw.cond_dec rfl (fun hc => ?_) (fun hc => ?_) <;> try (exfalso; omega)) | refine Cw.cond_bool rfl (fun hc => ?_) (fun hc => ?_)) | fail)
      all_goals exact Fin.ret (Ent.take goTk) (Outs.one rfl rfl) ⟨rfl, rfl⟩
    rw [show odB x = false by unfold odB outB; simp; omega, Bool.false_or] at hR
    clear hx
    repeat' (first | refine goH ?_ | refine goV ?_ | refine goG ?_ | (refine Ops.k_guard ?_; first | (refine Ops.guard_dec rfl rfl (fun hc => ?_) (fun hc => ?_) <;> try (exfalso; omega)) | refine Ops.guard_split rfl rfl (fun hc => ?_) (fun hc => ?_)) | refine goI ?_ | (refine Cw.k_cond ?_; first | (refine Cw.cond_dec rfl (fun hc => ?_) (fun hc => ?_) <;> try (exfalso; omega)) | refine Cw.cond_bool rfl (fun hc => ?_) (fun hc => ?_)) | fail)
    exact ⟨_, _, _, (Ent.mk goSub goTk), ⟨k + 1, rfl, ⟨by omega, hR⟩, rfl, rfl⟩, by omega⟩
  rw [List.drop_of_length_le (by omega)] at hR
  simp only [List.any_nil] at hR
  have hkn : k = L.length := by omega
  subst hkn
  repeat' (first | refine goH ?_ | refine goV ?_ | refine goG ?_ | (refine Ops.k_guard ?_; first | (refine Ops.guard_dec rfl rfl (fun hc => ?_) (fun hc => ?_) <;> try (exfalso; omega)) | refine Ops.guard_split rfl rfl (fun hc => ?_) (fun hc => ?_)) | refine goI ?_ | (refine Cw.k_cond ?_; first | (refine Cw.cond_dec rfl (fun hc => ?_) (fun hc => ?_) <;> try (exfalso; omega)) | refine Cw.cond_bool rfl (fun hc => ?_) (fun hc => ?_)) | fail)
  exact Fin.ret (Ent.take goTk) (Outs.one rfl rfl) ⟨rfl, by rw [hR]; rfl⟩
end Lg
end
