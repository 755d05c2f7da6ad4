/- A part of the proof of a law of this seat: it adds no condition. By an AI agent. -/
import Derived.Test.YtjknjnkkpfeahaaGreatDoorNumT
section
set_option linter.all false
set_option maxRecDepth 100000
set_option maxHeartbeats 4000000
namespace Lg
open Go Go.Proofs

/-! ### a changed text -/
theorem enc_sz (p : Int) : (Utf8.encode p).size ≤ 4 := by
  unfold Utf8.encode
  dsimp only
  repeat' split
  all_goals first | exact (show 1 ≤ 4 by omega) | exact (show 2 ≤ 4 by omega) | exact (show 3 ≤ 4 by omega) | exact (show 4 ≤ 4 by omega)
theorem changed_gen (t w : ByteArray) (ht : t.size ≤ 1000000000) (hw : w.size ≤ 1000000) : Gen Tryz.prog 25 32 [.str t, .str w] 3 (fun r => ∃ s, r = .str s ∧ s.size ≤ t.size + w.size + 4) := by
  unfold Gen
  intro b xs N hN
  refine Spec.body Tryz.func32 rfl rfl (Tryz.ntmps32) rfl fun w0 own0 M => ?_
  by_cases h1 : t = ⟨#[]⟩
  · repeat' (first | refine goH ?_ | refine goV ?_ | refine goG ?_ | (refine Ops.k_guard ?_; first | (refine Ops.guard_dec rfl rfl (fun hc => ?_) (fun hc => ?_) <;> try (exfalso; omega)) | refine Ops.guard_split rfl rfl (fun hc => ?_) (fun hc => ?_)) | refine goI ?_ | (refine Cw.k_cond ?_; first | (refine Cw.cond_dec rfl (fun hc => ?_) (fun hc => ?_) <;> try (exfalso; omega)) | refine Cw.cond_bool rfl (fun hc => ?_) (fun hc => ?_)) | refine goR ?_ | refine goP ?_ | apply PSeq.cons | apply PSeq.yes rfl rfl rfl | exact goW | fail)
    all_goals first | (exfalso; contradiction) | (refine Fin.ret (Ent.strm_only goPk (by omega)) (Outs.sole rfl goOe) ⟨rfl, w, rfl, by omega⟩)
  by_cases h2 : w = ⟨#[]⟩
  · repeat' (first | refine goH ?_ | refine goV ?_ | refine goG ?_ | (refine Ops.k_guard ?_; first | (refine Ops.guard_dec rfl rfl (fun hc => ?_) (fun hc => ?_) <;> try (exfalso; omega)) | refine Ops.guard_split rfl rfl (fun hc => ?_) (fun hc => ?_)) | refine goI ?_ | (refine Cw.k_cond ?_; first | (refine Cw.cond_dec rfl (fun hc => ?_) (fun hc => ?_) <;> try (exfalso; omega)) | refine Cw.cond_bool rfl (fun hc => ?_) (fun hc => ?_)) | refine goR ?_ | refine goP ?_ | apply PSeq.cons | apply PSeq.yes rfl rfl rfl | exact goW | fail)
    all_goals first | (exfalso; contradiction) | (refine Fin.ret (Ent.strm_only goPk (by omega)) (Outs.sole rfl goOe) ⟨rfl, w, rfl, by omega⟩)
  have ht0 : 0 < t.size := Nat.pos_of_ne_zero fun h => h1 ((str_empty t).2 h)
  have hw0 : 0 < w.size := Nat.pos_of_ne_zero fun h => h2 ((str_empty w).2 h)
  have e4 : ∀ p, (Utf8.encode p).size ≤ 4 := enc_sz
  repeat' (first | refine goH ?_ | (refine Ops.k_index ?_; first | (refine Ops.indexS rfl rfl rfl (by omega) rfl ?_)) | refine goV ?_ | refine goG ?_ | (refine Ops.k_guard ?_; first | (refine Ops.guard_dec rfl rfl (fun hc => ?_) (fun hc => ?_) <;> try (exfalso; omega)) | refine Ops.guard_split rfl rfl (fun hc => ?_) (fun hc => ?_)) | refine goI ?_ | (refine Cw.k_cond ?_; first | (refine Cw.cond_dec rfl (fun hc => ?_) (fun hc => ?_) <;> try (exfalso; omega)) | refine Cw.cond_bool rfl (fun hc => ?_) (fun hc => ?_)) | (refine Ops.k_calla ?_; first | (refine Ops.k_callf 14 ?_; (refine Ops.callG (next_gen ((t.size : Nat) : Int) (by omega)) (Evs.cons rfl (Evs.cons rfl Evs.nil)) goPk (by omega) rfl ?_; rintro r ⟨v1, rfl, hv1⟩; unfold InRange at hv1)) | (refine Ops.k_callf 14 ?_; (refine Ops.callG (next_gen ((w.size : Nat) : Int) (by omega)) (Evs.cons rfl (Evs.cons rfl Evs.nil)) goPk (by omega) rfl ?_; rintro r ⟨v2, rfl, hv2⟩; unfold InRange at hv2)) | (refine Ops.k_callf 14 ?_; (refine Ops.callG (next_gen 3 (by omega)) (Evs.cons rfl (Evs.cons rfl Evs.nil)) goPk (by omega) rfl ?_; rintro r ⟨v3, rfl, hv3⟩; unfold InRange at hv3))) | fail)
  · have h4 := e4 (IntKind.i32.wrap (sby w v2.toNat))
    repeat' (first | refine goH ?_ | refine goV ?_ | refine goG ?_ | (refine Ops.k_guard ?_; first | (refine Ops.guard_dec rfl rfl (fun hc => ?_) (fun hc => ?_) <;> try (exfalso; omega)) | refine Ops.guard_split rfl rfl (fun hc => ?_) (fun hc => ?_)) | refine goI ?_ | (refine Cw.k_cond ?_; first | (refine Cw.cond_dec rfl (fun hc => ?_) (fun hc => ?_) <;> try (exfalso; omega)) | refine Cw.cond_bool rfl (fun hc => ?_) (fun hc => ?_)) | exact OpV.w (OpV.sliceS_l rfl rfl rfl (by omega)) | exact OpV.w (OpV.convI Tryz.underlying5 Tryz.underlying21 rfl) | exact OpV.w (OpV.convS Tryz.underlying21 Tryz.underlying9 rfl) | exact OpV.w (OpV.catB rfl rfl (by simp only [ByteArray.size_append, ByteArray.size_extract]; omega)) | refine goR ?_ | refine goP ?_ | apply PSeq.cons | apply PSeq.yes rfl rfl rfl | exact goW | fail)
    refine Fin.ret (Ent.strm_only goPk (by omega)) (Outs.sole rfl goOe) ⟨rfl, _, rfl, by simp only [ByteArray.size_append, ByteArray.size_extract]; omega⟩
  · have h4 := e4 (IntKind.i32.wrap (sby w v2.toNat))
    repeat' (first | refine goH ?_ | refine goV ?_ | refine goG ?_ | (refine Ops.k_guard ?_; first | (refine Ops.guard_dec rfl rfl (fun hc => ?_) (fun hc => ?_) <;> try (exfalso; omega)) | refine Ops.guard_split rfl rfl (fun hc => ?_) (fun hc => ?_)) | refine goI ?_ | (refine Cw.k_cond ?_; first | (refine Cw.cond_dec rfl (fun hc => ?_) (fun hc => ?_) <;> try (exfalso; omega)) | refine Cw.cond_bool rfl (fun hc => ?_) (fun hc => ?_)) | exact OpV.w (OpV.sliceS_l rfl rfl rfl (by omega)) | exact OpV.w (OpV.convI Tryz.underlying5 Tryz.underlying21 rfl) | exact OpV.w (OpV.convS Tryz.underlying21 Tryz.underlying9 rfl) | exact OpV.w (OpV.catB rfl rfl (by simp only [ByteArray.size_append, ByteArray.size_extract]; omega)) | refine goR ?_ | refine goP ?_ | apply PSeq.cons | apply PSeq.yes rfl rfl rfl | exact goW | fail)
    refine Fin.ret (Ent.strm_only goPk (by omega)) (Outs.sole rfl goOe) ⟨rfl, _, rfl, by simp only [ByteArray.size_append, ByteArray.size_extract]; omega⟩
  · repeat' (first | refine goH ?_ | refine goV ?_ | refine goG ?_ | (refine Ops.k_guard ?_; first | (refine Ops.guard_dec rfl rfl (fun hc => ?_) (fun hc => ?_) <;> try (exfalso; omega)) | refine Ops.guard_split rfl rfl (fun hc => ?_) (fun hc => ?_)) | refine goI ?_ | (refine Cw.k_cond ?_; first | (refine Cw.cond_dec rfl (fun hc => ?_) (fun hc => ?_) <;> try (exfalso; omega)) | refine Cw.cond_bool rfl (fun hc => ?_) (fun hc => ?_)) | exact OpV.w (OpV.sliceS_l rfl rfl rfl (by omega)) | exact OpV.w (OpV.catB rfl rfl (by simp only [ByteArray.size_append, ByteArray.size_extract]; omega)) | refine goR ?_ | refine goP ?_ | apply PSeq.cons | apply PSeq.yes rfl rfl rfl | exact goW | fail)
    refine Fin.ret (Ent.strm_only goPk (by omega)) (Outs.sole rfl goOe) ⟨rfl, _, rfl, by simp only [ByteArray.size_append, ByteArray.size_extract]; omega⟩
end Lg
end
section
set_option linter.all false
namespace Lg
open Go Go.Proofs

theorem Ops.shut0 {P : Program} {Γ : Ctx} {env : Env} {cs : List Chunk} {Q : Post} {R : Array Oper} {l : List Oper} {ty b : Nat} {cells : List Tr} {rows : List (List Tr)} (h : cells = [Tr.sl 1 rows, Tr.int ((0 : Nat) : Int)]) (k : Ops P Γ R l env (Chunk.strm ty b rows 0 :: cs) Q) : Ops P Γ R l env (Chunk.box b ty cells :: cs) Q := by
  subst h
  exact Ops.ent (Ent.shut_strm (m := 0) (Nat.le_refl 0)) k
end Lg
end
section
set_option linter.all false
namespace Lg
open Go Go.Proofs

theorem numV_of {w : World} (h1 : Lib.TabIs Tryz.prog w "internal/strconv.uint64pow10" .u64 Lib.pow10Tab) (h2 : ∃ tp p, w.var? Tryz.prog "strconv.ErrSyntax" = some #[.iface tp p]) (h3 : ∃ tp p, w.var? Tryz.prog "strconv.ErrRange" = some #[.iface tp p]) : VarsIn Tryz.prog numV w := by
  obtain ⟨a, b, h2⟩ := h2
  obtain ⟨c, d, h3⟩ := h3
  intro x hx
  unfold numV at hx
  rcases List.mem_cons.1 hx with rfl | hx
  · exact ⟨_, h1, rfl⟩
  rcases List.mem_cons.1 hx with rfl | hx
  · exact ⟨_, h2, _, _, rfl⟩
  rcases List.mem_cons.1 hx with rfl | hx
  · exact ⟨_, h3, _, _, rfl⟩
  cases hx
end Lg
end
