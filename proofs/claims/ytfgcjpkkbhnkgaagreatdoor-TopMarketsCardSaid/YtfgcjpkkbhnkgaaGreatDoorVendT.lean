/- A part of the proof of a law of this seat: it adds no condition. By an AI agent. -/
import Derived.Test.YtfgcjpkkbhnkgaaGreatDoorSplT
section
set_option linter.all false
set_option maxRecDepth 100000
set_option maxHeartbeats 8000000
namespace Lg
open Go Go.Proofs

/-! ### the console's answer to a line that is no command -/
instance : KeyTy Tryz.prog 9 Value.string := KeyTy.str Tryz.underlying9
instance : TyMap Tryz.prog 204 9 9 (.string ⟨#[]⟩) := ⟨Tryz.underlying204, ⟨_, rfl, rfl⟩⟩
theorem indexNo_fn (xs : List ByteArray) (hx : xs.length ≤ 1000000) (v : ByteArray) (hv : ∀ x ∈ xs, ¬ v = x) : PFn Tryz.prog 54 [.strs xs, .str v] (· = .int (-1)) := by
 refine PFn.mk (Spec.body Tryz.func54 rfl rfl (Tryz.ntmps54) rfl fun w0 own0 M => ?_)
 have hL := strRows_len xs
 repeat' (first | refine goH ?_ | refine goV ?_ | refine goI ?_ | (refine Cw.k_cond ?_; first | (refine Cw.cond_dec rfl ?_ ?_ <;> intro hc <;> try omega) | refine Cw.cond_bool rfl ?_ ?_ <;> intro hc) | fail)
 refine Cw.loopI [(0, _), (1, _), (7, _)] _ (fun n e c => ∃ k : Nat, n = xs.length - k ∧ k ≤ xs.length ∧ e = [(8, .int k)] ∧ c = []) ⟨_, _, _, (Ent.mkP goSub goPm), 0, rfl, by omega, rfl, rfl⟩ ?_
 rintro _ _ _ ⟨k, rfl, hk, rfl, rfl⟩
 by_cases hkl : k < xs.length
 ·obtain ⟨x, hx⟩ := at_lt hkl
  have hrow := strRows_at hx
  have hp := hv x (List.mem_of_getElem? hx)
  repeat' (first | refine goH ?_ | refine goV ?_ | refine goI ?_ | (refine Cw.k_cond ?_; first | (refine Cw.cond_dec rfl ?_ ?_ <;> intro hc <;> try omega) | refine Cw.cond_bool rfl ?_ ?_ <;> intro hc) | fail)
  exact ⟨_, _, _, (Ent.mk goSub goTk), ⟨k + 1, rfl, by omega, rfl, rfl⟩, by omega⟩
 ·repeat' (first | refine goH ?_ | refine goV ?_ | refine goI ?_ | (refine Cw.k_cond ?_; first | (refine Cw.cond_dec rfl ?_ ?_ <;> intro hc <;> try omega) | refine Cw.cond_bool rfl ?_ ?_ <;> intro hc) | fail)
  exact Fin.ret Ent.refl (Outs.one rfl rfl) ⟨rfl, rfl⟩
theorem containsNo_fn (xs : List ByteArray) (hx : xs.length ≤ 1000000) (v : ByteArray) (hv : ∀ x ∈ xs, ¬ v = x) : PFn Tryz.prog 130 [.strs xs, .str v] (· = .bool false) := by
 have k := indexNo_fn xs hx v hv
 refine PFn.mk (Spec.body Tryz.func130 rfl rfl (Tryz.ntmps130) rfl fun w0 own0 M => ?_)
 repeat' (first | refine goH ?_ | refine goV ?_ | refine goI ?_ | (refine Cw.k_cond ?_; first | (refine Cw.cond_dec rfl ?_ ?_ <;> intro hc <;> try omega) | refine Cw.cond_bool rfl ?_ ?_ <;> intro hc) | (refine Ops.k_calla ?_; first | (refine Ops.k_callf 54 ?_; refine Ops.callV k (Evs.cons rfl (Evs.cons rfl Evs.nil)) rfl ?_)) | fail)
 exact Fin.ret Ent.refl (Outs.one rfl rfl) ⟨rfl, rfl⟩
theorem hasSuf_fn (A B : ByteArray) (hA : A.size ≤ 1000000) (hB : B.size ≤ A.size) (hu : A.extract ((A.size : Int) - B.size).toNat A.size = B) : PFn Tryz.prog 157 [.str A, .str B] (· = .bool true) := by
 refine PFn.mk (Spec.body Tryz.func157 rfl rfl (Tryz.ntmps157) rfl fun w0 own0 M => ?_)
 repeat' (first | refine goH ?_ | (refine Ops.k_slice ?_; first | (refine Ops.sliceS_l rfl rfl rfl (by omega) rfl ?_; rw [hu])) | (refine Ops.k_b_eql ?_; first | (refine Ops.val' rfl (OpV.eqlS_t rfl rfl rfl) ?_)) | refine goV ?_ | refine goG ?_ | (refine Ops.k_guard ?_; first | (refine Ops.guard_dec rfl rfl ?_ ?_ <;> intro hc <;> try omega) | refine Ops.guard_split rfl rfl ?_ ?_ <;> intro hc) | refine goI ?_ | (refine Cw.k_cond ?_; first | (refine Cw.cond_dec rfl ?_ ?_ <;> intro hc <;> try omega) | refine Cw.cond_bool rfl ?_ ?_ <;> intro hc) | fail)
 exact Fin.ret Ent.refl (Outs.one rfl rfl) ⟨rfl, rfl⟩
theorem trimSufL_fn (A B D : ByteArray) (hA : A.size ≤ 1000000) (hB : B.size ≤ A.size) (hu : A.extract ((A.size : Int) - B.size).toNat A.size = B) (hd : A.extract 0 ((A.size : Int) - B.size).toNat = D) : PFn Tryz.prog 128 [.str A, .str B] (· = .str D) := by
 have k := hasSuf_fn A B hA hB hu
 refine PFn.mk (Spec.body Tryz.func128 rfl rfl (Tryz.ntmps128) rfl fun w0 own0 M => ?_)
 repeat' (first | refine goH ?_ | (refine Ops.k_slice ?_; first | (refine Ops.sliceS_h rfl rfl rfl (by omega) rfl ?_; rw [hd])) | refine goV ?_ | refine goI ?_ | (refine Cw.k_cond ?_; first | (refine Cw.cond_dec rfl ?_ ?_ <;> intro hc <;> try omega) | refine Cw.cond_bool rfl ?_ ?_ <;> intro hc) | (refine Ops.k_calla ?_; first | (refine Ops.k_callf 157 ?_; refine Ops.callV k (Evs.cons rfl (Evs.cons rfl Evs.nil)) rfl ?_)) | fail)
 exact Fin.ret Ent.refl (Outs.one rfl rfl) ⟨rfl, rfl⟩
theorem trimSuf_fn (A B D : ByteArray) (hA : A.size ≤ 1000000) (hB : B.size ≤ A.size) (hu : A.extract ((A.size : Int) - B.size).toNat A.size = B) (hd : A.extract 0 ((A.size : Int) - B.size).toNat = D) : PFn Tryz.prog 95 [.str A, .str B] (· = .str D) := by
 have k := trimSufL_fn A B D hA hB hu hd
 refine PFn.mk (Spec.body Tryz.func95 rfl rfl (Tryz.ntmps95) rfl fun w0 own0 M => ?_)
 repeat' (first | refine goH ?_ | refine goV ?_ | refine goI ?_ | (refine Cw.k_cond ?_; first | (refine Cw.cond_dec rfl ?_ ?_ <;> intro hc <;> try omega) | refine Cw.cond_bool rfl ?_ ?_ <;> intro hc) | (refine Ops.k_calla ?_; first | (refine Ops.k_callf 128 ?_; refine Ops.callV k (Evs.cons rfl (Evs.cons rfl Evs.nil)) rfl ?_)) | fail)
 exact Fin.ret Ent.refl (Outs.one rfl rfl) ⟨rfl, rfl⟩
theorem itoa9_fn : PFn Tryz.prog 93 [.int 9] (· = .str ⟨#[57]⟩) := by
 have k1 : PFn Tryz.prog 180 [.int 9] (· = .str ⟨#[57]⟩) := by
  refine PFn.mk (Spec.body Tryz.func180 rfl rfl (Tryz.ntmps180) rfl fun w0 own0 M => ?_)
  repeat' (first | refine goH ?_ | (refine Ops.k_slice ?_; first | (refine Ops.sliceS_lh rfl rfl rfl rfl (by decide) rfl ?_)) | refine goV ?_ | refine goI ?_ | (refine Cw.k_cond ?_; first | (refine Cw.cond_dec rfl ?_ ?_ <;> intro hc <;> try omega) | refine Cw.cond_bool rfl ?_ ?_ <;> intro hc) | fail)
  exact Fin.ret Ent.refl (Outs.one rfl rfl) ⟨rfl, congrArg Tr.str (by decide +kernel)⟩
 have k2 : PFn Tryz.prog 153 [.int 9, .int 10] (· = .str ⟨#[57]⟩) := by
  refine PFn.mk (Spec.body Tryz.func153 rfl rfl (Tryz.ntmps153) rfl fun w0 own0 M => ?_)
  repeat' (first | refine goH ?_ | refine goV ?_ | refine goB (fun b => ?_) | refine goG ?_ | (refine Ops.k_guard ?_; first | (refine Ops.guard_dec rfl rfl ?_ ?_ <;> intro hc <;> try omega) | refine Ops.guard_split rfl rfl ?_ ?_ <;> intro hc) | refine goI ?_ | (refine Cw.k_cond ?_; first | (refine Cw.cond_dec rfl ?_ ?_ <;> intro hc <;> try omega) | refine Cw.cond_bool rfl ?_ ?_ <;> intro hc) | (refine Ops.k_calla ?_; first | (refine Ops.k_callf 180 ?_; refine Ops.callV k1 (Evs.cons rfl Evs.nil) rfl ?_)) | fail)
  exact Fin.ret Ent.refl (Outs.one rfl rfl) ⟨rfl, rfl⟩
 have k3 : PFn Tryz.prog 126 [.int 9] (· = .str ⟨#[57]⟩) := by
  refine PFn.mk (Spec.body Tryz.func126 rfl rfl (Tryz.ntmps126) rfl fun w0 own0 M => ?_)
  repeat' (first | refine goH ?_ | refine goV ?_ | refine goI ?_ | (refine Cw.k_cond ?_; first | (refine Cw.cond_dec rfl ?_ ?_ <;> intro hc <;> try omega) | refine Cw.cond_bool rfl ?_ ?_ <;> intro hc) | (refine Ops.k_calla ?_; first | (refine Ops.k_callf 153 ?_; refine Ops.callV k2 (Evs.cons rfl (Evs.cons rfl Evs.nil)) rfl ?_)) | fail)
  exact Fin.ret Ent.refl (Outs.one rfl rfl) ⟨rfl, rfl⟩
 refine PFn.mk (Spec.body Tryz.func93 rfl rfl (Tryz.ntmps93) rfl fun w0 own0 M => ?_)
 repeat' (first | refine goH ?_ | refine goV ?_ | refine goI ?_ | (refine Cw.k_cond ?_; first | (refine Cw.cond_dec rfl ?_ ?_ <;> intro hc <;> try omega) | refine Cw.cond_bool rfl ?_ ?_ <;> intro hc) | (refine Ops.k_calla ?_; first | (refine Ops.k_callf 126 ?_; refine Ops.callV k3 (Evs.cons rfl Evs.nil) rfl ?_)) | fail)
 exact Fin.ret Ent.refl (Outs.one rfl rfl) ⟨rfl, rfl⟩
theorem run_hello (c : Nat) (H : ByteArray) (hH : H = ⟨#[104, 101, 108, 108, 111]⟩) : PFn Tryz.prog 96 [.ptr c, .str H] (· = .tup [.str ⟨#[]⟩, .int 9]) := by
 have hsz : H.size ≤ 1000000000 := by rw [hH]; decide
 have k1 := split1_fn H hsz 32
 have hsp : splS 32 H = [H] := splS_none (by rw [hH]; decide +kernel)
 rw [hsp] at k1
 have k2 := containsNo_fn [H] (by simp) ⟨#[]⟩ (by rw [hH]; decide)
 have h0 : (strRows [H])[(0 : Int).toNat]? = some [.str H] := strRows_at rfl
 have hl : (strRows [H]).length = 1 := rfl
 have hw : ¬ H = ⟨#[119, 97, 108, 108, 101, 116]⟩ := by rw [hH]; decide
 refine PFn.mk ?_
 refine Spec.body Tryz.func96 rfl rfl (Tryz.ntmps96) rfl fun w0 own0 M => ?_
 repeat' (first | refine goH ?_ | (refine Ops.k_b_eql ?_; first | (refine Ops.val' rfl (OpV.eqlS_f rfl rfl hw) ?_)) | (refine Ops.k_makeMap ?_; first | (refine Ops.makeMap Value.string rfl (fun bm => ?_))) | ((fail_if_success refine Ops.k_lookup ?_); (fail_if_success refine Ops.k_lookupOk ?_); refine goV ?_) | ((fail_if_success refine Ops.k_lookup ?_); (fail_if_success refine Ops.k_lookupOk ?_); refine goC (fun ad cap => ?_)) | refine goG ?_ | (refine Ops.k_guard ?_; first | (refine Ops.guard_dec rfl rfl ?_ ?_ <;> intro hc <;> try omega) | refine Ops.guard_split rfl rfl ?_ ?_ <;> intro hc) | refine goI ?_ | (refine Cw.k_cond ?_; first | (refine Cw.cond_dec rfl ?_ ?_ <;> intro hc <;> try omega) | refine Cw.cond_bool rfl ?_ ?_ <;> intro hc) | (refine Ops.insertM rfl rfl rfl goPk ?_) | (refine Ops.k_calla ?_; first | (refine Ops.k_callf 129 ?_; refine Ops.callV k1 (Evs.cons rfl (Evs.cons rfl Evs.nil)) rfl ?_) | (refine Ops.k_callf 130 ?_; refine Ops.callV k2 (Evs.cons rfl (Evs.cons rfl Evs.nil)) rfl ?_)) | (apply OpW.k_call; first | (apply OpW.k_callf 129; exact OpW.callV k1 (Evs.cons rfl (Evs.cons rfl Evs.nil))) | (apply OpW.k_callf 130; exact OpW.callV k2 (Evs.cons rfl (Evs.cons rfl Evs.nil)))) | refine goR ?_ | refine goP ?_ | apply PSeq.cons | apply PSeq.yes rfl rfl rfl | exact goW | fail)
 refine Ops.lookupOk rfl rfl goPk rfl ?_
 generalize hmg : mget H _ = mg
 obtain rfl : mg = none := by rw [← hmg, hH]; rfl
 clear hmg
 repeat' (first | refine goH ?_ | refine goV ?_ | refine goC (fun ad cap => ?_) | refine goG ?_ | (refine Ops.k_guard ?_; first | (refine Ops.guard_dec rfl rfl ?_ ?_ <;> intro hc <;> try omega) | refine Ops.guard_split rfl rfl ?_ ?_ <;> intro hc) | refine goI ?_ | (refine Cw.k_cond ?_; first | (refine Cw.cond_dec rfl ?_ ?_ <;> intro hc <;> try omega) | refine Cw.cond_bool rfl ?_ ?_ <;> intro hc) | refine goR ?_ | refine goP ?_ | apply PSeq.cons | apply PSeq.yes rfl rfl rfl | exact goW | fail)
 exact Fin.ret (Ent.take goTk) (Outs.many rfl (OutL.cons goOe (OutL.cons goOe OutL.nil)) rfl) ⟨rfl, rfl⟩
theorem splitSeqL_fn (s sep : ByteArray) : Spec Tryz.prog 127 [.str s, .str sep, .int 0] [] (fun r cs => ∃ b1 b2 b3, r = Tr.raw (.func (.func 154) #[] #[.pointer (some ⟨b2, 0, none⟩), .pointer (some ⟨b1, 0, none⟩), .pointer (some ⟨b3, 0, none⟩)]) ∧ cs = [Chunk.box b3 3 [.int 0], Chunk.box b2 9 [.str sep], Chunk.box b1 9 [.str s]]) := by
 refine Spec.body Tryz.func127 rfl rfl (Tryz.ntmps127) rfl fun w0 own0 M => ?_
 repeat' (first | refine goH ?_ | refine goV ?_ | refine goB (fun b => ?_) | refine goI ?_ | (refine Cw.k_cond ?_; first | (refine Cw.cond_dec rfl ?_ ?_ <;> intro hc <;> try omega) | refine Cw.cond_bool rfl ?_ ?_ <;> intro hc) | fail)
 exact Fin.ret (Ent.take goTk) (Outs.one rfl rfl) ⟨_, _, _, rfl, rfl⟩
theorem splitSeq_fn (s sep : ByteArray) : Spec Tryz.prog 94 [.str s, .str sep] [] (fun r cs => ∃ b1 b2 b3, r = Tr.raw (.func (.func 154) #[] #[.pointer (some ⟨b2, 0, none⟩), .pointer (some ⟨b1, 0, none⟩), .pointer (some ⟨b3, 0, none⟩)]) ∧ cs = [Chunk.box b3 3 [.int 0], Chunk.box b2 9 [.str sep], Chunk.box b1 9 [.str s]]) := by
 have k := splitSeqL_fn s sep
 refine Spec.body Tryz.func94 rfl rfl (Tryz.ntmps94) rfl fun w0 own0 M => ?_
 repeat' (first | refine goH ?_ | refine goV ?_ | refine goI ?_ | (refine Cw.k_cond ?_; first | (refine Cw.cond_dec rfl ?_ ?_ <;> intro hc <;> try omega) | refine Cw.cond_bool rfl ?_ ?_ <;> intro hc) | (refine Ops.k_calla ?_; first | (refine Ops.k_callf 127 ?_; (refine Ops.call k (Evs.cons rfl (Evs.cons rfl (Evs.cons rfl Evs.nil))) goPm rfl ?_; rintro r cs' ⟨b1, b2, b3, rfl, rfl⟩))) | fail)
 exact Fin.ret (Ent.take goTk) (Outs.one rfl rfl) ⟨_, _, _, rfl, rfl⟩
theorem splitSeq_iter (s : ByteArray) (c : UInt8) (hi : Lib.indexByte s.data.toList c = -1) (b1 b2 b3 : Nat) : IterSpec Tryz.prog 154 [.pointer (some ⟨b2, 0, none⟩), .pointer (some ⟨b1, 0, none⟩), .pointer (some ⟨b3, 0, none⟩)] [Chunk.box b3 3 [.int 0], Chunk.box b2 9 [.str ⟨#[c]⟩], Chunk.box b1 9 [.str s]] [Chunk.box b3 3 [.int 0], Chunk.box b2 9 [.str ⟨#[c]⟩], Chunk.box b1 9 [.str s]] [[.str s]] := by
 unfold IterSpec
 intro lp J Jx hY c0 h0
 have hy := hY 0 _ c0 rfl h0
 have ki := index1_fn s c
 rw [hi] at ki
 have h1 : (⟨#[c]⟩ : ByteArray).size = 1 := rfl
 refine Spec.body Tryz.func154 rfl rfl (Tryz.ntmps154) rfl fun w0 own0 M => ?_
 repeat' (first | refine goH ?_ | refine goV ?_ | refine goI ?_ | (refine Cw.k_cond ?_; first | (refine Cw.cond_dec rfl ?_ ?_ <;> intro hc <;> try omega) | refine Cw.cond_bool rfl ?_ ?_ <;> intro hc) | fail)
 refine Cw.loopI [(0, _), (1, _), (2, _), (3, _)] _ (fun q e cc => q = 0 ∧ e = [] ∧ cc = [c0, Chunk.box b3 3 [.int 0], Chunk.box b2 9 [.str ⟨#[c]⟩], Chunk.box b1 9 [.str s]]) ⟨_, _, _, (Ent.mkP goSub goPm), rfl, rfl, rfl⟩ ?_
 rintro _ _ _ ⟨rfl, rfl, rfl⟩
 repeat' (first | refine goH ?_ | refine goV ?_ | refine goI ?_ | (refine Cw.k_cond ?_; first | (refine Cw.cond_dec rfl ?_ ?_ <;> intro hc <;> try omega) | refine Cw.cond_bool rfl ?_ ?_ <;> intro hc) | (refine Ops.k_calla ?_; first | (refine Ops.k_callf 156 ?_; refine Ops.callV ki (Evs.cons rfl (Evs.cons rfl Evs.nil)) rfl ?_) | (refine Ops.callY rfl hy (Evs.cons rfl Evs.nil) goPm rfl ?_; rintro r cs' (⟨rfl, c', hc', rfl⟩ | ⟨rfl, c', hc', rfl⟩))) | fail)
 ·exact Fin.norm (Ent.take goTk) (Outs.zero rfl) (.inl ⟨c', hc', rfl⟩)
 ·exact Fin.norm (Ent.take goTk) (Outs.zero rfl) (.inr ⟨c', hc', rfl⟩)
theorem session_hello : PFn Tryz.prog 53 [.str ⟨#[104, 101, 108, 108, 111, 10]⟩] (· = .str ⟨#[101, 114, 114, 111, 114, 32, 57, 10]⟩) := by
 obtain ⟨A, hA⟩ : ∃ A, A = (⟨#[104, 101, 108, 108, 111, 10]⟩ : ByteArray) := ⟨_, rfl⟩
 obtain ⟨H, hH⟩ : ∃ H, H = (⟨#[104, 101, 108, 108, 111]⟩ : ByteArray) := ⟨_, rfl⟩
 have hAz : A.size = 6 := by rw [hA]; rfl
 have hHz : H.size = 5 := by rw [hH]; rfl
 have hA0 : ¬ A = ⟨#[]⟩ := by rw [hA]; decide
 have hH0 : ¬ H = ⟨#[]⟩ := by rw [hH]; decide
 have kt := trimSuf_fn A ⟨#[10]⟩ H (by omega) (by rw [hA]; decide) (by rw [hA]; decide +kernel) (by rw [hA, hH]; decide +kernel)
 have kr := fun c => run_hello c H hH
 have ki := itoa9_fn
 have hidx : Lib.indexByte H.data.toList 10 = -1 := by rw [hH]; decide +kernel
 have hres : (⟨#[101, 114, 114, 111, 114, 32]⟩ : ByteArray) ++ ⟨#[57]⟩ ++ ⟨#[10]⟩ = ⟨#[101, 114, 114, 111, 114, 32, 57, 10]⟩ := by decide +kernel
 rw [← hA]
 clear hA hH
 refine PFn.mk ?_
 refine Spec.bodyF Tryz.func53 rfl rfl (Tryz.ntmps53) rfl fun w0 own0 M => ?_
 refine CwF.seq rfl ?_
 repeat' (first | refine goH ?_ | refine goV ?_ | refine goB (fun b => ?_) | refine goI ?_ | (refine Cw.k_cond ?_; first | (refine Cw.cond_dec rfl ?_ ?_ <;> intro hc <;> try omega) | refine Cw.cond_bool rfl ?_ ?_ <;> intro hc) | fail)
 refine CwF.seq rfl ?_
 repeat' (first | refine goH ?_ | refine goV ?_ | refine goB (fun b => ?_) | refine goI ?_ | (refine Cw.k_cond ?_; first | (refine Cw.cond_dec rfl ?_ ?_ <;> intro hc <;> try omega) | refine Cw.cond_bool rfl ?_ ?_ <;> intro hc) | fail)
 refine CwF.seq rfl ?_
 repeat' (first | refine goH ?_ | (refine Ops.k_b_eql ?_; first | (refine Ops.val' rfl (OpV.eqlS_f rfl rfl hA0) ?_)) | refine goV ?_ | refine goB (fun b => ?_) | refine goI ?_ | (refine Cw.k_cond ?_; first | (refine Cw.cond_dec rfl ?_ ?_ <;> intro hc <;> try omega) | refine Cw.cond_bool rfl ?_ ?_ <;> intro hc) | fail)
 refine CwF.seq rfl ?_
 repeat' (first | refine goH ?_ | refine goV ?_ | refine goB (fun b => ?_) | refine goI ?_ | (refine Cw.k_cond ?_; first | (refine Cw.cond_dec rfl ?_ ?_ <;> intro hc <;> try omega) | refine Cw.cond_bool rfl ?_ ?_ <;> intro hc) | fail)
 refine CwF.seq rfl ?_
 repeat' (first | refine goH ?_ | refine goV ?_ | refine goB (fun b => ?_) | refine goI ?_ | (refine Cw.k_cond ?_; first | (refine Cw.cond_dec rfl ?_ ?_ <;> intro hc <;> try omega) | refine Cw.cond_bool rfl ?_ ?_ <;> intro hc) | fail)
 rename_i bc bp
 refine CwF.rng (RngOk.ent (Ent.nil 1 5) (RngOk.seq ?_))
 repeat' (first | refine goH ?_ | refine goV ?_ | refine goB (fun b => ?_) | refine goI ?_ | (refine Cw.k_cond ?_; first | (refine Cw.cond_dec rfl ?_ ?_ <;> intro hc <;> try omega) | refine Cw.cond_bool rfl ?_ ?_ <;> intro hc) | (refine Ops.k_calla ?_; first | (refine Ops.k_callf 95 ?_; refine Ops.callV kt (Evs.cons rfl (Evs.cons rfl Evs.nil)) rfl ?_) | (refine Ops.k_callf 94 ?_; (refine Ops.call (splitSeq_fn H ⟨#[10]⟩) (Evs.cons rfl (Evs.cons rfl Evs.nil)) goPm rfl ?_; rintro r cs' ⟨b1, b2, b3, rfl, rfl⟩))) | fail)
 refine RngOk.block ?_
 refine RngOk.range (ps := [21]) (I := fun k cs => ∃ (p ad : Option Addr) (cap : Nat) (t : ByteArray), (BldI b p ad cap t ∧ t = (if k = 0 then ⟨#[]⟩ else ⟨#[101, 114, 114, 111, 114, 32, 57, 10]⟩)) ∧ cs = [Chunk.box bp 157 [.ptr bc], bldB b p ad cap t, bldO ad cap t]) (Ix := fun _ _ => False) rfl rfl rfl (splitSeq_iter H 10 hidx b1 b2 b3) ?_ ?_ ⟨none, none, 0, ⟨#[]⟩, ⟨BldI.new b, rfl⟩, rfl⟩ goPm ?_ ?_ ?_ (fun _ _ => ?_)
 ·rintro args ha
  rw [List.mem_singleton.1 ha]
  rfl
 ·intro p hp
  simp only [List.mem_cons, List.not_mem_nil, or_false] at hp
  show p < 39
  omega
 ·rintro lp k args csk hk ⟨p, ad, cap, t, ⟨hI, ht⟩, rfl⟩ w1 own1 M1
  have hk0 : k = 0 := by
   have := (List.getElem?_eq_some_iff.1 hk).1
   simp at this
   exact this
  subst hk0
  cases hk
  rw [if_pos rfl] at ht
  subst ht
  simp only [prm]
  repeat' (first | refine goH ?_ | refine goV ?_ | refine goB (fun b => ?_) | refine goI ?_ | (refine Cw.k_cond ?_; first | (refine Cw.cond_dec rfl ?_ ?_ <;> intro hc <;> try omega) | refine Cw.cond_bool rfl ?_ ?_ <;> intro hc) | fail)
  intro w2 own2
  have e1 : (⟨#[101, 114, 114, 111, 114, 32]⟩ : ByteArray).size = 6 := rfl
  have e2 : (⟨#[57]⟩ : ByteArray).size = 1 := rfl
  have e3 : (⟨#[10]⟩ : ByteArray).size = 1 := rfl
  repeat' (first | refine goH ?_ | (refine Ops.k_b_eql ?_; first | (refine Ops.val' rfl (OpV.eqlS_f rfl rfl hH0) ?_)) | (refine Ops.k_b_add ?_; first | (refine Ops.catB rfl rfl (by (try simp only [ByteArray.size_append]); omega) rfl ?_)) | ((fail_if_success refine Ops.k_c_call ?_); refine goV ?_) | ((fail_if_success refine Ops.k_c_call ?_); refine goB (fun b => ?_)) | refine goI ?_ | (refine Cw.k_cond ?_; first | (refine Cw.cond_dec rfl ?_ ?_ <;> intro hc <;> try omega) | refine Cw.cond_bool rfl ?_ ?_ <;> intro hc) | (refine Ops.k_calla ?_; first | (refine Ops.k_callf 96 ?_; refine Ops.callV (kr bc) (Evs.cons rfl (Evs.cons rfl Evs.nil)) rfl ?_) | (refine Ops.k_callf 93 ?_; refine Ops.callV ki (Evs.cons rfl Evs.nil) rfl ?_)) | fail)
  rw [hres]
  have kw := writeString_fn hI ⟨#[101, 114, 114, 111, 114, 32, 57, 10]⟩ (by decide)
  repeat' (first | refine goH ?_ | refine goV ?_ | refine goB (fun b => ?_) | refine goI ?_ | (refine Cw.k_cond ?_; first | (refine Cw.cond_dec rfl ?_ ?_ <;> intro hc <;> try omega) | refine Cw.cond_bool rfl ?_ ?_ <;> intro hc) | (refine Ops.k_calla ?_; first | (refine Ops.k_callf 97 ?_; (refine Ops.call kw (Evs.cons rfl (Evs.cons rfl Evs.nil)) goPm rfl ?_; rintro r cs' ⟨p2, ad2, cap2, hI2, rfl, rfl⟩))) | fail)
  exact RPost.norm (Ent.mk goSub goTk) ⟨p2, ad2, cap2, _, ⟨hI2, by rw [if_neg (by simp)]; decide +kernel⟩, rfl⟩
 ·rintro w1 own1 M1 D csN ⟨p, ad, cap, t, ⟨hI, ht⟩, rfl⟩
  rw [if_neg (by simp)] at ht
  have htz : t.size ≤ 1000000000 := by rw [ht]; decide
  have ks := string_fn hI htz
  repeat' (first | refine goH ?_ | refine goV ?_ | refine goB (fun b => ?_) | refine goI ?_ | (refine Cw.k_cond ?_; first | (refine Cw.cond_dec rfl ?_ ?_ <;> intro hc <;> try omega) | refine Cw.cond_bool rfl ?_ ?_ <;> intro hc) | (refine Ops.k_calla ?_; first | (refine Ops.k_callf 98 ?_; (refine Ops.call ks (Evs.cons rfl Evs.nil) goPm rfl ?_; rintro r cs' ⟨rfl, rfl⟩))) | fail)
  exact Fin.ret (Ent.take goTk) (Outs.one rfl rfl) ⟨rfl, congrArg Tr.str ht⟩
 ·rintro c csx h
  exact h.elim
 ·exact enters_of Tryz.func154 rfl rfl _ _
end Lg
end
section
set_option linter.all false
set_option maxRecDepth 100000
set_option maxHeartbeats 4000000
namespace Lg
open Go Go.Proofs

structure Tube where
 val : Int
 cnt : Int
 most : Int
def Tube.row (d : Tube) : List Tr := [Tr.int d.val, Tr.int d.cnt, Tr.int d.most]
abbrev Tr.tubes (l : List Tube) : Tr := Tr.sl 3 (l.map Tube.row)

def tubeGo : Option Int → List Tube → Int
 |_, [] => 0
 |prev, d :: l => if d.val < 1 ∨ 10000 < d.val then 1 else if prev.any (fun p => decide (d.val ≤ p)) = true then 7 else if d.most < 0 ∨ 1000 < d.most ∨ d.cnt < 0 ∨ d.most < d.cnt then 1 else tubeGo (some d.val) l
def tubesErr (l : List Tube) : Int := if 10 < l.length then 2 else tubeGo none l
def prevVal (l : List Tube) (k : Nat) : Option Int := if k = 0 then none else (l[k - 1]?).map (·.val)

structure TbOk (l : List Tube) : Prop where
 len : l.length ≤ 10
 val : ∀ d ∈ l, 1 ≤ d.val ∧ d.val ≤ 10000
 cnt : ∀ d ∈ l, 0 ≤ d.cnt ∧ d.cnt ≤ d.most ∧ d.most ≤ 1000

theorem tubeGo_right : ∀ {l : List Tube} {prev : Option Int}, tubeGo prev l = 0 → ∀ d ∈ l, (1 ≤ d.val ∧ d.val ≤ 10000) ∧ (0 ≤ d.cnt ∧ d.cnt ≤ d.most ∧ d.most ≤ 1000)
 |[], _, _, d, hd => by simp at hd
 |x :: l, prev, h, d, hd => by
  unfold tubeGo at h
  split at h
  ·omega
  split at h
  ·omega
  split at h
  ·omega
  rename_i h1 h2 h3
  rcases List.mem_cons.1 hd with rfl | hd
  ·omega
  ·exact tubeGo_right h d hd
theorem tubesErr_ok {l : List Tube} (h : tubesErr l = 0) : TbOk l := by
 unfold tubesErr at h
 split at h
 ·omega
 rename_i h1
 exact ⟨by omega, fun d hd => (tubeGo_right h d hd).1, fun d hd => (tubeGo_right h d hd).2⟩

theorem checkTubes_fn (l : List Tube) : PFn Tryz.prog 79 [.tubes l] (· = .int (tubesErr l)) := by
 refine PFn.mk (Spec.body Tryz.func79 rfl rfl (Tryz.ntmps79) rfl fun w0 own0 M => ?_)
 have hL : (l.map Tube.row).length = l.length := List.length_map _
 repeat' (first | refine goH ?_ | refine goV ?_ | refine goB (fun b => ?_) | refine goG ?_ | (refine Ops.k_guard ?_; first | (refine Ops.guard_dec rfl rfl ?_ ?_ <;> intro hc <;> try omega) | refine Ops.guard_split rfl rfl ?_ ?_ <;> intro hc) | refine goI ?_ | (refine Cw.k_cond ?_; first | (refine Cw.cond_dec rfl ?_ ?_ <;> intro hc <;> try omega) | refine Cw.cond_bool rfl ?_ ?_ <;> intro hc) | refine goR ?_ | refine goP ?_ | apply PSeq.cons | apply PSeq.yes rfl rfl rfl | exact goW | fail)
 ·exact Fin.ret Ent.refl (Outs.one rfl rfl) ⟨rfl, by unfold tubesErr; rw [if_pos (by omega)]⟩
 have h4 : ¬ 10 < l.length := by omega
 refine Cw.loop (ι := Nat) (fun k => k ≤ l.length ∧ tubesErr l = tubeGo (prevVal l k) (l.drop k)) (fun k => [(0, .tubes l), (8, .tubes l), (9, .int (l.map Tube.row).length), (10, .int k)]) (fun _ => []) (fun k => l.length - k) ⟨0, ⟨by omega, by unfold tubesErr; rw [if_neg h4]; simp [prevVal]⟩, (Ent.mk goSub goTk)⟩ ?_
 rintro k ⟨hk, hfin⟩
 by_cases hkl : k < l.length
 ·obtain ⟨d, hd⟩ := at_lt hkl
  have hrow : (l.map Tube.row)[k]? = some [Tr.int d.val, Tr.int d.cnt, Tr.int d.most] := rows_at hd
  have hnext : prevVal l (k + 1) = some d.val := by simp [prevVal, hd]
  rw [drop_at hd] at hfin
  unfold tubeGo at hfin
  have o1 := out_fn d.val 1 10000
  have o2 := out_fn d.most 0 1000
  have o3 := out_fn d.cnt 0 d.most
  by_cases hk0 : k = 0
  ·subst hk0
   simp only [prevVal, if_true, Option.any_none, Bool.false_eq_true, if_false] at hfin
   repeat' (first | refine goH ?_ | refine goV ?_ | refine goB (fun b => ?_) | refine goG ?_ | (refine Ops.k_guard ?_; first | (refine Ops.guard_dec rfl rfl ?_ ?_ <;> intro hc <;> try omega) | refine Ops.guard_split rfl rfl ?_ ?_ <;> intro hc) | refine goI ?_ | (refine Cw.k_cond ?_; first | (refine Cw.cond_dec rfl ?_ ?_ <;> intro hc <;> try omega) | refine Cw.cond_bool rfl ?_ ?_ <;> intro hc) | (refine Ops.k_calla ?_; first | (refine Ops.k_callf 19 ?_; refine Ops.callV o1 (Evs.cons rfl (Evs.cons rfl (Evs.cons rfl Evs.nil))) rfl ?_) | (refine Ops.k_callf 19 ?_; refine Ops.callV o2 (Evs.cons rfl (Evs.cons rfl (Evs.cons rfl Evs.nil))) rfl ?_) | (refine Ops.k_callf 19 ?_; refine Ops.callV o3 (Evs.cons rfl (Evs.cons rfl (Evs.cons rfl Evs.nil))) rfl ?_)) | (apply OpW.k_call; first | (apply OpW.k_callf 19; exact OpW.callV o1 (Evs.cons rfl (Evs.cons rfl (Evs.cons rfl Evs.nil)))) | (apply OpW.k_callf 19; exact OpW.callV o2 (Evs.cons rfl (Evs.cons rfl (Evs.cons rfl Evs.nil)))) | (apply OpW.k_callf 19; exact OpW.callV o3 (Evs.cons rfl (Evs.cons rfl (Evs.cons rfl Evs.nil))))) | refine goR ?_ | refine goP ?_ | apply PSeq.cons | apply PSeq.yes rfl rfl rfl | exact goW | fail)
   all_goals (try simp only [outB_eq, outB_f, Bool.not_eq_true] at *)
   all_goals first
    |(refine Fin.ret (Ent.take goTk) (Outs.one rfl rfl) ⟨rfl, congrArg Tr.int ?_⟩; rw [hfin]; (repeat' split) <;> first | rfl | omega)
    |(refine ⟨1, ⟨by omega, ?_⟩, by omega, (Ent.mk goSub goTk)⟩; rw [hnext]; rw [hfin]; (repeat' split) <;> first | rfl | omega)
  ·obtain ⟨d', hd'⟩ := at_lt (l := l) (k := k - 1) (by omega)
   have hrow' : (l.map Tube.row)[((k : Int) - 1).toNat]? = some [Tr.int d'.val, Tr.int d'.cnt, Tr.int d'.most] := by rw [show ((k : Int) - 1).toNat = k - 1 by omega]; exact rows_at hd'
   simp only [prevVal, hk0, if_false, hd', Option.map_some, Option.any_some, decide_eq_true_eq] at hfin
   repeat' (first | refine goH ?_ | refine goV ?_ | refine goB (fun b => ?_) | refine goG ?_ | (refine Ops.k_guard ?_; first | (refine Ops.guard_dec rfl rfl ?_ ?_ <;> intro hc <;> try omega) | refine Ops.guard_split rfl rfl ?_ ?_ <;> intro hc) | refine goI ?_ | (refine Cw.k_cond ?_; first | (refine Cw.cond_dec rfl ?_ ?_ <;> intro hc <;> try omega) | refine Cw.cond_bool rfl ?_ ?_ <;> intro hc) | (refine Ops.k_calla ?_; first | (refine Ops.k_callf 19 ?_; refine Ops.callV o1 (Evs.cons rfl (Evs.cons rfl (Evs.cons rfl Evs.nil))) rfl ?_) | (refine Ops.k_callf 19 ?_; refine Ops.callV o2 (Evs.cons rfl (Evs.cons rfl (Evs.cons rfl Evs.nil))) rfl ?_) | (refine Ops.k_callf 19 ?_; refine Ops.callV o3 (Evs.cons rfl (Evs.cons rfl (Evs.cons rfl Evs.nil))) rfl ?_)) | (apply OpW.k_call; first | (apply OpW.k_callf 19; exact OpW.callV o1 (Evs.cons rfl (Evs.cons rfl (Evs.cons rfl Evs.nil)))) | (apply OpW.k_callf 19; exact OpW.callV o2 (Evs.cons rfl (Evs.cons rfl (Evs.cons rfl Evs.nil)))) | (apply OpW.k_callf 19; exact OpW.callV o3 (Evs.cons rfl (Evs.cons rfl (Evs.cons rfl Evs.nil))))) | refine goR ?_ | refine goP ?_ | apply PSeq.cons | apply PSeq.yes rfl rfl rfl | exact goW | fail)
   all_goals (try simp only [outB_eq, outB_f, Bool.not_eq_true] at *)
   all_goals first
    |(refine Fin.ret (Ent.take goTk) (Outs.one rfl rfl) ⟨rfl, congrArg Tr.int ?_⟩; rw [hfin]; (repeat' split) <;> first | rfl | omega)
    |(refine ⟨k + 1, ⟨by omega, ?_⟩, by omega, (Ent.mk goSub goTk)⟩; rw [hnext]; rw [hfin]; (repeat' split) <;> first | rfl | omega)
 ·rw [List.drop_eq_nil_of_le (by omega), tubeGo] at hfin
  repeat' (first | refine goH ?_ | refine goV ?_ | refine goB (fun b => ?_) | refine goG ?_ | (refine Ops.k_guard ?_; first | (refine Ops.guard_dec rfl rfl ?_ ?_ <;> intro hc <;> try omega) | refine Ops.guard_split rfl rfl ?_ ?_ <;> intro hc) | refine goI ?_ | (refine Cw.k_cond ?_; first | (refine Cw.cond_dec rfl ?_ ?_ <;> intro hc <;> try omega) | refine Cw.cond_bool rfl ?_ ?_ <;> intro hc) | refine goR ?_ | refine goP ?_ | apply PSeq.cons | apply PSeq.yes rfl rfl rfl | exact goW | fail)
  refine Fin.ret (Ent.take goTk) (Outs.one rfl rfl) ⟨rfl, congrArg Tr.int ?_⟩
  rw [hfin]
end Lg
end
section
set_option linter.all false
set_option maxRecDepth 100000
set_option maxHeartbeats 4000000
namespace Lg
open Go Go.Proofs

def totalI : List Tube → Int
 |[] => 0
 |d :: l => d.val * d.cnt + totalI l
theorem totalI_cons (d : Tube) (l : List Tube) : totalI (d :: l) = d.val * d.cnt + totalI l := rfl
theorem mul_bdV {a b A B : Int} (ha : 0 ≤ a ∧ a ≤ A) (hb : 0 ≤ b ∧ b ≤ B) : 0 ≤ a * b ∧ a * b ≤ A * B :=
 ⟨Int.mul_nonneg ha.1 hb.1, Int.mul_le_mul ha.2 hb.2 hb.1 (by omega)⟩
theorem total_fn (l : List Tube) (ho : TbOk l) : PFn Tryz.prog 80 [.tubes l] (· = .int (totalI l)) := by
 refine PFn.mk (Spec.body Tryz.func80 rfl rfl (Tryz.ntmps80) rfl fun w0 own0 M => ?_)
 have hL : (l.map Tube.row).length = l.length := List.length_map _
 have hlen := ho.len
 repeat' (first | refine goH ?_ | refine goV ?_ | refine goB (fun b => ?_) | refine goI ?_ | (refine Cw.k_cond ?_; first | (refine Cw.cond_dec rfl ?_ ?_ <;> intro hc <;> try omega) | refine Cw.cond_bool rfl ?_ ?_ <;> intro hc) | fail)
 refine Cw.loop (ι := Nat × Int) (fun s => s.1 ≤ l.length ∧ s.2 + totalI (l.drop s.1) = totalI l ∧ 0 ≤ s.2 ∧ s.2 ≤ 10000000 * s.1)
  (fun s => [(3, .int s.2), (6, .tubes l), (7, .int (l.map Tube.row).length), (8, .int s.1)]) (fun _ => []) (fun s => l.length - s.1) ⟨(0, 0), ⟨by simp only; omega, by simp only [List.drop_zero]; omega, by simp only; omega, by simp only; omega⟩, (Ent.mk goSub goTk)⟩ ?_
 rintro ⟨k, S⟩ ⟨hk, h1, h2, h3⟩
 simp only at hk h1 h2 h3 ⊢
 by_cases hkl : k < l.length
 ·obtain ⟨d, hd⟩ := at_lt hkl
  have hrow : (l.map Tube.row)[k]? = some [Tr.int d.val, Tr.int d.cnt, Tr.int d.most] := rows_at hd
  have hv := ho.val d (List.mem_of_getElem? hd)
  have hc := ho.cnt d (List.mem_of_getElem? hd)
  have hm := mul_bdV (a := d.val) (b := d.cnt) (A := 10000) (B := 1000) (by omega) (by omega)
  have hm2 : -9223372036854775808 ≤ d.val * d.cnt ∧ d.val * d.cnt ≤ 9223372036854775807 := by omega
  rw [drop_at hd, totalI_cons] at h1
  repeat' (first | refine goH ?_ | refine goV ?_ | refine goB (fun b => ?_) | refine goI ?_ | (refine Cw.k_cond ?_; first | (refine Cw.cond_dec rfl ?_ ?_ <;> intro hc <;> try omega) | refine Cw.cond_bool rfl ?_ ?_ <;> intro hc) | fail)
  exact ⟨(k + 1, S + d.val * d.cnt), ⟨by simp only; omega, by simp only; omega, by simp only; omega, by simp only; omega⟩, by simp only; omega, (Ent.mk goSub goTk)⟩
 ·rw [List.drop_eq_nil_of_le (by omega), totalI] at h1
  repeat' (first | refine goH ?_ | refine goV ?_ | refine goB (fun b => ?_) | refine goI ?_ | (refine Cw.k_cond ?_; first | (refine Cw.cond_dec rfl ?_ ?_ <;> intro hc <;> try omega) | refine Cw.cond_bool rfl ?_ ?_ <;> intro hc) | fail)
  exact Fin.ret Ent.refl (Outs.one rfl rfl) ⟨rfl, congrArg Tr.int (by omega)⟩

def total1 (l : List Tube) : Int × Int := if tubesErr l ≠ 0 then (0, tubesErr l) else (totalI l, 0)
theorem totalX_fn (l : List Tube) : PFn Tryz.prog 45 [.tubes l] (· = .tup [.int (total1 l).1, .int (total1 l).2]) := by
 have hck := checkTubes_fn l
 refine PFn.mk (Spec.body Tryz.func45 rfl rfl (Tryz.ntmps45) rfl fun w0 own0 M => ?_)
 by_cases h0 : tubesErr l ≠ 0
 ·rw [show total1 l = (0, tubesErr l) by unfold total1; rw [if_pos h0]]
  repeat' (first | refine goH ?_ | refine goV ?_ | refine goI ?_ | (refine Cw.k_cond ?_; first | (refine Cw.cond_dec rfl ?_ ?_ <;> intro hc <;> try omega) | refine Cw.cond_bool rfl ?_ ?_ <;> intro hc) | (refine Ops.k_calla ?_; first | (refine Ops.k_callf 79 ?_; refine Ops.callV hck (Evs.cons rfl Evs.nil) rfl ?_)) | fail)
  exact Fin.ret (Ent.take goTk) (Outs.two rfl rfl rfl) ⟨rfl, rfl⟩
 replace h0 : tubesErr l = 0 := by omega
 have ht := total_fn l (tubesErr_ok h0)
 rw [show total1 l = (totalI l, 0) by unfold total1; rw [if_neg (by omega)]]
 rw [h0] at hck
 repeat' (first | refine goH ?_ | refine goV ?_ | refine goI ?_ | (refine Cw.k_cond ?_; first | (refine Cw.cond_dec rfl ?_ ?_ <;> intro hc <;> try omega) | refine Cw.cond_bool rfl ?_ ?_ <;> intro hc) | (refine Ops.k_calla ?_; first | (refine Ops.k_callf 79 ?_; refine Ops.callV hck (Evs.cons rfl Evs.nil) rfl ?_) | (refine Ops.k_callf 80 ?_; refine Ops.callV ht (Evs.cons rfl Evs.nil) rfl ?_)) | fail)
 exact Fin.ret (Ent.take goTk) (Outs.two rfl rfl rfl) ⟨rfl, rfl⟩

end Lg
end
