/- A part of the proof of a law of this seat: it adds no condition. By an AI agent. -/
import Derived.Test.YtaoclkglimibeaaGreatDoorLz2
set_option linter.all false
set_option maxRecDepth 100000
set_option maxHeartbeats 8000000
namespace Lg
open Go Go.Proofs
structure HidR (p : Prop) : Prop where
  h : p
theorem useTail2 {T : Nat → Int → Prop} {D : Nat} {G : Prop} (h : HidR (∀ (by_ : Nat) (e : Int), e = (D : Int) → T by_ e) → G) (t : ∀ (by_ : Nat) (e : Int), e = (D : Int) → T by_ e) : G := h ⟨t⟩
attribute [local irreducible] entS plS dayB flgO itoaK cnlO pstO strRows splS numDV okNum pre2 hdL lnL rlT hdT rdS spl3 atoiV valNum
theorem readY_fn (t : ByteArray) (hsz : t.size ≤ 1000000000) : Spec Tryz.prog 6 [.str t] [bkC] (fun r cs => readQ (readS t) r cs) := by
  obtain ⟨R, hR⟩ : ∃ R, R = readS t := ⟨_, rfl⟩
  rw [← hR]
  unfold readS at hR
  have kX := newY_fn
  refine Spec.body Tryz.func6 rfl rfl (Tryz.ntmps6) rfl fun w0 own0 M => ?_
  by_cases hbig : 200000 < t.size
  · rw [if_pos hbig] at hR
    subst hR
    repeat' (first | refine goH ?_ | refine goV ?_ | refine goB (fun b => ?_) | refine goC (fun ad cap => ?_) | refine goG ?_ | (refine Ops.k_guard ?_; first | (refine Ops.guard_dec rfl rfl (fun hc => ?_) (fun hc => ?_) <;> try (exfalso; omega)) | refine Ops.guard_split rfl rfl (fun hc => ?_) (fun hc => ?_)) | refine goI ?_ | (refine Cw.k_cond ?_; first | (refine Cw.cond_dec rfl (fun hc => ?_) (fun hc => ?_) <;> try (exfalso; omega)) | refine Cw.cond_bool rfl (fun hc => ?_) (fun hc => ?_)) | fail)
    exact Fin.ret (Ent.take goTk) (Outs.many rfl (OutL.cons goOe (OutL.cons goOe (OutL.cons goOe OutL.nil))) rfl) (Or.inr ⟨by decide, rfl, rfl⟩)
  rw [if_neg hbig] at hR
  have k1 := split1_fn t hsz 10
  have hSl := splS_len 10 t
  have hS2 := countByte_le t.data.toList 10
  have htl := str_list t
  have hSz : ∀ w ∈ splS 10 t, w.size ≤ 200000 := fun w hw => by have := splS_size hw; omega
  unfold linesR at hR
  generalize splS 10 t = S at *
  have hSn : S ≠ [] := fun e => by rw [e] at hSl; simp at hSl
  obtain ⟨w, hw1, hw2⟩ := lines_take hSn
  have hrw : (strRows S)[S.length - 1]? = some [.str w] := strRows_at hw1
  obtain ⟨last, hlast⟩ : ∃ last, last = S.length - 1 := ⟨_, rfl⟩
  have hSL : S.length = last + 1 := by omega
  have hSR : (strRows S).length = last + 1 := by rw [strRows_len, hSL]
  have hSb : last ≤ 200000 := by omega
  rw [← hlast] at hrw hR
  have hsub : ((strRows S).length : Int) - 1 = (last : Int) := by omega
  obtain ⟨D, hD, hDl, hDm, hDw⟩ : ∃ D, D = (if S.getLast? = some ⟨#[]⟩ then S.dropLast else S) ∧ (strRows D).length ≤ 200001 ∧ (∀ x ∈ D, x ∈ S) ∧ (w = ⟨#[]⟩ → D = S.dropLast) ∧ (¬ w = ⟨#[]⟩ → D = S) := by
    refine ⟨_, rfl, ?_, ?_, ?_, ?_⟩
    · rw [strRows_len]
      split
      · rw [List.length_dropLast]; omega
      · omega
    · intro x hx
      split at hx
      · exact List.dropLast_subset S hx
      · exact hx
    · intro e; rw [hw2, e, if_pos rfl]
    · intro e; rw [hw2, if_neg (fun h => e (by injection h))]
  rw [← hD] at hR
  clear hD
  have hDZ : ∀ x ∈ D, x.size ≤ 200000 := fun x hx => hSz x (hDm x hx)
  have hDR := strRows_len D
  have hDS : ∀ i s, D[i]? = some s → S[i]? = some s := fun i s h => by
    by_cases e : w = ⟨#[]⟩
    · rw [hDw.1 e, List.dropLast_eq_take, List.getElem?_take] at h
      split at h
      · exact h
      · cases h
    · rw [hDw.2 e] at h; exact h
  have hDe : (w = ⟨#[]⟩ → D.length = last) ∧ (¬ w = ⟨#[]⟩ → D.length = last + 1) := ⟨fun e => by rw [hDw.1 e, List.length_dropLast]; omega, fun e => by rw [hDw.2 e, hSL]⟩
  have hR0 : R = rdS last (D.drop 0) 0 [] none := hR
  clear hR hSz hSl hS2 htl hDw hDm hw1 hw2 hSn hSL hlast
  have hDn : last ≤ D.length ∧ D.length ≤ last + 1 := by
    by_cases e : w = ⟨#[]⟩
    · have := hDe.1 e; omega
    · have := hDe.2 e; omega
  refine useTail2 (D := D.length) (T := ?T) ?main ?tailp
  case' main => intro tail
  by_cases hw : w = ⟨#[]⟩
  · have hDn2 := hDe.1 hw
    obtain ⟨la, hla⟩ : ∃ la : Int, la = (last : Int) := ⟨_, rfl⟩
    have hsub2 : ((strRows S).length : Int) - 1 = la := by rw [hla]; exact hsub
    have hrw2 : (strRows S)[la.toNat]? = some [.str w] := by rw [hla]; exact hrw
    repeat' (first | refine goH ?_ | (refine Ops.k_b_sub ?_; first | (refine Ops.sub rfl rfl (by omega) rfl ?_; rw [hsub2])) | (refine Ops.k_b_neq ?_; first | (first | refine Ops.val' rfl (OpV.neqS_f rfl rfl hw) ?_)) | refine goV ?_ | refine goB (fun b => ?_) | refine goC (fun ad cap => ?_) | refine goG ?_ | (refine Ops.k_guard ?_; first | (refine Ops.guard_dec rfl rfl (fun hc => ?_) (fun hc => ?_) <;> try (exfalso; omega)) | refine Ops.guard_split rfl rfl (fun hc => ?_) (fun hc => ?_)) | refine goI ?_ | (refine Cw.k_cond ?_; first | (refine Cw.cond_dec rfl (fun hc => ?_) (fun hc => ?_) <;> try (exfalso; omega)) | refine Cw.cond_bool rfl (fun hc => ?_) (fun hc => ?_)) | (refine Ops.k_calla ?_; first | (refine Ops.k_callf 17 ?_; refine Ops.callV k1 (Evs.cons rfl (Evs.cons rfl Evs.nil)) rfl ?_) | (refine Ops.k_callf 24 ?_; (refine Ops.call kX Evs.nil goPm rfl ?_; rintro r cs' ⟨by_, rfl, rfl⟩))) | fail)
    refine Cw.ent (Ent.mk (env' := [(5, .strs S), (6, .int la), (7, .ptr by_), (8, .int 0)]) (cs' := [bkC, ledY by_ none 0 0 none 0 0]) goSub goTk) ?_
    exact tail.h by_ la (by omega)
  · have hDn2 := hDe.2 hw
    obtain ⟨la, hla⟩ : ∃ la : Int, la = (last : Int) := ⟨_, rfl⟩
    have hsub2 : ((strRows S).length : Int) - 1 = la := by rw [hla]; exact hsub
    have hrw2 : (strRows S)[la.toNat]? = some [.str w] := by rw [hla]; exact hrw
    repeat' (first | refine goH ?_ | (refine Ops.k_b_sub ?_; first | (refine Ops.sub rfl rfl (by omega) rfl ?_; rw [hsub2])) | (refine Ops.k_b_neq ?_; first | (first | refine Ops.val' rfl (OpV.neqS_t rfl rfl hw) ?_)) | refine goV ?_ | refine goB (fun b => ?_) | refine goC (fun ad cap => ?_) | refine goG ?_ | (refine Ops.k_guard ?_; first | (refine Ops.guard_dec rfl rfl (fun hc => ?_) (fun hc => ?_) <;> try (exfalso; omega)) | refine Ops.guard_split rfl rfl (fun hc => ?_) (fun hc => ?_)) | refine goI ?_ | (refine Cw.k_cond ?_; first | (refine Cw.cond_dec rfl (fun hc => ?_) (fun hc => ?_) <;> try (exfalso; omega)) | refine Cw.cond_bool rfl (fun hc => ?_) (fun hc => ?_)) | (refine Ops.k_calla ?_; first | (refine Ops.k_callf 17 ?_; refine Ops.callV k1 (Evs.cons rfl (Evs.cons rfl Evs.nil)) rfl ?_) | (refine Ops.k_callf 24 ?_; (refine Ops.call kX Evs.nil goPm rfl ?_; rintro r cs' ⟨by_, rfl, rfl⟩))) | fail)
    refine Cw.ent (Ent.mk (env' := [(5, .strs S), (6, .int (la + 1)), (7, .ptr by_), (8, .int 0)]) (cs' := [bkC, ledY by_ none 0 0 none 0 0]) goSub goTk) ?_
    exact tail.h by_ (la + 1) (by omega)
  intro by_ e he
  subst he
  clear k1 hrw hDe
  refine Cw.loopI [(5, _), (6, _), (7, _)] _ (fun q e cc => ∃ (i : Nat) (L : List Ps) (ad ad2 : Option Addr) (n cap cap2 : Nat), q = D.length - i ∧ (i ≤ D.length ∧ R = rdS last (D.drop i) i L none ∧ LSt L ∧ n = L.length) ∧ e = [(8, .int i)] ∧ cc = [ledY by_ ad n cap ad2 n cap2, ownE ad cap L, ownB ad2 cap2 L])
    ⟨_, _, _, Ent.trans (Ent.nil 3 52) (Ent.trans (Ent.nil 1 3) (Ent.mkP goSub goPm)), 0, [], none, none, 0, 0, 0, rfl, ⟨by omega, hR0, LSt.nil, rfl⟩, rfl, rfl⟩ ?_
  clear hR0
  rintro _ _ _ ⟨i, L, ad, ad2, n, cap, cap2, rfl, ⟨hi, hR, hs, hn⟩, rfl, rfl⟩
  by_cases hil : i < D.length
  rotate_left
  · rw [List.drop_of_length_le (by omega), rdS_nil] at hR
    subst hR
    repeat' (first | refine goH ?_ | refine goV ?_ | refine goB (fun b => ?_) | refine goC (fun ad cap => ?_) | refine goG ?_ | (refine Ops.k_guard ?_; first | (refine Ops.guard_dec rfl rfl (fun hc => ?_) (fun hc => ?_) <;> try (exfalso; omega)) | refine Ops.guard_split rfl rfl (fun hc => ?_) (fun hc => ?_)) | refine goI ?_ | (refine Cw.k_cond ?_; first | (refine Cw.cond_dec rfl (fun hc => ?_) (fun hc => ?_) <;> try (exfalso; omega)) | refine Cw.cond_bool rfl (fun hc => ?_) (fun hc => ?_)) | fail)
    exact Fin.ret (Ent.take goTk) (Outs.many rfl (OutL.cons goOe (OutL.cons goOe (OutL.cons goOe OutL.nil))) rfl) (Or.inl ⟨by_, n, cap, cap2, ad, ad2, rfl, rfl, hs, hn, rfl⟩)
  obtain ⟨s, hsi⟩ := at_lt hil
  have hrow : (strRows S)[i]? = some [.str s] := strRows_at (hDS i s hsi)
  have hsz2 := hDZ s (List.mem_of_getElem? hsi)
  have kw := split3_fn s (by omega)
  have hwl := strRows_len (spl3 s)
  rw [drop_at hsi] at hR
  by_cases hla : i = last
  · have hRe : R = (L, i, 9) := by
      rw [hR]
      cases hh : hdL s.data.toList with
      | none => exact rdS_h0 hh
      | some y => exact rdS_h1 hh hla
    subst hRe
    clear hR
    repeat' (first | refine goH ?_ | (refine Ops.k_b_sub ?_; first | (refine Ops.sub rfl rfl (by omega) rfl ?_; rw [hsub])) | refine goV ?_ | refine goB (fun b => ?_) | refine goC (fun ad cap => ?_) | refine goG ?_ | (refine Ops.k_guard ?_; first | (refine Ops.guard_dec rfl rfl (fun hc => ?_) (fun hc => ?_) <;> try (exfalso; omega)) | refine Ops.guard_split rfl rfl (fun hc => ?_) (fun hc => ?_)) | refine goI ?_ | (refine Cw.k_cond ?_; first | (refine Cw.cond_dec rfl (fun hc => ?_) (fun hc => ?_) <;> try (exfalso; omega)) | refine Cw.cond_bool rfl (fun hc => ?_) (fun hc => ?_)) | (refine Ops.k_calla ?_; first | (refine Ops.k_callf 25 ?_; refine Ops.callV kw (Evs.cons rfl (Evs.cons rfl (Evs.cons rfl Evs.nil))) rfl ?_)) | fail)
    all_goals exact Fin.ret (Ent.take goTk) (Outs.many rfl (OutL.cons goOe (OutL.cons goOe (OutL.cons goOe OutL.nil))) rfl) (Or.inr ⟨show (9 : Int) ≠ 0 by decide, rfl, rfl⟩)
  have hil2 : i < last := by omega
  have herr : hdL s.data.toList = none → R = (L, i, 9) := fun h => by rw [hR, rdS_h0 h]
  have hokr : ∀ y, hdL s.data.toList = some y → R = rdS last (D.drop (i + 1)) (i + 1) L (some (mkP i y)) := fun y h => by rw [hR, rdS_h2 h hla]
  clear hR
  cases hb : brk s.data.toList with
  | none =>
    have hl3 : (strRows (spl3 s)).length = 1 := by rw [hwl, spl3_1 hb]; rfl
    have h0 : (strRows (spl3 s))[0]? = some [.str s] := strRows_at (by rw [spl3_1 hb]; rfl)
    have hRe := herr (hdL_n hb)
    subst hRe
    clear herr hokr
    by_cases hA : s = ⟨#[99, 97, 110, 99, 101, 108]⟩
    all_goals by_cases hB : s = ⟨#[101, 110, 116, 114, 121]⟩
    all_goals
      repeat' (first | refine goH ?_ | (refine Ops.k_b_sub ?_; first | (refine Ops.sub rfl rfl (by omega) rfl ?_; rw [hsub])) | refine goV ?_ | refine goB (fun b => ?_) | refine goC (fun ad cap => ?_) | refine goG ?_ | (refine Ops.k_guard ?_; first | (refine Ops.guard_dec rfl rfl (fun hc => ?_) (fun hc => ?_) <;> try (exfalso; omega)) | refine Ops.guard_split rfl rfl (fun hc => ?_) (fun hc => ?_)) | refine goI ?_ | (refine Cw.k_cond ?_; first | (refine Cw.cond_dec rfl (fun hc => ?_) (fun hc => ?_) <;> try (exfalso; omega)) | refine Cw.cond_bool rfl (fun hc => ?_) (fun hc => ?_)) | (refine Ops.k_calla ?_; first | (refine Ops.k_callf 25 ?_; refine Ops.callV kw (Evs.cons rfl (Evs.cons rfl (Evs.cons rfl Evs.nil))) rfl ?_) | refine Ops.callS kn (Evs.cons rfl (Evs.cons rfl Evs.nil)) goPm rfl ?_) | fail)
      all_goals exact Fin.ret (Ent.take goTk) (Outs.many rfl (OutL.cons goOe (OutL.cons goOe (OutL.cons goOe OutL.nil))) rfl) (Or.inr ⟨show (9 : Int) ≠ 0 by decide, rfl, rfl⟩)
  | some p =>
    obtain ⟨a, b⟩ := p
    have hab := (brk_some hb).1
    have hbz : b.length ≤ 200000 := by
      have e := str_list s
      rw [hab, List.length_append, List.length_cons] at e
      omega
    cases hb2 : brk b with
    | none =>
      have hl3 : (strRows (spl3 s)).length = 2 := by rw [hwl, spl3_2 hb hb2]; rfl
      have h0 : (strRows (spl3 s))[0]? = some [.str (mkB a)] := strRows_at (by rw [spl3_2 hb hb2]; rfl)
      have h1 : (strRows (spl3 s))[1]? = some [.str (mkB b)] := strRows_at (by rw [spl3_2 hb hb2]; rfl)
      have kn := numR_bk (mkB b) (by show b.length ≤ _; omega)
      rw [mkB_list] at kn
      by_cases ha : a = canL
      · subst ha
        have hA : mkB canL = ⟨#[99, 97, 110, 99, 101, 108]⟩ := rfl
        rw [hdL_c hb] at herr hokr
        cases hk : okNum 10 b
        · have hRe := herr (by rw [hk]; rfl)
          subst hRe
          rw [hk] at kn
          clear herr hokr
          generalize mkB canL = ma at *
          repeat' (first | refine goH ?_ | (refine Ops.k_b_sub ?_; first | (refine Ops.sub rfl rfl (by omega) rfl ?_; rw [hsub])) | refine goV ?_ | refine goB (fun b => ?_) | refine goC (fun ad cap => ?_) | refine goG ?_ | (refine Ops.k_guard ?_; first | (refine Ops.guard_dec rfl rfl (fun hc => ?_) (fun hc => ?_) <;> try (exfalso; omega)) | refine Ops.guard_split rfl rfl (fun hc => ?_) (fun hc => ?_)) | refine goI ?_ | (refine Cw.k_cond ?_; first | (refine Cw.cond_dec rfl (fun hc => ?_) (fun hc => ?_) <;> try (exfalso; omega)) | refine Cw.cond_bool rfl (fun hc => ?_) (fun hc => ?_)) | (refine Ops.k_calla ?_; first | (refine Ops.k_callf 25 ?_; refine Ops.callV kw (Evs.cons rfl (Evs.cons rfl (Evs.cons rfl Evs.nil))) rfl ?_) | (refine Ops.k_callf 26 ?_; refine Ops.callS kn (Evs.cons rfl (Evs.cons rfl Evs.nil)) goPm rfl ?_)) | fail)
          all_goals exact Fin.ret (Ent.take goTk) (Outs.many rfl (OutL.cons goOe (OutL.cons goOe (OutL.cons goOe OutL.nil))) rfl) (Or.inr ⟨show (9 : Int) ≠ 0 by decide, rfl, rfl⟩)
        · have hR2 := hokr (.inl (valNum b)) (by rw [hk]; rfl)
          rw [hk, num_v hk] at kn
          generalize valNum b = no at *
          change R = rdS last (D.drop (i + 1)) (i + 1) L (some ⟨i, no, true, ⟨0, ⟨#[]⟩, []⟩⟩) at hR2
          clear herr hokr
          generalize mkB canL = ma at *
          have kca := cancelY_fn by_ n cap ad ad2 cap2 L no hs hn
          unfold resR at kca
          have hst := cnlR_st hs no
          by_cases hjx : ∃ s', D[i + 1]? = some s' ∧ pre2 s' = true
          · obtain ⟨s', hs', hpp⟩ := hjx
            have hrow2 : (strRows S)[((i : Int) + 1).toNat]? = some [.str s'] := by rw [show ((i : Int) + 1).toNat = i + 1 by omega]; exact strRows_at (hDS _ s' hs')
            have hjl : i + 1 < D.length := (List.getElem?_eq_some_iff.1 hs').1
            have kpre := hasP2_fn s'
            rw [hpp] at kpre
            have hRe : R = (L, i + 1, 9) := by
              rw [hR2, drop_at hs']
              cases hl : lnL (s'.data.toList.drop 2) with
              | none => exact rdS_l0 hpp hl
              | some x => exact rdS_l1 hpp hl (Or.inl rfl)
            subst hRe
            clear hR2 kca hst
            repeat' (first | refine goH ?_ | (refine Ops.k_b_sub ?_; first | (refine Ops.sub rfl rfl (by omega) rfl ?_; rw [hsub])) | refine goV ?_ | refine goB (fun b => ?_) | refine goC (fun ad cap => ?_) | refine goG ?_ | (refine Ops.k_guard ?_; first | (refine Ops.guard_dec rfl rfl (fun hc => ?_) (fun hc => ?_) <;> try (exfalso; omega)) | refine Ops.guard_split rfl rfl (fun hc => ?_) (fun hc => ?_)) | refine goI ?_ | (refine Cw.k_cond ?_; first | (refine Cw.cond_dec rfl (fun hc => ?_) (fun hc => ?_) <;> try (exfalso; omega)) | refine Cw.cond_bool rfl (fun hc => ?_) (fun hc => ?_)) | (refine Ops.k_calla ?_; first | (refine Ops.k_callf 25 ?_; refine Ops.callV kw (Evs.cons rfl (Evs.cons rfl (Evs.cons rfl Evs.nil))) rfl ?_) | (refine Ops.k_callf 26 ?_; refine Ops.callS kn (Evs.cons rfl (Evs.cons rfl Evs.nil)) goPm rfl ?_) | (refine Ops.k_callf 20 ?_; refine Ops.callV kpre (Evs.cons rfl (Evs.cons rfl Evs.nil)) rfl ?_)) | fail)
            exact Fin.ret (Ent.take goTk) (Outs.many rfl (OutL.cons goOe (OutL.cons goOe (OutL.cons goOe OutL.nil))) rfl) (Or.inr ⟨show (9 : Int) ≠ 0 by decide, rfl, rfl⟩)
          have hx : ∀ s r, D.drop (i + 1) = s :: r → pre2 s = false := fun s r e => by
            cases h2 : pre2 s
            · rfl
            · exact absurd ⟨s, drop_hd e, h2⟩ hjx
          have hjc : ¬ i + 1 < D.length ∨ ∃ s', D[i + 1]? = some s' ∧ pre2 s' = false := by
            by_cases hjl : i + 1 < D.length
            · obtain ⟨s', hs'⟩ := at_lt hjl
              exact Or.inr ⟨s', hs', hx s' _ (drop_at hs')⟩
            · exact Or.inl hjl
          obtain ⟨G, hG⟩ : ∃ G, G = cnlR L no := ⟨_, rfl⟩
          have hf : (G.2.2 = 0 ∧ R = rdS last (D.drop (i + 1)) (i + 1) G.1 none) ∨ (G.2.2 ≠ 0 ∧ R = (L, i, G.2.2)) := by
            by_cases h : G.2.2 = 0
            · exact Or.inl ⟨h, by rw [hR2, hG]; exact rdS_fin hx (by rw [hG] at h; exact h)⟩
            · exact Or.inr ⟨h, by rw [hR2, hG]; exact rdS_err hx (by rw [hG] at h; exact h)⟩
          rw [← hG] at kca hst
          clear hG hR2 hx hjx hs hn
          rcases hjc with hjl | ⟨s', hs', hpp⟩
          all_goals
            try (
              have hjl : i + 1 < D.length := (List.getElem?_eq_some_iff.1 hs').1
              have hrow2 : (strRows S)[((i : Int) + 1).toNat]? = some [.str s'] := by rw [show ((i : Int) + 1).toNat = i + 1 by omega]; exact strRows_at (hDS _ s' hs')
              have kpre := hasP2_fn s'
              rw [hpp] at kpre)
            rcases hf with ⟨hz, hR⟩ | ⟨hz, hR⟩
            · repeat' (first | refine goH ?_ | (refine Ops.k_b_sub ?_; first | (refine Ops.sub rfl rfl (by omega) rfl ?_; rw [hsub])) | refine goV ?_ | refine goB (fun b => ?_) | refine goC (fun ad cap => ?_) | refine goG ?_ | (refine Ops.k_guard ?_; first | (refine Ops.guard_dec rfl rfl (fun hc => ?_) (fun hc => ?_) <;> try (exfalso; omega)) | refine Ops.guard_split rfl rfl (fun hc => ?_) (fun hc => ?_)) | refine goI ?_ | (refine Cw.k_cond ?_; first | (refine Cw.cond_dec rfl (fun hc => ?_) (fun hc => ?_) <;> try (exfalso; omega)) | refine Cw.cond_bool rfl (fun hc => ?_) (fun hc => ?_)) | (refine Ops.k_calla ?_; first | (refine Ops.k_callf 25 ?_; refine Ops.callV kw (Evs.cons rfl (Evs.cons rfl (Evs.cons rfl Evs.nil))) rfl ?_) | (refine Ops.k_callf 26 ?_; refine Ops.callS kn (Evs.cons rfl (Evs.cons rfl Evs.nil)) goPm rfl ?_) | (refine Ops.k_callf 20 ?_; refine Ops.callV kpre (Evs.cons rfl (Evs.cons rfl Evs.nil)) rfl ?_) | (refine Ops.k_callf 27 ?_; (refine Ops.call kca (Evs.cons rfl (Evs.cons rfl Evs.nil)) goPm rfl ?_; rintro r cs' ⟨ad', ad2', n', cap', cap2', rfl, hn', rfl⟩))) | fail)
              all_goals exact ⟨_, _, _, (Ent.mk goSub goTk), ⟨i + 1, G.1, ad', ad2', n', cap', cap2', rfl, ⟨by omega, hR, hst, hn'⟩, rfl, rfl⟩, by omega⟩
            · subst hR
              repeat' (first | refine goH ?_ | (refine Ops.k_b_sub ?_; first | (refine Ops.sub rfl rfl (by omega) rfl ?_; rw [hsub])) | refine goV ?_ | refine goB (fun b => ?_) | refine goC (fun ad cap => ?_) | refine goG ?_ | (refine Ops.k_guard ?_; first | (refine Ops.guard_dec rfl rfl (fun hc => ?_) (fun hc => ?_) <;> try (exfalso; omega)) | refine Ops.guard_split rfl rfl (fun hc => ?_) (fun hc => ?_)) | refine goI ?_ | (refine Cw.k_cond ?_; first | (refine Cw.cond_dec rfl (fun hc => ?_) (fun hc => ?_) <;> try (exfalso; omega)) | refine Cw.cond_bool rfl (fun hc => ?_) (fun hc => ?_)) | (refine Ops.k_calla ?_; first | (refine Ops.k_callf 25 ?_; refine Ops.callV kw (Evs.cons rfl (Evs.cons rfl (Evs.cons rfl Evs.nil))) rfl ?_) | (refine Ops.k_callf 26 ?_; refine Ops.callS kn (Evs.cons rfl (Evs.cons rfl Evs.nil)) goPm rfl ?_) | (refine Ops.k_callf 20 ?_; refine Ops.callV kpre (Evs.cons rfl (Evs.cons rfl Evs.nil)) rfl ?_) | (refine Ops.k_callf 27 ?_; (refine Ops.call kca (Evs.cons rfl (Evs.cons rfl Evs.nil)) goPm rfl ?_; rintro r cs' ⟨ad', ad2', n', cap', cap2', rfl, hn', rfl⟩))) | fail)
              all_goals exact Fin.ret (Ent.take goTk) (Outs.many rfl (OutL.cons goOe (OutL.cons goOe (OutL.cons goOe OutL.nil))) rfl) (Or.inr ⟨hz, rfl, rfl⟩)
      by_cases he : a = entL
      · subst he
        have hA : ¬ mkB entL = ⟨#[99, 97, 110, 99, 101, 108]⟩ := fun e => ent_can (mkB_inj e)
        have hB : mkB entL = ⟨#[101, 110, 116, 114, 121]⟩ := rfl
        have hRe := herr (hdL_e0 hb hb2)
        subst hRe
        clear herr hokr
        generalize mkB entL = ma at *
        repeat' (first | refine goH ?_ | (refine Ops.k_b_sub ?_; first | (refine Ops.sub rfl rfl (by omega) rfl ?_; rw [hsub])) | refine goV ?_ | refine goB (fun b => ?_) | refine goC (fun ad cap => ?_) | refine goG ?_ | (refine Ops.k_guard ?_; first | (refine Ops.guard_dec rfl rfl (fun hc => ?_) (fun hc => ?_) <;> try (exfalso; omega)) | refine Ops.guard_split rfl rfl (fun hc => ?_) (fun hc => ?_)) | refine goI ?_ | (refine Cw.k_cond ?_; first | (refine Cw.cond_dec rfl (fun hc => ?_) (fun hc => ?_) <;> try (exfalso; omega)) | refine Cw.cond_bool rfl (fun hc => ?_) (fun hc => ?_)) | (refine Ops.k_calla ?_; first | (refine Ops.k_callf 25 ?_; refine Ops.callV kw (Evs.cons rfl (Evs.cons rfl (Evs.cons rfl Evs.nil))) rfl ?_) | (refine Ops.k_callf 26 ?_; refine Ops.callS kn (Evs.cons rfl (Evs.cons rfl Evs.nil)) goPm rfl ?_)) | fail)
        all_goals exact Fin.ret (Ent.take goTk) (Outs.many rfl (OutL.cons goOe (OutL.cons goOe (OutL.cons goOe OutL.nil))) rfl) (Or.inr ⟨show (9 : Int) ≠ 0 by decide, rfl, rfl⟩)
      · have hA : ¬ mkB a = ⟨#[99, 97, 110, 99, 101, 108]⟩ := fun e => ha (mkB_inj (b := canL) e)
        have hB : ¬ mkB a = ⟨#[101, 110, 116, 114, 121]⟩ := fun e => he (mkB_inj (b := entL) e)
        have hRe := herr (hdL_o hb ha he)
        subst hRe
        clear herr hokr
        repeat' (first | refine goH ?_ | (refine Ops.k_b_sub ?_; first | (refine Ops.sub rfl rfl (by omega) rfl ?_; rw [hsub])) | refine goV ?_ | refine goB (fun b => ?_) | refine goC (fun ad cap => ?_) | refine goG ?_ | (refine Ops.k_guard ?_; first | (refine Ops.guard_dec rfl rfl (fun hc => ?_) (fun hc => ?_) <;> try (exfalso; omega)) | refine Ops.guard_split rfl rfl (fun hc => ?_) (fun hc => ?_)) | refine goI ?_ | (refine Cw.k_cond ?_; first | (refine Cw.cond_dec rfl (fun hc => ?_) (fun hc => ?_) <;> try (exfalso; omega)) | refine Cw.cond_bool rfl (fun hc => ?_) (fun hc => ?_)) | (refine Ops.k_calla ?_; first | (refine Ops.k_callf 25 ?_; refine Ops.callV kw (Evs.cons rfl (Evs.cons rfl (Evs.cons rfl Evs.nil))) rfl ?_) | (refine Ops.k_callf 26 ?_; refine Ops.callS kn (Evs.cons rfl (Evs.cons rfl Evs.nil)) goPm rfl ?_)) | fail)
        all_goals exact Fin.ret (Ent.take goTk) (Outs.many rfl (OutL.cons goOe (OutL.cons goOe (OutL.cons goOe OutL.nil))) rfl) (Or.inr ⟨show (9 : Int) ≠ 0 by decide, rfl, rfl⟩)
    | some q =>
      obtain ⟨d, x⟩ := q
      have hbd := (brk_some hb2).1
      have hdz : d.length ≤ 200000 := by
        rw [hbd, List.length_append, List.length_cons] at hbz
        omega
      have hxz : x.length ≤ 200000 := by
        rw [hbd, List.length_append, List.length_cons] at hbz
        omega
      have hl3 : (strRows (spl3 s)).length = 3 := by rw [hwl, spl3_3 hb hb2]; rfl
      have h0 : (strRows (spl3 s))[0]? = some [.str (mkB a)] := strRows_at (by rw [spl3_3 hb hb2]; rfl)
      have h1 : (strRows (spl3 s))[1]? = some [.str (mkB d)] := strRows_at (by rw [spl3_3 hb hb2]; rfl)
      have h2 : (strRows (spl3 s))[2]? = some [.str (mkB x)] := strRows_at (by rw [spl3_3 hb hb2]; rfl)
      have kn := numR_bk (mkB d) (by show d.length ≤ _; omega)
      rw [mkB_list] at kn
      by_cases ha : a = canL
      · subst ha
        have hA : mkB canL = ⟨#[99, 97, 110, 99, 101, 108]⟩ := rfl
        have hB : ¬ mkB canL = ⟨#[101, 110, 116, 114, 121]⟩ := fun e => ent_can (mkB_inj (b := entL) e).symm
        have hRe := herr (by rw [hdL_c hb, okNum_brk hb2]; rfl)
        subst hRe
        clear herr hokr
        generalize mkB canL = ma at *
        repeat' (first | refine goH ?_ | (refine Ops.k_b_sub ?_; first | (refine Ops.sub rfl rfl (by omega) rfl ?_; rw [hsub])) | refine goV ?_ | refine goB (fun b => ?_) | refine goC (fun ad cap => ?_) | refine goG ?_ | (refine Ops.k_guard ?_; first | (refine Ops.guard_dec rfl rfl (fun hc => ?_) (fun hc => ?_) <;> try (exfalso; omega)) | refine Ops.guard_split rfl rfl (fun hc => ?_) (fun hc => ?_)) | refine goI ?_ | (refine Cw.k_cond ?_; first | (refine Cw.cond_dec rfl (fun hc => ?_) (fun hc => ?_) <;> try (exfalso; omega)) | refine Cw.cond_bool rfl (fun hc => ?_) (fun hc => ?_)) | (refine Ops.k_calla ?_; first | (refine Ops.k_callf 25 ?_; refine Ops.callV kw (Evs.cons rfl (Evs.cons rfl (Evs.cons rfl Evs.nil))) rfl ?_) | (refine Ops.k_callf 26 ?_; refine Ops.callS kn (Evs.cons rfl (Evs.cons rfl Evs.nil)) goPm rfl ?_)) | fail)
        all_goals exact Fin.ret (Ent.take goTk) (Outs.many rfl (OutL.cons goOe (OutL.cons goOe (OutL.cons goOe OutL.nil))) rfl) (Or.inr ⟨show (9 : Int) ≠ 0 by decide, rfl, rfl⟩)
      have hA : ¬ mkB a = ⟨#[99, 97, 110, 99, 101, 108]⟩ := fun e => ha (mkB_inj (b := canL) e)
      by_cases he : a = entL
      rotate_left
      · have hB : ¬ mkB a = ⟨#[101, 110, 116, 114, 121]⟩ := fun e => he (mkB_inj (b := entL) e)
        have hRe := herr (hdL_o hb ha he)
        subst hRe
        clear herr hokr
        repeat' (first | refine goH ?_ | (refine Ops.k_b_sub ?_; first | (refine Ops.sub rfl rfl (by omega) rfl ?_; rw [hsub])) | refine goV ?_ | refine goB (fun b => ?_) | refine goC (fun ad cap => ?_) | refine goG ?_ | (refine Ops.k_guard ?_; first | (refine Ops.guard_dec rfl rfl (fun hc => ?_) (fun hc => ?_) <;> try (exfalso; omega)) | refine Ops.guard_split rfl rfl (fun hc => ?_) (fun hc => ?_)) | refine goI ?_ | (refine Cw.k_cond ?_; first | (refine Cw.cond_dec rfl (fun hc => ?_) (fun hc => ?_) <;> try (exfalso; omega)) | refine Cw.cond_bool rfl (fun hc => ?_) (fun hc => ?_)) | (refine Ops.k_calla ?_; first | (refine Ops.k_callf 25 ?_; refine Ops.callV kw (Evs.cons rfl (Evs.cons rfl (Evs.cons rfl Evs.nil))) rfl ?_) | (refine Ops.k_callf 26 ?_; refine Ops.callS kn (Evs.cons rfl (Evs.cons rfl Evs.nil)) goPm rfl ?_)) | fail)
        all_goals exact Fin.ret (Ent.take goTk) (Outs.many rfl (OutL.cons goOe (OutL.cons goOe (OutL.cons goOe OutL.nil))) rfl) (Or.inr ⟨show (9 : Int) ≠ 0 by decide, rfl, rfl⟩)
      subst he
      have hB : mkB entL = ⟨#[101, 110, 116, 114, 121]⟩ := rfl
      rw [hdL_e hb hb2] at herr hokr
      cases hk : okNum 10 d
      · have hRe := herr (by rw [hk]; rfl)
        subst hRe
        rw [hk] at kn
        clear herr hokr
        generalize mkB entL = ma at *
        repeat' (first | refine goH ?_ | (refine Ops.k_b_sub ?_; first | (refine Ops.sub rfl rfl (by omega) rfl ?_; rw [hsub])) | refine goV ?_ | refine goB (fun b => ?_) | refine goC (fun ad cap => ?_) | refine goG ?_ | (refine Ops.k_guard ?_; first | (refine Ops.guard_dec rfl rfl (fun hc => ?_) (fun hc => ?_) <;> try (exfalso; omega)) | refine Ops.guard_split rfl rfl (fun hc => ?_) (fun hc => ?_)) | refine goI ?_ | (refine Cw.k_cond ?_; first | (refine Cw.cond_dec rfl (fun hc => ?_) (fun hc => ?_) <;> try (exfalso; omega)) | refine Cw.cond_bool rfl (fun hc => ?_) (fun hc => ?_)) | (refine Ops.k_calla ?_; first | (refine Ops.k_callf 25 ?_; refine Ops.callV kw (Evs.cons rfl (Evs.cons rfl (Evs.cons rfl Evs.nil))) rfl ?_) | (refine Ops.k_callf 26 ?_; refine Ops.callS kn (Evs.cons rfl (Evs.cons rfl Evs.nil)) goPm rfl ?_)) | fail)
        all_goals exact Fin.ret (Ent.take goTk) (Outs.many rfl (OutL.cons goOe (OutL.cons goOe (OutL.cons goOe OutL.nil))) rfl) (Or.inr ⟨show (9 : Int) ≠ 0 by decide, rfl, rfl⟩)
      have hR2 := hokr (.inr (valNum d, mkB x)) (by rw [hk]; rfl)
      rw [hk, num_v hk] at kn
      generalize valNum d = day at *
      obtain ⟨text, htext⟩ : ∃ text, text = mkB x := ⟨_, rfl⟩
      have htz : text.size ≤ 200000 := by rw [htext]; exact hxz
      rw [← htext] at hR2 h2
      change R = rdS last (D.drop (i + 1)) (i + 1) L (some ⟨i, 0, false, ⟨day, text, []⟩⟩) at hR2
      clear herr hokr htext
      generalize mkB entL = ma at *
      generalize mkB d = md at *
      repeat' (first | refine goH ?_ | (refine Ops.k_b_sub ?_; first | (refine Ops.sub rfl rfl (by omega) rfl ?_; rw [hsub])) | refine goV ?_ | refine goB (fun b => ?_) | refine goC (fun ad cap => ?_) | refine goG ?_ | (refine Ops.k_guard ?_; first | (refine Ops.guard_dec rfl rfl (fun hc => ?_) (fun hc => ?_) <;> try (exfalso; omega)) | refine Ops.guard_split rfl rfl (fun hc => ?_) (fun hc => ?_)) | refine goI ?_ | (refine Cw.k_cond ?_; first | (refine Cw.cond_dec rfl (fun hc => ?_) (fun hc => ?_) <;> try (exfalso; omega)) | refine Cw.cond_bool rfl (fun hc => ?_) (fun hc => ?_)) | (refine Ops.k_calla ?_; first | (refine Ops.k_callf 25 ?_; refine Ops.callV kw (Evs.cons rfl (Evs.cons rfl (Evs.cons rfl Evs.nil))) rfl ?_) | (refine Ops.k_callf 26 ?_; refine Ops.callS kn (Evs.cons rfl (Evs.cons rfl Evs.nil)) goPm rfl ?_)) | fail)
      clear kw kn hl3 h0 h1 h2 hrow hwl hB hA hbd hab
      refine Cw.loopI [(5, _), (6, _), (7, _), (9, _), (18, _)] _ (fun q e cc => ∃ (j nl : Nat) (ls : List Ln) (rows : List (List Tr)) (ad3 : Option Addr) (cap3 : Nat), q = D.length - j ∧ (j ≤ D.length ∧ R = rdS last (D.drop j) j L (some ⟨i, 0, false, ⟨day, text, ls⟩⟩) ∧ rows = ls.map Ln.row ∧ nl = rows.length ∧ nl + i < j) ∧ e = [(8, .int j)] ∧ cc = [Chunk.box b 52 [.int day, .str text, Tr.raw (.slice ad3 nl cap3)], Chunk.own ad3 cap3 2 57 rows])
        ⟨_, _, _, Ent.trans (Ent.nil 2 57) (Ent.mkP goSub goPm), i + 1, 0, [], [], none, 0, rfl, ⟨by omega, hR2, rfl, rfl, by omega⟩, rfl, rfl⟩ ?_
      clear hR2
      rintro _ _ _ ⟨j, nl, ls, rows, ad3, cap3, rfl, ⟨hj, hR, hrows, hrl, hnj⟩, rfl, rfl⟩
      have hll : ls.length = nl := by rw [hrl, hrows, List.length_map]
      by_cases hjx : ∃ s', D[j]? = some s' ∧ pre2 s' = true
      · obtain ⟨s', hs', hpp⟩ := hjx
        have hjl : j < D.length := (List.getElem?_eq_some_iff.1 hs').1
        have hrow2 : (strRows S)[j]? = some [.str s'] := strRows_at (hDS _ s' hs')
        have hsz3 := hDZ s' (List.mem_of_getElem? hs')
        have kpre := hasP2_fn s'
        rw [hpp] at kpre
        have hle : 2 ≤ s'.size := by
          have := hpr_le (s := s') (p := ⟨#[32, 32]⟩) (by rw [← pre2_eq]; exact hpp)
          exact this
        obtain ⟨l, hl⟩ : ∃ l, l = s'.data.toList.drop 2 := ⟨_, rfl⟩
        have hu : s'.extract (2 : Int).toNat s'.size = mkB l := by rw [hl]; exact ext_drop s' 2
        have hlz : l.length ≤ 200000 := by
          have e := str_list s'
          rw [hl, List.length_drop]
          omega
        have kc := cut1_fn (mkB l) (by show l.length ≤ _; omega) 32
        rw [drop_at hs'] at hR
        cases hb3 : brk l with
        | none =>
          have hRe : R = (L, j, 9) := by rw [hR, rdS_l0 hpp (by rw [← hl]; exact lnL_n hb3)]
          subst hRe
          clear hR
          rw [cut_none (s := mkB l) (by rw [mkB_list]; exact hb3)] at kc
          have kn := numR_bk ⟨#[]⟩ (by decide)
          repeat' (first | refine goH ?_ | (refine Ops.k_slice ?_; first | (refine Ops.sliceS_l rfl rfl rfl (by omega) rfl ?_; rw [hu])) | (refine Ops.k_b_sub ?_; first | (refine Ops.sub rfl rfl (by omega) rfl ?_; rw [hsub])) | refine goV ?_ | refine goB (fun b => ?_) | refine goC (fun ad cap => ?_) | refine goG ?_ | (refine Ops.k_guard ?_; first | (refine Ops.guard_dec rfl rfl (fun hc => ?_) (fun hc => ?_) <;> try (exfalso; omega)) | refine Ops.guard_split rfl rfl (fun hc => ?_) (fun hc => ?_)) | refine goI ?_ | (refine Cw.k_cond ?_; first | (refine Cw.cond_dec rfl (fun hc => ?_) (fun hc => ?_) <;> try (exfalso; omega)) | refine Cw.cond_bool rfl (fun hc => ?_) (fun hc => ?_)) | (refine Ops.k_calla ?_; first | (refine Ops.k_callf 20 ?_; refine Ops.callV kpre (Evs.cons rfl (Evs.cons rfl Evs.nil)) rfl ?_) | (refine Ops.k_callf 28 ?_; refine Ops.callV kc (Evs.cons rfl (Evs.cons rfl Evs.nil)) rfl ?_) | (refine Ops.k_callf 26 ?_; refine Ops.callS kn (Evs.cons rfl (Evs.cons rfl Evs.nil)) goPm rfl ?_)) | fail)
          exact Fin.ret (Ent.take goTk) (Outs.many rfl (OutL.cons goOe (OutL.cons goOe (OutL.cons goOe OutL.nil))) rfl) (Or.inr ⟨show (9 : Int) ≠ 0 by decide, rfl, rfl⟩)
        | some q3 =>
          obtain ⟨a3, b3⟩ := q3
          have hb3z : b3.length ≤ 200000 := by
            have := (brk_some hb3).1
            rw [this, List.length_append, List.length_cons] at hlz
            omega
          rw [cut_some (s := mkB l) (by rw [mkB_list]; exact hb3)] at kc
          have kn := numR_bk (mkB b3) (by show b3.length ≤ _; omega)
          rw [mkB_list] at kn
          cases hk3 : okNum 10 b3
          · have hRe : R = (L, j, 9) := by rw [hR, rdS_l0 hpp (by rw [← hl]; exact lnL_f hb3 hk3)]
            subst hRe
            rw [hk3] at kn
            clear hR
            repeat' (first | refine goH ?_ | (refine Ops.k_slice ?_; first | (refine Ops.sliceS_l rfl rfl rfl (by omega) rfl ?_; rw [hu])) | (refine Ops.k_b_sub ?_; first | (refine Ops.sub rfl rfl (by omega) rfl ?_; rw [hsub])) | refine goV ?_ | refine goB (fun b => ?_) | refine goC (fun ad cap => ?_) | refine goG ?_ | (refine Ops.k_guard ?_; first | (refine Ops.guard_dec rfl rfl (fun hc => ?_) (fun hc => ?_) <;> try (exfalso; omega)) | refine Ops.guard_split rfl rfl (fun hc => ?_) (fun hc => ?_)) | refine goI ?_ | (refine Cw.k_cond ?_; first | (refine Cw.cond_dec rfl (fun hc => ?_) (fun hc => ?_) <;> try (exfalso; omega)) | refine Cw.cond_bool rfl (fun hc => ?_) (fun hc => ?_)) | (refine Ops.k_calla ?_; first | (refine Ops.k_callf 20 ?_; refine Ops.callV kpre (Evs.cons rfl (Evs.cons rfl Evs.nil)) rfl ?_) | (refine Ops.k_callf 28 ?_; refine Ops.callV kc (Evs.cons rfl (Evs.cons rfl Evs.nil)) rfl ?_) | (refine Ops.k_callf 26 ?_; refine Ops.callS kn (Evs.cons rfl (Evs.cons rfl Evs.nil)) goPm rfl ?_)) | fail)
            exact Fin.ret (Ent.take goTk) (Outs.many rfl (OutL.cons goOe (OutL.cons goOe (OutL.cons goOe OutL.nil))) rfl) (Or.inr ⟨show (9 : Int) ≠ 0 by decide, rfl, rfl⟩)
          rw [hk3, num_v hk3] at kn
          by_cases ha3 : a3 = []
          · have hRe : R = (L, j, 9) := by rw [hR, rdS_l0 hpp (by rw [← hl]; exact lnL_e hb3 ha3)]
            subst hRe
            have hE : mkB a3 = ⟨#[]⟩ := by rw [ha3]; rfl
            clear hR
            repeat' (first | refine goH ?_ | (refine Ops.k_slice ?_; first | (refine Ops.sliceS_l rfl rfl rfl (by omega) rfl ?_; rw [hu])) | (refine Ops.k_b_sub ?_; first | (refine Ops.sub rfl rfl (by omega) rfl ?_; rw [hsub])) | refine goV ?_ | refine goB (fun b => ?_) | refine goC (fun ad cap => ?_) | refine goG ?_ | (refine Ops.k_guard ?_; first | (refine Ops.guard_dec rfl rfl (fun hc => ?_) (fun hc => ?_) <;> try (exfalso; omega)) | refine Ops.guard_split rfl rfl (fun hc => ?_) (fun hc => ?_)) | refine goI ?_ | (refine Cw.k_cond ?_; first | (refine Cw.cond_dec rfl (fun hc => ?_) (fun hc => ?_) <;> try (exfalso; omega)) | refine Cw.cond_bool rfl (fun hc => ?_) (fun hc => ?_)) | (refine Ops.k_calla ?_; first | (refine Ops.k_callf 20 ?_; refine Ops.callV kpre (Evs.cons rfl (Evs.cons rfl Evs.nil)) rfl ?_) | (refine Ops.k_callf 28 ?_; refine Ops.callV kc (Evs.cons rfl (Evs.cons rfl Evs.nil)) rfl ?_) | (refine Ops.k_callf 26 ?_; refine Ops.callS kn (Evs.cons rfl (Evs.cons rfl Evs.nil)) goPm rfl ?_)) | fail)
            exact Fin.ret (Ent.take goTk) (Outs.many rfl (OutL.cons goOe (OutL.cons goOe (OutL.cons goOe OutL.nil))) rfl) (Or.inr ⟨show (9 : Int) ≠ 0 by decide, rfl, rfl⟩)
          have hE : ¬ mkB a3 = ⟨#[]⟩ := mkB_ne ha3
          have hln := lnL_t hb3 ha3 hk3
          by_cases hjla : j = last
          · have hRe : R = (L, j, 9) := by rw [hR, rdS_l1 hpp (by rw [← hl]; exact hln) (Or.inr hjla)]
            subst hRe
            clear hR
            repeat' (first | refine goH ?_ | (refine Ops.k_slice ?_; first | (refine Ops.sliceS_l rfl rfl rfl (by omega) rfl ?_; rw [hu])) | (refine Ops.k_b_sub ?_; first | (refine Ops.sub rfl rfl (by omega) rfl ?_; rw [hsub])) | refine goV ?_ | refine goB (fun b => ?_) | refine goC (fun ad cap => ?_) | refine goG ?_ | (refine Ops.k_guard ?_; first | (refine Ops.guard_dec rfl rfl (fun hc => ?_) (fun hc => ?_) <;> try (exfalso; omega)) | refine Ops.guard_split rfl rfl (fun hc => ?_) (fun hc => ?_)) | refine goI ?_ | (refine Cw.k_cond ?_; first | (refine Cw.cond_dec rfl (fun hc => ?_) (fun hc => ?_) <;> try (exfalso; omega)) | refine Cw.cond_bool rfl (fun hc => ?_) (fun hc => ?_)) | (refine Ops.k_calla ?_; first | (refine Ops.k_callf 20 ?_; refine Ops.callV kpre (Evs.cons rfl (Evs.cons rfl Evs.nil)) rfl ?_) | (refine Ops.k_callf 28 ?_; refine Ops.callV kc (Evs.cons rfl (Evs.cons rfl Evs.nil)) rfl ?_) | (refine Ops.k_callf 26 ?_; refine Ops.callS kn (Evs.cons rfl (Evs.cons rfl Evs.nil)) goPm rfl ?_)) | fail)
            all_goals exact Fin.ret (Ent.take goTk) (Outs.many rfl (OutL.cons goOe (OutL.cons goOe (OutL.cons goOe OutL.nil))) rfl) (Or.inr ⟨show (9 : Int) ≠ 0 by decide, rfl, rfl⟩)
          rw [rdS_l2 hpp (by rw [← hl]; exact hln) (by simp [hjla])] at hR
          have hnx : rows ++ [[Tr.str (mkB a3), Tr.int (valNum b3)]] = (ls ++ [Ln.mk (mkB a3) (valNum b3)]).map Ln.row := by rw [hrows, List.map_append]; rfl
          clear hrows
          repeat' (first | refine goH ?_ | (refine Ops.k_slice ?_; first | (refine Ops.sliceS_l rfl rfl rfl (by omega) rfl ?_; rw [hu])) | (refine Ops.k_b_sub ?_; first | (refine Ops.sub rfl rfl (by omega) rfl ?_; rw [hsub])) | refine goV ?_ | refine goB (fun b => ?_) | refine goC (fun ad cap => ?_) | refine goG ?_ | (refine Ops.k_guard ?_; first | (refine Ops.guard_dec rfl rfl (fun hc => ?_) (fun hc => ?_) <;> try (exfalso; omega)) | refine Ops.guard_split rfl rfl (fun hc => ?_) (fun hc => ?_)) | refine goI ?_ | (refine Cw.k_cond ?_; first | (refine Cw.cond_dec rfl (fun hc => ?_) (fun hc => ?_) <;> try (exfalso; omega)) | refine Cw.cond_bool rfl (fun hc => ?_) (fun hc => ?_)) | (refine Ops.k_calla ?_; first | (refine Ops.k_callf 20 ?_; refine Ops.callV kpre (Evs.cons rfl (Evs.cons rfl Evs.nil)) rfl ?_) | (refine Ops.k_callf 28 ?_; refine Ops.callV kc (Evs.cons rfl (Evs.cons rfl Evs.nil)) rfl ?_) | (refine Ops.k_callf 26 ?_; refine Ops.callS kn (Evs.cons rfl (Evs.cons rfl Evs.nil)) goPm rfl ?_)) | fail)
          exact ⟨_, _, _, (Ent.mk goSub goTk), ⟨j + 1, _, ls ++ [Ln.mk (mkB a3) (valNum b3)], _, _, _, rfl, ⟨by omega, hR, hnx, rfl, by rw [List.length_append, ← hrl]; simp only [List.length_cons, List.length_nil]; omega⟩, rfl, rfl⟩, by omega⟩
      have hx : ∀ s r, D.drop j = s :: r → pre2 s = false := fun s r e => by
        cases h2 : pre2 s
        · rfl
        · exact absurd ⟨s, drop_hd e, h2⟩ hjx
      have hjc : ¬ j < D.length ∨ ∃ s', D[j]? = some s' ∧ pre2 s' = false := by
        by_cases hjl : j < D.length
        · obtain ⟨s', hs'⟩ := at_lt hjl
          exact Or.inr ⟨s', hs', hx s' _ (drop_at hs')⟩
        · exact Or.inl hjl
      refine Cw.ent (Ent.settle_box (b := b) (i := 2) (kk := 2) (rows := rows) (ts' := [.int day, .str text, .lns ls]) (by exact Perm.cons' goPk (Perm.cons' goPk (List.Perm.refl _))) rfl hrl (by rw [hrows]; rfl)) ?_
      clear hrl hrows hjx
      have kpo := postYe_fn by_ n cap ad ad2 cap2 L ⟨day, text, ls⟩ hs hn (by simp only; omega) (by simp only; omega)
      rw [show (En.mk day text ls).row = [.int day, .str text, .lns ls] from rfl] at kpo
      unfold resR at kpo
      have hst := pstR_st hs ⟨day, text, ls⟩
      obtain ⟨G, hG⟩ : ∃ G, G = pstR L ⟨day, text, ls⟩ := ⟨_, rfl⟩
      have hf : (G.2.2 = 0 ∧ R = rdS last (D.drop j) j G.1 none) ∨ (G.2.2 ≠ 0 ∧ R = (L, i, G.2.2)) := by
        by_cases h : G.2.2 = 0
        · exact Or.inl ⟨h, by rw [hR, hG]; exact rdS_fin hx (by rw [hG] at h; exact h)⟩
        · exact Or.inr ⟨h, by rw [hR, hG]; exact rdS_err hx (by rw [hG] at h; exact h)⟩
      rw [← hG] at kpo hst
      clear hG hR hx hs hn
      rcases hjc with hjl | ⟨s', hs', hpp⟩
      all_goals
        try (
          have hjl : j < D.length := (List.getElem?_eq_some_iff.1 hs').1
          have hrow2 : (strRows S)[j]? = some [.str s'] := strRows_at (hDS _ s' hs')
          have kpre := hasP2_fn s'
          rw [hpp] at kpre)
        rcases hf with ⟨hz, hR⟩ | ⟨hz, hR⟩
        · repeat' (first | refine goH ?_ | (refine Ops.k_b_sub ?_; first | (refine Ops.sub rfl rfl (by omega) rfl ?_; rw [hsub])) | refine goV ?_ | refine goB (fun b => ?_) | refine goC (fun ad cap => ?_) | refine goG ?_ | (refine Ops.k_guard ?_; first | (refine Ops.guard_dec rfl rfl (fun hc => ?_) (fun hc => ?_) <;> try (exfalso; omega)) | refine Ops.guard_split rfl rfl (fun hc => ?_) (fun hc => ?_)) | refine goI ?_ | (refine Cw.k_cond ?_; first | (refine Cw.cond_dec rfl (fun hc => ?_) (fun hc => ?_) <;> try (exfalso; omega)) | refine Cw.cond_bool rfl (fun hc => ?_) (fun hc => ?_)) | (refine Ops.k_calla ?_; first | (refine Ops.k_callf 20 ?_; refine Ops.callV kpre (Evs.cons rfl (Evs.cons rfl Evs.nil)) rfl ?_) | (refine Ops.k_callf 29 ?_; (refine Ops.call kpo (Evs.cons rfl (Evs.cons rfl Evs.nil)) goPm rfl ?_; rintro r cs' ⟨ad', ad2', n', cap', cap2', rfl, hn', rfl⟩))) | fail)
          all_goals exact ⟨_, _, _, (Ent.mk goSub goTk), ⟨j, G.1, ad', ad2', n', cap', cap2', rfl, ⟨hj, hR, hst, hn'⟩, rfl, rfl⟩, by omega⟩
        · subst hR
          repeat' (first | refine goH ?_ | (refine Ops.k_b_sub ?_; first | (refine Ops.sub rfl rfl (by omega) rfl ?_; rw [hsub])) | refine goV ?_ | refine goB (fun b => ?_) | refine goC (fun ad cap => ?_) | refine goG ?_ | (refine Ops.k_guard ?_; first | (refine Ops.guard_dec rfl rfl (fun hc => ?_) (fun hc => ?_) <;> try (exfalso; omega)) | refine Ops.guard_split rfl rfl (fun hc => ?_) (fun hc => ?_)) | refine goI ?_ | (refine Cw.k_cond ?_; first | (refine Cw.cond_dec rfl (fun hc => ?_) (fun hc => ?_) <;> try (exfalso; omega)) | refine Cw.cond_bool rfl (fun hc => ?_) (fun hc => ?_)) | (refine Ops.k_calla ?_; first | (refine Ops.k_callf 20 ?_; refine Ops.callV kpre (Evs.cons rfl (Evs.cons rfl Evs.nil)) rfl ?_) | (refine Ops.k_callf 29 ?_; (refine Ops.call kpo (Evs.cons rfl (Evs.cons rfl Evs.nil)) goPm rfl ?_; rintro r cs' ⟨ad', ad2', n', cap', cap2', rfl, hn', rfl⟩))) | fail)
          all_goals exact Fin.ret (Ent.take goTk) (Outs.many rfl (OutL.cons goOe (OutL.cons goOe (OutL.cons goOe OutL.nil))) rfl) (Or.inr ⟨hz, rfl, rfl⟩)
end Lg
