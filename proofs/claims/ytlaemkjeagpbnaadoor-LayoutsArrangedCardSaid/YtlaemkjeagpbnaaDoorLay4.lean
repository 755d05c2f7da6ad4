/- A part of the proof of a law of this seat: it adds no condition. By an AI agent. -/
import Derived.Test.YtlaemkjeagpbnaaDoorLgX
import Derived.Test.YtlaemkjeagpbnaaDoorLay3
set_option linter.all false
set_option maxRecDepth 100000
set_option maxHeartbeats 8000000
namespace Lg
open Go Go.Proofs

def offZ : List Tr := [.str ⟨#[]⟩, .str ⟨#[]⟩, Tr.raw (.slice none 0 0), Tr.raw (.slice none 0 0), Tr.raw (.slice none 0 0)]
theorem clash1_fn (l : List Offer) (hl : OBd l) (hE : findO l ⟨#[]⟩ = none) (a b : ByteArray) (ha : oddB l a = false) (hb : oddB l b = false) (bo E : Nat) : Spec Tryd.prog 81 [.str a, .str b, .ptr bo] [Chunk.box bo E [.offers l]] (fun r cs => r = .bool (hatesB l a b) ∧ cs = [Chunk.box bo E [.offers l]]) := by
  have k1 := offerOf_fn l (by have := hl.1; omega) a
  have k2 := offerOf_fn l (by have := hl.1; omega) b
  have hL : (l.map Offer.row).length = l.length := List.length_map _
  refine Spec.body Tryd.func81 rfl rfl (Tryd.ntmps81) rfl fun w0 own0 M => ?_
  by_cases h1 : a = ⟨#[]⟩
  · have e : hatesB l a b = false := by unfold hatesB; rw [h1, hE]
    repeat' (first | refine goH ?_ | refine goV ?_ | refine goB (fun b => ?_) | refine goG ?_ | (refine Ops.k_guard ?_; first | (refine Ops.guard_dec rfl rfl (fun hc => ?_) (fun hc => ?_) <;> try (exfalso; omega)) | refine Ops.guard_split rfl rfl (fun hc => ?_) (fun hc => ?_)) | refine goI ?_ | (refine Cw.k_cond ?_; first | (refine Cw.cond_dec rfl (fun hc => ?_) (fun hc => ?_) <;> try (exfalso; omega)) | refine Cw.cond_bool rfl (fun hc => ?_) (fun hc => ?_)) | refine goR ?_ | refine goP ?_ | apply PSeq.cons | apply PSeq.yes rfl rfl rfl | exact goW | fail)
    exact Fin.ret Ent.refl (Outs.one rfl rfl) ⟨by rw [e], rfl⟩
  by_cases h2 : b = ⟨#[]⟩
  · have e : hatesB l a b = false := by unfold hatesB; rw [h2, hE]; cases findO l a <;> rfl
    repeat' (first | refine goH ?_ | refine goV ?_ | refine goB (fun b => ?_) | refine goG ?_ | (refine Ops.k_guard ?_; first | (refine Ops.guard_dec rfl rfl (fun hc => ?_) (fun hc => ?_) <;> try (exfalso; omega)) | refine Ops.guard_split rfl rfl (fun hc => ?_) (fun hc => ?_)) | refine goI ?_ | (refine Cw.k_cond ?_; first | (refine Cw.cond_dec rfl (fun hc => ?_) (fun hc => ?_) <;> try (exfalso; omega)) | refine Cw.cond_bool rfl (fun hc => ?_) (fun hc => ?_)) | refine goR ?_ | refine goP ?_ | apply PSeq.cons | apply PSeq.yes rfl rfl rfl | exact goW | fail)
    exact Fin.ret Ent.refl (Outs.one rfl rfl) ⟨by rw [e], rfl⟩
  unfold oddB at ha hb
  rw [if_neg h1] at ha
  rw [if_neg h2] at hb
  cases f1 : findO l a with
  | none => rw [f1] at ha; cases ha
  | some o =>
  cases f2 : findO l b with
  | none => rw [f2] at hb; cases hb
  | some p =>
  obtain ⟨i, hi, hoi⟩ := offIx_some f1
  rw [hi] at k1
  have hoi' : (l.map Offer.row)[((i : Nat) : Int).toNat]? = some o.row := rows_at hoi
  obtain ⟨o1, o2, o3⟩ := hl.2 o (List.mem_of_getElem? hoi)
  have hil := (List.getElem?_eq_some_iff.1 hoi).1
  obtain ⟨j, hj, hpj⟩ := offIx_some f2
  rw [hj] at k2
  have hpj' : (l.map Offer.row)[((j : Nat) : Int).toNat]? = some p.row := rows_at hpj
  obtain ⟨p1, p2, p3⟩ := hl.2 p (List.mem_of_getElem? hpj)
  have hjl := (List.getElem?_eq_some_iff.1 hpj).1
  have e : hatesB l a b = hateO o p := by unfold hatesB; rw [f1, f2]
  have kk := fun b E => containsFunc_str (cin := [Chunk.box b E p.row]) (caps := [.pointer (some ⟨b, 0, none⟩)]) (g := 82) (p := fun k => hasS p.has k) (l := o.hates) (by omega) (fun x _ => clash2_fn p p2 x b E)
  rw [e]
  repeat' (first | refine goH ?_ | refine goV ?_ | refine goB (fun b => ?_) | refine goG ?_ | (refine Ops.k_guard ?_; first | (refine Ops.guard_dec rfl rfl (fun hc => ?_) (fun hc => ?_) <;> try (exfalso; omega)) | refine Ops.guard_split rfl rfl (fun hc => ?_) (fun hc => ?_)) | refine goI ?_ | (refine Cw.k_cond ?_; first | (refine Cw.cond_dec rfl (fun hc => ?_) (fun hc => ?_) <;> try (exfalso; omega)) | refine Cw.cond_bool rfl (fun hc => ?_) (fun hc => ?_)) | fail)
  refine Cw.region_X (fun ξ S => Chunk.box bo E [.offers l] :: (objB (S 12) (S 14) (ξ 12) 78 offZ o.row ++ objB (S 13) (S 15) (ξ 13) 78 offZ p.row)) rfl (by decide +kernel) rfl (fun _ => rfl) ?_
  repeat' (first | apply XSeq.w (by intro _ _ _; rfl) | (intro ξ S h1 h2 h3 h4; first | (apply OpW.k_call; first | (apply OpW.k_callf 58; exact OpW.callV k1 (Evs.cons rfl (Evs.cons rfl Evs.nil))) | (apply OpW.k_callf 58; exact OpW.callV k2 (Evs.cons rfl (Evs.cons rfl Evs.nil)))) | exact goW | fail) | fail)
  apply XSeq.alloc
  · intro ξ S b h1 h3
    have e := closed_false h1 h3 (k := 14) rfl (by decide)
    show (Chunk.box bo E [.offers l] :: (objB true (S 14) (.pointer (some ⟨b, 0, none⟩)) 78 offZ o.row ++ objB (S 13) (S 15) (ξ 13) 78 offZ p.row)).Perm (_ :: Chunk.box bo E [.offers l] :: (objB (S 12) (S 14) (ξ 12) 78 offZ o.row ++ objB (S 13) (S 15) (ξ 13) 78 offZ p.row))
    rw [h1, e]
    exact List.Perm.swap _ _ _
  apply XSeq.alloc
  · intro ξ S b h1 h3
    have e := closed_false h1 h3 (k := 15) rfl (by decide)
    show (Chunk.box bo E [.offers l] :: (objB (S 12) (S 14) (ξ 12) 78 offZ o.row ++ objB true (S 15) (.pointer (some ⟨b, 0, none⟩)) 78 offZ p.row)).Perm (_ :: Chunk.box bo E [.offers l] :: (objB (S 12) (S 14) (ξ 12) 78 offZ o.row ++ objB (S 13) (S 15) (ξ 13) 78 offZ p.row))
    rw [h1, e]
    exact (List.Perm.cons _ List.perm_middle).trans (List.Perm.swap _ _ _)
  apply XSeq.store
  · intro ξ S h1 h2 h3 h4
    have e := h2 12 (by decide)
    obtain ⟨b, hb⟩ : ∃ b, ξ 12 = .pointer (some ⟨b, 0, none⟩) := h4 12 e
    obtain ⟨ξ, rfl⟩ := exists_upd hb
    refine ⟨b, 0, 78, offZ, o.row, .agg o.row, Chunk.box bo E [.offers l] :: objB (S 13) (S 15) (ξ 13) 78 offZ p.row, rfl, rfl, inferInstance, ?_, rfl, ?_, ?_⟩
    rotate_left 2
    · show (Chunk.box bo E [.offers l] :: (objB (S 12) true (.pointer (some ⟨b, 0, none⟩)) 78 offZ o.row ++ objB (S 13) (S 15) (ξ 13) 78 offZ p.row)).Perm _
      rw [e]
      exact List.Perm.swap _ _ _
    · show (Chunk.box bo E [.offers l] :: (objB (S 12) (S 14) (.pointer (some ⟨b, 0, none⟩)) 78 offZ o.row ++ objB (S 13) (S 15) (ξ 13) 78 offZ p.row)).Perm _
      rw [e, h1]
      exact List.Perm.swap _ _ _
    · exact (by decide : 0 + 5 ≤ 5)
  apply XSeq.store
  · intro ξ S h1 h2 h3 h4
    have e := h2 13 (by decide)
    obtain ⟨b, hb⟩ : ∃ b, ξ 13 = .pointer (some ⟨b, 0, none⟩) := h4 13 e
    obtain ⟨ξ, rfl⟩ := exists_upd hb
    refine ⟨b, 0, 78, offZ, p.row, .agg p.row, Chunk.box bo E [.offers l] :: (objB (S 12) (S 14) (ξ 12) 78 offZ o.row ++ []), rfl, rfl, inferInstance, ?_, rfl, ?_, ?_⟩
    rotate_left 2
    · show (Chunk.box bo E [.offers l] :: (objB (S 12) (S 14) (ξ 12) 78 offZ o.row ++ objB (S 13) true (.pointer (some ⟨b, 0, none⟩)) 78 offZ p.row)).Perm _
      rw [e]
      exact (List.Perm.cons _ List.perm_middle).trans (List.Perm.swap _ _ _)
    · show (Chunk.box bo E [.offers l] :: (objB (S 12) (S 14) (ξ 12) 78 offZ o.row ++ objB (S 13) (S 15) (.pointer (some ⟨b, 0, none⟩)) 78 offZ p.row)).Perm _
      rw [e, h1]
      exact (List.Perm.cons _ List.perm_middle).trans (List.Perm.swap _ _ _)
    · exact (by decide : 0 + 5 ≤ 5)
  refine XSeq.nil fun ξ hf => ?_
  obtain ⟨b1, hb1⟩ : ∃ b, ξ 12 = .pointer (some ⟨b, 0, none⟩) := hf 12
  obtain ⟨ξ, rfl⟩ := exists_upd hb1
  obtain ⟨b2, hb2⟩ : ∃ b, ξ 13 = .pointer (some ⟨b, 0, none⟩) := hf 13
  obtain ⟨ξ, rfl⟩ := exists_upd hb2
  refine ⟨[(6, .ptr b1), (7, .ptr b2)], [Chunk.box bo E [.offers l], Chunk.box b1 78 o.row, Chunk.box b2 78 p.row], Ent.sub goSub, ?_⟩
  unfold Offer.row at kk ⊢
  repeat' (first | refine goH ?_ | refine goV ?_ | refine goB (fun b => ?_) | refine goG ?_ | (refine Ops.k_guard ?_; first | (refine Ops.guard_dec rfl rfl (fun hc => ?_) (fun hc => ?_) <;> try (exfalso; omega)) | refine Ops.guard_split rfl rfl (fun hc => ?_) (fun hc => ?_)) | refine goI ?_ | (refine Cw.k_cond ?_; first | (refine Cw.cond_dec rfl (fun hc => ?_) (fun hc => ?_) <;> try (exfalso; omega)) | refine Cw.cond_bool rfl (fun hc => ?_) (fun hc => ?_)) | (refine Ops.k_calla ?_; first | (refine Ops.k_callf 35 ?_; refine Ops.callS (kk _ _) (Evs.cons rfl (Evs.cons rfl Evs.nil)) goPk rfl ?_)) | (apply OpW.k_call; first | (apply OpW.k_callf 35; exact OpW.callS (kk _ _) (Evs.cons rfl (Evs.cons rfl Evs.nil)) goPk)) | refine goR ?_ | refine goP ?_ | apply PSeq.cons | apply PSeq.yes rfl rfl rfl | exact goW | fail)
  exact Fin.ret (Ent.take goTk) (Outs.one rfl rfl) ⟨rfl, rfl⟩

def clB (h : Nat → Nat → Bool) (c a : Nat) (T : List Nat) : List Touch := clA (fun a b => besideB c a b && h a b) T a
theorem clB_all (h : Nat → Nat → Bool) (r c a : Nat) (hc : 0 < c) (ha : a < r * c) : clB h c a (List.range' (a + 1) (r * c - (a + 1))) = clA h (touchN c (r * c) a) a := by
  unfold clB clA
  rw [← beside_touch hc ha, List.filter_filter]
  congr 2
  funext x
  exact Bool.and_comm _ _
theorem clB_snoc (h : Nat → Nat → Bool) (c a i : Nat) : clB h c a (List.range' (a + 1) (i + 1)) = clB h c a (List.range' (a + 1) i) ++ (if besideB c a (a + 1 + i) && h a (a + 1 + i) then [Touch.mk (a : Int) ((a + 1 + i : Nat) : Int)] else []) := by
  unfold clB
  rw [List.range'_concat, clA_app]
  congr 1
  unfold clA
  rw [List.filter_cons, List.filter_nil, Nat.one_mul]
  show List.map _ (if (besideB c a (a + 1 + i) && h a (a + 1 + i)) = true then _ else _) = _
  cases (besideB c a (a + 1 + i) && h a (a + 1 + i)) <;> rfl
theorem clB_len (h : Nat → Nat → Bool) (c a i : Nat) : (clB h c a (List.range' (a + 1) i)).length ≤ i := by
  have := clA_len (fun a b => besideB c a b && h a b) (List.range' (a + 1) i) a
  rw [List.length_range'] at this
  exact this

theorem clashesIn_fn (R C : Nat) (hR : 1 ≤ R ∧ R ≤ 10) (hC : 1 ≤ C ∧ C ≤ 10) (l : List Offer) (hl : OBd l) (hE : findO l ⟨#[]⟩ = none) (xs : List ByteArray) (hn : xs.length = R * C) (hx : xs.length ≤ 100) (hodd : xs.any (oddB l) = false) : PFn Tryd.prog 62 [.agg [.int R, .int C], .offers l, .strs xs] (· = .touches (clAll (hX l xs) C xs.length xs.length)) := by
  have hL := strRows_len xs
  have hodd' : ∀ x ∈ xs, oddB l x = false := by
    intro x hx
    cases h : oddB l x
    · rfl
    · rw [List.any_eq_true.2 ⟨x, hx, h⟩] at hodd; cases hodd
  refine PFn.mk (Spec.body Tryd.func62 rfl rfl (Tryd.ntmps62) rfl fun w0 own0 M => ?_)
  repeat' (first | refine goH ?_ | refine goV ?_ | refine goB (fun b => ?_) | refine goC (fun ad cap => ?_) | refine goG ?_ | (refine Ops.k_guard ?_; first | (refine Ops.guard_dec rfl rfl (fun hc => ?_) (fun hc => ?_) <;> try (exfalso; omega)) | refine Ops.guard_split rfl rfl (fun hc => ?_) (fun hc => ?_)) | refine goI ?_ | (refine Cw.k_cond ?_; first | (refine Cw.cond_dec rfl (fun hc => ?_) (fun hc => ?_) <;> try (exfalso; omega)) | refine Cw.cond_bool rfl (fun hc => ?_) (fun hc => ?_)) | refine goR ?_ | refine goP ?_ | apply PSeq.cons | apply PSeq.yes rfl rfl rfl | exact goW | fail)
  rename_i b1
  rename Nat => b2
  refine Cw.loopI [(2, _), (3, _), (7, _), (14, _)] _ (fun n e cc => ∃ (a : Nat) (ad : Option Addr) (cap : Nat) (rows : List (List Tr)), n = xs.length - a ∧ (a ≤ xs.length ∧ rows = (clAll (hX l xs) C xs.length a).map Touch.row ∧ rows.length ≤ 2 * a) ∧ e = [(8, Tr.raw (.slice ad rows.length cap)), (15, .int a)] ∧ cc = [Chunk.own ad cap 2 112 rows])
    ⟨_, _, _, Ent.trans (Ent.nil 2 112) (Ent.mkP goSub goPm), 0, none, 0, [], rfl, ⟨by omega, rfl, by simp⟩, rfl, rfl⟩ ?_
  rintro _ _ _ ⟨a, ad, cap, rows, rfl, ⟨ha, hrows, hrl⟩, rfl, rfl⟩
  by_cases hal : a < xs.length
  rotate_left
  · have : a = xs.length := by omega
    subst this
    subst hrows
    repeat' (first | refine goH ?_ | refine goV ?_ | refine goB (fun b => ?_) | refine goC (fun ad cap => ?_) | refine goG ?_ | (refine Ops.k_guard ?_; first | (refine Ops.guard_dec rfl rfl (fun hc => ?_) (fun hc => ?_) <;> try (exfalso; omega)) | refine Ops.guard_split rfl rfl (fun hc => ?_) (fun hc => ?_)) | refine goI ?_ | (refine Cw.k_cond ?_; first | (refine Cw.cond_dec rfl (fun hc => ?_) (fun hc => ?_) <;> try (exfalso; omega)) | refine Cw.cond_bool rfl (fun hc => ?_) (fun hc => ?_)) | refine goR ?_ | refine goP ?_ | apply PSeq.cons | apply PSeq.yes rfl rfl rfl | exact goW | fail)
    refine Fin.ret (Ent.trans (Ent.settle (s := 6) rfl goPk rfl) (Ent.take goTk)) (Outs.sole rfl goOe) ⟨rfl, rfl⟩
  obtain ⟨x, hx1⟩ := at_lt hal
  have hrow : (strRows xs)[((a : Nat) : Int).toNat]? = some [.str x] := strRows_at hx1
  have hox := hodd' x (List.mem_of_getElem? hx1)
  repeat' (first | refine goH ?_ | refine goV ?_ | refine goB (fun b => ?_) | refine goC (fun ad cap => ?_) | refine goG ?_ | (refine Ops.k_guard ?_; first | (refine Ops.guard_dec rfl rfl (fun hc => ?_) (fun hc => ?_) <;> try (exfalso; omega)) | refine Ops.guard_split rfl rfl (fun hc => ?_) (fun hc => ?_)) | refine goI ?_ | (refine Cw.k_cond ?_; first | (refine Cw.cond_dec rfl (fun hc => ?_) (fun hc => ?_) <;> try (exfalso; omega)) | refine Cw.cond_bool rfl (fun hc => ?_) (fun hc => ?_)) | refine goR ?_ | refine goP ?_ | apply PSeq.cons | apply PSeq.yes rfl rfl rfl | exact goW | fail)
  refine Cw.loopI [(2, _), (3, _), (7, _), (9, _), (14, _), (15, _)] _ (fun n e cc => ∃ (i : Nat) (ad : Option Addr) (cap : Nat) (rows : List (List Tr)), n = xs.length - (a + 1 + i) ∧ (a + 1 + i ≤ xs.length ∧ rows = (clAll (hX l xs) C xs.length a ++ clB (hX l xs) C a (List.range' (a + 1) i)).map Touch.row ∧ rows.length ≤ 2 * a + i) ∧ e = [(8, Tr.raw (.slice ad rows.length cap)), (10, .int (a + 1 + i : Nat))] ∧ cc = [Chunk.own ad cap 2 112 rows])
    ⟨_, _, _, (Ent.mkP goSub goPm), 0, ad, cap, rows, rfl, ⟨by omega, by rw [hrows]; simp [clB, clA], by omega⟩, rfl, rfl⟩ ?_
  clear hrows hrl
  rintro _ _ _ ⟨i, ad, cap, rows, rfl, ⟨hi, hrows, hrl⟩, rfl, rfl⟩
  by_cases hil : a + 1 + i < xs.length
  rotate_left
  · have key : rows = (clAll (hX l xs) C xs.length (a + 1)).map Touch.row := by
      rw [hrows, clAll_succ, show i = R * C - (a + 1) by omega, clB_all (hX l xs) R C a (by omega) (by omega), ← hn]
    have hlen : rows.length ≤ 2 * (a + 1) := by rw [key, List.length_map]; exact clAll_len _ _ _ _
    repeat' (first | refine goH ?_ | refine goV ?_ | refine goB (fun b => ?_) | refine goC (fun ad cap => ?_) | refine goG ?_ | (refine Ops.k_guard ?_; first | (refine Ops.guard_dec rfl rfl (fun hc => ?_) (fun hc => ?_) <;> try (exfalso; omega)) | refine Ops.guard_split rfl rfl (fun hc => ?_) (fun hc => ?_)) | refine goI ?_ | (refine Cw.k_cond ?_; first | (refine Cw.cond_dec rfl (fun hc => ?_) (fun hc => ?_) <;> try (exfalso; omega)) | refine Cw.cond_bool rfl (fun hc => ?_) (fun hc => ?_)) | refine goR ?_ | refine goP ?_ | apply PSeq.cons | apply PSeq.yes rfl rfl rfl | exact goW | fail)
    exact ⟨_, _, _, (Ent.mk goSub goTk), ⟨a + 1, _, _, _, rfl, ⟨by omega, key, hlen⟩, rfl, rfl⟩, by omega⟩
  obtain ⟨y, hy⟩ := at_lt hil
  have hrow2 : (strRows xs)[((a + 1 + i : Nat) : Int).toNat]? = some [.str y] := strRows_at hy
  have hoy := hodd' y (List.mem_of_getElem? hy)
  have k1 := clash1_fn l hl hE x y hox hoy b2 49
  have k2 := clash1_fn l hl hE y x hoy hox b2 49
  have k1 : Spec Tryd.prog 81 ([.str x, .str y] ++ ([.pointer (some ⟨b2, 0, none⟩)] : List Value).map Tr.raw) [Chunk.box b2 49 [.offers l]] (fun r cs => r = .bool (hatesB l x y) ∧ cs = [Chunk.box b2 49 [.offers l]]) := k1
  have k2 : Spec Tryd.prog 81 ([.str y, .str x] ++ ([.pointer (some ⟨b2, 0, none⟩)] : List Value).map Tr.raw) [Chunk.box b2 49 [.offers l]] (fun r cs => r = .bool (hatesB l y x) ∧ cs = [Chunk.box b2 49 [.offers l]]) := k2
  have hh : hX l xs a (a + 1 + i) = (hatesB l x y || hatesB l y x) := by unfold hX hatedB; rw [List.getD_eq_getElem?_getD, List.getD_eq_getElem?_getD, hx1, hy]; rfl
  have hst := clB_snoc (hX l xs) C a i
  rw [hh] at hst
  have hbe : besideB C a (a + 1 + i) = decide ((a / C = (a + 1 + i) / C ∧ a + 1 + i = a + 1) ∨ a + 1 + i = a + C) := rfl
  have same : (besideB C a (a + 1 + i) && (hatesB l x y || hatesB l y x)) = false → rows = (clAll (hX l xs) C xs.length a ++ clB (hX l xs) C a (List.range' (a + 1) (i + 1))).map Touch.row := by
    intro h; rw [hst, h, hrows]; simp
  have more : (besideB C a (a + 1 + i) && (hatesB l x y || hatesB l y x)) = true → rows ++ [[Tr.int a, Tr.int (a + 1 + i : Nat)]] = (clAll (hX l xs) C xs.length a ++ clB (hX l xs) C a (List.range' (a + 1) (i + 1))).map Touch.row := by
    intro h; rw [hst, h, hrows]; simp [Touch.row]
  clear hst hrows
  generalize hatesB l x y = v1 at *
  generalize hatesB l y x = v2 at *
  by_cases A : a / C = (a + 1 + i) / C <;> by_cases B : a + 1 + i = a + 1 <;> by_cases D : a + 1 + i = a + C
  · have hb : besideB C a (a + 1 + i) = true := by rw [hbe]; exact decide_eq_true (.inl ⟨A, B⟩)
    cases v1
    · cases v2
      · repeat' (first | refine goH ?_ | refine goV ?_ | refine goB (fun b => ?_) | refine goC (fun ad cap => ?_) | refine goG ?_ | (refine Ops.k_guard ?_; first | (refine Ops.guard_dec rfl rfl (fun hc => ?_) (fun hc => ?_) <;> try (exfalso; omega)) | refine Ops.guard_split rfl rfl (fun hc => ?_) (fun hc => ?_)) | refine goI ?_ | (refine Cw.k_cond ?_; first | (refine Cw.cond_dec rfl (fun hc => ?_) (fun hc => ?_) <;> try (exfalso; omega)) | refine Cw.cond_bool rfl (fun hc => ?_) (fun hc => ?_)) | (apply OpW.k_call; exact OpW.callS_fn rfl k1 (Evs.cons rfl (Evs.cons rfl Evs.nil)) goPk) | (apply OpW.k_call; exact OpW.callS_fn rfl k2 (Evs.cons rfl (Evs.cons rfl Evs.nil)) goPk) | refine goR ?_ | refine goP ?_ | apply PSeq.cons | apply PSeq.yes rfl rfl rfl | exact goW | fail)
        exact ⟨_, _, _, (Ent.mk goSub goTk), ⟨i + 1, _, _, _, rfl, ⟨by omega, same (by rw [hb]; rfl), by omega⟩, rfl, rfl⟩, by omega⟩
      · repeat' (first | refine goH ?_ | refine goV ?_ | refine goB (fun b => ?_) | refine goC (fun ad cap => ?_) | refine goG ?_ | (refine Ops.k_guard ?_; first | (refine Ops.guard_dec rfl rfl (fun hc => ?_) (fun hc => ?_) <;> try (exfalso; omega)) | refine Ops.guard_split rfl rfl (fun hc => ?_) (fun hc => ?_)) | refine goI ?_ | (refine Cw.k_cond ?_; first | (refine Cw.cond_dec rfl (fun hc => ?_) (fun hc => ?_) <;> try (exfalso; omega)) | refine Cw.cond_bool rfl (fun hc => ?_) (fun hc => ?_)) | (apply OpW.k_call; exact OpW.callS_fn rfl k1 (Evs.cons rfl (Evs.cons rfl Evs.nil)) goPk) | (apply OpW.k_call; exact OpW.callS_fn rfl k2 (Evs.cons rfl (Evs.cons rfl Evs.nil)) goPk) | refine goR ?_ | refine goP ?_ | apply PSeq.cons | apply PSeq.yes rfl rfl rfl | exact goW | fail)
        exact ⟨_, _, _, (Ent.mk goSub goTk), ⟨i + 1, _, _, _, rfl, ⟨by omega, more (by rw [hb]; rfl), by simp only [List.length_append, List.length_cons, List.length_nil]; omega⟩, rfl, rfl⟩, by omega⟩
    · repeat' (first | refine goH ?_ | refine goV ?_ | refine goB (fun b => ?_) | refine goC (fun ad cap => ?_) | refine goG ?_ | (refine Ops.k_guard ?_; first | (refine Ops.guard_dec rfl rfl (fun hc => ?_) (fun hc => ?_) <;> try (exfalso; omega)) | refine Ops.guard_split rfl rfl (fun hc => ?_) (fun hc => ?_)) | refine goI ?_ | (refine Cw.k_cond ?_; first | (refine Cw.cond_dec rfl (fun hc => ?_) (fun hc => ?_) <;> try (exfalso; omega)) | refine Cw.cond_bool rfl (fun hc => ?_) (fun hc => ?_)) | (apply OpW.k_call; exact OpW.callS_fn rfl k1 (Evs.cons rfl (Evs.cons rfl Evs.nil)) goPk) | (apply OpW.k_call; exact OpW.callS_fn rfl k2 (Evs.cons rfl (Evs.cons rfl Evs.nil)) goPk) | refine goR ?_ | refine goP ?_ | apply PSeq.cons | apply PSeq.yes rfl rfl rfl | exact goW | fail)
      exact ⟨_, _, _, (Ent.mk goSub goTk), ⟨i + 1, _, _, _, rfl, ⟨by omega, more (by rw [hb]; rfl), by simp only [List.length_append, List.length_cons, List.length_nil]; omega⟩, rfl, rfl⟩, by omega⟩
  · have hb : besideB C a (a + 1 + i) = true := by rw [hbe]; exact decide_eq_true (.inl ⟨A, B⟩)
    cases v1
    · cases v2
      · repeat' (first | refine goH ?_ | refine goV ?_ | refine goB (fun b => ?_) | refine goC (fun ad cap => ?_) | refine goG ?_ | (refine Ops.k_guard ?_; first | (refine Ops.guard_dec rfl rfl (fun hc => ?_) (fun hc => ?_) <;> try (exfalso; omega)) | refine Ops.guard_split rfl rfl (fun hc => ?_) (fun hc => ?_)) | refine goI ?_ | (refine Cw.k_cond ?_; first | (refine Cw.cond_dec rfl (fun hc => ?_) (fun hc => ?_) <;> try (exfalso; omega)) | refine Cw.cond_bool rfl (fun hc => ?_) (fun hc => ?_)) | (apply OpW.k_call; exact OpW.callS_fn rfl k1 (Evs.cons rfl (Evs.cons rfl Evs.nil)) goPk) | (apply OpW.k_call; exact OpW.callS_fn rfl k2 (Evs.cons rfl (Evs.cons rfl Evs.nil)) goPk) | refine goR ?_ | refine goP ?_ | apply PSeq.cons | apply PSeq.yes rfl rfl rfl | exact goW | fail)
        exact ⟨_, _, _, (Ent.mk goSub goTk), ⟨i + 1, _, _, _, rfl, ⟨by omega, same (by rw [hb]; rfl), by omega⟩, rfl, rfl⟩, by omega⟩
      · repeat' (first | refine goH ?_ | refine goV ?_ | refine goB (fun b => ?_) | refine goC (fun ad cap => ?_) | refine goG ?_ | (refine Ops.k_guard ?_; first | (refine Ops.guard_dec rfl rfl (fun hc => ?_) (fun hc => ?_) <;> try (exfalso; omega)) | refine Ops.guard_split rfl rfl (fun hc => ?_) (fun hc => ?_)) | refine goI ?_ | (refine Cw.k_cond ?_; first | (refine Cw.cond_dec rfl (fun hc => ?_) (fun hc => ?_) <;> try (exfalso; omega)) | refine Cw.cond_bool rfl (fun hc => ?_) (fun hc => ?_)) | (apply OpW.k_call; exact OpW.callS_fn rfl k1 (Evs.cons rfl (Evs.cons rfl Evs.nil)) goPk) | (apply OpW.k_call; exact OpW.callS_fn rfl k2 (Evs.cons rfl (Evs.cons rfl Evs.nil)) goPk) | refine goR ?_ | refine goP ?_ | apply PSeq.cons | apply PSeq.yes rfl rfl rfl | exact goW | fail)
        exact ⟨_, _, _, (Ent.mk goSub goTk), ⟨i + 1, _, _, _, rfl, ⟨by omega, more (by rw [hb]; rfl), by simp only [List.length_append, List.length_cons, List.length_nil]; omega⟩, rfl, rfl⟩, by omega⟩
    · repeat' (first | refine goH ?_ | refine goV ?_ | refine goB (fun b => ?_) | refine goC (fun ad cap => ?_) | refine goG ?_ | (refine Ops.k_guard ?_; first | (refine Ops.guard_dec rfl rfl (fun hc => ?_) (fun hc => ?_) <;> try (exfalso; omega)) | refine Ops.guard_split rfl rfl (fun hc => ?_) (fun hc => ?_)) | refine goI ?_ | (refine Cw.k_cond ?_; first | (refine Cw.cond_dec rfl (fun hc => ?_) (fun hc => ?_) <;> try (exfalso; omega)) | refine Cw.cond_bool rfl (fun hc => ?_) (fun hc => ?_)) | (apply OpW.k_call; exact OpW.callS_fn rfl k1 (Evs.cons rfl (Evs.cons rfl Evs.nil)) goPk) | (apply OpW.k_call; exact OpW.callS_fn rfl k2 (Evs.cons rfl (Evs.cons rfl Evs.nil)) goPk) | refine goR ?_ | refine goP ?_ | apply PSeq.cons | apply PSeq.yes rfl rfl rfl | exact goW | fail)
      exact ⟨_, _, _, (Ent.mk goSub goTk), ⟨i + 1, _, _, _, rfl, ⟨by omega, more (by rw [hb]; rfl), by simp only [List.length_append, List.length_cons, List.length_nil]; omega⟩, rfl, rfl⟩, by omega⟩
  · have hb : besideB C a (a + 1 + i) = true := by rw [hbe]; exact decide_eq_true (.inr D)
    cases v1
    · cases v2
      · repeat' (first | refine goH ?_ | refine goV ?_ | refine goB (fun b => ?_) | refine goC (fun ad cap => ?_) | refine goG ?_ | (refine Ops.k_guard ?_; first | (refine Ops.guard_dec rfl rfl (fun hc => ?_) (fun hc => ?_) <;> try (exfalso; omega)) | refine Ops.guard_split rfl rfl (fun hc => ?_) (fun hc => ?_)) | refine goI ?_ | (refine Cw.k_cond ?_; first | (refine Cw.cond_dec rfl (fun hc => ?_) (fun hc => ?_) <;> try (exfalso; omega)) | refine Cw.cond_bool rfl (fun hc => ?_) (fun hc => ?_)) | (apply OpW.k_call; exact OpW.callS_fn rfl k1 (Evs.cons rfl (Evs.cons rfl Evs.nil)) goPk) | (apply OpW.k_call; exact OpW.callS_fn rfl k2 (Evs.cons rfl (Evs.cons rfl Evs.nil)) goPk) | refine goR ?_ | refine goP ?_ | apply PSeq.cons | apply PSeq.yes rfl rfl rfl | exact goW | fail)
        exact ⟨_, _, _, (Ent.mk goSub goTk), ⟨i + 1, _, _, _, rfl, ⟨by omega, same (by rw [hb]; rfl), by omega⟩, rfl, rfl⟩, by omega⟩
      · repeat' (first | refine goH ?_ | refine goV ?_ | refine goB (fun b => ?_) | refine goC (fun ad cap => ?_) | refine goG ?_ | (refine Ops.k_guard ?_; first | (refine Ops.guard_dec rfl rfl (fun hc => ?_) (fun hc => ?_) <;> try (exfalso; omega)) | refine Ops.guard_split rfl rfl (fun hc => ?_) (fun hc => ?_)) | refine goI ?_ | (refine Cw.k_cond ?_; first | (refine Cw.cond_dec rfl (fun hc => ?_) (fun hc => ?_) <;> try (exfalso; omega)) | refine Cw.cond_bool rfl (fun hc => ?_) (fun hc => ?_)) | (apply OpW.k_call; exact OpW.callS_fn rfl k1 (Evs.cons rfl (Evs.cons rfl Evs.nil)) goPk) | (apply OpW.k_call; exact OpW.callS_fn rfl k2 (Evs.cons rfl (Evs.cons rfl Evs.nil)) goPk) | refine goR ?_ | refine goP ?_ | apply PSeq.cons | apply PSeq.yes rfl rfl rfl | exact goW | fail)
        exact ⟨_, _, _, (Ent.mk goSub goTk), ⟨i + 1, _, _, _, rfl, ⟨by omega, more (by rw [hb]; rfl), by simp only [List.length_append, List.length_cons, List.length_nil]; omega⟩, rfl, rfl⟩, by omega⟩
    · repeat' (first | refine goH ?_ | refine goV ?_ | refine goB (fun b => ?_) | refine goC (fun ad cap => ?_) | refine goG ?_ | (refine Ops.k_guard ?_; first | (refine Ops.guard_dec rfl rfl (fun hc => ?_) (fun hc => ?_) <;> try (exfalso; omega)) | refine Ops.guard_split rfl rfl (fun hc => ?_) (fun hc => ?_)) | refine goI ?_ | (refine Cw.k_cond ?_; first | (refine Cw.cond_dec rfl (fun hc => ?_) (fun hc => ?_) <;> try (exfalso; omega)) | refine Cw.cond_bool rfl (fun hc => ?_) (fun hc => ?_)) | (apply OpW.k_call; exact OpW.callS_fn rfl k1 (Evs.cons rfl (Evs.cons rfl Evs.nil)) goPk) | (apply OpW.k_call; exact OpW.callS_fn rfl k2 (Evs.cons rfl (Evs.cons rfl Evs.nil)) goPk) | refine goR ?_ | refine goP ?_ | apply PSeq.cons | apply PSeq.yes rfl rfl rfl | exact goW | fail)
      exact ⟨_, _, _, (Ent.mk goSub goTk), ⟨i + 1, _, _, _, rfl, ⟨by omega, more (by rw [hb]; rfl), by simp only [List.length_append, List.length_cons, List.length_nil]; omega⟩, rfl, rfl⟩, by omega⟩
  · have hb : besideB C a (a + 1 + i) = false := by rw [hbe]; exact decide_eq_false (fun h => h.elim (fun h => B h.2) D)
    repeat' (first | refine goH ?_ | refine goV ?_ | refine goB (fun b => ?_) | refine goC (fun ad cap => ?_) | refine goG ?_ | (refine Ops.k_guard ?_; first | (refine Ops.guard_dec rfl rfl (fun hc => ?_) (fun hc => ?_) <;> try (exfalso; omega)) | refine Ops.guard_split rfl rfl (fun hc => ?_) (fun hc => ?_)) | refine goI ?_ | (refine Cw.k_cond ?_; first | (refine Cw.cond_dec rfl (fun hc => ?_) (fun hc => ?_) <;> try (exfalso; omega)) | refine Cw.cond_bool rfl (fun hc => ?_) (fun hc => ?_)) | (apply OpW.k_call; exact OpW.callS_fn rfl k1 (Evs.cons rfl (Evs.cons rfl Evs.nil)) goPk) | (apply OpW.k_call; exact OpW.callS_fn rfl k2 (Evs.cons rfl (Evs.cons rfl Evs.nil)) goPk) | refine goR ?_ | refine goP ?_ | apply PSeq.cons | apply PSeq.yes rfl rfl rfl | exact goW | fail)
    exact ⟨_, _, _, (Ent.mk goSub goTk), ⟨i + 1, _, _, _, rfl, ⟨by omega, same (by rw [hb]; rfl), by omega⟩, rfl, rfl⟩, by omega⟩
  · have hb : besideB C a (a + 1 + i) = true := by rw [hbe]; exact decide_eq_true (.inr D)
    cases v1
    · cases v2
      · repeat' (first | refine goH ?_ | refine goV ?_ | refine goB (fun b => ?_) | refine goC (fun ad cap => ?_) | refine goG ?_ | (refine Ops.k_guard ?_; first | (refine Ops.guard_dec rfl rfl (fun hc => ?_) (fun hc => ?_) <;> try (exfalso; omega)) | refine Ops.guard_split rfl rfl (fun hc => ?_) (fun hc => ?_)) | refine goI ?_ | (refine Cw.k_cond ?_; first | (refine Cw.cond_dec rfl (fun hc => ?_) (fun hc => ?_) <;> try (exfalso; omega)) | refine Cw.cond_bool rfl (fun hc => ?_) (fun hc => ?_)) | (apply OpW.k_call; exact OpW.callS_fn rfl k1 (Evs.cons rfl (Evs.cons rfl Evs.nil)) goPk) | (apply OpW.k_call; exact OpW.callS_fn rfl k2 (Evs.cons rfl (Evs.cons rfl Evs.nil)) goPk) | refine goR ?_ | refine goP ?_ | apply PSeq.cons | apply PSeq.yes rfl rfl rfl | exact goW | fail)
        exact ⟨_, _, _, (Ent.mk goSub goTk), ⟨i + 1, _, _, _, rfl, ⟨by omega, same (by rw [hb]; rfl), by omega⟩, rfl, rfl⟩, by omega⟩
      · repeat' (first | refine goH ?_ | refine goV ?_ | refine goB (fun b => ?_) | refine goC (fun ad cap => ?_) | refine goG ?_ | (refine Ops.k_guard ?_; first | (refine Ops.guard_dec rfl rfl (fun hc => ?_) (fun hc => ?_) <;> try (exfalso; omega)) | refine Ops.guard_split rfl rfl (fun hc => ?_) (fun hc => ?_)) | refine goI ?_ | (refine Cw.k_cond ?_; first | (refine Cw.cond_dec rfl (fun hc => ?_) (fun hc => ?_) <;> try (exfalso; omega)) | refine Cw.cond_bool rfl (fun hc => ?_) (fun hc => ?_)) | (apply OpW.k_call; exact OpW.callS_fn rfl k1 (Evs.cons rfl (Evs.cons rfl Evs.nil)) goPk) | (apply OpW.k_call; exact OpW.callS_fn rfl k2 (Evs.cons rfl (Evs.cons rfl Evs.nil)) goPk) | refine goR ?_ | refine goP ?_ | apply PSeq.cons | apply PSeq.yes rfl rfl rfl | exact goW | fail)
        exact ⟨_, _, _, (Ent.mk goSub goTk), ⟨i + 1, _, _, _, rfl, ⟨by omega, more (by rw [hb]; rfl), by simp only [List.length_append, List.length_cons, List.length_nil]; omega⟩, rfl, rfl⟩, by omega⟩
    · repeat' (first | refine goH ?_ | refine goV ?_ | refine goB (fun b => ?_) | refine goC (fun ad cap => ?_) | refine goG ?_ | (refine Ops.k_guard ?_; first | (refine Ops.guard_dec rfl rfl (fun hc => ?_) (fun hc => ?_) <;> try (exfalso; omega)) | refine Ops.guard_split rfl rfl (fun hc => ?_) (fun hc => ?_)) | refine goI ?_ | (refine Cw.k_cond ?_; first | (refine Cw.cond_dec rfl (fun hc => ?_) (fun hc => ?_) <;> try (exfalso; omega)) | refine Cw.cond_bool rfl (fun hc => ?_) (fun hc => ?_)) | (apply OpW.k_call; exact OpW.callS_fn rfl k1 (Evs.cons rfl (Evs.cons rfl Evs.nil)) goPk) | (apply OpW.k_call; exact OpW.callS_fn rfl k2 (Evs.cons rfl (Evs.cons rfl Evs.nil)) goPk) | refine goR ?_ | refine goP ?_ | apply PSeq.cons | apply PSeq.yes rfl rfl rfl | exact goW | fail)
      exact ⟨_, _, _, (Ent.mk goSub goTk), ⟨i + 1, _, _, _, rfl, ⟨by omega, more (by rw [hb]; rfl), by simp only [List.length_append, List.length_cons, List.length_nil]; omega⟩, rfl, rfl⟩, by omega⟩
  · have hb : besideB C a (a + 1 + i) = false := by rw [hbe]; exact decide_eq_false (fun h => h.elim (fun h => A h.1) D)
    repeat' (first | refine goH ?_ | refine goV ?_ | refine goB (fun b => ?_) | refine goC (fun ad cap => ?_) | refine goG ?_ | (refine Ops.k_guard ?_; first | (refine Ops.guard_dec rfl rfl (fun hc => ?_) (fun hc => ?_) <;> try (exfalso; omega)) | refine Ops.guard_split rfl rfl (fun hc => ?_) (fun hc => ?_)) | refine goI ?_ | (refine Cw.k_cond ?_; first | (refine Cw.cond_dec rfl (fun hc => ?_) (fun hc => ?_) <;> try (exfalso; omega)) | refine Cw.cond_bool rfl (fun hc => ?_) (fun hc => ?_)) | (apply OpW.k_call; exact OpW.callS_fn rfl k1 (Evs.cons rfl (Evs.cons rfl Evs.nil)) goPk) | (apply OpW.k_call; exact OpW.callS_fn rfl k2 (Evs.cons rfl (Evs.cons rfl Evs.nil)) goPk) | refine goR ?_ | refine goP ?_ | apply PSeq.cons | apply PSeq.yes rfl rfl rfl | exact goW | fail)
    exact ⟨_, _, _, (Ent.mk goSub goTk), ⟨i + 1, _, _, _, rfl, ⟨by omega, same (by rw [hb]; rfl), by omega⟩, rfl, rfl⟩, by omega⟩
  · have hb : besideB C a (a + 1 + i) = true := by rw [hbe]; exact decide_eq_true (.inr D)
    cases v1
    · cases v2
      · repeat' (first | refine goH ?_ | refine goV ?_ | refine goB (fun b => ?_) | refine goC (fun ad cap => ?_) | refine goG ?_ | (refine Ops.k_guard ?_; first | (refine Ops.guard_dec rfl rfl (fun hc => ?_) (fun hc => ?_) <;> try (exfalso; omega)) | refine Ops.guard_split rfl rfl (fun hc => ?_) (fun hc => ?_)) | refine goI ?_ | (refine Cw.k_cond ?_; first | (refine Cw.cond_dec rfl (fun hc => ?_) (fun hc => ?_) <;> try (exfalso; omega)) | refine Cw.cond_bool rfl (fun hc => ?_) (fun hc => ?_)) | (apply OpW.k_call; exact OpW.callS_fn rfl k1 (Evs.cons rfl (Evs.cons rfl Evs.nil)) goPk) | (apply OpW.k_call; exact OpW.callS_fn rfl k2 (Evs.cons rfl (Evs.cons rfl Evs.nil)) goPk) | refine goR ?_ | refine goP ?_ | apply PSeq.cons | apply PSeq.yes rfl rfl rfl | exact goW | fail)
        exact ⟨_, _, _, (Ent.mk goSub goTk), ⟨i + 1, _, _, _, rfl, ⟨by omega, same (by rw [hb]; rfl), by omega⟩, rfl, rfl⟩, by omega⟩
      · repeat' (first | refine goH ?_ | refine goV ?_ | refine goB (fun b => ?_) | refine goC (fun ad cap => ?_) | refine goG ?_ | (refine Ops.k_guard ?_; first | (refine Ops.guard_dec rfl rfl (fun hc => ?_) (fun hc => ?_) <;> try (exfalso; omega)) | refine Ops.guard_split rfl rfl (fun hc => ?_) (fun hc => ?_)) | refine goI ?_ | (refine Cw.k_cond ?_; first | (refine Cw.cond_dec rfl (fun hc => ?_) (fun hc => ?_) <;> try (exfalso; omega)) | refine Cw.cond_bool rfl (fun hc => ?_) (fun hc => ?_)) | (apply OpW.k_call; exact OpW.callS_fn rfl k1 (Evs.cons rfl (Evs.cons rfl Evs.nil)) goPk) | (apply OpW.k_call; exact OpW.callS_fn rfl k2 (Evs.cons rfl (Evs.cons rfl Evs.nil)) goPk) | refine goR ?_ | refine goP ?_ | apply PSeq.cons | apply PSeq.yes rfl rfl rfl | exact goW | fail)
        exact ⟨_, _, _, (Ent.mk goSub goTk), ⟨i + 1, _, _, _, rfl, ⟨by omega, more (by rw [hb]; rfl), by simp only [List.length_append, List.length_cons, List.length_nil]; omega⟩, rfl, rfl⟩, by omega⟩
    · repeat' (first | refine goH ?_ | refine goV ?_ | refine goB (fun b => ?_) | refine goC (fun ad cap => ?_) | refine goG ?_ | (refine Ops.k_guard ?_; first | (refine Ops.guard_dec rfl rfl (fun hc => ?_) (fun hc => ?_) <;> try (exfalso; omega)) | refine Ops.guard_split rfl rfl (fun hc => ?_) (fun hc => ?_)) | refine goI ?_ | (refine Cw.k_cond ?_; first | (refine Cw.cond_dec rfl (fun hc => ?_) (fun hc => ?_) <;> try (exfalso; omega)) | refine Cw.cond_bool rfl (fun hc => ?_) (fun hc => ?_)) | (apply OpW.k_call; exact OpW.callS_fn rfl k1 (Evs.cons rfl (Evs.cons rfl Evs.nil)) goPk) | (apply OpW.k_call; exact OpW.callS_fn rfl k2 (Evs.cons rfl (Evs.cons rfl Evs.nil)) goPk) | refine goR ?_ | refine goP ?_ | apply PSeq.cons | apply PSeq.yes rfl rfl rfl | exact goW | fail)
      exact ⟨_, _, _, (Ent.mk goSub goTk), ⟨i + 1, _, _, _, rfl, ⟨by omega, more (by rw [hb]; rfl), by simp only [List.length_append, List.length_cons, List.length_nil]; omega⟩, rfl, rfl⟩, by omega⟩
  · have hb : besideB C a (a + 1 + i) = false := by rw [hbe]; exact decide_eq_false (fun h => h.elim (fun h => A h.1) D)
    repeat' (first | refine goH ?_ | refine goV ?_ | refine goB (fun b => ?_) | refine goC (fun ad cap => ?_) | refine goG ?_ | (refine Ops.k_guard ?_; first | (refine Ops.guard_dec rfl rfl (fun hc => ?_) (fun hc => ?_) <;> try (exfalso; omega)) | refine Ops.guard_split rfl rfl (fun hc => ?_) (fun hc => ?_)) | refine goI ?_ | (refine Cw.k_cond ?_; first | (refine Cw.cond_dec rfl (fun hc => ?_) (fun hc => ?_) <;> try (exfalso; omega)) | refine Cw.cond_bool rfl (fun hc => ?_) (fun hc => ?_)) | (apply OpW.k_call; exact OpW.callS_fn rfl k1 (Evs.cons rfl (Evs.cons rfl Evs.nil)) goPk) | (apply OpW.k_call; exact OpW.callS_fn rfl k2 (Evs.cons rfl (Evs.cons rfl Evs.nil)) goPk) | refine goR ?_ | refine goP ?_ | apply PSeq.cons | apply PSeq.yes rfl rfl rfl | exact goW | fail)
    exact ⟨_, _, _, (Ent.mk goSub goTk), ⟨i + 1, _, _, _, rfl, ⟨by omega, same (by rw [hb]; rfl), by omega⟩, rfl, rfl⟩, by omega⟩
end Lg
