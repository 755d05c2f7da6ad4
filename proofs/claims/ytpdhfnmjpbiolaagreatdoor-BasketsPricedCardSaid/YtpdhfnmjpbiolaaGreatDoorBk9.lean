/- A part of the proof of a law of this seat: it adds no condition. By an AI agent. -/
import Derived.Test.YtpdhfnmjpbiolaaGreatDoorBk7
section
set_option linter.all false
set_option maxRecDepth 100000
set_option maxHeartbeats 8000000
namespace Lg
open Go Go.Proofs

/-! ### groups: a map of owned slices -/
structure Gr where
  key : ByteArray
  ad : Option Addr
  cap : Nat
  l : List Int
abbrev Gr.v (g : Gr) : Tr := Tr.raw (.slice g.ad g.l.length g.cap)
abbrev Gr.c (g : Gr) : Chunk := Chunk.own g.ad g.cap 1 3 (intRows g.l)
def gkv (G : List Gr) : List (ByteArray × Tr) := G.map fun g => (g.key, g.v)
def gch (G : List Gr) : List Chunk := G.map Gr.c
def gval (k : ByteArray) : List Gr → List Int
  | [] => []
  | g :: G => if k = g.key then g.l else gval k G
theorem gch_app (A B : List Gr) : gch (A ++ B) = gch A ++ gch B := List.map_append
theorem gch_mid (A B : List Gr) (g : Gr) : gch (A ++ g :: B) = gch A ++ g.c :: gch B := by rw [gch_app]; rfl
theorem g_split (k : ByteArray) : ∀ (G : List Gr), (∃ A g B, G = A ++ g :: B ∧ g.key = k ∧ ∀ a ∈ A, a.key ≠ k) ∨ (∀ a ∈ G, a.key ≠ k)
  | [] => .inr (fun a h => by cases h)
  | g :: G => by
    by_cases h : g.key = k
    · exact .inl ⟨[], g, G, rfl, h, fun a h => by cases h⟩
    · rcases g_split k G with ⟨A, x, B, rfl, h1, h2⟩ | h1
      · refine .inl ⟨g :: A, x, B, rfl, h1, fun a ha => ?_⟩
        rcases List.mem_cons.1 ha with rfl | ha
        · exact h
        · exact h2 a ha
      · refine .inr fun a ha => ?_
        rcases List.mem_cons.1 ha with rfl | ha
        · exact h
        · exact h1 a ha
theorem mread_in {A B : List Gr} {g : Gr} (hA : ∀ a ∈ A, a.key ≠ g.key) : mread g.key (.slice none 0 0) (gkv (A ++ g :: B)) = g.v := by
  unfold mread
  induction A with
  | nil => simp [gkv, mget]
  | cons a A ih =>
    have := ih (fun x hx => hA x (by simp [hx]))
    simp only [gkv, List.cons_append, List.map_cons, mget] at this ⊢
    rw [if_neg (fun e => hA a (by simp) e.symm)]
    exact this
theorem mread_out {G : List Gr} {k : ByteArray} (h : ∀ a ∈ G, a.key ≠ k) : mread k (.slice none 0 0) (gkv G) = Tr.raw (.slice none 0 0) := by
  unfold mread
  induction G with
  | nil => rfl
  | cons a G ih =>
    have := ih (fun x hx => h x (by simp [hx]))
    simp only [gkv, List.map_cons, mget] at this ⊢
    rw [if_neg (fun e => h a (by simp) e.symm)]
    exact this
theorem mset_in {A B : List Gr} {g g2 : Gr} (hk : g2.key = g.key) (hA : ∀ a ∈ A, a.key ≠ g.key) : mset g.key g2.v (gkv (A ++ g :: B)) = gkv (A ++ g2 :: B) := by
  induction A with
  | nil => simp [gkv, mset, hk]
  | cons a A ih =>
    have := ih (fun x hx => hA x (by simp [hx]))
    simp only [gkv, List.cons_append, List.map_cons, mset] at this ⊢
    rw [if_neg (fun e => hA a (by simp) e.symm), this]
theorem mset_out {G : List Gr} {g : Gr} (h : ∀ a ∈ G, a.key ≠ g.key) : mset g.key g.v (gkv G) = gkv (G ++ [g]) := by
  induction G with
  | nil => rfl
  | cons a G ih =>
    have := ih (fun x hx => h x (by simp [hx]))
    simp only [gkv, List.cons_append, List.map_cons, mset] at this ⊢
    rw [if_neg (fun e => h a (by simp) e.symm), this]
theorem gval_in {A B : List Gr} {g : Gr} (hA : ∀ a ∈ A, a.key ≠ g.key) : gval g.key (A ++ g :: B) = g.l := by
  induction A with
  | nil => simp [gval]
  | cons a A ih => rw [List.cons_append, gval, if_neg (fun e => hA a (by simp) e.symm), ih (fun x hx => hA x (by simp [hx]))]
theorem gval_out {G : List Gr} {k : ByteArray} (h : ∀ a ∈ G, a.key ≠ k) : gval k G = [] := by
  induction G with
  | nil => rfl
  | cons a G ih => rw [gval, if_neg (fun e => h a (by simp) e.symm), ih (fun x hx => h x (by simp [hx]))]
theorem gval_ne {A B : List Gr} {g g2 : Gr} {k : ByteArray} (hk : g2.key = g.key) (hne : k ≠ g.key) : gval k (A ++ g2 :: B) = gval k (A ++ g :: B) := by
  induction A with
  | nil => simp only [List.nil_append, gval]; rw [if_neg (by rw [hk]; exact hne), if_neg hne]
  | cons a A ih => simp only [List.cons_append, gval]; rw [ih]
theorem gval_snoc_ne {G : List Gr} {g : Gr} {k : ByteArray} (hne : k ≠ g.key) : gval k (G ++ [g]) = gval k G := by
  induction G with
  | nil => simp [gval, hne]
  | cons a G ih => rw [List.cons_append, gval, gval, ih]
theorem gval_snoc {G : List Gr} {g : Gr} (h : ∀ a ∈ G, a.key ≠ g.key) : gval g.key (G ++ [g]) = g.l := gval_in (B := []) h

/-! ### a sum over a part of an owned slice -/
attribute [local irreducible] intRows
theorem sumP_fn (L : List Int) (ad : Option Addr) (cap cap2 o n : Nat) (h : o + n ≤ L.length) (hl : L.length ≤ 1000000) (hp : ∀ y ∈ L, 0 ≤ y ∧ y ≤ 100000) : Spec Tryz.prog 38 [.qsl ad o 1 n cap2] [Chunk.own ad cap 1 3 (intRows L)] (fun r cs => r = .int (sumQ ((L.drop o).take n)) ∧ cs = [Chunk.own ad cap 1 3 (intRows L)]) := by
  have hR := intRows_len L
  refine Spec.body Tryz.func38 rfl rfl (Tryz.ntmps38) rfl fun w0 own0 M => ?_
  repeat' (first | refine goH ?_ | refine goV ?_ | (refine Ops.k_b_len ?_; first | refine Ops.len_q rfl rfl ?_) | refine goI ?_ | (refine Cw.k_cond ?_; first | (refine Cw.cond_dec rfl (fun hc => ?_) (fun hc => ?_) <;> try (exfalso; omega)) | refine Cw.cond_bool rfl (fun hc => ?_) (fun hc => ?_)) | fail)
  refine Cw.loopI [(6, _), (7, _)] _ (fun q e cc => ∃ (i : Nat) (s : Int), q = n - i ∧ (i ≤ n ∧ s = sumQ (((L.drop o).take n).take i)) ∧ e = [(3, .int s), (8, .int i)] ∧ cc = [Chunk.own ad cap 1 3 (intRows L)])
    ⟨_, _, _, (Ent.mkP goSub goPm), 0, 0, rfl, ⟨by omega, by simp [sumQ]⟩, rfl, rfl⟩ ?_
  rintro _ _ _ ⟨i, s, rfl, ⟨hi, hs⟩, rfl, rfl⟩
  have hll : ((L.drop o).take n).length = n := by rw [List.length_take, List.length_drop]; omega
  by_cases hin : i < n
  · obtain ⟨y, hy⟩ := at_lt (l := (L.drop o).take n) (k := i) (by omega)
    have hyL : L[o + i]? = some y := by
      rw [List.getElem?_take, if_pos hin, List.getElem?_drop] at hy
      exact hy
    have hyb := hp y (List.mem_of_getElem? hyL)
    have r1 : (intRows L)[o + i]? = some [Tr.int y] := intRows_at hyL
    have hnx := sumQ_take hy
    have hsb := sumQ_bd (l := ((L.drop o).take n).take i) (fun z hz => hp z (List.mem_of_mem_drop (List.mem_of_mem_take (List.mem_of_mem_take hz))))
    have hsl : (((L.drop o).take n).take i).length ≤ 1000000 := by rw [List.length_take]; omega
    rw [← hs] at hnx hsb
    clear hs hy hyL
    repeat' (first | refine goH ?_ | (refine Ops.k_indexAddr ?_; first | (refine Ops.indexAddr_subN rfl rfl goPk (by omega) (by omega) rfl ?_)) | refine goV ?_ | refine goI ?_ | (refine Cw.k_cond ?_; first | (refine Cw.cond_dec rfl (fun hc => ?_) (fun hc => ?_) <;> try (exfalso; omega)) | refine Cw.cond_bool rfl (fun hc => ?_) (fun hc => ?_)) | fail)
    exact ⟨_, _, _, (Ent.mk goSub goTk), ⟨i + 1, s + y, rfl, ⟨by omega, hnx.symm⟩, rfl, rfl⟩, by omega⟩
  · rw [List.take_of_length_le (by omega)] at hs
    repeat' (first | refine goH ?_ | refine goV ?_ | refine goI ?_ | (refine Cw.k_cond ?_; first | (refine Cw.cond_dec rfl (fun hc => ?_) (fun hc => ?_) <;> try (exfalso; omega)) | refine Cw.cond_bool rfl (fun hc => ?_) (fun hc => ?_)) | fail)
    exact Fin.ret (Ent.take goTk) (Outs.one rfl rfl) ⟨by rw [hs], rfl⟩
end Lg
end
section
set_option linter.all false
set_option maxRecDepth 100000
set_option maxHeartbeats 8000000
namespace Lg
open Go Go.Proofs

/-! ### PriceOf -/
theorem grp_take (k : ByteArray) (G : List Gr) : ∃ (ad : Option Addr) (cap : Nat) (l : List Int) (R : List Chunk), mread k (.slice none 0 0) (gkv G) = Tr.raw (.slice ad l.length cap) ∧ gval k G = l ∧
    (∀ (Γ : Ctx) (env : Env) (cs cf : List Chunk), cs.Perm (Chunk.bun (gch G) :: cf) → Ent Γ env cs env (Chunk.own ad cap 1 3 (intRows l) :: Chunk.bun R :: cf)) ∧
    ∀ (ad' : Option Addr) (cap' : Nat) (l' : List Int), ∃ G' : List Gr, mset k (Tr.raw (.slice ad' l'.length cap')) (gkv G) = gkv G' ∧
      (∀ (Γ : Ctx) (env : Env) (cs cf cf' : List Chunk), cs.Perm (Chunk.own ad' cap' 1 3 (intRows l') :: cf') → cf'.Perm (Chunk.bun R :: cf) → Ent Γ env cs env (Chunk.bun (gch G') :: cf)) ∧
      gval k G' = l' ∧ ∀ j, j ≠ k → gval j G' = gval j G := by
  rcases g_split k G with ⟨A, g, B, rfl, rfl, hA⟩ | h
  · refine ⟨g.ad, g.cap, g.l, gch A ++ gch B, mread_in hA, gval_in hA, fun Γ env cs cf hp => ?_, fun ad' cap' l' => ⟨A ++ ⟨g.key, ad', cap', l'⟩ :: B, mset_in (g2 := ⟨g.key, ad', cap', l'⟩) rfl hA, fun Γ env cs cf cf' h1 h2 => ?_, ?_, fun j hj => gval_ne rfl hj⟩⟩
    · rw [gch_mid] at hp
      exact Ent.pull hp
    · rw [gch_mid]
      exact Ent.putb h1 h2
    · exact gval_in (g := ⟨g.key, ad', cap', l'⟩) hA
  · refine ⟨none, 0, [], gch G, mread_out h, gval_out h, fun Γ env cs cf hp => Ent.trans (Ent.perm hp) (Ent.nil 1 3), fun ad' cap' l' => ⟨G ++ [⟨k, ad', cap', l'⟩], mset_out (g := ⟨k, ad', cap', l'⟩) h, fun Γ env cs cf cf' h1 h2 => ?_, gval_snoc (g := ⟨k, ad', cap', l'⟩) h, fun j hj => gval_snoc_ne hj⟩⟩
    rw [gch_app]
    exact Ent.push h1 h2
theorem grp_turn (k : ByteArray) (G : List Gr) : ∃ (ad : Option Addr) (cap : Nat) (l : List Int) (R : List Chunk), mread k (.slice none 0 0) (gkv G) = Tr.raw (.slice ad l.length cap) ∧ gval k G = l ∧
    (∀ (Γ : Ctx) (env : Env) (cs cf : List Chunk), cs.Perm (Chunk.bun (gch G) :: cf) → Ent Γ env cs env (Chunk.own ad cap 1 3 (intRows l) :: Chunk.bun R :: cf)) ∧
    ∀ (l' : List Int), l'.length = l.length → ∃ G' : List Gr, gkv G' = gkv G ∧
      (∀ (Γ : Ctx) (env : Env) (cs cf cf' : List Chunk), cs.Perm (Chunk.own ad cap 1 3 (intRows l') :: cf') → cf'.Perm (Chunk.bun R :: cf) → Ent Γ env cs env (Chunk.bun (gch G') :: cf)) ∧
      gval k G' = l' ∧ ∀ j, j ≠ k → gval j G' = gval j G := by
  rcases g_split k G with ⟨A, g, B, rfl, rfl, hA⟩ | h
  · refine ⟨g.ad, g.cap, g.l, gch A ++ gch B, mread_in hA, gval_in hA, fun Γ env cs cf hp => ?_, fun l' hl => ⟨A ++ ⟨g.key, g.ad, g.cap, l'⟩ :: B, ?_, fun Γ env cs cf cf' h1 h2 => ?_, ?_, fun j hj => gval_ne rfl hj⟩⟩
    · rw [gch_mid] at hp
      exact Ent.pull hp
    · unfold gkv
      rw [List.map_append, List.map_append, List.map_cons, List.map_cons]
      unfold Gr.v
      simp only [hl]
    · rw [gch_mid]
      exact Ent.putb h1 h2
    · exact gval_in (g := ⟨g.key, g.ad, g.cap, l'⟩) hA
  · refine ⟨none, 0, [], gch G, mread_out h, gval_out h, fun Γ env cs cf hp => Ent.trans (Ent.perm hp) (Ent.nil 1 3), fun l' hl => ⟨G, rfl, fun Γ env cs cf cf' h1 h2 => Ent.trans (Ent.perm h1) (Ent.trans Ent.drop (Ent.perm h2)), ?_, fun j hj => rfl⟩⟩
    rw [List.eq_nil_of_length_eq_zero hl]
    exact gval_out h
theorem revA_fn (us : List Int) (hu : us.length ≤ 1000000) (ad : Option Addr) (cap n : Nat) (hn : n = us.length) : Spec Tryz.prog 37 [Tr.raw (.slice ad n cap)] [Chunk.own ad cap 1 3 (intRows us)]
    (fun r cs => cs = [Chunk.own ad cap 1 3 (intRows us.reverse)]) := by
  by_cases h0 : us.length = 0
  · have hus := List.eq_nil_of_length_eq_zero h0
    subst hus
    have h : PFn Tryz.prog 37 [Tr.raw (.slice ad n cap)] (· = .raw (.tuple #[])) := PFn.of_calls (args := [.slice ad n cap]) (fun vs w => rfl) (fun w => by
      rw [hn]
      refine (Any.slices_Reverse_int_empty Tryz.lays112 ad cap w).mono ?_
      rintro e w' ⟨rfl, rfl⟩
      exact ⟨rfl, Go.RowKit.Below.refl _ _, fun _ => Nat.le_refl _⟩)
    refine Spec.mono (h.spec.frame [Chunk.own ad cap 1 3 (intRows [])]) ?_
    rintro r cs ⟨c2, ⟨rfl, _⟩, rfl⟩
    rfl
  · refine Spec.mono (reverseInts Tryz.lays112 (fun vs w => rfl) (ad := ad) (cap := cap) (E := 3) (xs := us) hn (by omega) (by omega)) ?_
    rintro r cs ⟨_, rfl⟩
    rfl
instance : TyMap Tryz.prog 70 9 22 (.slice none 0 0) := ⟨Tryz.underlying70, ⟨_, rfl, rfl⟩⟩
instance : KeyTy Tryz.prog 9 Value.string := KeyTy.str Tryz.underlying9
theorem OpV.lookup_eqG {P : Program} {Γ : Ctx} {env : Env} {cs cf : List Chunk} {ty T K E : TypeId} {x y : Operand} {α : Type} [DecidableEq α] {enc : α → Value} {zv : Value} [hT : TyMap P T K E zv] [hK : KeyTy P K enc] {b : Nat} {a : α} {kv : List (α × Tr)} {t : Tr} (hx : ev env x = some (.raw (.map (some b)))) (hy : ev env y = some (.raw (enc a)))
    (hp : cs.Perm (Chunk.mp enc b kv :: cf)) (he : mread a zv kv = t) : OpW P Γ (.lookup T x y false) ty env cs t := he ▸ OpV.w (OpV.lookup hx hy hp)
theorem hiLo_def (l : List Int) : (l.mergeSort fun x y => decide (x ≤ y)).reverse = hiLo l := rfl
theorem intRows_snocK (l : List Int) (x : Int) : intRows l ++ [[Tr.int x]] = intRows (l ++ [x]) := by unfold intRows; rw [List.map_append]; rfl
theorem part_eq (l : List Int) (a m f : Nat) (h : f ≤ m) : ((l.drop a).take m).drop (m - f) = (l.drop (a + m - f)).take f := by
  rw [List.drop_take, List.drop_drop, show a + (m - f) = a + m - f by omega, show m - (m - f) = f by omega]
theorem gval_zero (w : List Wr) (g : ByteArray) (b : List Nm) : gval g [] = unitsG w g (b.take 0) := rfl
theorem gkv_nil : gkv [] = [] := rfl
theorem gch_nil : gch [] = [] := rfl
attribute [local irreducible] intRows strRows unitsG totG dOff hiLo wrD gkv gch gval mread
theorem priceOf_fn (w : List Wr) (d : List Dl) (bk : List Nm) (hE1 : dealE w d = 0) (hE2 : bskE w bk = 0) : PFn Tryz.prog 14 [.wrs w, .dls d, .nms bk] (· = .tup [.int (prcP w d bk).1, .strs (prcP w d bk).2]) := by
  obtain ⟨hwE, hbl, hbx⟩ := bask_ok hE2
  obtain ⟨hwl, hwp⟩ := wares_ok hwE
  obtain ⟨hdl, hdx⟩ := deal_ok hE1
  have hWL : (w.map Wr.row).length = w.length := List.length_map _
  have hDL : (d.map Dl.row).length = d.length := List.length_map _
  have hBL : (bk.map Nm.row).length = bk.length := List.length_map _
  obtain ⟨Z, hZ⟩ : ∃ Z, Z = prcP w d bk := ⟨_, rfl⟩
  rw [← hZ]
  clear hE1 hE2
  refine PFn.mk (Spec.body Tryz.func14 rfl rfl (Tryz.ntmps14) rfl fun w0 own0 M => ?_)
  repeat' (first | refine goH ?_ | (refine Ops.k_makeMap ?_; first | (refine Ops.makeMap Value.string rfl (fun bm => ?_))) | refine goV ?_ | refine goB (fun b => ?_) | refine goC (fun ad cap => ?_) | refine goI ?_ | (refine Cw.k_cond ?_; first | (refine Cw.cond_dec rfl (fun hc => ?_) (fun hc => ?_) <;> try (exfalso; omega)) | refine Cw.cond_bool rfl (fun hc => ?_) (fun hc => ?_)) | refine goR ?_ | refine goP ?_ | apply PSeq.cons | apply PSeq.yes rfl rfl rfl | exact goW | fail)
  refine Cw.ent Ent.bun0 ?_
  refine Cw.loopI [(0, _), (1, _), (9, _), (21, _), (22, _)] _ (fun q e c => ∃ (k : Nat) (T : Int) (kv : List (ByteArray × Tr)) (ch : List Chunk) (G : List Gr), q = bk.length - k ∧ (k ≤ bk.length ∧ T = totG w (bk.take k) ∧ (∀ g, gval g G = unitsG w g (bk.take k)) ∧ kv = gkv G ∧ ch = gch G) ∧ e = [(8, .int T), (23, .int k)] ∧ c = [Chunk.mp Value.string bm kv, Chunk.bun ch])
    ⟨_, _, _, (Ent.mkP goSub goPm), 0, 0, [], [], [], rfl, ⟨by omega, totG_zero w bk, fun g => gval_zero w g bk, gkv_nil.symm, gch_nil.symm⟩, rfl, rfl⟩ ?_
  rintro _ _ _ ⟨k, T, _, _, G, rfl, ⟨hk, hT0, hG, rfl, rfl⟩, rfl, rfl⟩
  by_cases hkl : k < bk.length
  · obtain ⟨x, hx⟩ := at_lt hkl
    have hrow : (bk.map Nm.row)[k]? = some [.str x.key, .int x.many] := rows_at hx
    obtain ⟨hsome, hm1, hm2⟩ := hbx x (List.mem_of_getElem? hx)
    have kw := wareOf_fn w (by omega) x.key
    rw [hsome] at kw
    have hyp := wrD_bd hwp x.key
    have hnext := totG_take (w := w) hx
    have hunext := fun g => unitsG_take (w := w) (g := g) hx
    have hT := totG_bd hwp (bk.take k) (fun z hz => (hbx z (List.mem_of_mem_take hz)).2)
    have hTl : (bk.take k).length ≤ 100 := by rw [List.length_take]; omega
    rw [← hT0] at hnext hT
    have hGl : ∀ g, (gval g G).length ≤ 10000 := fun g => by
      have h1 := unitsG_len (w := w) g (bk.take k) (fun z hz => (hbx z (List.mem_of_mem_take hz)).2.2)
      rw [hG g]; omega
    have hul : ∀ g, (unitsG w g (bk.take k)).length ≤ 10000 := fun g => by rw [← hG g]; exact hGl g
    unfold Wr.row at kw
    generalize wrD w x.key = y at *
    obtain ⟨yk, yp, yg⟩ := y
    obtain ⟨xkey, xmany⟩ := x
    simp only at hnext hrow hm1 hm2 kw hunext hyp
    obtain ⟨N, rfl⟩ : ∃ N : Nat, xmany = N := ⟨xmany.toNat, by omega⟩
    clear hx hsome hbx hwp hdx hZ hT0
    repeat' (first | refine goH ?_ | refine goV ?_ | refine goB (fun b => ?_) | refine goC (fun ad cap => ?_) | refine goI ?_ | (refine Cw.k_cond ?_; first | (refine Cw.cond_dec rfl (fun hc => ?_) (fun hc => ?_) <;> try (exfalso; omega)) | refine Cw.cond_bool rfl (fun hc => ?_) (fun hc => ?_)) | (refine Ops.k_calla ?_; first | (refine Ops.k_callf 24 ?_; refine Ops.callV kw (Evs.cons rfl (Evs.cons rfl Evs.nil)) rfl ?_)) | (apply OpW.k_call; first | (apply OpW.k_callf 24; exact OpW.callV kw (Evs.cons rfl (Evs.cons rfl Evs.nil)))) | refine goR ?_ | refine goP ?_ | apply PSeq.cons | apply PSeq.yes rfl rfl rfl | exact goW | fail)
    rename_i b11
    have hmul : ∀ i : Nat, i ≤ N → 0 ≤ yp * (i : Int) ∧ yp * (i : Int) ≤ 100000 * 100 := fun i hi => ⟨Int.mul_nonneg hyp.1 (by omega), Int.mul_le_mul hyp.2 (by omega) (by omega) (by omega)⟩
    have hms : ∀ i : Nat, yp * ((i + 1 : Nat) : Int) = yp * (i : Int) + yp := fun i => by rw [Int.natCast_add, Int.mul_add]; simp
    clear kw hrow
    refine Cw.loopI [(0, _), (1, _), (9, _), (12, _), (21, _), (22, _), (23, _), (35, _)] _ (fun q e c => ∃ (i : Nat) (T2 : Int) (kv : List (ByteArray × Tr)) (ch : List Chunk) (G : List Gr), q = N - i ∧ (i ≤ N ∧ T2 = T + yp * (i : Int) ∧ (∀ g, gval g G = unitsG w g (bk.take k) ++ (if yg = g then List.replicate i yp else [])) ∧ kv = gkv G ∧ ch = gch G) ∧ e = [(8, .int T2), (36, .int i)] ∧ c = [Chunk.mp Value.string bm kv, Chunk.bun ch])
      ⟨_, _, _, (Ent.mkP goSub goPm), 0, T, _, _, G, rfl, ⟨by omega, by simp, fun g => by rw [hG g]; split <;> simp, rfl, rfl⟩, rfl, rfl⟩ ?_
    clear hG hGl
    rintro _ _ _ ⟨i, T2, _, _, G, rfl, ⟨hi, hT2, hG, rfl, rfl⟩, rfl, rfl⟩
    have hmi := hmul i hi
    by_cases hin : i < N
    · obtain ⟨ad, cap, l0, R, hmr, hgv, hpull, hput⟩ := grp_take yg G
      have hl0 : l0.length ≤ 100000 := by
        have h1 := hG yg
        rw [hgv, if_pos rfl] at h1
        rw [h1, List.length_append, List.length_replicate]
        have := hul yg
        omega
      have hl0r := intRows_len l0
      obtain ⟨n, hn⟩ : ∃ n, n = l0.length := ⟨_, rfl⟩
      rw [← hn] at hmr hl0 hl0r
      refine Cw.ent (hpull _ _ _ _ goPk) ?_
      repeat' (first | refine goH ?_ | refine goV ?_ | refine goB (fun b => ?_) | refine goC (fun ad cap => ?_) | refine goI ?_ | (refine Cw.k_cond ?_; first | (refine Cw.cond_dec rfl (fun hc => ?_) (fun hc => ?_) <;> try (exfalso; omega)) | refine Cw.cond_bool rfl (fun hc => ?_) (fun hc => ?_)) | fail)
      first | refine Cw.region_YP (fun ξ S => stg (S 10) (Chunk.own ad cap 1 3 (intRows l0)) (ownV (ξ 10) 1 3 (intRows l0 ++ [[.int yp]])) :: Chunk.bun R :: stg (S 11) (Chunk.mp Value.string bm (gkv G)) (Chunk.mp Value.string bm (mset yg (Tr.raw (.slice (vAd (ξ 10)) (n + 1) (vCap (ξ 10)))) (gkv G))) :: Chunk.box b 48 [.str yk, .int yp, .str yg] :: Chunk.box b11 50 [.str xkey, .int N] :: []) rfl (by decide +kernel) rfl ((fun (ξ : Nat → Value) (S : Nat → Bool) => stg (S 10) (Chunk.own ad cap 1 3 (intRows l0)) (ownV (ξ 10) 1 3 (intRows l0 ++ [[.int yp]])) :: Chunk.bun R :: stg (S 11) (Chunk.mp Value.string bm (gkv G)) (Chunk.mp Value.string bm (mset yg (Tr.raw (.slice (vAd (ξ 10)) (n + 1) (vCap (ξ 10)))) (gkv G))) :: Chunk.box b 48 [.str yk, .int yp, .str yg] :: Chunk.box b11 50 [.str xkey, .int N] :: []) (fun _ => undef) (fun _ => false)) (by simp only [upd_same, updD_same, upd_ne, updD_ne, ne_eq, Nat.reduceEqDiff, not_false_eq_true, stg_t, stg_f, vAd_s, vCap_s, blk_p, List.cons_append, List.nil_append, b2n_t, b2n_f]; exact goXm) (fun _ => rfl) ?_ | fail
      apply YSeq.w (by intro _ _ _; rfl)
      · intro ξ S h1 h2 h3 h4
        have hN0_11 := closed_false h1 h3 (k := 11) rfl (by decide)
        try simp only [upd_same, updD_same, upd_ne, updD_ne, ne_eq, Nat.reduceEqDiff, not_false_eq_true, stg_t, stg_f, vAd_s, vCap_s, blk_p, List.cons_append, List.nil_append, b2n_t, b2n_f, hN0_11]
        exact goW
      · intro ξ v; rfl
      · intro ξ k v S h3 hn hk
        first
        | rfl
      apply YSeq.w (by intro _ _ _; rfl)
      · intro ξ S h1 h2 h3 h4
        have hN1_11 := closed_false h1 h3 (k := 11) rfl (by decide)
        try simp only [upd_same, updD_same, upd_ne, updD_ne, ne_eq, Nat.reduceEqDiff, not_false_eq_true, stg_t, stg_f, vAd_s, vCap_s, blk_p, List.cons_append, List.nil_append, b2n_t, b2n_f, hN1_11]
        exact goW
      · intro ξ v; rfl
      · intro ξ k v S h3 hn hk
        first
        | rfl
      apply YSeq.w (by intro _ _ _; rfl)
      · intro ξ S h1 h2 h3 h4
        have hN2_11 := closed_false h1 h3 (k := 11) rfl (by decide)
        try simp only [upd_same, updD_same, upd_ne, updD_ne, ne_eq, Nat.reduceEqDiff, not_false_eq_true, stg_t, stg_f, vAd_s, vCap_s, blk_p, List.cons_append, List.nil_append, b2n_t, b2n_f, hN2_11]
        exact goW
      · intro ξ v; rfl
      · intro ξ k v S h3 hn hk
        first
        | rfl
      apply YSeq.w (by intro _ _ _; rfl)
      · intro ξ S h1 h2 h3 h4
        have hN3_6 := closed_false h1 h3 (k := 6) rfl (by decide)
        have hN3_10 := closed_false hN3_6 h3 (k := 10) rfl (by decide)
        have hN3_11 := closed_false h1 h3 (k := 11) rfl (by decide)
        try simp only [upd_same, updD_same, upd_ne, updD_ne, ne_eq, Nat.reduceEqDiff, not_false_eq_true, stg_t, stg_f, vAd_s, vCap_s, blk_p, List.cons_append, List.nil_append, b2n_t, b2n_f, hN3_10, hN3_11]
        exact goW
      · intro ξ v; rfl
      · intro ξ k v S h3 hn hk
        first
        | rfl
      apply YSeq.w (by intro _ _ _; rfl)
      · intro ξ S h1 h2 h3 h4
        have hN4_5 := closed_false h1 h3 (k := 5) rfl (by decide)
        have hN4_6 := closed_false hN4_5 h3 (k := 6) rfl (by decide)
        have hN4_10 := closed_false hN4_6 h3 (k := 10) rfl (by decide)
        have hN4_11 := closed_false h1 h3 (k := 11) rfl (by decide)
        try simp only [upd_same, updD_same, upd_ne, updD_ne, ne_eq, Nat.reduceEqDiff, not_false_eq_true, stg_t, stg_f, vAd_s, vCap_s, blk_p, List.cons_append, List.nil_append, b2n_t, b2n_f, hN4_10, hN4_11]
        exact goW
      · intro ξ v; rfl
      · intro ξ k v S h3 hn hk
        first
        | rfl
      apply YSeq.w (by intro _ _ _; rfl)
      · intro ξ S h1 h2 h3 h4
        have hN5_6 := closed_false h1 h3 (k := 6) rfl (by decide)
        have hN5_10 := closed_false hN5_6 h3 (k := 10) rfl (by decide)
        have hN5_11 := closed_false h1 h3 (k := 11) rfl (by decide)
        try simp only [upd_same, updD_same, upd_ne, updD_ne, ne_eq, Nat.reduceEqDiff, not_false_eq_true, stg_t, stg_f, vAd_s, vCap_s, blk_p, List.cons_append, List.nil_append, b2n_t, b2n_f, hN5_10, hN5_11]
        exact goW
      · intro ξ v; rfl
      · intro ξ k v S h3 hn hk
        first
        | rfl
      apply YSeq.w (by intro _ _ _; rfl)
      · intro ξ S h1 h2 h3 h4
        have hN6_10 := closed_false h1 h3 (k := 10) rfl (by decide)
        have hN6_11 := closed_false h1 h3 (k := 11) rfl (by decide)
        try simp only [upd_same, updD_same, upd_ne, updD_ne, ne_eq, Nat.reduceEqDiff, not_false_eq_true, stg_t, stg_f, vAd_s, vCap_s, blk_p, List.cons_append, List.nil_append, b2n_t, b2n_f, hN6_10, hN6_11]
        exact OpV.lookup_eqG rfl rfl goPk hmr
      · intro ξ v; rfl
      · intro ξ k v S h3 hn hk
        first
        | rfl
      apply YSeq.w (by intro _ _ _; rfl)
      · intro ξ S h1 h2 h3 h4
        have hN7_8 := closed_false h1 h3 (k := 8) rfl (by decide)
        have hN7_9 := closed_false hN7_8 h3 (k := 9) rfl (by decide)
        have hN7_10 := closed_false hN7_9 h3 (k := 10) rfl (by decide)
        have hN7_11 := closed_false h1 h3 (k := 11) rfl (by decide)
        try simp only [upd_same, updD_same, upd_ne, updD_ne, ne_eq, Nat.reduceEqDiff, not_false_eq_true, stg_t, stg_f, vAd_s, vCap_s, blk_p, List.cons_append, List.nil_append, b2n_t, b2n_f, hN7_10, hN7_11]
        exact goW
      · intro ξ v; rfl
      · intro ξ k v S h3 hn hk
        first
        | rfl
      apply YSeq.w (by intro _ _ _; rfl)
      · intro ξ S h1 h2 h3 h4
        have hN8_9 := closed_false h1 h3 (k := 9) rfl (by decide)
        have hN8_10 := closed_false hN8_9 h3 (k := 10) rfl (by decide)
        have hN8_11 := closed_false h1 h3 (k := 11) rfl (by decide)
        try simp only [upd_same, updD_same, upd_ne, updD_ne, ne_eq, Nat.reduceEqDiff, not_false_eq_true, stg_t, stg_f, vAd_s, vCap_s, blk_p, List.cons_append, List.nil_append, b2n_t, b2n_f, hN8_10, hN8_11]
        exact goW
      · intro ξ v; rfl
      · intro ξ k v S h3 hn hk
        first
        | rfl
      apply YSeq.w (by intro _ _ _; rfl)
      · intro ξ S h1 h2 h3 h4
        have hN9_10 := closed_false h1 h3 (k := 10) rfl (by decide)
        have hN9_11 := closed_false h1 h3 (k := 11) rfl (by decide)
        try simp only [upd_same, updD_same, upd_ne, updD_ne, ne_eq, Nat.reduceEqDiff, not_false_eq_true, stg_t, stg_f, vAd_s, vCap_s, blk_p, List.cons_append, List.nil_append, b2n_t, b2n_f, hN9_10, hN9_11]
        exact goW
      · intro ξ v; rfl
      · intro ξ k v S h3 hn hk
        first
        | rfl
      apply YSeq.append (n + 1)
      · intro ξ S h1 h2 h3 h4
        have hN10_11 := closed_false h1 h3 (k := 11) rfl (by decide)
        simp only [upd_same, updD_same, upd_ne, updD_ne, ne_eq, Nat.reduceEqDiff, not_false_eq_true, stg_t, stg_f, vAd_s, vCap_s, blk_p, List.cons_append, List.nil_append, b2n_t, b2n_f, h1, hN10_11]
        refine ⟨_, _, _, _, _, _, rfl, rfl, goXp, (by first | rfl | (simp; done) | omega), (by first | rfl | omega | (simp; done) | (simp; omega)), (by first | omega | (simp; done) | (simp; omega)), (by first | omega | (simp; done) | (simp; omega)), fun ad' cap' => ?_⟩
        exact goXm
      apply YSeq.mapUpdate (enc := Value.string)
      · intro ξ S h1 h2 h3 h4
        have hY11_10 : S 10 = true := h2 10 (by decide)
        simp only [upd_same, updD_same, upd_ne, updD_ne, ne_eq, Nat.reduceEqDiff, not_false_eq_true, stg_t, stg_f, vAd_s, vCap_s, blk_p, List.cons_append, List.nil_append, b2n_t, b2n_f, hY11_10, h1]
        refine ⟨_, _, _, _, _, rfl, rfl, rfl, goXp, ?_⟩
        exact goXm
      refine YSeq.nil fun ξ hf => ?_
      refine ⟨[(0, _), (1, _), (9, _), (12, _), (21, _), (22, _), (23, _), (35, _), (8, _), (36, _)], _, Ent.trans (Ent.eqc rfl (by first | (simp only [upd_same, updD_same, upd_ne, updD_ne, ne_eq, Nat.reduceEqDiff, not_false_eq_true, stg_t, stg_f, vAd_s, vCap_s, blk_p, List.cons_append, List.nil_append, b2n_t, b2n_f, ownV, slV, ptV] <;> rfl) | rfl)) (Ent.sub goSub), ?_⟩
      clear hf
      generalize vAd (ξ 10) = ad48
      generalize vCap (ξ 10) = cap48
      obtain ⟨G2, hms2, hput2, hgv2, hgo2⟩ := hput ad48 cap48 (l0 ++ [yp])
      rw [show (l0 ++ [yp]).length = n + 1 by rw [List.length_append, hn]; rfl] at hms2
      rw [hms2, show intRows l0 ++ [[Tr.int yp]] = intRows (l0 ++ [yp]) from intRows_snocK _ _]
      refine Then.norm ?_
      refine Cw.ent (hput2 _ _ _ _ _ goPk goPk) ?_
      have hG2 : ∀ g, gval g G2 = unitsG w g (bk.take k) ++ (if yg = g then List.replicate (i + 1) yp else []) := fun g => by
        by_cases hg : yg = g
        · subst hg
          have h1 := hG yg
          rw [hgv, if_pos rfl] at h1
          rw [hgv2, if_pos rfl, h1, List.replicate_succ', List.append_assoc]
        · have h1 := hG g
          rw [if_neg hg] at h1
          rw [hgo2 g (fun e => hg e.symm), if_neg hg, h1]
      have hT3 : T2 + yp = T + yp * ((i + 1 : Nat) : Int) := by rw [hms i]; omega
      have hTb : 0 ≤ T ∧ T ≤ 1000000000 := by omega
      clear hG hput hput2 hpull hmr hms2
      repeat' (first | refine goH ?_ | refine goV ?_ | refine goB (fun b => ?_) | refine goC (fun ad cap => ?_) | refine goI ?_ | (refine Cw.k_cond ?_; first | (refine Cw.cond_dec rfl (fun hc => ?_) (fun hc => ?_) <;> try (exfalso; omega)) | refine Cw.cond_bool rfl (fun hc => ?_) (fun hc => ?_)) | refine goR ?_ | refine goP ?_ | apply PSeq.cons | apply PSeq.yes rfl rfl rfl | exact goW | fail)
      exact ⟨_, _, _, (Ent.mk goSub goTk), ⟨i + 1, T2 + yp, _, _, G2, rfl, ⟨by omega, hT3, hG2, rfl, rfl⟩, rfl, rfl⟩, by omega⟩
    · have hiN : i = N := by omega
      subst hiN
      have hG2 : ∀ g, gval g G = unitsG w g (bk.take (k + 1)) := fun g => by rw [hG g, hunext g, Int.toNat_natCast]
      rw [← hnext] at hT2
      repeat' (first | refine goH ?_ | refine goV ?_ | refine goB (fun b => ?_) | refine goC (fun ad cap => ?_) | refine goI ?_ | (refine Cw.k_cond ?_; first | (refine Cw.cond_dec rfl (fun hc => ?_) (fun hc => ?_) <;> try (exfalso; omega)) | refine Cw.cond_bool rfl (fun hc => ?_) (fun hc => ?_)) | refine goR ?_ | refine goP ?_ | apply PSeq.cons | apply PSeq.yes rfl rfl rfl | exact goW | fail)
      exact ⟨_, _, _, (Ent.mk goSub goTk), ⟨k + 1, T2, _, _, G, rfl, ⟨by omega, hT2, hG2, rfl, rfl⟩, rfl, rfl⟩, by omega⟩
  · rw [List.take_of_length_le (by omega)] at hT0 hG
    have hTb := totG_bd hwp bk (fun z hz => (hbx z hz).2)
    rw [← hT0] at hTb
    have hZ2 : Z = (d.drop 0).foldl (dlS w bk) (T, []) := by rw [hZ, hT0]; rfl
    have hGp : ∀ g, (gval g G).Perm (unitsG w g bk) := fun g => by rw [hG g]
    have hUl : ∀ g, (unitsG w g bk).length ≤ 10000 := fun g => by
      have := unitsG_len (w := w) g bk (fun z hz => (hbx z hz).2.2)
      omega
    have hUp := fun g => unitsG_bd hwp g bk
    clear hZ hT0 hG hbx hwp
    repeat' (first | refine goH ?_ | refine goV ?_ | refine goB (fun b => ?_) | refine goC (fun ad cap => ?_) | refine goI ?_ | (refine Cw.k_cond ?_; first | (refine Cw.cond_dec rfl (fun hc => ?_) (fun hc => ?_) <;> try (exfalso; omega)) | refine Cw.cond_bool rfl (fun hc => ?_) (fun hc => ?_)) | refine goR ?_ | refine goP ?_ | apply PSeq.cons | apply PSeq.yes rfl rfl rfl | exact goW | fail)
    clear hkl hk
    refine Cw.loopI [(9, _), (55, _), (56, _)] _ (fun q e c => ∃ (k : Nat) (P : Int) (K : List ByteArray) (rows : List (List Tr)) (n : Nat) (ad : Option Addr) (cap : Nat) (kv : List (ByteArray × Tr)) (ch : List Chunk) (G : List Gr), q = d.length - k ∧ (k ≤ d.length ∧ Z = (d.drop k).foldl (dlS w bk) (P, K) ∧ rows = strRows K ∧ rows.length = n ∧ n ≤ k ∧ -((k : Int) * 1000000000) ≤ P ∧ P ≤ 1000000000 ∧ (∀ g, (gval g G).Perm (unitsG w g bk)) ∧ kv = gkv G ∧ ch = gch G) ∧ e = [(8, .int P), (14, .raw (.slice ad n cap)), (57, .int k)] ∧ c = [Chunk.own ad cap 1 9 rows, Chunk.mp Value.string bm kv, Chunk.bun ch])
      ⟨_, _, _, Ent.trans (Ent.nil 1 9) (Ent.mkP goSub goPm), 0, T, [], [], 0, none, 0, _, _, G, rfl, ⟨by omega, hZ2, strRows_nil.symm, rfl, by omega, by omega, by omega, hGp, rfl, rfl⟩, rfl, rfl⟩ ?_
    clear hZ2 hTb hGp T G
    rintro _ _ _ ⟨k, P, K, rows, n, ad, cap, _, _, G, rfl, ⟨hk, hZ, hrows, hrn, hnk, hP1, hP2, hGp, rfl, rfl⟩, rfl, rfl⟩
    by_cases hkl : k < d.length
    rotate_left
    · rw [List.drop_of_length_le (by omega)] at hZ
      subst hZ
      repeat' (first | refine goH ?_ | refine goV ?_ | refine goB (fun b => ?_) | refine goC (fun ad cap => ?_) | refine goI ?_ | (refine Cw.k_cond ?_; first | (refine Cw.cond_dec rfl (fun hc => ?_) (fun hc => ?_) <;> try (exfalso; omega)) | refine Cw.cond_bool rfl (fun hc => ?_) (fun hc => ?_)) | refine goR ?_ | refine goP ?_ | apply PSeq.cons | apply PSeq.yes rfl rfl rfl | exact goW | fail)
      subst hrows
      exact Fin.ret (Ent.trans (Ent.settle (s := 7) rfl goPk hrn.symm) (Ent.take goTk)) (Outs.two rfl rfl rfl) ⟨rfl, rfl⟩
    obtain ⟨x, hx⟩ := at_lt hkl
    obtain ⟨hm1, hm2, hf1, hf2⟩ := hdx x (List.mem_of_getElem? hx)
    rw [drop_at hx, List.foldl_cons] at hZ
    have hrow : (d.map Dl.row)[k]? = some [.str x.key, .str x.group, .int x.many, .int x.free] := rows_at hx
    obtain ⟨xk, xg, xm, xf⟩ := x
    simp only at hm1 hm2 hf1 hf2 hrow
    obtain ⟨m, rfl⟩ : ∃ m : Nat, xm = m := ⟨xm.toNat, by omega⟩
    obtain ⟨f, rfl⟩ : ∃ f : Nat, xf = f := ⟨xf.toNat, by omega⟩
    obtain ⟨ad0, cap0, l0, R, hmr, hgv, hpull, hput⟩ := grp_turn xg G
    have hlp := hGp xg
    rw [hgv] at hlp
    have hll := hlp.length_eq
    have hUlg := hUl xg
    have kSo := sortA_fn l0 (by omega) ad0 cap0 l0.length rfl
    have hmsl : (l0.mergeSort fun x y => decide (x ≤ y)).length = l0.length := List.length_mergeSort _
    have kRe := revA_fn (l0.mergeSort fun x y => decide (x ≤ y)) (by omega) ad0 cap0 l0.length hmsl.symm
    have hSeq : hiLo (unitsG w xg bk) = hiLo l0 := hiLo_of_perm hlp.symm
    obtain ⟨G2, hkv2, hput2, hgv2, hgo2⟩ := hput (hiLo l0) (hiLo_len l0)
    have hGp2 : ∀ g, (gval g G2).Perm (unitsG w g bk) := fun g => by
      by_cases hg : g = xg
      · subst hg
        rw [hgv2]
        exact (hiLo_perm l0).trans hlp
      · rw [hgo2 g hg]
        exact hGp g
    have hSp : ∀ y ∈ hiLo l0, 0 ≤ y ∧ y ≤ 100000 := fun y hy => hUp xg y (hlp.mem_iff.1 ((hiLo_perm l0).mem_iff.1 hy))
    have hsl := hiLo_len l0
    have hZ2 : Z = (d.drop (k + 1)).foldl (dlS w bk) (P - dOff m f (hiLo l0), if m ≤ l0.length then K ++ [xk] else K) := by
      rw [hZ]
      unfold dlS
      simp only [Int.toNat_natCast]
      rw [hSeq, ← hll]
    have hrev : (l0.mergeSort fun x y => decide (x ≤ y)).reverse = hiLo l0 := hiLo_def l0
    rw [hrev] at kRe
    generalize hiLo l0 = S0 at *
    generalize (l0.mergeSort fun x y => decide (x ≤ y)) = S1 at *
    have hS0r := intRows_len S0
    have hs0 := sumQ_bd hSp
    have hs1 : ((S0.length : Nat) : Int) * 100000 ≤ 10000 * 100000 := Int.mul_le_mul_of_nonneg_right (by omega) (by omega)
    clear hx hZ hput hGp hgv hgv2 hgo2 hSeq hlp hrev hmsl
    repeat' (first | refine goH ?_ | (refine Ops.k_lookup ?_; first | (refine Ops.lookup rfl rfl goPk rfl ?_; rw [hmr])) | ((fail_if_success refine Ops.k_c_call ?_); refine goV ?_) | ((fail_if_success refine Ops.k_c_call ?_); refine goB (fun b => ?_)) | ((fail_if_success refine Ops.k_c_call ?_); refine goC (fun ad cap => ?_)) | refine goI ?_ | (refine Cw.k_cond ?_; first | (refine Cw.cond_dec rfl (fun hc => ?_) (fun hc => ?_) <;> try (exfalso; omega)) | refine Cw.cond_bool rfl (fun hc => ?_) (fun hc => ?_)) | refine goR ?_ | refine goP ?_ | apply PSeq.cons | apply PSeq.yes rfl rfl rfl | exact goW | fail)
    refine Ops.ent (hpull _ _ _ _ goPk) ?_
    clear hpull hmr
    repeat' (first | refine goH ?_ | refine goV ?_ | refine goB (fun b => ?_) | refine goC (fun ad cap => ?_) | refine goI ?_ | (refine Cw.k_cond ?_; first | (refine Cw.cond_dec rfl (fun hc => ?_) (fun hc => ?_) <;> try (exfalso; omega)) | refine Cw.cond_bool rfl (fun hc => ?_) (fun hc => ?_)) | (refine Ops.k_calla ?_; first | (refine Ops.k_callf 36 ?_; (refine Ops.call kSo (Evs.cons rfl Evs.nil) goPm rfl ?_; rintro r cs' rfl)) | (refine Ops.k_callf 37 ?_; (refine Ops.call kRe (Evs.cons rfl Evs.nil) goPm rfl ?_; rintro r cs' rfl))) | refine goR ?_ | refine goP ?_ | apply PSeq.cons | apply PSeq.yes rfl rfl rfl | exact goW | fail)
    clear kSo kRe
    refine Cw.loopI [(9, _), (14, _), (16, _), (17, _), (55, _), (56, _), (57, _)] _ (fun q e c => ∃ (a kk : Nat) (p : Int) (made : Bool), q = S0.length - a ∧ (kk = a + m ∧ a ≤ S0.length ∧ P - dOff m f S0 = p - dOff m f (S0.drop a) ∧ p ≤ P ∧ P - sumQ S0 ≤ p - sumQ (S0.drop a) ∧ made = decide (0 < a) ∧ (0 < a → m ≤ S0.length)) ∧ e = [(8, .int p), (18, .bool made), (19, .int (kk : Int))] ∧ c = [Chunk.own ad0 cap0 1 3 (intRows S0)])
      ⟨_, _, _, (Ent.mkP goSub goPm), 0, m, P, false, rfl, ⟨by omega, by omega, by rw [List.drop_zero], by omega, by rw [List.drop_zero]; omega, by simp, by omega⟩, rfl, rfl⟩ ?_
    rintro _ _ _ ⟨a, kk, p, made, rfl, ⟨hkk, ha, hD, hpP, hlo, hmade, hml⟩, rfl, rfl⟩
    subst hkk
    have hSa : ∀ y ∈ S0.drop a, 0 ≤ y ∧ y ≤ 100000 := fun y hy => hSp y (List.mem_of_mem_drop hy)
    have hsa := sumQ_bd hSa
    have hdl : (S0.drop a).length = S0.length - a := List.length_drop
    by_cases hin : a + m ≤ S0.length
    · have kP := fun cap2 => sumP_fn S0 ad0 cap0 cap2 (a + m - f) f (by omega) (by omega) hSp
      rw [← part_eq S0 a m f (by omega)] at kP
      have hstep := dOff_step (f := f) (S := S0.drop a) (show 1 ≤ m by omega) (by omega)
      rw [List.drop_drop] at hstep
      have hsum : sumQ ((S0.drop a).take m) + sumQ (S0.drop (a + m)) = sumQ (S0.drop a) := by rw [← List.drop_drop, ← sumQ_app, List.take_append_drop]
      obtain ⟨Q, hQ⟩ : ∃ Q, Q = ((S0.drop a).take m).drop (m - f) := ⟨_, rfl⟩
      have hsum2 : sumQ (((S0.drop a).take m).take (m - f)) + sumQ Q = sumQ ((S0.drop a).take m) := by rw [hQ, ← sumQ_app, List.take_append_drop]
      have hsum3 := (sumQ_bd (l := ((S0.drop a).take m).take (m - f)) (fun y hy => hSa y (List.mem_of_mem_take (List.mem_of_mem_take hy)))).1
      have hQp : ∀ y ∈ Q, 0 ≤ y ∧ y ≤ 100000 := fun y hy => by rw [hQ] at hy; exact hSa y (List.mem_of_mem_take (List.mem_of_mem_drop hy))
      have hQl : Q.length = f := by rw [hQ, List.length_drop, List.length_take]; omega
      have hQ0 := sumQ_bd hQp
      have hSd2 := (sumQ_bd (l := S0.drop (a + m)) (fun y hy => hSp y (List.mem_of_mem_drop hy))).1
      rw [← hQ] at kP hstep
      generalize sumQ Q = sq at *
      have e1 : (((a + m : Nat) : Int) - (f : Int)).toNat = a + m - f := by omega
      have e2 : (((a + m : Nat) : Int) - (((a + m : Nat) : Int) - (f : Int))).toNat = f := by omega
      clear hSa hQ hQp
      repeat' (first | refine goH ?_ | (refine Ops.k_slice ?_; first | (refine Ops.slice_own_lh rfl rfl rfl goPk (by omega) (by omega) rfl ?_; rw [e1, e2])) | refine goV ?_ | refine goB (fun b => ?_) | refine goC (fun ad cap => ?_) | refine goI ?_ | (refine Cw.k_cond ?_; first | (refine Cw.cond_dec rfl (fun hc => ?_) (fun hc => ?_) <;> try (exfalso; omega)) | refine Cw.cond_bool rfl (fun hc => ?_) (fun hc => ?_)) | (refine Ops.k_calla ?_; first | (refine Ops.k_callf 38 ?_; (refine Ops.call (kP _) (Evs.cons rfl Evs.nil) goPm rfl ?_; rintro r cs' ⟨rfl, rfl⟩))) | refine goR ?_ | refine goP ?_ | apply PSeq.cons | apply PSeq.yes rfl rfl rfl | exact goW | fail)
      rw [show ((a + m : Nat) : Int) + (m : Int) = ((a + m + m : Nat) : Int) by omega]
      exact ⟨_, _, _, (Ent.mk goSub goTk), ⟨a + m, a + m + m, p - sq, true, rfl, ⟨rfl, hin, by omega, by omega, by omega, by simp; omega, by omega⟩, rfl, rfl⟩, by omega⟩
    rw [dOff_end (f := f) (S := S0.drop a) (by omega)] at hD
    by_cases ha0 : 0 < a
    · have hmd : made = true := by rw [hmade, decide_eq_true ha0]
      subst hmd
      rw [if_pos (by have := hml ha0; omega)] at hZ2
      repeat' (first | refine goH ?_ | refine goV ?_ | refine goB (fun b => ?_) | refine goC (fun ad cap => ?_) | refine goI ?_ | (refine Cw.k_cond ?_; first | (refine Cw.cond_dec rfl (fun hc => ?_) (fun hc => ?_) <;> try (exfalso; omega)) | refine Cw.cond_bool rfl (fun hc => ?_) (fun hc => ?_)) | refine goR ?_ | refine goP ?_ | apply PSeq.cons | apply PSeq.yes rfl rfl rfl | exact goW | fail)
      obtain ⟨rows2, hr22⟩ : ∃ rows2, rows2 = rows ++ [[Tr.str xk]] := ⟨_, rfl⟩
      have hrows2 : rows2 = strRows (K ++ [xk]) := by rw [hr22, hrows, strRows_snocK]
      have hrn2 : rows2.length = n + 1 := by rw [hr22, List.length_append, hrn]; rfl
      rw [← hr22, hrn2]
      exact ⟨_, _, _, Ent.trans (hput2 _ _ _ _ _ goPk goPk) (Ent.mk goSub goTk), ⟨k + 1, p, K ++ [xk], rows2, n + 1, _, _, _, _, G2, rfl, ⟨by omega, by rw [hZ2, hD, Int.sub_zero], hrows2, hrn2, by omega, by omega, by omega, hGp2, hkv2.symm, rfl⟩, rfl, rfl⟩, by omega⟩
    · have hmd : made = false := by rw [hmade, decide_eq_false ha0]
      subst hmd
      rw [if_neg (by omega)] at hZ2
      repeat' (first | refine goH ?_ | refine goV ?_ | refine goB (fun b => ?_) | refine goC (fun ad cap => ?_) | refine goI ?_ | (refine Cw.k_cond ?_; first | (refine Cw.cond_dec rfl (fun hc => ?_) (fun hc => ?_) <;> try (exfalso; omega)) | refine Cw.cond_bool rfl (fun hc => ?_) (fun hc => ?_)) | refine goR ?_ | refine goP ?_ | apply PSeq.cons | apply PSeq.yes rfl rfl rfl | exact goW | fail)
      exact ⟨_, _, _, Ent.trans (hput2 _ _ _ _ _ goPk goPk) (Ent.mk goSub goTk), ⟨k + 1, p, K, rows, n, _, _, _, _, G2, rfl, ⟨by omega, by rw [hZ2, hD, Int.sub_zero], hrows, hrn, by omega, by omega, by omega, hGp2, hkv2.symm, rfl⟩, rfl, rfl⟩, by omega⟩
end Lg
end
