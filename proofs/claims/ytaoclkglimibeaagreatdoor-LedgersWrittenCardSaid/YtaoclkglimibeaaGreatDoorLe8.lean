/- A part of the proof of a law of this seat: it adds no condition. By an AI agent. -/
import Derived.Test.YtaoclkglimibeaaGreatDoorLe6
section
set_option linter.all false
set_option maxRecDepth 100000
set_option maxHeartbeats 8000000
namespace Lg
open Go Go.Proofs

/-! ### the two ledgers in memory; Lines and Balance -/
def rowP (p : Ps) (f : Bool) : List Tr := [.int p.e.day, .str p.e.text, .lns p.e.ls, .int p.back, .bool f]
def rowsF (f : Nat → Bool) : List Ps → Nat → List (List Tr)
  | [], _ => []
  | p :: L, i => rowP p (f i) :: rowsF f L (i + 1)
theorem rowsF_len (f : Nat → Bool) : ∀ (L : List Ps) (i : Nat), (rowsF f L i).length = L.length
  | [], _ => rfl
  | p :: L, i => by rw [rowsF, List.length_cons, List.length_cons, rowsF_len f L]
theorem rowsF_at (f : Nat → Bool) : ∀ {L : List Ps} {i k : Nat} {p : Ps}, L[k]? = some p → (rowsF f L i)[k]? = some (rowP p (f (i + k)))
  | [], i, k, p, h => by cases h
  | q :: L, i, 0, p, h => by cases h; rfl
  | q :: L, i, k + 1, p, h => by
    rw [rowsF, List.getElem?_cons_succ, rowsF_at f (L := L) (i := i + 1) (k := k) (p := p) h, Nat.add_assoc, Nat.add_comm 1 k]
theorem rowsF_snoc (f : Nat → Bool) (p : Ps) : ∀ (L : List Ps) (i : Nat), rowsF f (L ++ [p]) i = rowsF f L i ++ [rowP p (f (i + L.length))]
  | [], i => rfl
  | q :: L, i => by
    rw [List.cons_append, rowsF, rowsF, rowsF_snoc f p L (i + 1), List.cons_append, List.length_cons, Nat.add_assoc, Nat.add_comm 1]
theorem rowsF_congr {f g : Nat → Bool} : ∀ {L : List Ps} {i : Nat}, (∀ j, i ≤ j → j < i + L.length → f j = g j) → rowsF f L i = rowsF g L i
  | [], i, h => rfl
  | q :: L, i, h => by
    rw [rowsF, rowsF, h i (Nat.le_refl _) (by rw [List.length_cons]; omega), rowsF_congr (L := L) (i := i + 1) (fun j h1 h2 => h j (by omega) (by rw [List.length_cons]; omega))]
theorem rowsF_set (f : Nat → Bool) : ∀ {L : List Ps} {i k : Nat} {p : Ps} {b : Bool}, L[k]? = some p → (rowsF f L i).set k (rowP p b) = rowsF (fun j => if j = i + k then b else f j) L i
  | [], i, k, p, b, h => by cases h
  | q :: L, i, 0, p, b, h => by
    cases h
    rw [rowsF, List.set_cons_zero, rowsF, if_pos (Nat.add_zero i).symm]
    congr 1
    exact rowsF_congr fun j h1 h2 => by rw [if_neg (by omega)]
  | q :: L, i, k + 1, p, b, h => by
    rw [rowsF, List.set_cons_succ, rowsF_set f (L := L) (i := i + 1) (k := k) (p := p) (b := b) h, rowsF, if_neg (by omega)]
    congr 1
    exact rowsF_congr fun j h1 h2 => by
      by_cases e : j = i + (k + 1)
      · rw [if_pos (by omega), if_pos e]
      · rw [if_neg (by omega), if_neg e]
def enR (p : Ps) : List Tr := p.e.row
abbrev ledX (b : Nat) (ad : Option Addr) (n cap bm : Nat) : Chunk := Chunk.box b 76 [Tr.raw (.slice ad n cap), Tr.raw (.map (some bm))]
abbrev ledY (b : Nat) (ad : Option Addr) (n cap : Nat) (ad2 : Option Addr) (n2 cap2 : Nat) : Chunk := Chunk.box b 87 [Tr.raw (.slice ad n cap), Tr.raw (.slice ad2 n2 cap2)]
abbrev ownX (ad : Option Addr) (cap : Nat) (f : Nat → Bool) (L : List Ps) : Chunk := Chunk.own ad cap 5 78 (rowsF f L 0)
abbrev ownE (ad : Option Addr) (cap : Nat) (L : List Ps) : Chunk := Chunk.own ad cap 3 52 (L.map enR)
def OkP (p : Ps) : Prop := p.e.ls.length ≤ 20 ∧ ∀ x ∈ p.e.ls, -1000000000 ≤ x.c ∧ x.c ≤ 1000000000
def OkL (L : List Ps) : Prop := L.length ≤ 2000 ∧ ∀ p ∈ L, OkP p
abbrev Tr.pos (l : List Po) : Tr := Tr.sl 5 (l.map Po.row)
def linT (a : ByteArray) (L : List Ps) : Tr := if isKey a = false then .tup [.pos [], .int 5] else .tup [.pos (linO a L), .int 0]
theorem linA_step {a : ByteArray} {L : List Ps} {k : Nat} {p : Ps} (h : L[k]? = some p) (s : Int × List Po) : linA a (L.drop k) k s = linA a (L.drop (k + 1)) (k + 1) (lin1 a ((k : Int) + 1) p.e p.e.ls s) := by
  obtain ⟨hlt, e⟩ := List.getElem?_eq_some_iff.1 h
  rw [List.drop_eq_getElem_cons hlt, e, linA]
theorem lin1_step {a : ByteArray} {no : Int} {e : En} {l : List Ln} {j : Nat} {x : Ln} (h : l[j]? = some x) (s : Int × List Po) : lin1 a no e (l.drop j) s = lin1 a no e (l.drop (j + 1)) (if x.acc = a then (s.1 + x.c, s.2 ++ [⟨no, e.day, e.text, x.c, s.1 + x.c⟩]) else s) := by
  obtain ⟨hlt, e⟩ := List.getElem?_eq_some_iff.1 h
  rw [List.drop_eq_getElem_cons hlt, e, lin1]
theorem po_snoc (l : List Po) (x : Po) : l.map Po.row ++ [[Tr.int x.no, Tr.int x.day, Tr.str x.text, Tr.int x.c, Tr.int x.sum]] = (l ++ [x]).map Po.row := by rw [List.map_append]; rfl
attribute [local irreducible] linA lin1
theorem linY_fn (b n cap bm : Nat) (ad ad2 : Option Addr) (n2 cap2 : Nat) (f : Nat → Bool) (L : List Ps) (a : ByteArray) (hok : OkL L) (hn : n = L.length) :
    Spec Tryz.prog 68 [.ptr b, .str a] [(ledY b ad n cap ad2 n2 cap2), (ownE ad cap L)] (fun r cs => r = linT a L ∧ cs = [(ledY b ad n cap ad2 n2 cap2), (ownE ad cap L)]) := by
  have hL : (rowsF f L 0).length = n := by rw [rowsF_len, hn]
  have hL2 : (L.map enR).length = n := by rw [List.length_map, hn]
  have kk := keyOf_fn a
  have hlen : L.length ≤ 2000 := hok.1
  refine Spec.body Tryz.func68 rfl rfl (Tryz.ntmps68) rfl fun w0 own0 M => ?_
  unfold linT
  cases hq : isKey a
  · rw [hq] at kk
    rw [if_pos rfl]
    repeat' (first | refine goH ?_ | refine goV ?_ | refine goB (fun b => ?_) | refine goC (fun ad cap => ?_) | refine goI ?_ | (refine Cw.k_cond ?_; first | (refine Cw.cond_dec rfl (fun hc => ?_) (fun hc => ?_) <;> try (exfalso; omega)) | refine Cw.cond_bool rfl (fun hc => ?_) (fun hc => ?_)) | (refine Ops.k_calla ?_; first | (refine Ops.k_callf 67 ?_; refine Ops.callV kk (Evs.cons rfl Evs.nil) rfl ?_)) | fail)
    exact Fin.ret (Ent.trans (Ent.nilsl 5 (s := 4) rfl) (Ent.take goTk)) (Outs.many rfl (OutL.cons goOe (OutL.cons goOe OutL.nil)) rfl) ⟨rfl, rfl⟩
  rw [hq] at kk
  rw [if_neg (by decide)]
  have hV0 : linO a L = (linA a (L.drop 0) 0 (0, [])).2 := rfl
  generalize linO a L = R at *
  repeat' (first | refine goH ?_ | refine goV ?_ | refine goB (fun b => ?_) | refine goC (fun ad cap => ?_) | refine goI ?_ | (refine Cw.k_cond ?_; first | (refine Cw.cond_dec rfl (fun hc => ?_) (fun hc => ?_) <;> try (exfalso; omega)) | refine Cw.cond_bool rfl (fun hc => ?_) (fun hc => ?_)) | (refine Ops.k_calla ?_; first | (refine Ops.k_callf 67 ?_; refine Ops.callV kk (Evs.cons rfl Evs.nil) rfl ?_)) | fail)
  refine Cw.loopI [(1, _), (18, _), (19, _)] _ (fun q e cc => ∃ (k : Nat) (s : Int) (O : List Po) (ado : Option Addr) (co no : Nat), q = n - k ∧ (k ≤ n ∧ R = (linA a (L.drop k) k (s, O)).2 ∧ -20000000000 * (k : Int) ≤ s ∧ s ≤ 20000000000 * (k : Int) ∧ no = O.length ∧ no ≤ 20 * k) ∧ e = [(6, Tr.raw (.slice ado no co)), (7, .int s), (20, .int k)] ∧ cc = [Chunk.own ado co 5 117 (O.map Po.row)])
    ⟨_, _, _, Ent.trans (Ent.nil 5 117) (Ent.mkP goSub goPm), 0, 0, [], none, 0, 0, rfl, ⟨by omega, hV0, by omega, by omega, rfl, by omega⟩, rfl, rfl⟩ ?_
  clear hV0
  rintro _ _ _ ⟨k, s, O, ado, co, no, rfl, ⟨hk, hV, hs1, hs2, hno, hno2⟩, rfl, rfl⟩
  have hOL : (O.map Po.row).length = no := by rw [List.length_map, hno]
  by_cases hkn : k < n
  rotate_left
  · have hR : R = O := by rw [hV, show L.drop k = [] from List.drop_of_length_le (by omega)]; with_unfolding_all rfl
    rw [hR]
    repeat' (first | refine goH ?_ | refine goV ?_ | refine goB (fun b => ?_) | refine goC (fun ad cap => ?_) | refine goI ?_ | (refine Cw.k_cond ?_; first | (refine Cw.cond_dec rfl (fun hc => ?_) (fun hc => ?_) <;> try (exfalso; omega)) | refine Cw.cond_bool rfl (fun hc => ?_) (fun hc => ?_)) | fail)
    exact Fin.ret (Ent.trans (Ent.settle (s := 4) rfl goPk hOL.symm) (Ent.take goTk)) (Outs.many rfl (OutL.cons goOe (OutL.cons goOe OutL.nil)) rfl) ⟨rfl, rfl⟩
  obtain ⟨p, hp⟩ := at_lt (l := L) (k := k) (by omega)
  have hpo := hok.2 p (List.mem_of_getElem? hp)
  have hls : p.e.ls.length ≤ 20 := hpo.1
  have hlr : (p.e.ls.map Ln.row).length = p.e.ls.length := List.length_map _
  rw [linA_step hp] at hV
  (have hrow:=rows_at (f:=enR) hp)
  unfold rowP at hrow
  repeat' (first | refine goH ?_ | refine goV ?_ | refine goB (fun b => ?_) | refine goC (fun ad cap => ?_) | refine goI ?_ | (refine Cw.k_cond ?_; first | (refine Cw.cond_dec rfl (fun hc => ?_) (fun hc => ?_) <;> try (exfalso; omega)) | refine Cw.cond_bool rfl (fun hc => ?_) (fun hc => ?_)) | fail)
  refine Cw.loopI [(1, _), (8, _), (9, _), (18, _), (19, _), (20, _), (26, _), (27, _)] _ (fun q e cc => ∃ (j : Nat) (s' : Int) (O' : List Po) (ado' : Option Addr) (co' no' : Nat), q = p.e.ls.length - j ∧ (j ≤ p.e.ls.length ∧ R = (linA a (L.drop (k + 1)) (k + 1) (lin1 a ((k : Int) + 1) p.e (p.e.ls.drop j) (s', O'))).2 ∧ -20000000000 * (k : Int) - 1000000000 * (j : Int) ≤ s' ∧ s' ≤ 20000000000 * (k : Int) + 1000000000 * (j : Int) ∧ no' = O'.length ∧ no' ≤ 20 * k + j) ∧ e = [(6, Tr.raw (.slice ado' no' co')), (7, .int s'), (28, .int j)] ∧ cc = [Chunk.own ado' co' 5 117 (O'.map Po.row)])
    ⟨_, _, _, (Ent.mkP goSub goPm), 0, s, O, ado, co, no, rfl, ⟨by omega, hV, by omega, by omega, hno, by omega⟩, rfl, rfl⟩ ?_
  clear hV hs1 hs2 hno hno2 hOL
  rintro _ _ _ ⟨j, s, O, ado, co, no, rfl, ⟨hj, hV, hs1, hs2, hno, hno2⟩, rfl, rfl⟩
  have hOL : (O.map Po.row).length = no := by rw [List.length_map, hno]
  by_cases hjn : j < p.e.ls.length
  rotate_left
  · rw [show p.e.ls.drop j = [] from List.drop_of_length_le (by omega)] at hV
    have hV2 : R = (linA a (L.drop (k + 1)) (k + 1) (s, O)).2 := by rw [hV]; congr 2; with_unfolding_all rfl
    clear hV
    repeat' (first | refine goH ?_ | refine goV ?_ | refine goB (fun b => ?_) | refine goC (fun ad cap => ?_) | refine goI ?_ | (refine Cw.k_cond ?_; first | (refine Cw.cond_dec rfl (fun hc => ?_) (fun hc => ?_) <;> try (exfalso; omega)) | refine Cw.cond_bool rfl (fun hc => ?_) (fun hc => ?_)) | fail)
    exact ⟨_, _, _, (Ent.mk goSub goTk), ⟨k + 1, s, O, ado, co, no, rfl, ⟨by omega, hV2, by omega, by omega, hno, by omega⟩, rfl, rfl⟩, by omega⟩
  obtain ⟨x, hx⟩ := at_lt (l := p.e.ls) (k := j) (by omega)
  have hxc := hpo.2 x (List.mem_of_getElem? hx)
  have hr2 : (p.e.ls.map Ln.row)[j]? = some [.str x.acc, .int x.c] := rows_at hx
  rw [lin1_step hx] at hV
  by_cases hac : x.acc = a
  · rw [if_pos hac] at hV
    repeat' (first | refine goH ?_ | (refine Ops.k_b_eql ?_; first | refine Ops.eqlS_t rfl rfl hac rfl ?_) | refine goV ?_ | refine goB (fun b => ?_) | refine goC (fun ad cap => ?_) | refine goI ?_ | (refine Cw.k_cond ?_; first | (refine Cw.cond_dec rfl (fun hc => ?_) (fun hc => ?_) <;> try (exfalso; omega)) | refine Cw.cond_bool rfl (fun hc => ?_) (fun hc => ?_)) | fail)
    rw [po_snoc O ⟨(k : Int) + 1, p.e.day, p.e.text, x.c, s + x.c⟩]
    exact ⟨_, _, _, (Ent.mk goSub goTk), ⟨j + 1, s + x.c, O ++ [⟨(k : Int) + 1, p.e.day, p.e.text, x.c, s + x.c⟩], _, _, _, rfl, ⟨by omega, hV, by omega, by omega, List.length_map _, by rw [List.length_map, List.length_append, ← hno]; simp only [List.length_cons, List.length_nil]; omega⟩, rfl, rfl⟩, by omega⟩
  · rw [if_neg hac] at hV
    repeat' (first | refine goH ?_ | (refine Ops.k_b_eql ?_; first | refine Ops.eqlS_f rfl rfl hac rfl ?_) | refine goV ?_ | refine goB (fun b => ?_) | refine goC (fun ad cap => ?_) | refine goI ?_ | (refine Cw.k_cond ?_; first | (refine Cw.cond_dec rfl (fun hc => ?_) (fun hc => ?_) <;> try (exfalso; omega)) | refine Cw.cond_bool rfl (fun hc => ?_) (fun hc => ?_)) | fail)
    exact ⟨_, _, _, (Ent.mk goSub goTk), ⟨j + 1, s, O, _, _, no, rfl, ⟨by omega, hV, by omega, by omega, hno, by omega⟩, rfl, rfl⟩, by omega⟩
end Lg
end
section
set_option linter.all false
set_option maxRecDepth 100000
set_option maxHeartbeats 8000000
namespace Lg
open Go Go.Proofs

/-! ### the map of sums; Balance; add -/
instance : TyMap Tryz.prog 74 9 3 (.int .i64 0) := ⟨Tryz.underlying74, ⟨_, rfl, rfl⟩⟩
instance : KeyTy Tryz.prog 9 Value.string := KeyTy.str Tryz.underlying9
theorem OpV.lookupQ {P : Program} {Γ : Ctx} {env : Env} {cs cf : List Chunk} {ty T K E : TypeId} {x y : Operand} {α : Type} [DecidableEq α] {enc : α → Value} {zv : Value} [hT : TyMap P T K E zv] [hK : KeyTy P K enc] {b : Nat} {a : α} {kv : List (α × Tr)} {t : Tr} (hx : ev env x = some (.raw (.map (some b)))) (hy : ev env y = some (.raw (enc a)))
    (hp : cs.Perm (Chunk.mp enc b kv :: cf)) (he : mread a zv kv = t) : OpW P Γ (.lookup T x y false) ty env cs t := he ▸ OpV.w (OpV.lookup hx hy hp)
abbrev sumC' (bm : Nat) (m : List (ByteArray × Int)) : Chunk := Chunk.mp Value.string bm (tkv m)
/-- the map of sums says what the entries say -/
structure MI (m : List (ByteArray × Int)) (L : List Ps) : Prop where
  nd : (m.map Prod.fst).Nodup
  keys : ∀ a, a ∈ m.map Prod.fst ↔ a ∈ accs L
  val : ∀ a, mI a m = bal a L
def addM (m : List (ByteArray × Int)) (l : List Ln) : List (ByteArray × Int) := l.foldl (fun m x => mAdd x.acc x.c m) m
theorem addM_step {m : List (ByteArray × Int)} {l : List Ln} {k : Nat} {x : Ln} (h : l[k]? = some x) : addM m (l.take (k + 1)) = mAdd x.acc x.c (addM m (l.take k)) := by
  unfold addM
  rw [List.take_add_one, h, Option.toList_some, List.foldl_append]
  rfl
theorem addM_val (a : ByteArray) : ∀ (l : List Ln) (m : List (ByteArray × Int)), mI a (addM m l) = mI a m + lnsOf a l
  | [], m => by unfold addM lnsOf; simp
  | x :: l, m => by
    have := addM_val a l (mAdd x.acc x.c m)
    unfold addM at this ⊢
    rw [List.foldl_cons, this, lnsOf]
    unfold mAdd
    rw [mI_up]
    by_cases h : x.acc = a
    · rw [if_pos h.symm, if_pos h, h]; omega
    · rw [if_neg (fun e => h e.symm), if_neg h]; omega
theorem addM_nd : ∀ {l : List Ln} {m : List (ByteArray × Int)}, (m.map Prod.fst).Nodup → ((addM m l).map Prod.fst).Nodup
  | [], m, h => h
  | x :: l, m, h => addM_nd (l := l) (m := mAdd x.acc x.c m) (mUp_nodup h)
theorem addM_keys (a : ByteArray) : ∀ (l : List Ln) (m : List (ByteArray × Int)), a ∈ (addM m l).map Prod.fst ↔ a ∈ m.map Prod.fst ∨ a ∈ l.map Ln.acc
  | [], m => by unfold addM; simp
  | x :: l, m => by
    have h1 := addM_keys a l (mAdd x.acc x.c m)
    have h2 : a ∈ (mAdd x.acc x.c m).map Prod.fst ↔ a ∈ m.map Prod.fst ∨ a = x.acc := by
      unfold mAdd
      rw [mUp_keys]
      split
      · rename_i h
        constructor
        · exact .inl
        · rintro (h3 | rfl)
          · exact h3
          · exact h
      · rw [List.mem_append, List.mem_singleton]
    unfold addM at h1 ⊢
    rw [List.foldl_cons, h1, h2, List.map_cons, List.mem_cons, or_assoc]
theorem MI.add {m : List (ByteArray × Int)} {L : List Ps} (h : MI m L) (p : Ps) : MI (addM m p.e.ls) (L ++ [p]) := by
  refine ⟨addM_nd h.nd, fun a => ?_, fun a => ?_⟩
  · rw [addM_keys, h.keys]
    unfold accs
    rw [List.flatMap_append, List.mem_append, List.flatMap_cons, List.flatMap_nil, List.append_nil]
  · rw [addM_val, h.val, bal_snoc]
theorem MI.nil : MI [] [] := ⟨List.nodup_nil, fun a => by simp [accs], fun a => rfl⟩
theorem lnsOf_bd (a : ByteArray) : ∀ {l : List Ln}, (∀ x ∈ l, -1000000000 ≤ x.c ∧ x.c ≤ 1000000000) → -1000000000 * (l.length : Int) ≤ lnsOf a l ∧ lnsOf a l ≤ 1000000000 * (l.length : Int)
  | [], _ => by simp [lnsOf]
  | x :: l, h => by
    have h1 := lnsOf_bd a (l := l) fun y hy => h y (List.mem_cons_of_mem _ hy)
    have h2 := h x (List.mem_cons_self ..)
    rw [lnsOf, List.length_cons]
    split <;> omega
theorem bal_bd (a : ByteArray) : ∀ {L : List Ps}, (∀ p ∈ L, OkP p) → -20000000000 * (L.length : Int) ≤ bal a L ∧ bal a L ≤ 20000000000 * (L.length : Int)
  | [], _ => by simp [bal]
  | p :: L, h => by
    have h1 := bal_bd a (L := L) fun y hy => h y (List.mem_cons_of_mem _ hy)
    obtain ⟨h2, h3⟩ := h p (List.mem_cons_self ..)
    have h4 := lnsOf_bd a h3
    rw [bal, List.length_cons]
    omega
def balT (a : ByteArray) (L : List Ps) : Tr := if isKey a = false then .tup [.int 0, .int 5] else .tup [.int (bal a L), .int 0]
theorem lin1_ok {a : ByteArray} {no : Int} {e : En} : ∀ {l : List Ln} {s : Int × List Po}, (∀ x ∈ l, -1000000000 ≤ x.c ∧ x.c ≤ 1000000000) → (∀ y ∈ s.2, -1000000000 ≤ y.c ∧ y.c ≤ 1000000000) →
    (lin1 a no e l s).2.length ≤ s.2.length + l.length ∧ ∀ y ∈ (lin1 a no e l s).2, -1000000000 ≤ y.c ∧ y.c ≤ 1000000000
  | [], s, _, h2 => ⟨by simp [lin1], h2⟩
  | x :: l, s, h1, h2 => by
    rw [lin1]
    have hx := h1 x (List.mem_cons_self ..)
    have h3 := fun y (hy : y ∈ l) => h1 y (List.mem_cons_of_mem _ hy)
    by_cases h : x.acc = a
    · rw [if_pos h]
      obtain ⟨e1, e2⟩ := lin1_ok (a := a) (no := no) (e := e) (l := l) (s := (s.1 + x.c, s.2 ++ [⟨no, e.day, e.text, x.c, s.1 + x.c⟩])) h3 (fun y hy => by
        rcases List.mem_append.1 hy with hy | hy
        · exact h2 y hy
        · rw [List.mem_singleton.1 hy]; exact hx)
      refine ⟨?_, e2⟩
      rw [List.length_append] at e1
      simp only [List.length_cons, List.length_nil] at e1 ⊢
      omega
    · rw [if_neg h]
      obtain ⟨e1, e2⟩ := lin1_ok (a := a) (no := no) (e := e) (l := l) (s := s) h3 h2
      exact ⟨by rw [List.length_cons]; omega, e2⟩
theorem linA_ok {a : ByteArray} : ∀ {L : List Ps} {i : Nat} {s : Int × List Po}, (∀ p ∈ L, OkP p) → (∀ y ∈ s.2, -1000000000 ≤ y.c ∧ y.c ≤ 1000000000) →
    (linA a L i s).2.length ≤ s.2.length + 20 * L.length ∧ ∀ y ∈ (linA a L i s).2, -1000000000 ≤ y.c ∧ y.c ≤ 1000000000
  | [], i, s, _, h2 => ⟨by simp [linA], h2⟩
  | p :: L, i, s, h1, h2 => by
    rw [linA]
    obtain ⟨hp1, hp2⟩ := h1 p (List.mem_cons_self ..)
    obtain ⟨e1, e2⟩ := lin1_ok (a := a) (no := (i : Int) + 1) (e := p.e) hp2 h2
    obtain ⟨e3, e4⟩ := linA_ok (a := a) (L := L) (i := i + 1) (s := lin1 a ((i : Int) + 1) p.e p.e.ls s) (fun q hq => h1 q (List.mem_cons_of_mem _ hq)) e2
    exact ⟨by rw [List.length_cons]; omega, e4⟩
theorem linO_ok (a : ByteArray) {L : List Ps} (h : ∀ p ∈ L, OkP p) : (linO a L).length ≤ 20 * L.length ∧ ∀ y ∈ linO a L, -1000000000 ≤ y.c ∧ y.c ≤ 1000000000 := by
  have := linA_ok (a := a) (L := L) (i := 0) (s := (0, [])) h (fun y hy => by cases hy)
  unfold linO
  simpa using this
theorem sumP_take {l : List Po} {k : Nat} {x : Po} (h : l[k]? = some x) : sumP (l.take (k + 1)) = sumP (l.take k) + x.c := by
  rw [List.take_add_one, h, Option.toList_some, sumP_snoc]
theorem balY_fn (b n cap : Nat) (ad ad2 : Option Addr) (n2 cap2 : Nat) (L : List Ps) (a : ByteArray) (hok : OkL L) (hn : n = L.length) :
    Spec Tryz.prog 39 [.ptr b, .str a] [ledY b ad n cap ad2 n2 cap2, ownE ad cap L] (fun r cs => r = balT a L ∧ cs = [ledY b ad n cap ad2 n2 cap2, ownE ad cap L]) := by
  have kk := keyOf_fn a
  have kl := linY_fn b n cap 0 ad ad2 n2 cap2 (fun _ => false) L a hok hn
  have hlo := linO_ok a hok.2
  have hbl := linO_bal a L
  have hLl := hok.1
  unfold linT at kl
  refine Spec.body Tryz.func39 rfl rfl (Tryz.ntmps39) rfl fun w0 own0 M => ?_
  unfold balT
  cases hq : isKey a
  · rw [hq] at kk
    rw [if_pos rfl]
    repeat' (first | refine goH ?_ | refine goV ?_ | refine goB (fun b => ?_) | refine goI ?_ | (refine Cw.k_cond ?_; first | (refine Cw.cond_dec rfl (fun hc => ?_) (fun hc => ?_) <;> try (exfalso; omega)) | refine Cw.cond_bool rfl (fun hc => ?_) (fun hc => ?_)) | (refine Ops.k_calla ?_; first | (refine Ops.k_callf 67 ?_; refine Ops.callV kk (Evs.cons rfl Evs.nil) rfl ?_)) | fail)
    exact Fin.ret (Ent.take goTk) (Outs.many rfl (OutL.cons goOe (OutL.cons goOe OutL.nil)) rfl) ⟨rfl, rfl⟩
  rw [hq] at kk
  rw [hq, if_neg (by decide)] at kl
  rw [if_neg (by decide)]
  generalize linO a L = O at *
  rw [← hbl]
  have hOL : (O.map Po.row).length = O.length := List.length_map _
  repeat' (first | refine goH ?_ | refine goV ?_ | refine goB (fun b => ?_) | refine goI ?_ | (refine Cw.k_cond ?_; first | (refine Cw.cond_dec rfl (fun hc => ?_) (fun hc => ?_) <;> try (exfalso; omega)) | refine Cw.cond_bool rfl (fun hc => ?_) (fun hc => ?_)) | (refine Ops.k_calla ?_; first | (refine Ops.k_callf 67 ?_; refine Ops.callV kk (Evs.cons rfl Evs.nil) rfl ?_) | (refine Ops.k_callf 68 ?_; refine Ops.callS kl (Evs.cons rfl (Evs.cons rfl Evs.nil)) goPm rfl ?_)) | fail)
  refine Cw.loopI [(20, _), (21, _)] _ (fun q e cc => ∃ (k : Nat) (s : Int), q = O.length - k ∧ (k ≤ O.length ∧ s = sumP (O.take k) ∧ -1000000000 * (k : Int) ≤ s ∧ s ≤ 1000000000 * (k : Int)) ∧ e = [(6, .int s), (22, .int k)] ∧ cc = []) ⟨_, _, _, (Ent.mkP goSub goPm), 0, 0, rfl, ⟨by omega, rfl, by omega, by omega⟩, rfl, rfl⟩ ?_
  rintro _ _ _ ⟨k, s, rfl, ⟨hk, hs, hs1, hs2⟩, rfl, rfl⟩
  by_cases hkn : k < O.length
  · obtain ⟨x, hx⟩ := at_lt hkn
    have hxc := hlo.2 x (List.mem_of_getElem? hx)
    have hrow : (O.map Po.row)[k]? = some [.int x.no, .int x.day, .str x.text, .int x.c, .int x.sum] := rows_at hx
    have hnx := sumP_take hx
    rw [← hs] at hnx
    repeat' (first | refine goH ?_ | refine goV ?_ | refine goB (fun b => ?_) | refine goI ?_ | (refine Cw.k_cond ?_; first | (refine Cw.cond_dec rfl (fun hc => ?_) (fun hc => ?_) <;> try (exfalso; omega)) | refine Cw.cond_bool rfl (fun hc => ?_) (fun hc => ?_)) | fail)
    exact ⟨_, _, _, (Ent.mk goSub goTk), ⟨k + 1, s + x.c, rfl, ⟨by omega, hnx.symm, by omega, by omega⟩, rfl, rfl⟩, by omega⟩
  · rw [List.take_of_length_le (by omega)] at hs
    rw [← hs]
    repeat' (first | refine goH ?_ | refine goV ?_ | refine goB (fun b => ?_) | refine goI ?_ | (refine Cw.k_cond ?_; first | (refine Cw.cond_dec rfl (fun hc => ?_) (fun hc => ?_) <;> try (exfalso; omega)) | refine Cw.cond_bool rfl (fun hc => ?_) (fun hc => ?_)) | fail)
    exact Fin.ret (Ent.take goTk) (Outs.many rfl (OutL.cons goOe (OutL.cons goOe OutL.nil)) rfl) ⟨rfl, rfl⟩
end Lg
end
