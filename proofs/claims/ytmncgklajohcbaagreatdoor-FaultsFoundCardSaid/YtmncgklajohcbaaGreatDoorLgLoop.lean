/- A part of the proof of a law of this seat: it adds no condition. By an AI agent. -/
import Derived.Laws.Strings2
import Derived.Below
import Derived.Test.YtmncgklajohcbaaGreatDoorLgDraw
section
set_option linter.all false
namespace Lg
open Go Go.RowKit

section strs
variable {P : Program} {Γ : Ctx} {env env' : Env} {cs cs' cf : List Chunk} {Q : Post} {R : Array Oper}
variable {i : Tmp} {ty : TypeId} {pos : String} {af : Array Edge} {rest : List Oper}
variable {x y z : Operand} {T T2 : TypeId} {k : IntKind} {p q : Int} {s u : ByteArray}

/-- strings in order -/
def strLt (a b : ByteArray) : Bool := Op.bytesLess a.toList b.toList
/-- a string's byte -/
def sby (s : ByteArray) (j : Nat) : Int := ((s.data.toList.getD j 0).toNat : Int)

theorem raw_self {w : World} {A : Nat → Prop} (v : Value) : (Tr.raw v).rd w A v := by unfold Tr.raw; rfl
theorem binOp_str (op : BinOp) (t : TypeId) (a b : ByteArray) : binOp op t (.string a) (.string b) = Op.stringOp op a b := by cases op <;> rfl
theorem eqGuard_str (op : BinOp) (t : TypeId) (x y : Operand) (a b : ByteArray) (w : World) : (eqGuard op t x y (.string a) (.string b)).run P w = .ok () w := by
  unfold eqGuard
  cases op <;> simp

theorem str_beq (a b : ByteArray) : (a.toList == b.toList) = decide (a = b) := by
  rw [ByteArray.toList_eq, ByteArray.toList_eq, Bool.eq_iff_iff, beq_iff_eq, decide_eq_true_iff]
  constructor
  · intro h
    exact ByteArray.ext (Array.ext' h)
  · rintro rfl; rfl

theorem OpV.binS {op : BinOp} {v : Value} (hx : ev env x = some (.str s)) (hy : ev env y = some (.str u)) (hb : Op.stringOp op s u = pure v) : OpV P Γ (.binOp op T x y T2) ty env cs (.raw v) :=
  by unfold OpV; exact (fun a w d => ⟨v, by
    have h1 : a.eval x = .string s := rd_raw (d.ev hx)
    have h2 : a.eval y = .string u := rd_raw (d.ev hy)
    simp [execOp, h1, h2, eqGuard_str, binOp_str, hb], raw_self _⟩)

theorem OpV.eqlS (hx : ev env x = some (.str s)) (hy : ev env y = some (.str u)) : OpV P Γ (.binOp .eql T x y T2) ty env cs (.bool (decide (s = u))) :=
  OpV.binS hx hy (by simp [Op.stringOp, ← str_beq])
theorem OpV.neqS (hx : ev env x = some (.str s)) (hy : ev env y = some (.str u)) : OpV P Γ (.binOp .neq T x y T2) ty env cs (.bool (decide (s ≠ u))) :=
  OpV.binS hx hy (by simp [Op.stringOp, str_beq])
theorem OpV.lssS (hx : ev env x = some (.str s)) (hy : ev env y = some (.str u)) : OpV P Γ (.binOp .lss T x y T2) ty env cs (.bool (strLt s u)) :=
  OpV.binS hx hy (by simp [Op.stringOp, strLt])
theorem OpV.leqS (hx : ev env x = some (.str s)) (hy : ev env y = some (.str u)) : OpV P Γ (.binOp .leq T x y T2) ty env cs (.bool (strLt s u || decide (s = u))) :=
  OpV.binS hx hy (by simp [Op.stringOp, strLt, str_beq])
theorem OpV.gtrS (hx : ev env x = some (.str s)) (hy : ev env y = some (.str u)) : OpV P Γ (.binOp .gtr T x y T2) ty env cs (.bool (!(strLt s u || decide (s = u)))) :=
  OpV.binS hx hy (by simp [Op.stringOp, strLt, str_beq])
theorem OpV.geqS (hx : ev env x = some (.str s)) (hy : ev env y = some (.str u)) : OpV P Γ (.binOp .geq T x y T2) ty env cs (.bool (!strLt s u)) :=
  OpV.binS hx hy (by simp [Op.stringOp, strLt])
theorem OpV.eqlS_t (hx : ev env x = some (.str s)) (hy : ev env y = some (.str u)) (h : s = u) : OpV P Γ (.binOp .eql T x y T2) ty env cs (.bool true) := by
  have := OpV.eqlS (P := P) (Γ := Γ) (ty := ty) (cs := cs) (T := T) (T2 := T2) hx hy
  rwa [decide_eq_true h] at this
theorem OpV.eqlS_f (hx : ev env x = some (.str s)) (hy : ev env y = some (.str u)) (h : ¬ s = u) : OpV P Γ (.binOp .eql T x y T2) ty env cs (.bool false) := by
  have := OpV.eqlS (P := P) (Γ := Γ) (ty := ty) (cs := cs) (T := T) (T2 := T2) hx hy
  rwa [decide_eq_false h] at this
theorem Ops.eqlS_t (hx : ev env x = some (.str s)) (hy : ev env y = some (.str u)) (h : s = u) (hi : Nat.blt i Γ.n = true)
    (kk : Ops P Γ R rest ((i, .bool true) :: env) cs Q) : Ops P Γ R (⟨some i, .binOp .eql T x y T2, ty, pos, af, none⟩ :: rest) env cs Q := Ops.val' hi (OpV.eqlS_t hx hy h) kk
theorem Ops.eqlS_f (hx : ev env x = some (.str s)) (hy : ev env y = some (.str u)) (h : ¬ s = u) (hi : Nat.blt i Γ.n = true)
    (kk : Ops P Γ R rest ((i, .bool false) :: env) cs Q) : Ops P Γ R (⟨some i, .binOp .eql T x y T2, ty, pos, af, none⟩ :: rest) env cs Q := Ops.val' hi (OpV.eqlS_f hx hy h) kk
theorem Ops.eqlS (hx : ev env x = some (.str s)) (hy : ev env y = some (.str u)) (hi : Nat.blt i Γ.n = true)
    (kk : Ops P Γ R rest ((i, .bool (decide (s = u))) :: env) cs Q) : Ops P Γ R (⟨some i, .binOp .eql T x y T2, ty, pos, af, none⟩ :: rest) env cs Q := Ops.val' hi (OpV.eqlS hx hy) kk
theorem Ops.neqS (hx : ev env x = some (.str s)) (hy : ev env y = some (.str u)) (hi : Nat.blt i Γ.n = true)
    (kk : Ops P Γ R rest ((i, .bool (decide (s ≠ u))) :: env) cs Q) : Ops P Γ R (⟨some i, .binOp .neq T x y T2, ty, pos, af, none⟩ :: rest) env cs Q := Ops.val' hi (OpV.neqS hx hy) kk
theorem Ops.lssS (hx : ev env x = some (.str s)) (hy : ev env y = some (.str u)) (hi : Nat.blt i Γ.n = true)
    (kk : Ops P Γ R rest ((i, .bool (strLt s u)) :: env) cs Q) : Ops P Γ R (⟨some i, .binOp .lss T x y T2, ty, pos, af, none⟩ :: rest) env cs Q := Ops.val' hi (OpV.lssS hx hy) kk
theorem Ops.leqS (hx : ev env x = some (.str s)) (hy : ev env y = some (.str u)) (hi : Nat.blt i Γ.n = true)
    (kk : Ops P Γ R rest ((i, .bool (strLt s u || decide (s = u))) :: env) cs Q) : Ops P Γ R (⟨some i, .binOp .leq T x y T2, ty, pos, af, none⟩ :: rest) env cs Q := Ops.val' hi (OpV.leqS hx hy) kk
theorem Ops.gtrS (hx : ev env x = some (.str s)) (hy : ev env y = some (.str u)) (hi : Nat.blt i Γ.n = true)
    (kk : Ops P Γ R rest ((i, .bool (!(strLt s u || decide (s = u)))) :: env) cs Q) : Ops P Γ R (⟨some i, .binOp .gtr T x y T2, ty, pos, af, none⟩ :: rest) env cs Q := Ops.val' hi (OpV.gtrS hx hy) kk
theorem Ops.geqS (hx : ev env x = some (.str s)) (hy : ev env y = some (.str u)) (hi : Nat.blt i Γ.n = true)
    (kk : Ops P Γ R rest ((i, .bool (!strLt s u)) :: env) cs Q) : Ops P Γ R (⟨some i, .binOp .geq T x y T2, ty, pos, af, none⟩ :: rest) env cs Q := Ops.val' hi (OpV.geqS hx hy) kk

theorem sby_get {j : Nat} (h : j < s.size) : sby s j = ((s[j]'h).toNat : Int) := by
  have h' : j < s.data.toList.length := by simpa using h
  unfold sby
  rw [List.getD_eq_getElem?_getD, List.getElem?_eq_getElem h']
  rfl

theorem OpV.indexS (hT : P.underlying T = some .string) (hx : ev env x = some (.str s)) (hy : ev env y = some (.raw (.int k p))) (h : 0 ≤ p ∧ p < s.size) : OpV P Γ (.index T x y) ty env cs (.raw (.int .u8 (sby s p.toNat))) :=
  by unfold OpV; exact (fun a w d => ⟨.int .u8 (sby s p.toNat), by
    have h1 : a.eval x = .string s := rd_raw (d.ev hx)
    have h2 : a.eval y = .int k p := rd_raw (d.ev hy)
    have h3 := run_index_string (P := P) w T s k p hT
    rw [dif_pos h] at h3
    simp only [execOp, h1, h2]
    rw [sby_get (show p.toNat < s.size by omega)]
    simp [h3], raw_self _⟩)
theorem Ops.indexS (hT : P.underlying T = some .string) (hx : ev env x = some (.str s)) (hy : ev env y = some (.raw (.int k p))) (h : 0 ≤ p ∧ p < s.size) (hi : Nat.blt i Γ.n = true)
    (kk : Ops P Γ R rest ((i, .raw (.int .u8 (sby s p.toNat))) :: env) cs Q) : Ops P Γ R (⟨some i, .index T x y, ty, pos, af, none⟩ :: rest) env cs Q := Ops.val' hi (OpV.indexS hT hx hy h) kk

theorem OpV.indexS_n {j : Nat} (hT : P.underlying T = some .string) (hx : ev env x = some (.str s)) (hy : ev env y = some (.raw (.int k p))) (hj : p = Int.ofNat j) (h : j < s.size) : OpV P Γ (.index T x y) ty env cs (.raw (.int .u8 (sby s j))) := by
  subst hj
  have h2 : Int.ofNat j < (s.size : Int) := Int.ofNat_lt.2 h
  exact OpV.indexS hT hx hy ⟨Int.natCast_nonneg j, h2⟩
theorem Ops.indexS_n {j : Nat} (hT : P.underlying T = some .string) (hx : ev env x = some (.str s)) (hy : ev env y = some (.raw (.int k p))) (hj : p = Int.ofNat j) (h : j < s.size) (hi : Nat.blt i Γ.n = true)
    (kk : Ops P Γ R rest ((i, .raw (.int .u8 (sby s j))) :: env) cs Q) : Ops P Γ R (⟨some i, .index T x y, ty, pos, af, none⟩ :: rest) env cs Q := Ops.val' hi (OpV.indexS_n hT hx hy hj h) kk

theorem OpV.indexS_0 (hT : P.underlying T = some .string) (hx : ev env x = some (.str s)) (hy : ev env y = some (.raw (.int k p))) (hj : p = 0) (h : 0 < s.size) : OpV P Γ (.index T x y) ty env cs (.raw (.int .u8 (sby s 0))) := by
  subst hj
  exact OpV.indexS hT hx hy ⟨Int.le_refl _, by omega⟩
theorem Ops.indexS_0 (hT : P.underlying T = some .string) (hx : ev env x = some (.str s)) (hy : ev env y = some (.raw (.int k p))) (hj : p = 0) (h : 0 < s.size) (hi : Nat.blt i Γ.n = true)
    (kk : Ops P Γ R rest ((i, .raw (.int .u8 (sby s 0))) :: env) cs Q) : Ops P Γ R (⟨some i, .index T x y, ty, pos, af, none⟩ :: rest) env cs Q := Ops.val' hi (OpV.indexS_0 hT hx hy hj h) kk

theorem OpV.sliceS_h (hT : P.underlying T = some .string) (hx : ev env x = some (.str s)) (hz : ev env z = some (.raw (.int k q))) (h : 0 ≤ q ∧ q ≤ s.size) : OpV P Γ (.slice T x none (some z) none) ty env cs (.str (s.extract 0 q.toNat)) :=
  by unfold OpV; exact (fun a w d => ⟨.string (s.extract 0 q.toNat), by
    have h1 : a.eval x = .string s := rd_raw (d.ev hx)
    have h2 : a.eval z = .int k q := rd_raw (d.ev hz)
    simp [execOp, h1, h2, Instr.sliceAt, Instr.slice, Instr.sliceBounds, Instr.sliceBound, asIntOf, run_underlying hT, h], raw_self _⟩)
theorem Ops.sliceS_h (hT : P.underlying T = some .string) (hx : ev env x = some (.str s)) (hz : ev env z = some (.raw (.int k q))) (h : 0 ≤ q ∧ q ≤ s.size) (hi : Nat.blt i Γ.n = true)
    (kk : Ops P Γ R rest ((i, .str (s.extract 0 q.toNat)) :: env) cs Q) : Ops P Γ R (⟨some i, .slice T x none (some z) none, ty, pos, af, none⟩ :: rest) env cs Q := Ops.val' hi (OpV.sliceS_h hT hx hz h) kk

end strs

/-- a contract of the library's own: it turns no old block -/
theorem PFn.of_calls {P : Program} {f : FuncId} {args : List Value} {v : Value} (he : ∀ (vs : Array Value) (w : World), (callFunc f vs).run P w = .ok (.enter f vs) w)
    (h : ∀ w, Calls P f args.toArray w fun e w' => e = .returned v ∧ Below w.heap.size w w' ∧ (Strict → w.drawn ≤ w'.drawn)) : PFn P f (args.map Tr.raw) (· = .raw v) := by
  refine PFn.mk ?_
  unfold Spec
  refine ⟨he, fun M w vs hv _ _ _ hM => ?_⟩
  have : ∀ (as vs : List Value), RdL w (av M []) (as.map Tr.raw) vs → vs = as := by
    intro as
    induction as with
    | nil => intro vs h; exact h
    | cons a as ih =>
      rintro vs ⟨u, rest, rfl, h1, h2⟩
      rw [ih rest h2, rd_raw h1]
  rw [this args vs hv]
  refine (h w).mono ?_
  rintro e w' ⟨rfl, hb, hd⟩
  refine ⟨v, .raw v, [], rfl, ⟨rfl, rfl⟩, raw_self _, by simp, by simp [fps], by simp [fps], hb.os, hb.tape, hb.output, hb.size, fun b h1 _ => hb.block b h1, hd⟩
attribute [irreducible] strLt sby
end Lg
end
section
set_option linter.all false
namespace Lg
open Go

/-! ### values of which only some law is known -/
def Tr.intS (p : Int → Prop) : Tr := ⟨fun _ _ v => ∃ n, v = .int .i64 n ∧ p n, fun _ h => h⟩
def Tr.strS (p : ByteArray → Prop) : Tr := ⟨fun _ _ v => ∃ s, v = .string s ∧ p s, fun _ h => h⟩
def Tr.boolS : Tr := ⟨fun _ _ v => ∃ b, v = .bool b, fun _ h => h⟩
instance {p} : OneT (Tr.intS p) := ⟨fun _ _ _ h => by obtain ⟨n, rfl, _⟩ := h; exact ⟨rfl, rfl⟩⟩
instance {p} : OneT (Tr.strS p) := ⟨fun _ _ _ h => by obtain ⟨n, rfl, _⟩ := h; exact ⟨rfl, rfl⟩⟩
instance : OneT Tr.boolS := ⟨fun _ _ _ h => by obtain ⟨n, rfl⟩ := h; exact ⟨rfl, rfl⟩⟩

section strmrow
variable {P : Program} {Γ : Ctx} {env env' : Env} {cs cs' cf : List Chunk} {Q : Post} {C B : Nat}

theorem Row.strm {st b N : Nat} {rows : List (List Tr)} : Row Γ (fun k => Chunk.strm st b rows (N + k) :: cf) := by
  refine ⟨fun k => ?_, fun k k' hk env a w d => ?_⟩
  · funext x
    simp [Lg.av, fps, Chunk.strm]
  · have h : Ent Γ env (Chunk.strm st b rows (N + k) :: cf) env (Chunk.strm st b rows (N + k') :: cf) := Ent.more_strm (by omega)
    unfold Ent at h
    exact h a w d

/-- a call that takes numbers off the stream -/
theorem OpH.callG {st f c b N : Nat} {l : List Operand} {ts : Array TypeId} {ty : TypeId} {args : List Tr} {post : Tr → Prop} {xs : List Int} {t : Tr} (hg : Gen P st f args c post) (hc : c ≤ C) (hN : N + B ≤ 1000000000000) (ha : Evs env l (Tr.ptr b :: args))
    (ht : ∀ r, post r → ∀ w A v, r.rd w A v → t.rd w A v) :
    OpH P Γ (.call ⟨.value (.func f), l.toArray, ts⟩) ty env (fun k => Chunk.strm st b (intRows xs) (N + k) :: cf) C B t := by
  unfold Gen at hg
  intro k hk a w dd d pos af g next F hn
  have hs := hg b xs (N + k) (by omega)
  have hcc := call_core2 (cf := cf) hs dd (List.Perm.refl _) (ha.rd dd)
  have hrun : (execOp a.eval ⟨some d, .call ⟨.value (.func f), l.toArray, ts⟩, ty, pos, af, g⟩).run P w = .ok (.enter f (l.map a.eval).toArray) w := by
    unfold Spec at hs
    have := hs.1 (l.map a.eval).toArray w
    simp [execOp, resolve, invoke, Deferred.ofValue, Act.eval, this]
  refine opIn_of_run hrun ⟨(by intro d h; cases h), (by intro x y h; cases h)⟩ ?_
  refine hcc.mono ?_
  rintro e w' ⟨v, r, cs', rfl, ⟨rfl, hp⟩, hrd, hd⟩
  refine hn _ _ (ht r hp _ _ _ ?_) fun env2 h => (Row.strm (Γ := Γ) (cf := cf) (st := st) (b := b) (N := N) (rows := intRows xs)).mono (k + c) (k + C) (by omega) env2 a w' (by have := hd env2 h; rwa [Nat.add_assoc] at this)
  have h0 := (Row.strm (Γ := Γ) (cf := cf) (st := st) (b := b) (N := N) (rows := intRows xs)).av (k + c)
  rw [← h0, ← Nat.add_assoc]
  exact hrd

theorem Cw.region_strm {id m st b N : Nat} {rows : List (List Tr)} {l : List Oper} (C : Nat) (hp : cs.Perm (Chunk.strm st b rows N :: cf)) (hm : P.follows .mixedOrders = true) (hb : (backOk l && (nodupB (dsts (l.take m)) && (ssaFrom l 0 (l.take m) && (tailOk l m && Nat.ble m l.length)))) = true) (hlt : (dsts (l.take m)).all (Nat.blt · Γ.n) = true)
    (h : PSeqH P Γ (fun k => Chunk.strm st b rows (N + k) :: cf) C (C * l.length) (fun acc => Ops P Γ l.toArray (l.drop m) acc (Chunk.strm st b rows (N + C * m) :: cf) Q) 0 [] env (l.take m)) : Cw P Γ (.region id l.toArray true) env cs Q :=
  Cw.ent (Ent.perm hp) (Cw.region_H (H := fun k => Chunk.strm st b rows (N + k) :: cf) C Row.strm hm hb hlt h)

/-- what a slot holds is looked at more closely -/
theorem Ops.open_slot {ι : Type} {R : Array Oper} {l : List Oper} {i : Nat} {t : Tr} {p : ι → Prop} {f : ι → Tr} (hl : look env i = some t) (ho : ∀ w A v, t.rd w A v → ∃ x, p x ∧ (f x).rd w A v) (k : ∀ x, p x → Ops P Γ R l ((i, f x) :: env) cs Q) : Ops P Γ R l env cs Q := by
  unfold Ops
  intro a w d
  obtain ⟨x, hp, hx⟩ := ho w _ _ (d.env i t hl)
  have h := k x hp
  unfold Ops at h
  refine h a w ⟨d.nodefer, d.tmps, ?_, d.chunks, d.nodup, d.fresh, d.below, d.frame⟩
  intro j u hj
  by_cases e : i = j
  · subst e; rw [look_cons_same] at hj; cases hj; exact hx
  · rw [look_cons_ne _ _ e] at hj; exact d.env j u hj
end strmrow

end Lg
end
section
set_option linter.all false
namespace Lg
open Go

section loopi
variable {P : Program} {Γ : Ctx} {env env' : Env} {cs cs' cf : List Chunk} {Q : Post}

/-- a loop whose states are said by a relation: n falls, e and c are the slots and the owned memory; F: slots that no turn writes -/
theorem Cw.loopI {c : Code} (F : Env) (R : List Chunk) (I : Nat → Env → List Chunk → Prop) (h0 : ∃ n e cc, Ent Γ env cs (e ++ F) (cc ++ R) ∧ I n e cc)
    (hr : ∀ n e cc, I n e cc → Cw P Γ c (e ++ F) (cc ++ R) (Then (fun env' cs' => ∃ m e2 c2, Ent Γ env' cs' (e2 ++ F) (c2 ++ R) ∧ I m e2 c2 ∧ m < n) Q)) : Cw P Γ (.loop c) env cs Q := by
  refine Cw.loop (ι := Nat × Env × List Chunk) (fun s => I s.1 s.2.1 s.2.2) (fun s => s.2.1 ++ F) (fun s => s.2.2 ++ R) (fun s => s.1) ?_ ?_
  · obtain ⟨n, e, cc, hE, h⟩ := h0
    exact ⟨(n, e, cc), h, hE⟩
  · rintro ⟨n, e, cc⟩ hi
    refine (hr n e cc hi).mono ?_
    intro x env' cs' h
    unfold Then at h ⊢
    cases x with
    | normal =>
      obtain ⟨m, e2, c2, h3, h1, h2⟩ := h
      exact ⟨(m, e2, c2), h1, h2, h3⟩
    | _ => exact h

theorem Perm.cons' {c : Chunk} {l : List Chunk} (h : cs.Perm (c :: cf)) (r : cf.Perm l) : cs.Perm (c :: l) := h.trans (List.Perm.cons _ r)
theorem Ent.mkP (h : Sub env env') (k : cs.Perm cs') : Ent Γ env cs env' cs' := (Ent.perm k).trans (Ent.sub h)
end loopi
section norm
variable {P : Program} {Γ : Ctx} {env env' : Env} {cs cs' cf : List Chunk} {Q : Post} {R : Array Oper}
variable {i : Tmp} {ty : TypeId} {pos : String} {af : Array Edge} {rest : List Oper} {x y z : Operand} {T T2 : TypeId}
/-! the same rules with the lists written out -/
theorem OpV.buildN {pl : List (Nat × Nat)} {zs : List Value} [h : TyStr P T pl zs] {parts : List (Nat × Operand)} {ts ts' : List Tr} (hp : Parts (fun n : Nat => pl[n]?) env parts (zs.map Tr.raw) ts) (e : ts = ts') : OpV P Γ (.build T parts.toArray) ty env cs (.agg ts') := e ▸ OpV.build hp
theorem Ops.buildN {pl : List (Nat × Nat)} {zs : List Value} [h : TyStr P T pl zs] {parts : List (Nat × Operand)} {ts ts' : List Tr} (hp : Parts (fun n : Nat => pl[n]?) env parts (zs.map Tr.raw) ts) (e : ts = ts') (hi : Nat.blt i Γ.n = true)
    (kont : Ops P Γ R rest ((i, .agg ts') :: env) cs Q) : Ops P Γ R (⟨some i, .build T parts.toArray, ty, pos, af, none⟩ :: rest) env cs Q := Ops.val' hi (OpV.buildN hp e) kont
theorem Ops.store_boxN {n b o : Nat} {e : TypeId} {ts us ts' : List Tr} {t : Tr} [hr : RowT t us] [hT : TySz P T n] (hx : ev env x = some (.raw (.pointer (some ⟨b, o, none⟩)))) (hy : ev env y = some t)
    (hp : cs.Perm (Chunk.box b e ts :: cf)) (hn : us.length = n) (ho' : Nat.ble (o + n) ts.length = true) (e' : ts.take o ++ us ++ ts.drop (o + n) = ts')
    (kont : Ops P Γ R rest env (Chunk.box b e ts' :: cf) Q) : Ops P Γ R (⟨none, .store T x y, ty, pos, af, none⟩ :: rest) env cs Q := Ops.store_box hx hy hp hn ho' (e' ▸ kont)
end norm
section settle
variable {P : Program} {Γ : Ctx} {env env' : Env} {cs cs' cf : List Chunk} {Q : Post} {R : Array Oper}

theorem Den.settled {ad : Option Addr} {n cap kk : Nat} {e : TypeId} {rows : List (List Tr)} {a : Act} {w : World} (d' : Den Γ env (Chunk.own ad cap kk e rows :: cf) a w) (hn : n = rows.length) : (Tr.sl kk rows).rd w (av Γ.M cf) (.slice ad n cap) := by
  subst hn
  have hh := d'.has (List.Perm.refl _)
  have hs : SameOn w w (av Γ.M (Chunk.own ad cap kk e rows :: cf)) (av Γ.M cf) := fun b _ ⟨h1, h2⟩ => ⟨⟨h1, fun hm => h2 (by simp only [fps, List.flatMap_cons, List.mem_append]; exact .inr hm)⟩, rfl⟩
  generalize hA : av Γ.M (Chunk.own ad cap kk e rows :: cf) = A at hh hs
  unfold Chunk.own at hh
  obtain ⟨hk, xs, ho, hr⟩ := hh
  unfold Tr.sl
  rcases ho.2 with ⟨e1, e2⟩ | ⟨g, cp, cur, hv, hg, hb, h1, h2, h3, h4⟩
  · simp only [Value.slice.injEq] at e1
    obtain ⟨rfl, _, rfl⟩ := e1
    exact ⟨hk, by simp [e2], none, 0, rfl, by omega, by simp, fun _ => ⟨List.eq_nil_of_length_eq_zero e2, rfl⟩, .inl (List.eq_nil_of_length_eq_zero e2)⟩
  · simp only [Value.slice.injEq] at hv
    obtain ⟨rfl, _, rfl⟩ := hv
    have hfr := d'.fresh g (by simp only [fps, List.flatMap_cons, List.mem_append]; left; unfold Chunk.own; simp [Value.ownBlock])
    have hnot : g ∉ fps cf := by
      have := d'.nodup
      simp only [fps, List.flatMap_cons] at this
      exact fun hm => (List.nodup_append.1 this).2.2 g (by unfold Chunk.own; simp [Value.ownBlock]) g hm rfl
    refine ⟨hk, by omega, _, cap, rfl, h1, h2, fun h => absurd h (by simp), .inr ⟨g, 0, rfl, ⟨hfr.2.1, hnot⟩, cur, e, _, hb, ?_⟩⟩
    rw [List.drop_zero, flat_len hk, h4]
    exact hr.mono hs

end settle
section owned
variable {P : Program} {Γ : Ctx} {env env' : Env} {cs cs' cf : List Chunk} {Q : Post} {R : Array Oper}
variable {i : Tmp} {ty : TypeId} {pos : String} {af : Array Edge} {rest : List Oper}

/-- an owned slice reads as a settled one where nobody owns it any more -/
theorem own_reads {ad : Option Addr} {cap kk : Nat} {e : TypeId} {rows : List (List Tr)} {w : World} {A A' : Nat → Prop} (h : (Chunk.own ad cap kk e rows).holds w A) (hA : ∀ b, A b → A' b) (hg : ∀ g ∈ (Chunk.own ad cap kk e rows).fp, A' g) : (Tr.sl kk rows).rd w A' (.slice ad rows.length cap) := by
  unfold Chunk.own at h hg
  obtain ⟨hk, xs, ho, hr⟩ := h
  have hs : SameOn w w A A' := fun b _ h => ⟨hA b h, rfl⟩
  unfold Tr.sl
  rcases ho.2 with ⟨e1, e2⟩ | ⟨g, cp, cur, hv, hgg, hb, h1, h2, h3, h4⟩
  · simp only [Value.slice.injEq] at e1
    obtain ⟨rfl, _, rfl⟩ := e1
    exact ⟨hk, by simp [e2], none, 0, rfl, by omega, by simp, fun _ => ⟨List.eq_nil_of_length_eq_zero e2, rfl⟩, .inl (List.eq_nil_of_length_eq_zero e2)⟩
  · simp only [Value.slice.injEq] at hv
    obtain ⟨rfl, _, rfl⟩ := hv
    refine ⟨hk, by omega, _, cap, rfl, h1, h2, fun h => absurd h (by simp), .inr ⟨g, 0, rfl, ⟨hg g (by simp [Value.ownBlock]), cur, e, _, hb, ?_⟩⟩⟩
    rw [List.drop_zero, flat_len hk, h4]
    exact hr.mono hs

theorem Ops.callO {f : FuncId} {l : List Operand} {ts : Array TypeId} {args : List Tr} {k E : Nat} {post : List (List Tr) → Prop} (hs : PFnO P f args k E post) (ha : Evs env l args) (hi : Nat.blt i Γ.n = true)
    (kont : ∀ ad cap rows, post rows → Ops P Γ R rest ((i, Tr.raw (.slice ad rows.length cap)) :: env) (Chunk.own ad cap k E rows :: cs) Q) : Ops P Γ R (⟨some i, .call ⟨.value (.func f), l.toArray, ts⟩, ty, pos, af, none⟩ :: rest) env cs Q := by
  unfold PFnO at hs
  exact Ops.call (cf := cs) hs ha (List.Perm.refl _) hi fun r cs' h => by
    obtain ⟨ad, cap, rows, rfl, rfl, h⟩ := h
    exact kont ad cap rows h

/-- what it hands out is settled at once -/
theorem PFnO.settled {f : FuncId} {args : List Tr} {k E : Nat} {post : List (List Tr) → Prop} (hs : PFnO P f args k E post) : PFn P f args (fun r => ∃ rows, r = Tr.sl k rows ∧ post rows) := by
  refine PFn.mk ?_
  unfold PFnO at hs
  unfold Spec at hs ⊢
  refine ⟨hs.1, fun M w vs h1 h2 h3 h4 h5 => (hs.2 M w vs h1 h2 h3 h4 h5).mono ?_⟩
  rintro e w' ⟨v, r, cs', he, ⟨ad, cap, rows, rfl, rfl, hp⟩, hr, hc, hn, hf, hfr⟩
  have hv := rd_raw hr
  subst hv
  refine ⟨_, _, [], he, ⟨rfl, rows, rfl, hp⟩, ?_, by simp, by simp [fps], by simp [fps], hfr⟩
  refine own_reads (hc _ (List.mem_singleton.2 rfl)) (fun b hb => ⟨hb.1, by simp [fps]⟩) fun g hg => ⟨(hf g (by simpa [fps] using hg)).2.1, by simp [fps]⟩
theorem PFnO.val {f : FuncId} {args : List Tr} {k E : Nat} {rows : List (List Tr)} (hs : PFnO P f args k E (· = rows)) : PFn P f args (· = Tr.sl k rows) := by
  have := hs.settled
  refine PFn.mk (Spec.mono this.spec ?_)
  rintro r cs ⟨rfl, rows, rfl, rfl⟩
  exact ⟨rfl, rfl⟩
end owned
section selfapp
variable {P : Program} {Γ : Ctx} {env env' : Env} {cs cs' cf : List Chunk} {Q : Post} {R : Array Oper}
variable {i : Tmp} {ty : TypeId} {pos : String} {af : Array Edge} {rest : List Oper} {x y : Operand} {T : TypeId}
end selfapp
section clos
variable {P : Program} {Γ : Ctx} {env env' : Env} {cs cs' cf : List Chunk} {Q : Post} {R : Array Oper}
variable {i : Tmp} {ty : TypeId} {pos : String} {af : Array Edge} {rest : List Oper} {x y : Operand} {T T2 : TypeId}

theorem rdl_caps {w : World} {A : Nat → Prop} {caps : List Value} : ∀ {args : List Tr} {vs : List Value}, RdL w A args vs → RdL w A (args ++ caps.map Tr.raw) (vs ++ caps)
  | [], vs, h => by
    have h : vs = [] := h
    subst h
    simp only [List.nil_append]
    induction caps with
    | nil => rfl
    | cons c caps ih => exact ⟨c, caps, rfl, raw_self _, ih⟩
  | t :: args, vs, ⟨v, rest, e, ht, hr⟩ => by
    subst e
    exact ⟨v, rest ++ caps, rfl, ht, rdl_caps hr⟩

/-- a closure that writes nothing is called, in a region whose order is open -/
theorem OpW.callS_fn {f : FuncId} {g : Operand} {xs : List Operand} {ts : Array TypeId} {caps : List Value} {args : List Tr} {cin : List Chunk} {t : Tr} (hg : ev env g = some (.raw (.func (.func f) #[] caps.toArray))) (hs : Spec P f (args ++ caps.map Tr.raw) cin (fun r cs => r = t ∧ cs = cin)) (ha : Evs env xs args) (hp : cs.Perm (cin ++ cf)) :
    OpW P Γ (.call ⟨.value g, xs.toArray, ts⟩) ty env cs t := by
  unfold OpW
  intro a w dd d pos af g2 next F hn
  have hgv := rd_raw (dd.ev hg)
  have hc := call_core2 hs dd hp (rdl_caps (caps := caps) (ha.rd dd))
  unfold Spec at hs
  have hrun : (execOp a.eval ⟨some d, .call ⟨.value g, xs.toArray, ts⟩, ty, pos, af, g2⟩).run P w = .ok (.enter f (xs.map a.eval ++ caps).toArray) w := by
    have := hs.1 (xs.map a.eval ++ caps).toArray w
    simp [execOp, resolve, invoke, Deferred.ofValue, hgv] at this ⊢
    exact this
  refine opIn_of_run hrun ⟨(by intro d h; cases h), (by intro x y h; cases h)⟩ ?_
  refine hc.mono ?_
  rintro e w' ⟨v, r, cs', rfl, ⟨rfl, rfl⟩, hrd, hd⟩
  exact hn _ _ (by rw [av_perm hp]; exact hrd) fun env2 h => (hd env2 h).perm hp.symm

end clos
theorem ba_self (a : ByteArray) : (a == a) = true := by
  cases a with
  | mk d => exact beq_self_eq_true d
theorem goPm {p : Prop} (h : p := by repeat' (first | exact List.Perm.refl _ | refine Perm.cons' goPk ?_)) : p := h
end Lg
end
