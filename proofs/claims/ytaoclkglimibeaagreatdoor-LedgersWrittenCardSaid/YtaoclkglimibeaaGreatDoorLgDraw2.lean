/- A part of the proof of a law of this seat: it adds no condition. By an AI agent. -/
import Derived.Laws.Strings2
import Derived.Below
import Derived.Test.YtaoclkglimibeaaGreatDoorCore
section
set_option linter.all false
namespace Lg
open Go Go.RowKit

section strs
variable {P : Program} {Γ : Ctx} {env env' : Env} {cs cs' cf : List Chunk} {Q : Post} {R : Array Oper}
variable {i : Tmp} {ty : TypeId} {pos : String} {af : Array Edge} {rest : List Oper}
variable {x y z : Operand} {T T2 : TypeId} {k : IntKind} {p q : Int} {s u : ByteArray}

/-- strings in order -/
def strLt (a b : ByteArray) : Bool := Op.bytesLess a.toList b.toList
/-- a string's byte -/
def sby (s : ByteArray) (j : Nat) : Int := ((s.data.toList.getD j 0).toNat : Int)

theorem raw_self {w : World} {A : Nat → Prop} (v : Value) : (Tr.raw v).rd w A v := by unfold Tr.raw; rfl
theorem binOp_str (op : BinOp) (t : TypeId) (a b : ByteArray) : binOp op t (.string a) (.string b) = Op.stringOp op a b := by cases op <;> rfl
theorem eqGuard_str (op : BinOp) (t : TypeId) (x y : Operand) (a b : ByteArray) (w : World) : (eqGuard op t x y (.string a) (.string b)).run P w = .ok () w := by
  unfold eqGuard
  cases op <;> simp

theorem str_beq (a b : ByteArray) : (a.toList == b.toList) = decide (a = b) := by
  rw [ByteArray.toList_eq, ByteArray.toList_eq, Bool.eq_iff_iff, beq_iff_eq, decide_eq_true_iff]
  constructor
  · intro h
    exact ByteArray.ext (Array.ext' h)
  · rintro rfl; rfl

theorem OpV.binS {op : BinOp} {v : Value} (hx : ev env x = some (.str s)) (hy : ev env y = some (.str u)) (hb : Op.stringOp op s u = pure v) : OpV P Γ (.binOp op T x y T2) ty env cs (.raw v) :=
  by unfold OpV; exact (fun a w d => ⟨v, by
    have h1 : a.eval x = .string s := rd_raw (d.ev hx)
    have h2 : a.eval y = .string u := rd_raw (d.ev hy)
    simp [execOp, h1, h2, eqGuard_str, binOp_str, hb], raw_self _⟩)

theorem OpV.eqlS (hx : ev env x = some (.str s)) (hy : ev env y = some (.str u)) : OpV P Γ (.binOp .eql T x y T2) ty env cs (.bool (decide (s = u))) :=
  OpV.binS hx hy (by simp [Op.stringOp, ← str_beq])
theorem OpV.neqS (hx : ev env x = some (.str s)) (hy : ev env y = some (.str u)) : OpV P Γ (.binOp .neq T x y T2) ty env cs (.bool (decide (s ≠ u))) :=
  OpV.binS hx hy (by simp [Op.stringOp, str_beq])
theorem OpV.lssS (hx : ev env x = some (.str s)) (hy : ev env y = some (.str u)) : OpV P Γ (.binOp .lss T x y T2) ty env cs (.bool (strLt s u)) :=
  OpV.binS hx hy (by simp [Op.stringOp, strLt])
theorem OpV.leqS (hx : ev env x = some (.str s)) (hy : ev env y = some (.str u)) : OpV P Γ (.binOp .leq T x y T2) ty env cs (.bool (strLt s u || decide (s = u))) :=
  OpV.binS hx hy (by simp [Op.stringOp, strLt, str_beq])
theorem OpV.gtrS (hx : ev env x = some (.str s)) (hy : ev env y = some (.str u)) : OpV P Γ (.binOp .gtr T x y T2) ty env cs (.bool (!(strLt s u || decide (s = u)))) :=
  OpV.binS hx hy (by simp [Op.stringOp, strLt, str_beq])
theorem OpV.geqS (hx : ev env x = some (.str s)) (hy : ev env y = some (.str u)) : OpV P Γ (.binOp .geq T x y T2) ty env cs (.bool (!strLt s u)) :=
  OpV.binS hx hy (by simp [Op.stringOp, strLt])
theorem OpV.eqlS_t (hx : ev env x = some (.str s)) (hy : ev env y = some (.str u)) (h : s = u) : OpV P Γ (.binOp .eql T x y T2) ty env cs (.bool true) := by
  have := OpV.eqlS (P := P) (Γ := Γ) (ty := ty) (cs := cs) (T := T) (T2 := T2) hx hy
  rwa [decide_eq_true h] at this
theorem OpV.eqlS_f (hx : ev env x = some (.str s)) (hy : ev env y = some (.str u)) (h : ¬ s = u) : OpV P Γ (.binOp .eql T x y T2) ty env cs (.bool false) := by
  have := OpV.eqlS (P := P) (Γ := Γ) (ty := ty) (cs := cs) (T := T) (T2 := T2) hx hy
  rwa [decide_eq_false h] at this
theorem Ops.eqlS_t (hx : ev env x = some (.str s)) (hy : ev env y = some (.str u)) (h : s = u) (hi : Nat.blt i Γ.n = true)
    (kk : Ops P Γ R rest ((i, .bool true) :: env) cs Q) : Ops P Γ R (⟨some i, .binOp .eql T x y T2, ty, pos, af, none⟩ :: rest) env cs Q := Ops.val' hi (OpV.eqlS_t hx hy h) kk
theorem Ops.eqlS_f (hx : ev env x = some (.str s)) (hy : ev env y = some (.str u)) (h : ¬ s = u) (hi : Nat.blt i Γ.n = true)
    (kk : Ops P Γ R rest ((i, .bool false) :: env) cs Q) : Ops P Γ R (⟨some i, .binOp .eql T x y T2, ty, pos, af, none⟩ :: rest) env cs Q := Ops.val' hi (OpV.eqlS_f hx hy h) kk
theorem Ops.eqlS (hx : ev env x = some (.str s)) (hy : ev env y = some (.str u)) (hi : Nat.blt i Γ.n = true)
    (kk : Ops P Γ R rest ((i, .bool (decide (s = u))) :: env) cs Q) : Ops P Γ R (⟨some i, .binOp .eql T x y T2, ty, pos, af, none⟩ :: rest) env cs Q := Ops.val' hi (OpV.eqlS hx hy) kk
theorem Ops.neqS (hx : ev env x = some (.str s)) (hy : ev env y = some (.str u)) (hi : Nat.blt i Γ.n = true)
    (kk : Ops P Γ R rest ((i, .bool (decide (s ≠ u))) :: env) cs Q) : Ops P Γ R (⟨some i, .binOp .neq T x y T2, ty, pos, af, none⟩ :: rest) env cs Q := Ops.val' hi (OpV.neqS hx hy) kk
theorem Ops.lssS (hx : ev env x = some (.str s)) (hy : ev env y = some (.str u)) (hi : Nat.blt i Γ.n = true)
    (kk : Ops P Γ R rest ((i, .bool (strLt s u)) :: env) cs Q) : Ops P Γ R (⟨some i, .binOp .lss T x y T2, ty, pos, af, none⟩ :: rest) env cs Q := Ops.val' hi (OpV.lssS hx hy) kk
theorem Ops.leqS (hx : ev env x = some (.str s)) (hy : ev env y = some (.str u)) (hi : Nat.blt i Γ.n = true)
    (kk : Ops P Γ R rest ((i, .bool (strLt s u || decide (s = u))) :: env) cs Q) : Ops P Γ R (⟨some i, .binOp .leq T x y T2, ty, pos, af, none⟩ :: rest) env cs Q := Ops.val' hi (OpV.leqS hx hy) kk
theorem Ops.gtrS (hx : ev env x = some (.str s)) (hy : ev env y = some (.str u)) (hi : Nat.blt i Γ.n = true)
    (kk : Ops P Γ R rest ((i, .bool (!(strLt s u || decide (s = u)))) :: env) cs Q) : Ops P Γ R (⟨some i, .binOp .gtr T x y T2, ty, pos, af, none⟩ :: rest) env cs Q := Ops.val' hi (OpV.gtrS hx hy) kk
theorem Ops.geqS (hx : ev env x = some (.str s)) (hy : ev env y = some (.str u)) (hi : Nat.blt i Γ.n = true)
    (kk : Ops P Γ R rest ((i, .bool (!strLt s u)) :: env) cs Q) : Ops P Γ R (⟨some i, .binOp .geq T x y T2, ty, pos, af, none⟩ :: rest) env cs Q := Ops.val' hi (OpV.geqS hx hy) kk

theorem sby_get {j : Nat} (h : j < s.size) : sby s j = ((s[j]'h).toNat : Int) := by
  have h' : j < s.data.toList.length := by simpa using h
  unfold sby
  rw [List.getD_eq_getElem?_getD, List.getElem?_eq_getElem h']
  rfl

theorem OpV.indexS (hT : P.underlying T = some .string) (hx : ev env x = some (.str s)) (hy : ev env y = some (.raw (.int k p))) (h : 0 ≤ p ∧ p < s.size) : OpV P Γ (.index T x y) ty env cs (.raw (.int .u8 (sby s p.toNat))) :=
  by unfold OpV; exact (fun a w d => ⟨.int .u8 (sby s p.toNat), by
    have h1 : a.eval x = .string s := rd_raw (d.ev hx)
    have h2 : a.eval y = .int k p := rd_raw (d.ev hy)
    have h3 := run_index_string (P := P) w T s k p hT
    rw [dif_pos h] at h3
    simp only [execOp, h1, h2]
    rw [sby_get (show p.toNat < s.size by omega)]
    simp [h3], raw_self _⟩)
theorem Ops.indexS (hT : P.underlying T = some .string) (hx : ev env x = some (.str s)) (hy : ev env y = some (.raw (.int k p))) (h : 0 ≤ p ∧ p < s.size) (hi : Nat.blt i Γ.n = true)
    (kk : Ops P Γ R rest ((i, .raw (.int .u8 (sby s p.toNat))) :: env) cs Q) : Ops P Γ R (⟨some i, .index T x y, ty, pos, af, none⟩ :: rest) env cs Q := Ops.val' hi (OpV.indexS hT hx hy h) kk

theorem OpV.indexS_n {j : Nat} (hT : P.underlying T = some .string) (hx : ev env x = some (.str s)) (hy : ev env y = some (.raw (.int k p))) (hj : p = Int.ofNat j) (h : j < s.size) : OpV P Γ (.index T x y) ty env cs (.raw (.int .u8 (sby s j))) := by
  subst hj
  have h2 : Int.ofNat j < (s.size : Int) := Int.ofNat_lt.2 h
  exact OpV.indexS hT hx hy ⟨Int.natCast_nonneg j, h2⟩
theorem Ops.indexS_n {j : Nat} (hT : P.underlying T = some .string) (hx : ev env x = some (.str s)) (hy : ev env y = some (.raw (.int k p))) (hj : p = Int.ofNat j) (h : j < s.size) (hi : Nat.blt i Γ.n = true)
    (kk : Ops P Γ R rest ((i, .raw (.int .u8 (sby s j))) :: env) cs Q) : Ops P Γ R (⟨some i, .index T x y, ty, pos, af, none⟩ :: rest) env cs Q := Ops.val' hi (OpV.indexS_n hT hx hy hj h) kk

theorem OpV.indexS_0 (hT : P.underlying T = some .string) (hx : ev env x = some (.str s)) (hy : ev env y = some (.raw (.int k p))) (hj : p = 0) (h : 0 < s.size) : OpV P Γ (.index T x y) ty env cs (.raw (.int .u8 (sby s 0))) := by
  subst hj
  exact OpV.indexS hT hx hy ⟨Int.le_refl _, by omega⟩
theorem Ops.indexS_0 (hT : P.underlying T = some .string) (hx : ev env x = some (.str s)) (hy : ev env y = some (.raw (.int k p))) (hj : p = 0) (h : 0 < s.size) (hi : Nat.blt i Γ.n = true)
    (kk : Ops P Γ R rest ((i, .raw (.int .u8 (sby s 0))) :: env) cs Q) : Ops P Γ R (⟨some i, .index T x y, ty, pos, af, none⟩ :: rest) env cs Q := Ops.val' hi (OpV.indexS_0 hT hx hy hj h) kk

theorem OpV.sliceS_h (hT : P.underlying T = some .string) (hx : ev env x = some (.str s)) (hz : ev env z = some (.raw (.int k q))) (h : 0 ≤ q ∧ q ≤ s.size) : OpV P Γ (.slice T x none (some z) none) ty env cs (.str (s.extract 0 q.toNat)) :=
  by unfold OpV; exact (fun a w d => ⟨.string (s.extract 0 q.toNat), by
    have h1 : a.eval x = .string s := rd_raw (d.ev hx)
    have h2 : a.eval z = .int k q := rd_raw (d.ev hz)
    simp [execOp, h1, h2, Instr.sliceAt, Instr.slice, Instr.sliceBounds, Instr.sliceBound, asIntOf, run_underlying hT, h], raw_self _⟩)
theorem Ops.sliceS_h (hT : P.underlying T = some .string) (hx : ev env x = some (.str s)) (hz : ev env z = some (.raw (.int k q))) (h : 0 ≤ q ∧ q ≤ s.size) (hi : Nat.blt i Γ.n = true)
    (kk : Ops P Γ R rest ((i, .str (s.extract 0 q.toNat)) :: env) cs Q) : Ops P Γ R (⟨some i, .slice T x none (some z) none, ty, pos, af, none⟩ :: rest) env cs Q := Ops.val' hi (OpV.sliceS_h hT hx hz h) kk

end strs

/-- a contract of the library's own: it turns no old block -/
theorem PFn.of_calls {P : Program} {f : FuncId} {args : List Value} {v : Value} (he : ∀ (vs : Array Value) (w : World), (callFunc f vs).run P w = .ok (.enter f vs) w)
    (h : ∀ w, Calls P f args.toArray w fun e w' => e = .returned v ∧ Below w.heap.size w w' ∧ (Strict → w.drawn ≤ w'.drawn)) : PFn P f (args.map Tr.raw) (· = .raw v) := by
  refine PFn.mk ?_
  unfold Spec
  refine ⟨he, fun M w vs hv _ _ _ hM => ?_⟩
  have : ∀ (as vs : List Value), RdL w (av M []) (as.map Tr.raw) vs → vs = as := by
    intro as
    induction as with
    | nil => intro vs h; exact h
    | cons a as ih =>
      rintro vs ⟨u, rest, rfl, h1, h2⟩
      rw [ih rest h2, rd_raw h1]
  rw [this args vs hv]
  refine (h w).mono ?_
  rintro e w' ⟨rfl, hb, hd⟩
  refine ⟨v, .raw v, [], rfl, ⟨rfl, rfl⟩, raw_self _, by simp, by simp [fps], by simp [fps], hb.os, hb.tape, hb.output, hb.size, fun b h1 _ => hb.block b h1, hd⟩
/-- the same without a word on draws: no call takes one back -/
theorem PFn.of_callsB {P : Program} {f : FuncId} {args : List Value} {v : Value} (he : ∀ (vs : Array Value) (w : World), (callFunc f vs).run P w = .ok (.enter f vs) w)
    (h : ∀ w, Calls P f args.toArray w fun e w' => e = .returned v ∧ Below w.heap.size w w') : PFn P f (args.map Tr.raw) (· = .raw v) :=
  PFn.of_calls he fun w => (calls_drawn (h w) (fun e w' hr => ⟨v, hr.1⟩)).mono fun e w' hr => ⟨hr.1.1, hr.1.2, fun _ => hr.2⟩
attribute [irreducible] strLt sby
end Lg
end
section
set_option linter.all false
namespace Lg
open Go

/-! ### regions whose order is open, in which calls take numbers off the stream: the memory's state is one of a row of states that say less and less -/
section drawH
variable {P : Program} {Γ : Ctx} {env env' base : Env} {cs cs' cf : List Chunk} {Q : Post} {H : Nat → List Chunk} {C B : Nat}

theorem tr_any_self {w : World} {A : Nat → Prop} {v : Value} : Tr.any.rd w A v := by unfold Tr.any; trivial
/-- an operation of such a region: it may move the memory on by at most C -/
def OpH (P : Program) (Γ : Ctx) (op : Op) (ty : TypeId) (env : Env) (H : Nat → List Chunk) (C B : Nat) (t : Tr) : Prop :=
  ∀ (k : Nat), k + C ≤ B → ∀ (a : Act) (w : World), Den Γ env (H k) a w → ∀ (d : Nat) (pos : String) (af : Array Edge) (g : Option (Nat × Bool)) (next : Act → World → Prop) (F : Exit → Act → World → Prop),
    (∀ v w', t.rd w' (av Γ.M (H 0)) v → (∀ env2, Den Γ env2 (H k) a w → Den Γ env2 (H (k + C)) a w') → next (a.put (some d) v) w') → Oper.wpIn (fen Γ) 9 P ⟨some d, op, ty, pos, af, g⟩ a w next F

theorem OpH.ent {op : Op} {ty : TypeId} {t : Tr} (h : OpH P Γ op ty env H C B t) (he : ∀ k a w, Den Γ env' (H k) a w → Den Γ env (H k) a w) : OpH P Γ op ty env' H C B t :=
  fun k hk a w dd => h k hk a w (he k a w dd)

/-- a row of states -/
structure Row (Γ : Ctx) (H : Nat → List Chunk) : Prop where
  av : ∀ k, av Γ.M (H k) = av Γ.M (H 0)
  mono : ∀ k k', k ≤ k' → ∀ env a w, Den Γ env (H k) a w → Den Γ env (H k') a w

theorem OpW.h {op : Op} {ty : TypeId} {t : Tr} (hR : Row Γ H) (h : ∀ k, OpW P Γ op ty env (H k) t) : OpH P Γ op ty env H C B t := by
  unfold OpW at h
  intro k hk a w dd d pos af g next F hn
  refine h k a w dd d pos af g next F fun v w' hr hp => hn v w' ?_ fun env2 h2 => hR.mono k (k + C) (by omega) env2 a w' (hp env2 h2)
  rw [← hR.av k]
  exact hr

/-- what an operation of such a region comes to -/
def PStepH (P : Program) (Γ : Ctx) (H : Nat → List Chunk) (C B : Nat) (ds : List Nat) (env : Env) (done : List (Nat × POp)) (p : POp) : Prop :=
  (GOk done p ∧ OpH P Γ p.op p.ty (envAt done p.af ds env) H C B p.t) ∨ (GNo done p ∧ p.t = Tr.raw undef)

/-- from a list of operations on; acc: the slots as in the order of the text -/
def PRunH (P : Program) (Γ : Ctx) (H : Nat → List Chunk) (C B : Nat) (L : List Oper) (env : Env) (K : Env → Prop) : Nat → List (Nat × POp) → Env → List Oper → Prop
  | _, _, acc, [] => K acc
  | n, done, acc, o :: l => ∃ p : POp, p.oper = o ∧ PStepH P Γ H C B (others n 0 L) env done p ∧ PRunH P Γ H C B L env K (n + 1) ((n, p) :: done) ((p.dst, p.t) :: acc) l

section prun
variable {L : List Oper} {K : Env → Prop} {n : Nat} {done : List (Nat × POp)} {acc : Env} {d : Nat} {op : Op} {ty : TypeId} {pos : String} {af : Array Edge} {l : List Oper} {t : Tr}
theorem PRunH.nil (h : K acc) : PRunH P Γ H C B L env K n done acc [] := h
theorem PRunH.cons (h : OpH P Γ op ty (envAt done af (others n 0 L) env) H C B t) (k : PRunH P Γ H C B L env K (n + 1) ((n, ⟨d, op, ty, pos, af, none, t⟩) :: done) ((d, t) :: acc) l) :
    PRunH P Γ H C B L env K n done acc (⟨some d, op, ty, pos, af, none⟩ :: l) := ⟨⟨d, op, ty, pos, af, none, t⟩, rfl, .inl ⟨trivial, h⟩, k⟩
theorem PRunH.yes {j : Nat} {b : Bool} {q : POp} (hj : (preds af).contains j = true) (hq : getP done j = some q) (hb : q.t = Tr.bool b) (h : OpH P Γ op ty (envAt done af (others n 0 L) env) H C B t) (k : PRunH P Γ H C B L env K (n + 1) ((n, ⟨d, op, ty, pos, af, some (j, b), t⟩) :: done) ((d, t) :: acc) l) :
    PRunH P Γ H C B L env K n done acc (⟨some d, op, ty, pos, af, some (j, b)⟩ :: l) := ⟨⟨d, op, ty, pos, af, some (j, b), t⟩, rfl, .inl ⟨⟨by simpa using hj, q, hq, hb⟩, h⟩, k⟩
theorem PRunH.no {j : Nat} {b : Bool} {q : POp} (hj : (preds af).contains j = true) (hq : getP done j = some q) (hb : q.t = Tr.bool (!b)) (k : PRunH P Γ H C B L env K (n + 1) ((n, ⟨d, op, ty, pos, af, some (j, b), Tr.raw undef⟩) :: done) ((d, Tr.raw undef) :: acc) l) :
    PRunH P Γ H C B L env K n done acc (⟨some d, op, ty, pos, af, some (j, b)⟩ :: l) := ⟨⟨d, op, ty, pos, af, some (j, b), Tr.raw undef⟩, rfl, .inr ⟨⟨by simpa using hj, q, hq, .inl hb⟩, rfl⟩, k⟩

end prun

theorem PRunH.out {L : List Oper} {K : Env → Prop} : ∀ {l : List Oper} {n : Nat} {done : List (Nat × POp)} {acc : Env} {pre : List POp}, pre.length = n → Numbered pre n done → acc = (pre.map fun o => (o.dst, o.t)).reverse ++ env → PRunH P Γ H C B L env K n done acc l →
    ∃ all : List POp, pre <+: all ∧ (all.drop n).map POp.oper = l ∧ K ((all.map fun o => (o.dst, o.t)).reverse ++ env) ∧
      ∀ i, n ≤ i → ∀ o, all[i]? = some o → ∃ done, Numbered all i done ∧ PStepH P Γ H C B (others i 0 L) env done o
  | [], n, done, acc, pre, hn, _, hacc, h => ⟨pre, List.prefix_refl _, by rw [← hn]; simp, by rw [← hacc]; exact h, fun i hi o ho => by rw [List.getElem?_eq_none (by omega)] at ho; cases ho⟩
  | o :: l, n, done, acc, pre, hn, hd, hacc, ⟨p, hp, hv, hk⟩ => by
    have hd' : Numbered (pre ++ [p]) (n + 1) ((n, p) :: done) := by
      intro j q hq
      rcases getP_cons hq with ⟨rfl, rfl⟩ | hq
      · exact ⟨by omega, by rw [List.getElem?_append_right (by omega)]; simp [hn]⟩
      · obtain ⟨h1, h2⟩ := hd j q hq
        exact ⟨by omega, by rw [List.getElem?_append_left (by omega)]; exact h2⟩
    obtain ⟨all, h1, h2, h3, h4⟩ := PRunH.out (pre := pre ++ [p]) (by simp [hn]) hd' (by rw [hacc]; simp) hk
    have hat : all[n]? = some p := by
      obtain ⟨r, rfl⟩ := h1
      rw [List.getElem?_append_left (by simp; omega), List.getElem?_append_right (by omega)]
      simp [hn]
    have hlt : n < all.length := (List.getElem?_eq_some_iff.1 hat).1
    refine ⟨all, (List.prefix_append pre [p]).trans h1, ?_, h3, ?_⟩
    · rw [List.drop_eq_getElem_cons hlt, List.map_cons, h2]
      have : all[n] = p := (List.getElem?_eq_some_iff.1 hat).2
      rw [this, hp]
    · intro i hi q hq
      by_cases e : i = n
      · subst e
        rw [hat] at hq
        cases hq
        refine ⟨done, ?_, hv⟩
        intro j r hr
        obtain ⟨g1, g2⟩ := hd j r hr
        refine ⟨g1, ?_⟩
        obtain ⟨x, rfl⟩ := (List.prefix_append pre [p]).trans h1
        rw [List.getElem?_append_left (by omega)]
        exact g2
      · exact h4 i (by omega) q hq

/-- from a list of operations on; acc: the slots as in the order of the text -/
def PSeqH (P : Program) (Γ : Ctx) (H : Nat → List Chunk) (C B : Nat) (K : Env → Prop) : Nat → List (Nat × POp) → Env → List Oper → Prop
  | _, _, acc, [] => K acc
  | n, done, acc, o :: l => ∃ p : POp, p.oper = o ∧ ((GOk done p ∧ OpH P Γ p.op p.ty (rst (slotsOf p.op) acc) H C B p.t) ∨ (GNo done p ∧ p.t = Tr.raw undef)) ∧ PSeqH P Γ H C B K (n + 1) ((n, p) :: done) ((p.dst, p.t) :: acc) l

section pseq
variable {K : Env → Prop} {n : Nat} {done : List (Nat × POp)} {acc : Env} {d : Nat} {op : Op} {ty : TypeId} {pos : String} {af : Array Edge} {l : List Oper} {t : Tr}
theorem PSeqH.nil (h : K acc) : PSeqH P Γ H C B K n done acc [] := h
theorem PSeqH.cons (h : OpH P Γ op ty (rst (slotsOf op) acc) H C B t) (k : PSeqH P Γ H C B K (n + 1) ((n, ⟨d, op, ty, pos, af, none, t⟩) :: done) ((d, t) :: acc) l) :
    PSeqH P Γ H C B K n done acc (⟨some d, op, ty, pos, af, none⟩ :: l) := ⟨⟨d, op, ty, pos, af, none, t⟩, rfl, .inl ⟨trivial, h⟩, k⟩
theorem PSeqH.yes {j : Nat} {b : Bool} {q : POp} (hj : (preds af).contains j = true) (hq : getP done j = some q) (hb : q.t = Tr.bool b) (h : OpH P Γ op ty (rst (slotsOf op) acc) H C B t) (k : PSeqH P Γ H C B K (n + 1) ((n, ⟨d, op, ty, pos, af, some (j, b), t⟩) :: done) ((d, t) :: acc) l) :
    PSeqH P Γ H C B K n done acc (⟨some d, op, ty, pos, af, some (j, b)⟩ :: l) := ⟨⟨d, op, ty, pos, af, some (j, b), t⟩, rfl, .inl ⟨⟨by simpa using hj, q, hq, hb⟩, h⟩, k⟩
theorem PSeqH.no {j : Nat} {b : Bool} {q : POp} (hj : (preds af).contains j = true) (hq : getP done j = some q) (hb : q.t = Tr.bool (!b)) (k : PSeqH P Γ H C B K (n + 1) ((n, ⟨d, op, ty, pos, af, some (j, b), Tr.raw undef⟩) :: done) ((d, Tr.raw undef) :: acc) l) :
    PSeqH P Γ H C B K n done acc (⟨some d, op, ty, pos, af, some (j, b)⟩ :: l) := ⟨⟨d, op, ty, pos, af, some (j, b), Tr.raw undef⟩, rfl, .inr ⟨⟨by simpa using hj, q, hq, .inl hb⟩, rfl⟩, k⟩
theorem PSeqH.pass {j : Nat} {b : Bool} {q : POp} (hj : (preds af).contains j = true) (hq : getP done j = some q) (hb : q.t = Tr.raw undef) (k : PSeqH P Γ H C B K (n + 1) ((n, ⟨d, op, ty, pos, af, some (j, b), Tr.raw undef⟩) :: done) ((d, Tr.raw undef) :: acc) l) :
    PSeqH P Γ H C B K n done acc (⟨some d, op, ty, pos, af, some (j, b)⟩ :: l) := ⟨⟨d, op, ty, pos, af, some (j, b), Tr.raw undef⟩, rfl, .inr ⟨⟨by simpa using hj, q, hq, .inr hb⟩, rfl⟩, k⟩
end pseq

theorem PSeqH.run {L : List Oper} {m : Nat} (hb : backOk L = true) (hnd : nodupB (dsts (L.take m)) = true) (hs : ssaFrom L 0 (L.take m) = true) {K : Env → Prop} : ∀ {l : List Oper} {n : Nat} {done : List (Nat × POp)} {acc : Env}, Seq L env n done acc → (∀ j : Nat, l[j]? = (L.take m)[n + j]?) → PSeqH P Γ H C B K n done acc l → PRunH P Γ H C B L env K n done acc l
  | [], n, done, acc, _, _, h => h
  | o :: l, n, done, acc, hq, hl, ⟨p, h1, h2, h3⟩ => by
    have hn0 : (L.take m)[n]? = some o := by have := hl 0; simpa using this.symm
    have hnm : n < m := by
      rcases Nat.lt_or_ge n m with h | h
      · exact h
      · rw [List.getElem?_eq_none (by rw [List.length_take]; omega)] at hn0; cases hn0
    have hL : L[n]? = some o := by rw [List.getElem?_take, if_pos hnm] at hn0; exact hn0
    have hent : ∀ k a w, Den Γ (envAt done p.af (others n 0 L) env) (H k) a w → Den Γ (rst (slotsOf p.op) acc) (H k) a w := by
      subst h1
      intro k a w d
      refine ⟨d.nodefer, d.tmps, ?_, d.chunks, d.nodup, d.fresh, d.below, d.frame⟩
      intro s t hlk
      obtain ⟨hss, hla⟩ := rst_look hlk
      apply d.env s t
      have hck := ssaFrom_at hs hn0 s hss
      rw [Nat.zero_add] at hck
      have hbk := backFrom_at hb hL
      rw [Nat.zero_add] at hbk
      have hpre : ∀ k ∈ preds p.af, k < n := fun k hk => by
        obtain ⟨e, he, h6, rfl⟩ := mem_preds.1 hk
        exact hbk e he h6
      unfold envAt
      rcases hq.look s t hla with ⟨j, q, hj, rfl, rfl⟩ | ⟨hle, hno⟩
      · obtain ⟨hjn, hjL⟩ := hq.at_ j q hj
        have hjm : (L.take m)[j]? = some q.oper := by rw [List.getElem?_take, if_pos (by omega)]; exact hjL
        have hjp : j ∈ preds p.af := by
          rcases hck with hck | ⟨k, hk, r, hr, hrd⟩
          · rcases others_spec hjL (d := q.dst) rfl hck with h6 | h6
            · omega
            · exfalso
              obtain ⟨e, he, h7, h8⟩ := mem_preds.1 h6
              have := backFrom_at hb hjL e he h7
              omega
          · have hkn := hpre k hk
            have hkm : (L.take m)[k]? = some r := by rw [List.getElem?_take, if_pos (by omega)]; exact hr
            have := dsts_inj (nodupB_iff hnd) hjm hkm (d := q.dst) rfl hrd
            rw [this]
            exact hk
        obtain ⟨e, he, h6, h7⟩ := mem_preds.1 hjp
        refine predB_some hj ⟨e, he, h6, h7⟩ ?_
        intro x hx q2 hq2 hd2
        obtain ⟨hxn, hxL⟩ := hq.at_ _ q2 hq2
        have hxm : (L.take m)[x.on]? = some q2.oper := by rw [List.getElem?_take, if_pos (by omega)]; exact hxL
        have := dsts_inj (nodupB_iff hnd) hxm hjm (d := q.dst) (by show some q2.dst = some q.dst; rw [hd2]) rfl
        rw [this, hj] at hq2
        cases hq2
        rfl
      · rw [predB_none (fun x _ (q : POp) hq' => hno _ q hq')]
        have : s ∉ others n 0 L := by
          rcases hck with hck | ⟨k, hk, r, hr, hrd⟩
          · exact hck
          · exfalso
            obtain ⟨q, hqk⟩ := hq.all k (hpre k hk)
            obtain ⟨_, hkL⟩ := hq.at_ k q hqk
            rw [hr] at hkL
            cases hkL
            exact hno k q hqk (by simpa [POp.oper] using hrd)
        rw [look_anyOf_ne this]
        exact hle
    refine ⟨p, h1, h2.imp (fun ⟨h4, h5⟩ => ⟨h4, h5.ent hent⟩) id, PSeqH.run hb hnd hs ?_ ?_ h3⟩
    · subst h1
      refine ⟨?_, ?_, ?_⟩
      · intro j hj
        by_cases e : j = n
        · subst e
          exact ⟨p, by simp [getP]⟩
        · obtain ⟨q, hq'⟩ := hq.all j (by omega)
          refine ⟨q, ?_⟩
          simp only [getP]
          split
          · rename_i hbq
            exact absurd (Nat.eq_of_beq_eq_true hbq).symm e
          · exact hq'
      · intro j q hj
        rcases getP_cons hj with ⟨rfl, rfl⟩ | hj
        · exact ⟨by omega, hL⟩
        · obtain ⟨h6, h7⟩ := hq.at_ j q hj
          exact ⟨by omega, h7⟩
      · intro s t hlk
        have hnew : getP ((n, p) :: done) n = some p := by simp [getP]
        have hold : ∀ j q, getP done j = some q → getP ((n, p) :: done) j = some q := fun j q hj => by
          have := (hq.at_ j q hj).1
          simp only [getP]
          split
          · rename_i hbq
            have := Nat.eq_of_beq_eq_true hbq
            omega
          · exact hj
        by_cases e : p.dst = s
        · subst e
          rw [look_cons_same] at hlk
          cases hlk
          exact .inl ⟨n, p, hnew, rfl, rfl⟩
        · rw [look_cons_ne _ _ e] at hlk
          rcases hq.look s t hlk with ⟨j, q, hj, h6⟩ | ⟨h6, h7⟩
          · exact .inl ⟨j, q, hold j q hj, h6⟩
          · refine .inr ⟨h6, fun j q hj => ?_⟩
            rcases getP_cons hj with ⟨rfl, rfl⟩ | hj
            · exact e
            · exact h7 j q hj
    · intro j
      have := hl (j + 1)
      rw [List.getElem?_cons_succ] at this
      rw [this]
      congr 1
      omega

end drawH
end Lg
end
section
set_option linter.all false
namespace Lg
open Go

/-! ### values of which only some law is known -/
def Tr.intS (p : Int → Prop) : Tr := ⟨fun _ _ v => ∃ n, v = .int .i64 n ∧ p n, fun _ h => h⟩
def Tr.strS (p : ByteArray → Prop) : Tr := ⟨fun _ _ v => ∃ s, v = .string s ∧ p s, fun _ h => h⟩
def Tr.boolS : Tr := ⟨fun _ _ v => ∃ b, v = .bool b, fun _ h => h⟩
instance {p} : OneT (Tr.intS p) := ⟨fun _ _ _ h => by obtain ⟨n, rfl, _⟩ := h; exact ⟨rfl, rfl⟩⟩
instance {p} : OneT (Tr.strS p) := ⟨fun _ _ _ h => by obtain ⟨n, rfl, _⟩ := h; exact ⟨rfl, rfl⟩⟩
instance : OneT Tr.boolS := ⟨fun _ _ _ h => by obtain ⟨n, rfl⟩ := h; exact ⟨rfl, rfl⟩⟩

section strmrow
variable {P : Program} {Γ : Ctx} {env env' : Env} {cs cs' cf : List Chunk} {Q : Post} {C B : Nat}

theorem Row.strm {st b N : Nat} {rows : List (List Tr)} : Row Γ (fun k => Chunk.strm st b rows (N + k) :: cf) := by
  refine ⟨fun k => ?_, fun k k' hk env a w d => ?_⟩
  · funext x
    simp [Lg.av, fps, Chunk.strm]
  · have h : Ent Γ env (Chunk.strm st b rows (N + k) :: cf) env (Chunk.strm st b rows (N + k') :: cf) := Ent.more_strm (by omega)
    unfold Ent at h
    exact h a w d

/-- a call that takes numbers off the stream -/
theorem OpH.callG {st f c b N : Nat} {l : List Operand} {ts : Array TypeId} {ty : TypeId} {args : List Tr} {post : Tr → Prop} {xs : List Int} {t : Tr} (hg : Gen P st f args c post) (hc : c ≤ C) (hN : N + B ≤ 1000000000000) (ha : Evs env l (Tr.ptr b :: args))
    (ht : ∀ r, post r → ∀ w A v, r.rd w A v → t.rd w A v) :
    OpH P Γ (.call ⟨.value (.func f), l.toArray, ts⟩) ty env (fun k => Chunk.strm st b (intRows xs) (N + k) :: cf) C B t := by
  unfold Gen at hg
  intro k hk a w dd d pos af g next F hn
  have hs := hg b xs (N + k) (by omega)
  have hcc := call_core2 (cf := cf) hs dd (List.Perm.refl _) (ha.rd dd)
  have hrun : (execOp a.eval ⟨some d, .call ⟨.value (.func f), l.toArray, ts⟩, ty, pos, af, g⟩).run P w = .ok (.enter f (l.map a.eval).toArray) w := by
    unfold Spec at hs
    have := hs.1 (l.map a.eval).toArray w
    simp [execOp, resolve, invoke, Deferred.ofValue, Act.eval, this]
  refine opIn_of_run hrun ⟨(by intro d h; cases h), (by intro x y h; cases h)⟩ ?_
  refine hcc.mono ?_
  rintro e w' ⟨v, r, cs', rfl, ⟨rfl, hp⟩, hrd, hd⟩
  refine hn _ _ (ht r hp _ _ _ ?_) fun env2 h => (Row.strm (Γ := Γ) (cf := cf) (st := st) (b := b) (N := N) (rows := intRows xs)).mono (k + c) (k + C) (by omega) env2 a w' (by have := hd env2 h; rwa [Nat.add_assoc] at this)
  have h0 := (Row.strm (Γ := Γ) (cf := cf) (st := st) (b := b) (N := N) (rows := intRows xs)).av (k + c)
  rw [← h0, ← Nat.add_assoc]
  exact hrd

end strmrow

theorem rdc_rawv {w : World} {A : Nat → Prop} {v : Value} (ho : v.oneCell' = true) {ts : List Tr} {vs : List Value} (h : RdC w A ts vs) : RdC w A (Tr.raw v :: ts) (v :: vs) :=
  ⟨v, vs, rfl, raw_self v, ho, h⟩
end Lg
end
