/- A part of the proof of a law of this seat: it adds no condition. By an AI agent. -/
import Derived.Test.YtaoclkglimibeaaGreatDoorLgNest
section
set_option linter.all false
namespace Lg
open Go

section mk
variable {P : Program} {Γ : Ctx} {env env' : Env} {cs cs' cf : List Chunk} {Q : Post} {R : Array Oper}
variable {x y : Operand} {T T2 : TypeId} {ty : TypeId} {k k2 : IntKind} {p : Int}
/-- a settled slice of zeros, in a region whose order is open -/
theorem OpW.makeSlice {E kk bb : Nat} {zs : List Value} [hS : TySl P T E kk bb zs] (hx : ev env x = some (.int p)) (hy : ev env y = some (.int p)) (h0 : 0 ≤ p) (hb : bb * p.toNat ≤ 281474976710656) (hmx : p ≤ 9223372036854775807) :
    OpW P Γ (.makeSlice T x y) ty env cs (.sl kk (List.replicate p.toNat (zs.map Tr.raw))) := by
  unfold OpW
  intro a w d dd pos af g next F hk
  have hv := rd_raw (d.ev hx)
  have hv2 := rd_raw (d.ev hy)
  obtain ⟨ti, zv, h1, h2, h3, h4, h5, h6⟩ := hS.hE
  obtain ⟨n, rfl⟩ := Int.eq_ofNat_of_zero_le h0
  simp only [Int.toNat_natCast] at hb hk ⊢
  have hr := run_make (P := P) w T E ti zv hS.hT h1 h2 .i64 .i64 n n (by omega) (Int.le_refl _) (by rw [h5]; have : ((bb * n : Nat) : Int) ≤ 281474976710656 := by omega
                                                                                                    rwa [Int.natCast_mul] at this) hmx
  have hzs : zv.cells.size = kk := hS.hz _ _ h1 h2
  simp only [Int.toNat_natCast, h4] at hr
  have hmd := madeCells_rd (w := w) (A := av Γ.M cs) (zs := zv.cells) (by rw [h3]; exact hS.one) n
  rw [hzs, h3] at hmd
  have hx2 : (execOp a.eval ⟨some dd, .makeSlice T x y, ty, pos, af, g⟩).run P w = .ok (.value (.slice (some ⟨w.heap.size, 0, none⟩) n n)) (w.alloc (.cells (madeCells zv.cells (n * kk)) E)) := by simp [execOp, hv, hv2, hr] <;> rfl
  refine opIn_of_run hx2 ⟨(by intro d h; cases h), (by intro x y h; cases h)⟩ ?_
  refine hk _ _ ?_ (fun env2 d2 => (d2.newblock _ E hmd).dropc)
  have d2 := d.newblock _ E hmd
  have hnb := d2.chunks (Chunk.box w.heap.size E (zeroRow zs n)) (by simp)
  have hfr := d2.fresh w.heap.size (by simp only [fps, List.flatMap_cons]; unfold Chunk.box; simp)
  have hnd := d2.nodup
  have hav : SameOn (w.alloc (.cells (madeCells zv.cells (n * kk)) E)) (w.alloc (.cells (madeCells zv.cells (n * kk)) E)) (av Γ.M (Chunk.box w.heap.size E (zeroRow zs n) :: cs)) (av Γ.M cs) := fun b _ ⟨h1, h2⟩ => ⟨⟨h1, fun hm => h2 (by simp only [fps, List.flatMap_cons] at hm ⊢; exact List.mem_append_right _ hm)⟩, rfl⟩
  have hnotin : w.heap.size ∉ fps cs := by
    simp only [fps, List.flatMap_cons] at hnd
    exact fun hm => (List.nodup_append.1 hnd).2.2 _ (by unfold Chunk.box; simp) _ hm rfl
  generalize av Γ.M (Chunk.box w.heap.size E (zeroRow zs n) :: cs) = A at *
  unfold Chunk.box at hnb
  obtain ⟨c', hc', hr'⟩ := hnb
  have e := zeroRow_flat zs n
  unfold Tr.sl
  refine ⟨fun r hr => by rw [List.eq_of_mem_replicate hr]; simp [hS.hk], by rw [List.length_replicate]; simp only [maxLen]; omega, some ⟨w.heap.size, 0, none⟩, n, by rw [List.length_replicate], by rw [List.length_replicate]; omega, by simp only [maxLen]; omega, fun h => absurd h (by simp), .inr ⟨_, 0, rfl, ⟨hfr.2.1, hnotin⟩, c', E, _, hc', ?_⟩⟩
  rw [e]
  have := hr'.mono hav
  rw [List.drop_zero, List.take_of_length_le (by rw [this.length]; exact Nat.le_refl _)]
  exact this
theorem OpV.convI {d1 : TypeDesc} (h1 : P.underlying T = some d1) (h2 : P.underlying T2 = some (.int k2)) (hx : ev env x = some (.raw (.int k p))) : OpV P Γ (.convert T T2 x) ty env cs (.raw (.int k2 (k2.wrap p))) := by
  unfold OpV
  intro a w d
  have hv := rd_raw (d.ev hx)
  refine ⟨.int k2 (k2.wrap p), ?_, raw_self _⟩
  simp [execOp, hv, convert, run_underlying h1, run_underlying h2, Conv.intToInt]
theorem OpV.convS {d1 : TypeDesc} (h1 : P.underlying T = some d1) (h2 : P.underlying T2 = some .string) (hx : ev env x = some (.raw (.int k p))) : OpV P Γ (.convert T T2 x) ty env cs (.str (Utf8.encode p)) := by
  unfold OpV
  intro a w d
  have hv := rd_raw (d.ev hx)
  refine ⟨.string (Utf8.encode p), ?_, raw_self _⟩
  simp [execOp, hv, convert, run_underlying h1, run_underlying h2, Conv.intToString]
theorem OpV.neqS_t {s u : ByteArray} (hx : ev env x = some (.str s)) (hy : ev env y = some (.str u)) (h : ¬ s = u) : OpV P Γ (.binOp .neq T x y T2) ty env cs (.bool true) := by
  have := OpV.neqS (P := P) (Γ := Γ) (T := T) (T2 := T2) (ty := ty) (cs := cs) hx hy
  rwa [show decide (s ≠ u) = true from decide_eq_true h] at this
theorem OpV.neqS_f {s u : ByteArray} (hx : ev env x = some (.str s)) (hy : ev env y = some (.str u)) (h : s = u) : OpV P Γ (.binOp .neq T x y T2) ty env cs (.bool false) := by
  have := OpV.neqS (P := P) (Γ := Γ) (T := T) (T2 := T2) (ty := ty) (cs := cs) hx hy
  rwa [show decide (s ≠ u) = false from decide_eq_false (fun h2 => h2 h)] at this
end mk
end Lg
end
section
set_option linter.all false
namespace Lg
open Go

/-! ### regions whose order is open, in which operations turn the owned memory: H says what is owned once the operations of S are done, by what they yielded -/
section x
variable {P : Program} {Γ : Ctx} {env base : Env} {cs : List Chunk} {Q : Post} {H : (Nat → Value) → (Nat → Bool) → List Chunk} {L : List Oper}

def upd (ξ : Nat → Value) (i : Nat) (v : Value) : Nat → Value := fun j => match Nat.beq j i with | true => v | false => ξ j
def updD (S : Nat → Bool) (i : Nat) : Nat → Bool := fun j => match Nat.beq j i with | true => true | false => S j
theorem nbeq_ne {j i : Nat} (h : j ≠ i) : Nat.beq j i = false := by
  cases hb : Nat.beq j i
  · rfl
  · exact absurd (Nat.eq_of_beq_eq_true hb) h
theorem upd_same (ξ : Nat → Value) (i : Nat) (v : Value) : upd ξ i v i = v := by simp [upd]
theorem upd_ne (ξ : Nat → Value) {i j : Nat} (v : Value) (h : j ≠ i) : upd ξ i v j = ξ j := by
  unfold upd
  rw [nbeq_ne h]
theorem updD_same (S : Nat → Bool) (i : Nat) : updD S i i = true := by simp [updD]
theorem updD_ne (S : Nat → Bool) {i j : Nat} (h : j ≠ i) : updD S i j = S j := by
  unfold updD
  rw [nbeq_ne h]

/-- what an operation does once those that it waits for are done -/
def XStep (P : Program) (Γ : Ctx) (H : (Nat → Value) → (Nat → Bool) → List Chunk) (L : List Oper) (Pf : Nat → (Nat → Value) → Prop) (i : Nat) (o : Oper) (acc : (Nat → Value) → Env) (T : Value → Tr) (Pv : (Nat → Value) → Prop) : Prop :=
  ∀ (ξ : Nat → Value) (S : Nat → Bool), S i = false → (∀ j ∈ preds o.after, S j = true) → (∀ k ok, L[k]? = some ok → S k = true → ∀ j ∈ preds ok.after, S j = true) → (∀ k, S k = true → Pf k ξ) →
    ∀ a w, Den Γ (rst (slotsOf o.op) (acc ξ)) (H ξ S) a w → ∀ (next : Act → World → Prop) (F : Exit → Act → World → Prop),
      (∀ v w', Pv (upd ξ i v) → (T v).rd w' (av Γ.M (H (upd ξ i v) (updD S i))) v → (∀ env2, Den Γ env2 (H ξ S) a w → Den Γ env2 (H (upd ξ i v) (updD S i)) a w') → next (a.put o.dst v) w') → Oper.wpIn (fen Γ) 9 P o a w next F

def accX (o : Oper) (n : Nat) (T : Value → Tr) (acc : (Nat → Value) → Env) : (Nat → Value) → Env := fun ξ => match o.dst with
  | some d => (d, T (ξ n)) :: acc ξ
  | none => acc ξ
def pfX (n : Nat) (Pv : (Nat → Value) → Prop) (Pf : Nat → (Nat → Value) → Prop) : Nat → (Nat → Value) → Prop := fun j ξ => match Nat.beq j n with
  | true => Pv ξ
  | false => Pf j ξ
/-- it speaks of the operation's own value, and of those that it waits for -/
def PvOk (n : Nat) (o : Oper) (Pv : (Nat → Value) → Prop) : Prop := ∀ ξ k v, k ≠ n → k ∉ preds o.after → Pv ξ → Pv (upd ξ k v)
theorem PvOk.own {n : Nat} {o : Oper} {p : Value → Prop} : PvOk n o (fun ξ => p (ξ n)) := fun ξ k v hk _ h => by
  show p (upd ξ k v n)
  rw [upd_ne _ _ (Ne.symm hk)]
  exact h
theorem PvOk.triv {n : Nat} {o : Oper} : PvOk n o (fun _ => True) := fun _ _ _ _ _ _ => trivial

def XSeq (P : Program) (Γ : Ctx) (H : (Nat → Value) → (Nat → Bool) → List Chunk) (L : List Oper) (K : Env → List Chunk → Prop) : Nat → ((Nat → Value) → Env) → (Nat → (Nat → Value) → Prop) → List Oper → Prop
  | _, acc, Pf, [] => ∀ ξ : Nat → Value, (∀ j, Pf j ξ) → K (acc ξ) (H ξ fun _ => true)
  | n, acc, Pf, o :: l => ∃ (T : Value → Tr) (Pv : (Nat → Value) → Prop), PvOk n o Pv ∧ XStep P Γ H L Pf n o acc T Pv ∧ XSeq P Γ H L K (n + 1) (accX o n T acc) (pfX n Pv Pf) l

structure XI (L : List Oper) (env : Env) (n : Nat) (acc : (Nat → Value) → Env) (Pf : Nat → (Nat → Value) → Prop) (T : Nat → Value → Tr) (Pv : Nat → (Nat → Value) → Prop) : Prop where
  look : ∀ ξ s t, Lg.look (acc ξ) s = some t → (∃ j oj, j < n ∧ L[j]? = some oj ∧ oj.dst = some s ∧ t = T j (ξ j)) ∨ (Lg.look env s = some t ∧ ∀ j oj, j < n → L[j]? = some oj → oj.dst ≠ some s)
  pf : ∀ (k : Nat) (ξ : Nat → Value), (k < n → Pv k ξ) → Pf k ξ
theorem XI.agree {n : Nat} {acc : (Nat → Value) → Env} {Pf : Nat → (Nat → Value) → Prop} {T T' : Nat → Value → Tr} {Pv Pv' : Nat → (Nat → Value) → Prop} (h : XI L env n acc Pf T Pv) (e : ∀ j, j < n → T' j = T j ∧ Pv' j = Pv j) : XI L env n acc Pf T' Pv' := by
  refine ⟨fun ξ s t hl => ?_, fun k v hk => h.pf k v fun hkn => ?_⟩
  · rcases h.look ξ s t hl with ⟨j, oj, h1, h2, h3, h4⟩ | h
    · exact .inl ⟨j, oj, h1, h2, h3, by rw [(e j h1).1]; exact h4⟩
    · exact .inr h
  · rw [← (e k hkn).2]
    exact hk hkn

theorem XSeq.out {K : Env → List Chunk → Prop} : ∀ {l : List Oper} {n : Nat} {acc : (Nat → Value) → Env} {Pf : Nat → (Nat → Value) → Prop} {T0 : Nat → Value → Tr} {Pv0 : Nat → (Nat → Value) → Prop},
    (∀ i : Nat, l[i]? = L[n + i]?) → n + l.length = L.length → XI L env n acc Pf T0 Pv0 → XSeq P Γ H L K n acc Pf l →
    ∃ (T : Nat → Value → Tr) (Pv : Nat → (Nat → Value) → Prop), (∀ j, j < n → T j = T0 j ∧ Pv j = Pv0 j) ∧
      (∀ i o, n ≤ i → L[i]? = some o → ∃ acc Pf, XI L env i acc Pf T Pv ∧ PvOk i o (Pv i) ∧ XStep P Γ H L Pf i o acc (T i) (Pv i)) ∧
      (∃ acc Pf, XI L env L.length acc Pf T Pv ∧ ∀ ξ : Nat → Value, (∀ j, Pf j ξ) → K (acc ξ) (H ξ fun _ => true))
  | [], n, acc, Pf, T0, Pv0, hL, hn, hI, h => by
    simp at hn
    refine ⟨T0, Pv0, fun j _ => ⟨rfl, rfl⟩, fun i o hi ho => ?_, acc, Pf, by rw [← hn]; exact hI, h⟩
    have := (List.getElem?_eq_some_iff.1 ho).1
    omega
  | o :: l, n, acc, Pf, T0, Pv0, hL, hn, hI, ⟨T1, Pv1, hok, hst, hk⟩ => by
    have ho : L[n]? = some o := by have := hL 0; simpa using this.symm
    have hI' : XI L env (n + 1) (accX o n T1 acc) (pfX n Pv1 Pf) (fun j => match Nat.beq j n with | true => T1 | false => T0 j) (fun j => match Nat.beq j n with | true => Pv1 | false => Pv0 j) := by
      refine ⟨fun ξ s t hl => ?_, fun k v hkv => ?_⟩
      · have old : look (acc ξ) s = some t → (∀ d, o.dst = some d → d ≠ s) → (∃ j oj, j < n + 1 ∧ L[j]? = some oj ∧ oj.dst = some s ∧ t = (match Nat.beq j n with | true => T1 | false => T0 j) (ξ j)) ∨ (look env s = some t ∧ ∀ j oj, j < n + 1 → L[j]? = some oj → oj.dst ≠ some s) := by
          intro hl hd
          rcases hI.look ξ s t hl with ⟨j, oj, h1, h2, h3, h4⟩ | ⟨h1, h2⟩
          · refine .inl ⟨j, oj, by omega, h2, h3, ?_⟩
            rw [nbeq_ne (show j ≠ n by omega)]
            exact h4
          · refine .inr ⟨h1, fun j oj hj hoj => ?_⟩
            by_cases e : j = n
            · subst e
              rw [ho] at hoj
              cases hoj
              intro hd2
              exact hd s hd2 rfl
            · exact h2 j oj (by omega) hoj
        unfold accX at hl
        cases hd : o.dst with
        | none =>
          rw [hd] at hl
          exact old hl (fun d h => by rw [hd] at h; cases h)
        | some d =>
          rw [hd] at hl
          by_cases e : d = s
          · subst e
            simp only at hl
            rw [look_cons_same] at hl
            cases hl
            exact .inl ⟨n, o, by omega, ho, hd, by simp⟩
          · simp only at hl
            rw [look_cons_ne _ _ e] at hl
            exact old hl (fun d' h => by rw [hd] at h; cases h; exact e)
      · unfold pfX
        by_cases e : k = n
        · subst e
          have := hkv (by omega)
          simpa using this
        · have hb : Nat.beq k n = false := nbeq_ne e
          rw [hb]
          refine hI.pf k v fun hkn => ?_
          have := hkv (by omega)
          rw [hb] at this
          exact this
    obtain ⟨T, Pv, h1, h2, h3⟩ := XSeq.out (l := l) (n := n + 1) (by intro i; have := hL (i + 1); simpa [Nat.add_assoc, Nat.add_comm 1] using this) (by simp at hn; omega) hI' hk
    have hag : ∀ j, j < n → T j = T0 j ∧ Pv j = Pv0 j := by
      intro j hj
      have := h1 j (by omega)
      rw [nbeq_ne (show j ≠ n by omega)] at this
      exact this
    have hn1 := h1 n (by omega)
    simp only [Nat.beq_refl] at hn1
    refine ⟨T, Pv, hag, fun i o' hi ho' => ?_, h3⟩
    by_cases e : i = n
    · subst e
      rw [ho] at ho'
      cases ho'
      exact ⟨acc, Pf, hI.agree hag, by rw [hn1.2]; exact hok, by rw [hn1.1, hn1.2]; exact hst⟩
    · exact h2 i o' (by omega) ho'

theorem nodup_dst {l : List Oper} (hnd : (dsts l).Nodup) : ∀ {i j : Nat} {oi oj : Oper} {d : Nat}, l[i]? = some oi → l[j]? = some oj → oi.dst = some d → oj.dst = some d → i = j := by
  unfold dsts at hnd
  induction l with
  | nil => intro i j oi oj d h; simp at h
  | cons p l ih =>
    intro i j oi oj d hi hj hdi hdj
    have mem : ∀ {k : Nat} {ok : Oper}, l[k]? = some ok → ok.dst = some d → d ∈ l.filterMap (·.dst) := fun hk hd => List.mem_filterMap.2 ⟨_, List.mem_of_getElem? hk, hd⟩
    have hnd' : (l.filterMap (·.dst)).Nodup := by
      cases hp : p.dst with
      | none => rwa [List.filterMap_cons, hp] at hnd
      | some x => rw [List.filterMap_cons, hp] at hnd; exact (List.nodup_cons.1 hnd).2
    have hno : p.dst = some d → d ∉ l.filterMap (·.dst) := by
      intro hp
      rw [List.filterMap_cons, hp] at hnd
      exact (List.nodup_cons.1 hnd).1
    cases i with
    | zero =>
      simp at hi
      subst hi
      cases j with
      | zero => rfl
      | succ j => simp at hj; exact absurd (mem hj hdj) (hno hdi)
    | succ i =>
      simp at hi
      cases j with
      | zero => simp at hj; subst hj; exact absurd (mem hi hdi) (hno hdj)
      | succ j => simp at hj; rw [ih hnd' hi hj hdi hdj]

def noGuards (l : List Oper) : Bool := l.all fun o => match o.guard with | none => true | some _ => false

def blk : Value → Nat
  | .pointer (some a) => a.block
  | _ => 0
theorem closed_false {S : Nat → Bool} {i k : Nat} {ok : Oper} (h1 : S i = false) (h3 : ∀ k ok, L[k]? = some ok → S k = true → ∀ j ∈ preds ok.after, S j = true) (hk : L[k]? = some ok) (hi : (preds ok.after).contains i = true) : S k = false := by
  cases h : S k
  · rfl
  · have := h3 k ok hk h i (by simpa using hi)
    rw [h1] at this
    cases this
theorem XSeq.nil {K : Env → List Chunk → Prop} {n : Nat} {acc : (Nat → Value) → Env} {Pf : Nat → (Nat → Value) → Prop} (h : ∀ ξ : Nat → Value, (∀ j, Pf j ξ) → K (acc ξ) (H ξ fun _ => true)) : XSeq P Γ H L K n acc Pf [] := h
theorem XSeq.cons {K : Env → List Chunk → Prop} {n : Nat} {acc : (Nat → Value) → Env} {Pf : Nat → (Nat → Value) → Prop} {o : Oper} {l : List Oper} {T : Value → Tr} {Pv : (Nat → Value) → Prop} (ok : PvOk n o Pv) (h : XStep P Γ H L Pf n o acc T Pv) (k : XSeq P Γ H L K (n + 1) (accX o n T acc) (pfX n Pv Pf) l) : XSeq P Γ H L K n acc Pf (o :: l) := ⟨T, Pv, ok, h, k⟩
variable {Pf : Nat → (Nat → Value) → Prop} {i d : Nat} {op : Op} {ty : TypeId} {pos : String} {af : Array Edge} {acc : (Nat → Value) → Env} {t : Tr}
/-- an operation that turns no memory that is owned -/
theorem XStep.w (hH : ∀ ξ S v, H (upd ξ i v) (updD S i) = H ξ S)
    (h : ∀ (ξ : Nat → Value) (S : Nat → Bool), S i = false → (∀ j ∈ preds af, S j = true) → (∀ k ok, L[k]? = some ok → S k = true → ∀ j ∈ preds ok.after, S j = true) → (∀ k, S k = true → Pf k ξ) → OpW P Γ op ty (rst (slotsOf op) (acc ξ)) (H ξ S) t) :
    XStep P Γ H L Pf i ⟨some d, op, ty, pos, af, none⟩ acc (fun _ => t) (fun _ => True) := by
  unfold XStep
  intro ξ S h1 h2 h3 h4 a w dd next F hk
  have h := h ξ S h1 h2 h3 h4
  unfold OpW at h
  refine h a w dd d pos af none next F fun v w' hv hp => hk v w' trivial ?_ ?_
  · rw [hH]; exact hv
  · intro env2 d2
    rw [hH]
    exact hp env2 d2
theorem XStep.alloc {T : TypeId} {zs : List Value} [hz : TyZero P T zs] (hH : ∀ (ξ : Nat → Value) (S : Nat → Bool) (b : Nat), S i = false → (∀ k ok, L[k]? = some ok → S k = true → ∀ j ∈ preds ok.after, S j = true) → (H (upd ξ i (.pointer (some ⟨b, 0, none⟩))) (updD S i)).Perm (Chunk.box b T (zs.map Tr.raw) :: H ξ S)) :
    XStep P Γ H L Pf i ⟨some d, .alloc T, ty, pos, af, none⟩ acc Tr.raw (fun ξ => ∃ b, ξ i = .pointer (some ⟨b, 0, none⟩)) := by
  unfold XStep
  intro ξ S h1 h2 h3 h4 a w dd next F hk
  obtain ⟨ti, zv, e1, e2, e3⟩ := hz.h
  have hrun : (execOp a.eval ⟨some d, .alloc T, ty, pos, af, none⟩).run P w = .ok (.value (.pointer (some ⟨w.heap.size, 0, none⟩))) (w.alloc (.cells zv.cells T)) := by
    simp [execOp, Instr.alloc, zeroValue, typeInfo, e1, e2, newVar, newRow] <;> rfl
  refine opIn_of_run hrun ⟨(by intro d h; cases h), (by intro x y h; cases h)⟩ ?_
  refine hk _ _ ⟨_, upd_same _ _ _⟩ (raw_self _) fun env2 d2 => ?_
  have hd := d2.newblock zv.cells T (ts := zs.map Tr.raw) (by rw [e3]; exact rdc_raw hz.one)
  exact hd.perm (hH ξ S _ h1 h3).symm
theorem XStep.store {T : TypeId} {x y : Operand} {n : Nat} [hT : TySz P T n]
    (h : ∀ (ξ : Nat → Value) (S : Nat → Bool), S i = false → (∀ j ∈ preds af, S j = true) → (∀ k ok, L[k]? = some ok → S k = true → ∀ j ∈ preds ok.after, S j = true) → (∀ k, S k = true → Pf k ξ) →
      ∃ (b o : Nat) (e : TypeId) (ts us : List Tr) (t : Tr) (cf : List Chunk), ev (rst (slotsOf (.store T x y)) (acc ξ)) x = some (.raw (.pointer (some ⟨b, o, none⟩))) ∧ ev (rst (slotsOf (.store T x y)) (acc ξ)) y = some t ∧ RowT t us ∧ (H ξ S).Perm (Chunk.box b e ts :: cf) ∧ us.length = n ∧ o + n ≤ ts.length ∧ (H (upd ξ i undef) (updD S i)).Perm (Chunk.box b e (ts.take o ++ us ++ ts.drop (o + n)) :: cf)) :
    XStep P Γ H L Pf i ⟨none, .store T x y, ty, pos, af, none⟩ acc (fun _ => Tr.any) (fun _ => True) := by
  unfold XStep
  intro ξ S h1 h2 h3 h4 a w d next F hk
  obtain ⟨b, o, e, ts, us, t, cf, hx, hy, hr, hp, hn, ho, hq⟩ := h ξ S h1 h2 h3 h4
  have hv := rd_raw (d.ev hx)
  have hu := hr.h _ _ _ (d.ev hy)
  have hbx := d.has hp
  generalize hA : av Γ.M (H ξ S) = A at *
  have hbx2 := hbx
  unfold Chunk.box at hbx2
  obtain ⟨cur, hb, hc⟩ := hbx2
  have hl : (a.eval y).cells.size = n := by rw [← Array.length_toList, hu.length, hn]
  have hcl := hc.length
  have hrun := run_storeAt (P := P) (T := T) (w := w) (off := o) (v := a.eval y) hb hT.size hl (by simp at hcl; omega) hu.one
  have hx2 : (execOp a.eval ⟨none, .store T x y, ty, pos, af, none⟩).run P w = .ok .skip (w.setRow b (cur.toList.take o ++ (a.eval y).cells.toList ++ cur.toList.drop (o + n)).toArray) := by simp [execOp, hv, hrun] <;> rfl
  refine opIn_of_run hx2 ⟨(by intro d h; cases h), (by intro x y h; cases h)⟩ ?_
  refine hk _ _ trivial tr_any_self fun env2 d2 => ?_
  have ea := av_perm hp Γ.M
  refine Den.perm ?_ hq.symm
  refine (d2.perm hp).store (cur := cur.toList) (e := e) (by unfold Chunk.box; rfl) (by unfold Chunk.box; rfl) (by simpa using hb) ?_
  intro hs hg _
  generalize hA2 : av Γ.M (Chunk.box b e (ts.take o ++ us ++ ts.drop (o + n)) :: cf) = A2 at *
  unfold Chunk.box
  exact ⟨_, hg, by
    have h1 := ((hc.take o).app hu).app (hc.drop (o + n))
    rw [← hA, ea] at h1
    have h2 := h1.mono hs
    simpa only [List.append_assoc] using h2⟩
section seqs
variable {K : Env → List Chunk → Prop} {n : Nat} {l : List Oper}
theorem XSeq.w (hH : ∀ ξ S v, H (upd ξ n v) (updD S n) = H ξ S)
    (h : ∀ (ξ : Nat → Value) (S : Nat → Bool), S n = false → (∀ j ∈ preds af, S j = true) → (∀ k ok, L[k]? = some ok → S k = true → ∀ j ∈ preds ok.after, S j = true) → (∀ k, S k = true → Pf k ξ) → OpW P Γ op ty (rst (slotsOf op) (acc ξ)) (H ξ S) t)
    (k : XSeq P Γ H L K (n + 1) (fun ξ => (d, t) :: acc ξ) (pfX n (fun _ => True) Pf) l) : XSeq P Γ H L K n acc Pf (⟨some d, op, ty, pos, af, none⟩ :: l) := XSeq.cons PvOk.triv (XStep.w hH h) k
theorem XSeq.alloc {T : TypeId} {zs : List Value} [hz : TyZero P T zs] (hH : ∀ (ξ : Nat → Value) (S : Nat → Bool) (b : Nat), S n = false → (∀ k ok, L[k]? = some ok → S k = true → ∀ j ∈ preds ok.after, S j = true) → (H (upd ξ n (.pointer (some ⟨b, 0, none⟩))) (updD S n)).Perm (Chunk.box b T (zs.map Tr.raw) :: H ξ S))
    (k : XSeq P Γ H L K (n + 1) (fun ξ => (d, Tr.raw (ξ n)) :: acc ξ) (pfX n (fun ξ => ∃ b, ξ n = .pointer (some ⟨b, 0, none⟩)) Pf) l) : XSeq P Γ H L K n acc Pf (⟨some d, .alloc T, ty, pos, af, none⟩ :: l) := XSeq.cons (PvOk.own (p := fun v => ∃ b, v = .pointer (some ⟨b, 0, none⟩))) (XStep.alloc hH) k
theorem XSeq.store {T : TypeId} {x y : Operand} {m : Nat} [hT : TySz P T m]
    (h : ∀ (ξ : Nat → Value) (S : Nat → Bool), S n = false → (∀ j ∈ preds af, S j = true) → (∀ k ok, L[k]? = some ok → S k = true → ∀ j ∈ preds ok.after, S j = true) → (∀ k, S k = true → Pf k ξ) →
      ∃ (b o : Nat) (e : TypeId) (ts us : List Tr) (t : Tr) (cf : List Chunk), ev (rst (slotsOf (.store T x y)) (acc ξ)) x = some (.raw (.pointer (some ⟨b, o, none⟩))) ∧ ev (rst (slotsOf (.store T x y)) (acc ξ)) y = some t ∧ RowT t us ∧ (H ξ S).Perm (Chunk.box b e ts :: cf) ∧ us.length = m ∧ o + m ≤ ts.length ∧ (H (upd ξ n undef) (updD S n)).Perm (Chunk.box b e (ts.take o ++ us ++ ts.drop (o + m)) :: cf))
    (k : XSeq P Γ H L K (n + 1) acc (pfX n (fun _ => True) Pf) l) : XSeq P Γ H L K n acc Pf (⟨none, .store T x y, ty, pos, af, none⟩ :: l) := XSeq.cons PvOk.triv (XStep.store h) k
/-- a slot is copied -/
theorem XSeq.copy {m s : Nat} (hm : (preds af).contains m = true) (hH : ∀ ξ S v, H (upd ξ n v) (updD S n) = H ξ S) (hop : op = .move (.tmp s) ∨ op = .assign (.tmp s)) (hl : ∀ ξ, Lg.look (rst (slotsOf op) (acc ξ)) s = some (Tr.raw (ξ m))) (hnm : m ≠ n)
    (k : XSeq P Γ H L K (n + 1) (fun ξ => (d, Tr.raw (ξ n)) :: acc ξ) (pfX n (fun ξ => ξ n = ξ m) Pf) l) : XSeq P Γ H L K n acc Pf (⟨some d, op, ty, pos, af, none⟩ :: l) := by
  refine XSeq.cons (T := Tr.raw) (Pv := fun ξ => ξ n = ξ m) ?_ ?_ k
  · intro ξ k v hk hk2 h
    have hkm : m ≠ k := fun e => hk2 (by subst e; simpa using hm)
    show upd ξ k v n = upd ξ k v m
    rw [upd_ne _ _ (Ne.symm hk), upd_ne _ _ hkm]
    exact h
  · unfold XStep
    intro ξ S h1 h2 h3 h4 a w dd next F hk
    have hv : a.eval (.tmp s) = ξ m := rd_raw (dd.ev (x := .tmp s) (hl ξ))
    have hrun : (execOp a.eval ⟨some d, op, ty, pos, af, none⟩).run P w = .ok (.value (ξ m)) w := by
      rcases hop with rfl | rfl <;> simp [execOp, hv]
    refine opIn_of_run hrun ⟨(by intro d h; cases h), (by intro x y h; cases h)⟩ ?_
    refine hk _ _ ?_ (raw_self _) fun env2 d2 => by rw [hH]; exact d2
    show upd ξ n (ξ m) n = upd ξ n (ξ m) m
    rw [upd_same, upd_ne _ _ hnm]
end seqs
end x

section imp
variable {P : Program} {Γ : Ctx} {env env' : Env} {cs cs' cf : List Chunk} {Q : Post}
/-- says no more -/
def Imp (t t' : Tr) : Prop := ∀ w A v, t.rd w A v → t'.rd w A v
inductive ImpL : List Tr → List Tr → Prop
  | nil : ImpL [] []
  | cons {t t' : Tr} {ts ts' : List Tr} (h : Imp t t') (k : ImpL ts ts') : ImpL (t :: ts) (t' :: ts')
theorem Imp.refl {t : Tr} : Imp t t := fun _ _ _ h => h
theorem Imp.nil {k : Nat} : Imp (Tr.raw (.slice none 0 0)) (Tr.sl k []) := by
  intro w A v h
  have := rd_raw h
  subst this
  unfold Tr.sl
  exact ⟨by simp, by simp, none, 0, rfl, by simp, by simp, fun _ => ⟨rfl, rfl⟩, .inl rfl⟩
theorem ImpL.refl : ∀ {ts : List Tr}, ImpL ts ts
  | [] => .nil
  | t :: ts => .cons Imp.refl ImpL.refl
theorem ImpL.len {ts ts' : List Tr} (h : ImpL ts ts') : ts'.length = ts.length := by
  induction h with
  | nil => rfl
  | cons _ _ ih => simp [ih]
theorem ImpL.rd {w : World} {A : Nat → Prop} {ts ts' : List Tr} (h : ImpL ts ts') : ∀ {vs : List Value}, RdC w A ts vs → RdC w A ts' vs := by
  induction h with
  | nil => intro vs h; exact h
  | cons h k ih =>
    intro vs hv
    obtain ⟨v, rest, rfl, h1, h2, h3⟩ := hv
    exact ⟨v, rest, rfl, h _ _ _ h1, h2, ih h3⟩
theorem Imp.agg {ts ts' : List Tr} (h : ImpL ts ts') : Imp (.agg ts) (.agg ts') := by
  intro w A v hv
  unfold Tr.agg at hv ⊢
  obtain ⟨vs, e, hr⟩ := hv
  exact ⟨vs, e, h.rd hr⟩
theorem Ent.imp {s : Nat} {t t' : Tr} (hl : Lg.look env s = some t) (h : Imp t t') : Ent Γ env cs ((s, t') :: env) cs := by
  unfold Ent
  intro a w d
  refine ⟨d.nodefer, d.tmps, ?_, d.chunks, d.nodup, d.fresh, d.below, d.frame⟩
  intro j u hj
  by_cases e : s = j
  · subst e; rw [look_cons_same] at hj; cases hj; exact h _ _ _ (d.env s t hl)
  · rw [look_cons_ne _ _ e] at hj; exact d.env j u hj
end imp
end Lg
end
section
set_option linter.all false
namespace Lg
open Go
section x2
variable {P : Program} {Γ : Ctx} {env : Env} {cs cf : List Chunk} {H : (Nat → Value) → (Nat → Bool) → List Chunk} {L : List Oper} {K : Env → List Chunk → Prop} {n : Nat} {l : List Oper}
variable {Pf : Nat → (Nat → Value) → Prop} {d : Nat} {op : Op} {ty : TypeId} {pos : String} {af : Array Edge} {acc : (Nat → Value) → Env} {t t' : Tr}

def b2n : Bool → Nat
  | true => 1
  | false => 0
/-- a call that takes numbers off the stream -/
theorem XSeq.callG {st f c b : Nat} {args : List Tr} {post : Tr → Prop} {ol : List Operand} {ts : Array TypeId} {xs : List Int} (hg : Gen P st f args c post)
    (ha : ∀ ξ, Evs (rst (slotsOf (.call ⟨.value (.func f), ol.toArray, ts⟩)) (acc ξ)) ol (Tr.ptr b :: args)) (ht : ∀ r, post r → Imp r t)
    (hH : ∀ (ξ : Nat → Value) (S : Nat → Bool), S n = false → (∀ k ok, L[k]? = some ok → S k = true → ∀ j ∈ preds ok.after, S j = true) → ∃ N cf, N + c ≤ 1000000000000 ∧ (H ξ S).Perm (Chunk.strm st b (intRows xs) N :: cf) ∧ ∀ v, (H (upd ξ n v) (updD S n)).Perm (Chunk.strm st b (intRows xs) (N + c) :: cf))
    (k : XSeq P Γ H L K (n + 1) (fun ξ => (d, t) :: acc ξ) (pfX n (fun _ => True) Pf) l) : XSeq P Γ H L K n acc Pf (⟨some d, .call ⟨.value (.func f), ol.toArray, ts⟩, ty, pos, af, none⟩ :: l) := by
  refine XSeq.cons (T := fun _ => t) (Pv := fun _ => True) PvOk.triv ?_ k
  unfold XStep
  intro ξ S h1 h2 h3 h4 a w dd next F hk
  unfold Gen at hg
  obtain ⟨N, cf, hN, hp, hp2⟩ := hH ξ S h1 h3
  have hs := hg b xs N hN
  have hcc := call_core2 (cf := cf) hs dd hp ((ha ξ).rd dd)
  have hrun : (execOp a.eval ⟨some d, .call ⟨.value (.func f), ol.toArray, ts⟩, ty, pos, af, none⟩).run P w = .ok (.enter f (ol.map a.eval).toArray) w := by
    unfold Spec at hs
    have := hs.1 (ol.map a.eval).toArray w
    simp [execOp, resolve, invoke, Deferred.ofValue, Act.eval, this]
  refine opIn_of_run hrun ⟨(by intro d h; cases h), (by intro x y h; cases h)⟩ ?_
  refine hcc.mono ?_
  rintro e w' ⟨v, r, cs', rfl, ⟨rfl, hpo⟩, hrd, hd⟩
  refine hk _ _ trivial (ht r hpo _ _ _ ?_) fun env2 h2 => (hd env2 h2).perm (hp2 v).symm
  rw [av_perm (hp2 v)]
  exact hrd

/-- an owned slice grows -/
theorem XSeq.append {E kk bb z T} [hS : TySl P T E kk bb z] {x y : Operand} (mm : Nat)
    (h : ∀ (ξ : Nat → Value) (S : Nat → Bool), S n = false → (∀ j ∈ preds af, S j = true) → (∀ k ok, L[k]? = some ok → S k = true → ∀ j ∈ preds ok.after, S j = true) → (∀ k, S k = true → Pf k ξ) →
      ∃ (ad : Option Addr) (m cap : Nat) (rows rows2 : List (List Tr)) (cf : List Chunk), ev (rst (slotsOf (.call ⟨.builtin .append, #[x, y], #[T, T]⟩)) (acc ξ)) x = some (.raw (.slice ad m cap)) ∧ ev (rst (slotsOf (.call ⟨.builtin .append, #[x, y], #[T, T]⟩)) (acc ξ)) y = some (.sl kk rows2) ∧
        (H ξ S).Perm (Chunk.own ad cap kk E rows :: cf) ∧ m = rows.length ∧ rows.length + rows2.length = mm ∧ (rows.length + rows2.length) * bb ≤ 140737488355328 ∧ rows.length + rows2.length ≤ 9223372036854775807 ∧ ∀ ad' cap', (H (upd ξ n (.slice ad' (rows ++ rows2).length cap')) (updD S n)).Perm (Chunk.own ad' cap' kk E (rows ++ rows2) :: cf))
    (k : XSeq P Γ H L K (n + 1) (fun ξ => (d, Tr.raw (ξ n)) :: acc ξ) (pfX n (fun ξ => ∃ ad cap, ξ n = .slice ad mm cap) Pf) l) : XSeq P Γ H L K n acc Pf (⟨some d, .call ⟨.builtin .append, #[x, y], #[T, T]⟩, ty, pos, af, none⟩ :: l) := by
  refine XSeq.cons (T := Tr.raw) (Pv := fun ξ => ∃ ad cap, ξ n = .slice ad mm cap) (PvOk.own (p := fun v => ∃ ad cap, v = .slice ad mm cap)) ?_ k
  unfold XStep
  intro ξ S h1 h2 h3 h4 a w dd next F hk
  obtain ⟨ad, m, cap, rows, rows2, cf, hx, hy, hp, hn, hmm, hb, hm, hq⟩ := h ξ S h1 h2 h3 h4
  subst hn
  have hv := rd_raw (dd.ev hx)
  have d' := dd.perm hp
  have hys := dd.ev hy
  have hown0 := d'.has (List.Perm.refl _)
  have hav := av_perm hp Γ.M
  rw [hav] at hys
  generalize hA : av Γ.M (Chunk.own ad cap kk E rows :: cf) = A at hys hown0
  unfold Tr.sl at hys
  obtain ⟨hk2, hl2, ad2, cap2, hv2, g1, g2, g3, g4⟩ := hys
  unfold Chunk.own at hown0
  obtain ⟨hk0, xs, hown, hrd⟩ := hown0
  obtain ⟨ti, zv, hi1, hi2, hi3, hi4, hi5, hi6⟩ := hS.hE
  have hzs : zv.cells.size = kk := hS.hz _ _ hi1 hi2
  have hm' : rows.length + rows2.length ≤ maxLen := by simp only [maxLen]; omega
  have key : ∃ v' w', (Builtin.append_ #[T, T] ty #[.slice ad rows.length cap, .slice ad2 rows2.length cap2]).run P w = .ok v' w' ∧ ∃ news, RdC w A rows2.flatten news ∧
      w'.ownsRow 0 E kk v' (rows.length + rows2.length) (xs ++ news) ∧ w.grownBy w' (Value.ownBlock (.slice ad rows.length cap)) ∧ (∀ b, v'.ownBlock = some b → (Value.ownBlock (.slice ad rows.length cap)) = some b ∨ w.heap.size ≤ b) := by
    rcases g4 with g4 | ⟨b, off, rfl, hc⟩
    · subst g4
      cases ad2 with
      | none =>
        obtain ⟨_, rfl⟩ := g3 rfl
        exact ⟨_, w, run_append_owned_none (P := P) w 0 T ty E ti kk hS.hT hi1 _ _ xs hown, [], rfl, by simpa using hown, ⟨rfl, rfl, rfl, Nat.le_refl _, fun _ _ _ => rfl⟩, fun b hb => .inl hb⟩
      | some a2 =>
        obtain ⟨v', w', h1, h2, h3, h4⟩ := append_run (P := P) (ty := ty) (a := a2) (m := 0) (c := cap2) (news := []) hS.hT hi1 hi2 hi4 hi5 hzs hi6 hown (by simp) (by simp) (by simp) (by simpa using hm') (by simpa using hb)
        exact ⟨v', w', h1, [], rfl, h2, h3, h4⟩
    · obtain ⟨vs, hvs, hcell⟩ := rdc_at hc
      obtain ⟨v', w', h1, h2, h3, h4⟩ := append_run (P := P) (ty := ty) (a := ⟨b, off, none⟩) (m := rows2.length) (c := cap2) (news := vs) hS.hT hi1 hi2 hi4 hi5 hzs hi6 hown (by rw [hvs.length]; exact flat_len hk2) hcell hvs.one hm' hb
      exact ⟨v', w', h1, vs, hvs, h2, h3, h4⟩
  obtain ⟨v', w', hrun, news, hnews, hown', hgr, hfresh⟩ := key
  have hform : ∃ ad' cap', v' = .slice ad' (rows ++ rows2).length cap' := by
    rcases hown'.2 with ⟨e, h0⟩ | ⟨g, c, cur, e, _⟩
    · exact ⟨none, 0, by rw [e, List.length_append, h0]⟩
    · exact ⟨_, c, by rw [e, List.length_append]⟩
  obtain ⟨ad', cap', rfl⟩ := hform
  have hx2 : (execOp a.eval ⟨some d, .call ⟨.builtin .append, #[x, y], #[T, T]⟩, ty, pos, af, none⟩).run P w = .ok (.value (.slice ad' (rows ++ rows2).length cap')) w' := by simp [execOp, resolve, invoke, builtin, hv, hv2, hrun] <;> rfl
  refine opIn_of_run hx2 ⟨(by intro d h; cases h), (by intro x y h; cases h)⟩ ?_
  refine hk _ _ ⟨ad', cap', by rw [upd_same, List.length_append, hmm]⟩ (raw_self _) fun env2 d2 => Den.perm ?_ (hq ad' cap').symm
  refine (d2.perm hp).turnF (c' := Chunk.own ad' cap' kk E (rows ++ rows2)) ?_ ?_ ?_ ?_
  · intro b hb
    have hb' : Value.ownBlock (.slice ad' (rows ++ rows2).length cap') = some b := by unfold Chunk.own at hb; simpa using hb
    rcases hfresh b hb' with h | h
    · exact .inl (by unfold Chunk.own; simpa using h)
    · exact .inr ⟨h, (hown'.lt b hb').2⟩
  · have : (Chunk.own ad' cap' kk E (rows ++ rows2)).fp = (Value.ownBlock (.slice ad' (rows ++ rows2).length cap')).toList := by unfold Chunk.own; rfl
    rw [this]
    cases Value.ownBlock (.slice ad' (rows ++ rows2).length cap') <;> simp
  · exact ⟨hgr.os, hgr.tape, hgr.output, hgr.size, fun b hb hn => hgr.block b hb fun e => hn (by unfold Chunk.own; simp [← e]), fun _ => run_drawn hrun⟩
  · intro hs _
    rw [hA] at hs
    generalize av Γ.M (Chunk.own ad' cap' kk E (rows ++ rows2) :: cf) = A' at hs ⊢
    unfold Chunk.own
    refine ⟨?_, xs ++ news, by simpa using hown', ?_⟩
    · intro r hr
      rcases List.mem_append.1 hr with h | h
      · exact hk0 r h
      · exact hk2 r h
    · rw [List.flatten_append]
      exact (hrd.mono hs).app (hnews.mono hs)

/-! ### one of some trees -/
def Tr.anyOf (ts : List Tr) : Tr := ⟨fun w A v => ∃ t ∈ ts, t.rd w A v, fun h ⟨t, ht, hr⟩ => ⟨t, ht, t.mono h hr⟩⟩
theorem OpV.imp (h : OpV P Γ op ty env cs t) (hi : Imp t t') : OpV P Γ op ty env cs t' := by
  unfold OpV at h ⊢
  intro a w d
  obtain ⟨v, h1, h2⟩ := h a w d
  exact ⟨v, h1, hi _ _ _ h2⟩
theorem OneT.anyOf {ts : List Tr} (h : ∀ t ∈ ts, OneT t) : OneT (Tr.anyOf ts) := ⟨fun w A v ⟨t, ht, hr⟩ => (h t ht).h w A v hr⟩
theorem Imp.intS {x : Int} {p : Int → Prop} (h : p x) : Imp (Tr.int x) (Tr.intS p) := fun w A v hr => ⟨x, rd_raw hr, h⟩
theorem Imp.strS {x : ByteArray} {p : ByteArray → Prop} (h : p x) : Imp (Tr.str x) (Tr.strS p) := fun w A v hr => ⟨x, rd_raw hr, h⟩
end x2
attribute [irreducible] Tr.anyOf

end Lg
end
