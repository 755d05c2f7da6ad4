/- A part of the proof of a law of this seat: it adds no condition. By an AI agent. -/
import Derived.Test.YtfgcjpkkbhnkgaaGreatDoorLgStr
section
set_option linter.all false
namespace Lg
open Go

/-! ### values of which only some law is known -/
def Tr.intS (p : Int → Prop) : Tr := ⟨fun _ _ v => ∃ n, v = .int .i64 n ∧ p n, fun _ h => h⟩
def Tr.strS (p : ByteArray → Prop) : Tr := ⟨fun _ _ v => ∃ s, v = .string s ∧ p s, fun _ h => h⟩
def Tr.boolS : Tr := ⟨fun _ _ v => ∃ b, v = .bool b, fun _ h => h⟩
instance {p} : OneT (Tr.intS p) := ⟨fun _ _ _ h => by obtain ⟨n, rfl, _⟩ := h; exact ⟨rfl, rfl⟩⟩
instance {p} : OneT (Tr.strS p) := ⟨fun _ _ _ h => by obtain ⟨n, rfl, _⟩ := h; exact ⟨rfl, rfl⟩⟩
instance : OneT Tr.boolS := ⟨fun _ _ _ h => by obtain ⟨n, rfl⟩ := h; exact ⟨rfl, rfl⟩⟩

section strmrow
variable {P : Program} {Γ : Ctx} {env env' : Env} {cs cs' cf : List Chunk} {Q : Post} {C B : Nat}

theorem Row.strm {st b N : Nat} {rows : List (List Tr)} : Row Γ (fun k => Chunk.strm st b rows (N + k) :: cf) := by
 refine ⟨fun k => ?_, fun k k' hk env a w d => ?_⟩
 ·funext x
  simp [Lg.av, fps, Chunk.strm]
 ·have h : Ent Γ env (Chunk.strm st b rows (N + k) :: cf) env (Chunk.strm st b rows (N + k') :: cf) := Ent.more_strm (by omega)
  unfold Ent at h
  exact h a w d

end strmrow

theorem open_sl1 {ι : Type} {k : Nat} {row : List Tr} {p : ι → Prop} {f : ι → List Tr} (hk : ∀ x, (f x).length = row.length) (h : ∀ w A vs, RdC w A row vs → ∃ x, p x ∧ RdC w A (f x) vs) : ∀ w A v, (Tr.sl k [row]).rd w A v → ∃ x, p x ∧ (Tr.sl k [f x]).rd w A v := by
 intro w A v hv
 unfold Tr.sl at hv
 obtain ⟨h1, h2, a, cap, rfl, h3, h4, h5, h6⟩ := hv
 rcases h6 with h6 | ⟨b, off, rfl, hA, c, e, fz, hb, hr⟩
 ·cases h6
 ·simp only [List.flatten_cons, List.flatten_nil, List.append_nil] at hr
  obtain ⟨x, hp, hx⟩ := h _ _ _ hr
  refine ⟨x, hp, ?_⟩
  unfold Tr.sl
  refine ⟨fun r hr => ?_, h2, some ⟨b, off, none⟩, cap, rfl, h3, h4, fun e => (by cases e), .inr ⟨b, off, rfl, hA, c, e, fz, hb, ?_⟩⟩
  ·simp only [List.mem_singleton] at hr
   subst hr
   rw [hk]
   exact h1 row (by simp)
  ·simp only [List.flatten_cons, List.flatten_nil, List.append_nil]
   rw [hk]
   exact hx
end Lg
end
section
set_option linter.all false
namespace Lg
open Go

section loopi
variable {P : Program} {Γ : Ctx} {env env' : Env} {cs cs' cf : List Chunk} {Q : Post}

/-- a loop whose states are said by a relation: n falls, e and c are the slots and the owned memory; F: slots that no turn writes -/
theorem Cw.loopI {c : Code} (F : Env) (R : List Chunk) (I : Nat → Env → List Chunk → Prop) (h0 : ∃ n e cc, Ent Γ env cs (e ++ F) (cc ++ R) ∧ I n e cc)
  (hr : ∀ n e cc, I n e cc → Cw P Γ c (e ++ F) (cc ++ R) (Then (fun env' cs' => ∃ m e2 c2, Ent Γ env' cs' (e2 ++ F) (c2 ++ R) ∧ I m e2 c2 ∧ m < n) Q)) : Cw P Γ (.loop c) env cs Q := by
 refine Cw.loop (ι := Nat × Env × List Chunk) (fun s => I s.1 s.2.1 s.2.2) (fun s => s.2.1 ++ F) (fun s => s.2.2 ++ R) (fun s => s.1) ?_ ?_
 ·obtain ⟨n, e, cc, hE, h⟩ := h0
  exact ⟨(n, e, cc), h, hE⟩
 ·rintro ⟨n, e, cc⟩ hi
  refine (hr n e cc hi).mono ?_
  intro x env' cs' h
  unfold Then at h ⊢
  cases x with
  |normal =>
   obtain ⟨m, e2, c2, h3, h1, h2⟩ := h
   exact ⟨(m, e2, c2), h1, h2, h3⟩
  |_ => exact h

theorem Perm.cons' {c : Chunk} {l : List Chunk} (h : cs.Perm (c :: cf)) (r : cf.Perm l) : cs.Perm (c :: l) := h.trans (List.Perm.cons _ r)
theorem Ent.mkP (h : Sub env env') (k : cs.Perm cs') : Ent Γ env cs env' cs' := (Ent.perm k).trans (Ent.sub h)
end loopi
section norm
variable {P : Program} {Γ : Ctx} {env env' : Env} {cs cs' cf : List Chunk} {Q : Post} {R : Array Oper}
variable {i : Tmp} {ty : TypeId} {pos : String} {af : Array Edge} {rest : List Oper} {x y z : Operand} {T T2 : TypeId}
/-! the same rules with the lists written out -/
theorem OpV.buildN {pl : List (Nat × Nat)} {zs : List Value} [h : TyStr P T pl zs] {parts : List (Nat × Operand)} {ts ts' : List Tr} (hp : Parts (fun n : Nat => pl[n]?) env parts (zs.map Tr.raw) ts) (e : ts = ts') : OpV P Γ (.build T parts.toArray) ty env cs (.agg ts') := e ▸ OpV.build hp
theorem Ops.buildN {pl : List (Nat × Nat)} {zs : List Value} [h : TyStr P T pl zs] {parts : List (Nat × Operand)} {ts ts' : List Tr} (hp : Parts (fun n : Nat => pl[n]?) env parts (zs.map Tr.raw) ts) (e : ts = ts') (hi : Nat.blt i Γ.n = true)
  (kont : Ops P Γ R rest ((i, .agg ts') :: env) cs Q) : Ops P Γ R (⟨some i, .build T parts.toArray, ty, pos, af, none⟩ :: rest) env cs Q := Ops.val' hi (OpV.buildN hp e) kont
theorem Ops.store_boxN {n b o : Nat} {e : TypeId} {ts us ts' : List Tr} {t : Tr} [hr : RowT t us] [hT : TySz P T n] (hx : ev env x = some (.raw (.pointer (some ⟨b, o, none⟩)))) (hy : ev env y = some t)
  (hp : cs.Perm (Chunk.box b e ts :: cf)) (hn : us.length = n) (ho' : Nat.ble (o + n) ts.length = true) (e' : ts.take o ++ us ++ ts.drop (o + n) = ts')
  (kont : Ops P Γ R rest env (Chunk.box b e ts' :: cf) Q) : Ops P Γ R (⟨none, .store T x y, ty, pos, af, none⟩ :: rest) env cs Q := Ops.store_box hx hy hp hn ho' (e' ▸ kont)
end norm
section settle
variable {P : Program} {Γ : Ctx} {env env' : Env} {cs cs' cf : List Chunk} {Q : Post} {R : Array Oper}

theorem Den.settled {ad : Option Addr} {n cap kk : Nat} {e : TypeId} {rows : List (List Tr)} {a : Act} {w : World} (d' : Den Γ env (Chunk.own ad cap kk e rows :: cf) a w) (hn : n = rows.length) : (Tr.sl kk rows).rd w (av Γ.M cf) (.slice ad n cap) := by
 subst hn
 have hh := d'.has (List.Perm.refl _)
 have hs : SameOn w w (av Γ.M (Chunk.own ad cap kk e rows :: cf)) (av Γ.M cf) := fun b _ ⟨h1, h2⟩ => ⟨⟨h1, fun hm => h2 (by simp only [fps, List.flatMap_cons, List.mem_append]; exact .inr hm)⟩, rfl⟩
 generalize hA : av Γ.M (Chunk.own ad cap kk e rows :: cf) = A at hh hs
 unfold Chunk.own at hh
 obtain ⟨hk, xs, ho, hr⟩ := hh
 unfold Tr.sl
 rcases ho.2 with ⟨e1, e2⟩ | ⟨g, cp, cur, hv, hg, hb, h1, h2, h3, h4⟩
 ·simp only [Value.slice.injEq] at e1
  obtain ⟨rfl, _, rfl⟩ := e1
  exact ⟨hk, by simp [e2], none, 0, rfl, by omega, by simp, fun _ => ⟨List.eq_nil_of_length_eq_zero e2, rfl⟩, .inl (List.eq_nil_of_length_eq_zero e2)⟩
 ·simp only [Value.slice.injEq] at hv
  obtain ⟨rfl, _, rfl⟩ := hv
  have hfr := d'.fresh g (by simp only [fps, List.flatMap_cons, List.mem_append]; left; unfold Chunk.own; simp [Value.ownBlock])
  have hnot : g ∉ fps cf := by
   have := d'.nodup
   simp only [fps, List.flatMap_cons] at this
   exact fun hm => (List.nodup_append.1 this).2.2 g (by unfold Chunk.own; simp [Value.ownBlock]) g hm rfl
  refine ⟨hk, by omega, _, cap, rfl, h1, h2, fun h => absurd h (by simp), .inr ⟨g, 0, rfl, ⟨hfr.2.1, hnot⟩, cur, e, _, hb, ?_⟩⟩
  rw [List.drop_zero, flat_len hk, h4]
  exact hr.mono hs

/-- an owned slice that a variable holds is written no more -/
theorem Ent.settle_box {b ty i : Nat} {ts ts' : List Tr} {ad : Option Addr} {n cap kk : Nat} {e : TypeId} {rows : List (List Tr)} (hp : cs.Perm (Chunk.own ad cap kk e rows :: Chunk.box b ty ts :: cf)) (hi : ts[i]? = some (Tr.raw (.slice ad n cap))) (hn : n = rows.length) (ht : ts.set i (Tr.sl kk rows) = ts') :
  Ent Γ env cs env (Chunk.box b ty ts' :: cf) := by
 subst ht
 unfold Ent
 intro a w d
 have hst := (d.perm hp).settled hn
 have d3 : Den Γ env (Chunk.box b ty ts :: cf) a w := (d.perm hp).dropc
 have hfps : fps (Chunk.box b ty (ts.set i (Tr.sl kk rows)) :: cf) = fps (Chunk.box b ty ts :: cf) := by
  simp only [fps, List.flatMap_cons]
  unfold Chunk.box
  rfl
 have hav : av Γ.M (Chunk.box b ty (ts.set i (Tr.sl kk rows)) :: cf) = av Γ.M (Chunk.box b ty ts :: cf) := by funext b; simp only [av, hfps]
 refine ⟨d3.nodefer, d3.tmps, by rw [hav]; exact d3.env, ?_, by rw [hfps]; exact d3.nodup, by rw [hfps]; exact d3.fresh, d3.below, d3.frame⟩
 intro c hc
 rw [hav]
 rcases List.mem_cons.1 hc with rfl | hc
 ·have h := d3.chunks (Chunk.box b ty ts) (by simp)
  generalize av Γ.M (Chunk.box b ty ts :: cf) = A at *
  unfold Chunk.box at h ⊢
  obtain ⟨c, hc, hr⟩ := h
  refine ⟨c, hc, ?_⟩
  obtain ⟨v, hv1, hv2, hv3⟩ := hr.get hi
  have hv2 := rd_raw hv2
  have := hr.set i (t := Tr.sl kk rows) (v := v) (by rw [hv2]; exact hst) hv3
  rwa [show c.toList.set i v = c.toList by
   apply List.ext_getElem?
   intro j
   rw [List.getElem?_set]
   by_cases ei : i = j
   ·subst ei
    have hlt := (List.getElem?_eq_some_iff.1 hv1).1
    rw [if_pos rfl, if_pos hlt, hv1]
   ·rw [if_neg ei]] at this
 ·exact d3.chunks c (by simp [hc])
end settle
section owned
variable {P : Program} {Γ : Ctx} {env env' : Env} {cs cs' cf : List Chunk} {Q : Post} {R : Array Oper}
variable {i : Tmp} {ty : TypeId} {pos : String} {af : Array Edge} {rest : List Oper}

/-- an owned slice reads as a settled one where nobody owns it any more -/
theorem own_reads {ad : Option Addr} {cap kk : Nat} {e : TypeId} {rows : List (List Tr)} {w : World} {A A' : Nat → Prop} (h : (Chunk.own ad cap kk e rows).holds w A) (hA : ∀ b, A b → A' b) (hg : ∀ g ∈ (Chunk.own ad cap kk e rows).fp, A' g) : (Tr.sl kk rows).rd w A' (.slice ad rows.length cap) := by
 unfold Chunk.own at h hg
 obtain ⟨hk, xs, ho, hr⟩ := h
 have hs : SameOn w w A A' := fun b _ h => ⟨hA b h, rfl⟩
 unfold Tr.sl
 rcases ho.2 with ⟨e1, e2⟩ | ⟨g, cp, cur, hv, hgg, hb, h1, h2, h3, h4⟩
 ·simp only [Value.slice.injEq] at e1
  obtain ⟨rfl, _, rfl⟩ := e1
  exact ⟨hk, by simp [e2], none, 0, rfl, by omega, by simp, fun _ => ⟨List.eq_nil_of_length_eq_zero e2, rfl⟩, .inl (List.eq_nil_of_length_eq_zero e2)⟩
 ·simp only [Value.slice.injEq] at hv
  obtain ⟨rfl, _, rfl⟩ := hv
  refine ⟨hk, by omega, _, cap, rfl, h1, h2, fun h => absurd h (by simp), .inr ⟨g, 0, rfl, ⟨hg g (by simp [Value.ownBlock]), cur, e, _, hb, ?_⟩⟩⟩
  rw [List.drop_zero, flat_len hk, h4]
  exact hr.mono hs

theorem Ops.callO {f : FuncId} {l : List Operand} {ts : Array TypeId} {args : List Tr} {k E : Nat} {post : List (List Tr) → Prop} (hs : PFnO P f args k E post) (ha : Evs env l args) (hi : Nat.blt i Γ.n = true)
  (kont : ∀ ad cap rows, post rows → Ops P Γ R rest ((i, Tr.raw (.slice ad rows.length cap)) :: env) (Chunk.own ad cap k E rows :: cs) Q) : Ops P Γ R (⟨some i, .call ⟨.value (.func f), l.toArray, ts⟩, ty, pos, af, none⟩ :: rest) env cs Q := by
 unfold PFnO at hs
 exact Ops.call (cf := cs) hs ha (List.Perm.refl _) hi fun r cs' h => by
  obtain ⟨ad, cap, rows, rfl, rfl, h⟩ := h
  exact kont ad cap rows h

/-- what it hands out is settled at once -/
theorem PFnO.settled {f : FuncId} {args : List Tr} {k E : Nat} {post : List (List Tr) → Prop} (hs : PFnO P f args k E post) : PFn P f args (fun r => ∃ rows, r = Tr.sl k rows ∧ post rows) := by
 refine PFn.mk ?_
 unfold PFnO at hs
 unfold Spec at hs ⊢
 refine ⟨hs.1, fun M w vs h1 h2 h3 h4 h5 => (hs.2 M w vs h1 h2 h3 h4 h5).mono ?_⟩
 rintro e w' ⟨v, r, cs', he, ⟨ad, cap, rows, rfl, rfl, hp⟩, hr, hc, hn, hf, hfr⟩
 have hv := rd_raw hr
 subst hv
 refine ⟨_, _, [], he, ⟨rfl, rows, rfl, hp⟩, ?_, by simp, by simp [fps], by simp [fps], hfr⟩
 refine own_reads (hc _ (List.mem_singleton.2 rfl)) (fun b hb => ⟨hb.1, by simp [fps]⟩) fun g hg => ⟨(hf g (by simpa [fps] using hg)).2.1, by simp [fps]⟩
theorem PFnO.val {f : FuncId} {args : List Tr} {k E : Nat} {rows : List (List Tr)} (hs : PFnO P f args k E (· = rows)) : PFn P f args (· = Tr.sl k rows) := by
 have := hs.settled
 refine PFn.mk (Spec.mono this.spec ?_)
 rintro r cs ⟨rfl, rows, rfl, rfl⟩
 exact ⟨rfl, rfl⟩
end owned
section selfapp
variable {P : Program} {Γ : Ctx} {env env' : Env} {cs cs' cf : List Chunk} {Q : Post} {R : Array Oper}
variable {i : Tmp} {ty : TypeId} {pos : String} {af : Array Edge} {rest : List Oper} {x y : Operand} {T : TypeId}
end selfapp
section clos
variable {P : Program} {Γ : Ctx} {env env' : Env} {cs cs' cf : List Chunk} {Q : Post} {R : Array Oper}
variable {i : Tmp} {ty : TypeId} {pos : String} {af : Array Edge} {rest : List Oper} {x y : Operand} {T T2 : TypeId}

theorem rdl_caps {w : World} {A : Nat → Prop} {caps : List Value} : ∀ {args : List Tr} {vs : List Value}, RdL w A args vs → RdL w A (args ++ caps.map Tr.raw) (vs ++ caps)
 |[], vs, h => by
  have h : vs = [] := h
  subst h
  simp only [List.nil_append]
  induction caps with
  |nil => rfl
  |cons c caps ih => exact ⟨c, caps, rfl, raw_self _, ih⟩
 |t :: args, vs, ⟨v, rest, e, ht, hr⟩ => by
  subst e
  exact ⟨v, rest ++ caps, rfl, ht, rdl_caps hr⟩

/-- a closure that writes nothing is called, in a region whose order is open -/
theorem OpW.callS_fn {f : FuncId} {g : Operand} {xs : List Operand} {ts : Array TypeId} {caps : List Value} {args : List Tr} {cin : List Chunk} {t : Tr} (hg : ev env g = some (.raw (.func (.func f) #[] caps.toArray))) (hs : Spec P f (args ++ caps.map Tr.raw) cin (fun r cs => r = t ∧ cs = cin)) (ha : Evs env xs args) (hp : cs.Perm (cin ++ cf)) :
  OpW P Γ (.call ⟨.value g, xs.toArray, ts⟩) ty env cs t := by
 unfold OpW
 intro a w dd d pos af g2 next F hn
 have hgv := rd_raw (dd.ev hg)
 have hc := call_core2 hs dd hp (rdl_caps (caps := caps) (ha.rd dd))
 unfold Spec at hs
 have hrun : (execOp a.eval ⟨some d, .call ⟨.value g, xs.toArray, ts⟩, ty, pos, af, g2⟩).run P w = .ok (.enter f (xs.map a.eval ++ caps).toArray) w := by
  have := hs.1 (xs.map a.eval ++ caps).toArray w
  simp [execOp, resolve, invoke, Deferred.ofValue, hgv] at this ⊢
  exact this
 refine opIn_of_run hrun ⟨(by intro d h; cases h), (by intro x y h; cases h)⟩ ?_
 refine hc.mono ?_
 rintro e w' ⟨v, r, cs', rfl, ⟨rfl, rfl⟩, hrd, hd⟩
 exact hn _ _ (by rw [av_perm hp]; exact hrd) fun env2 h => (hd env2 h).perm hp.symm

/-- is it nil? of an empty slice nobody knows -/
theorem Ops.eql_nilS {E kk bb z} [hS : TySl P T E kk bb z] {k2 : Nat} {rows : List (List Tr)} (hx : ev env x = some (.sl k2 rows)) (hi : Nat.blt i Γ.n = true)
  (kont : ∀ b : Bool, (b = true → rows = []) → Ops P Γ R rest ((i, .bool b) :: env) cs Q) : Ops P Γ R (⟨some i, .binOp .eql T x (.const (.slice none 0 0)) T2, ty, pos, af, none⟩ :: rest) env cs Q :=
 Ops.of fun a w d => by
  have h := d.ev hx
  unfold Tr.sl at h
  obtain ⟨_, _, ad, cap, hv, _, _, h1, h2⟩ := h
  have he : ∀ n, (Op.equalIn (n + 1) T (.slice ad rows.length cap) (.slice none 0 0)).run P w = .ok ad.isNone w := by
   intro n
   cases ad <;> simp [Op.equalIn, run_underlying hS.hT]
  have hc : a.eval (.const (.slice none 0 0)) = .slice none 0 0 := rfl
  refine ⟨_, _, .value (.bool ad.isNone), w, ?_, .inl ⟨_, rfl, Den.put d hi (raw_self _)⟩, kont ad.isNone (fun e => ?_)⟩
  ·simp [execOp, hv, hc, eqGuard, binOp, Op.equal]
   rw [show Op.maxDepth = 9999 + 1 from rfl, he]
   rfl
  ·cases ad with
   |none => exact (h1 rfl).1
   |some _ => cases e
end clos
theorem ba_self (a : ByteArray) : (a == a) = true := by
 cases a with
 |mk d => exact beq_self_eq_true d
theorem goPm {p : Prop} (h : p := by repeat' (first | exact List.Perm.refl _ | refine Perm.cons' goPk ?_)) : p := h
end Lg
end
