/- A part of the proof of a law of this seat: it adds no condition. By an AI agent. -/
import Derived.Lib.Builder
import Derived.Lib.AppendStr
import Derived.Lib.UnsafeStr
import Derived.Lib.Bytealg
import Derived.Test.YtfgcjpkkbhnkgaaGreatDoorLgCpy
section
set_option linter.all false
namespace Lg
open Go Go.ChangeMaps

/-! ### literals of maps -/
section maps
variable {P : Program} {Γ : Ctx} {env env' : Env} {cs cs' cf : List Chunk} {Q : Post} {R : Array Oper}
variable {i : Tmp} {ty : TypeId} {pos : String} {af : Array Edge} {rest : List Oper}
variable {x y z : Operand} {T : TypeId}
variable {α : Type} [DecidableEq α] {enc : α → Value}

/-- a literal of a map: one entry more -/
theorem Ops.insertM {K E : TypeId} {zv : Value} [hT : TyMap P T K E zv] [hK : KeyTy P K enc] {b : Nat} {a : α} {t : Tr} {kv : List (α × Tr)} (hx : ev env x = some (.raw (.map (some b)))) (hy : ev env y = some (.raw (enc a))) (hz : ev env z = some t)
  (hp : cs.Perm (Chunk.mp enc b kv :: cf)) (kont : Ops P Γ R rest env (Chunk.mp enc b (mset a t kv) :: cf) Q) : Ops P Γ R (⟨none, .insert T x y z, ty, pos, af, none⟩ :: rest) env cs Q :=
 Ops.of fun ac w d => by
  have hv := rd_raw (d.ev hx)
  have hk := rd_raw (d.ev hy)
  have ht := d.ev hz
  have d := d.perm hp
  rw [av_perm hp] at ht
  obtain ⟨es, clock, hb, hr, h1, h2⟩ := d.has (List.Perm.refl _)
  have hchk := hK.chk false a w
  have hset : ∀ o : Obj, (setObj b o).run P w = .ok () (setBlock w b o) := fun o => MapKept.run_setObj_map o hb
  have hlt : b < w.heap.size := (Array.getElem?_eq_some_iff.1 hb).1
  have hturn : ∀ (es' : Array MapEntry) (c' : Nat), EsR w (av Γ.M (Chunk.mp enc b kv :: cf)) enc (mset a t kv) es'.toList → (borns es'.toList).Pairwise (· < ·) → (∀ e ∈ es'.toList, e.born < c') → Den Γ env (Chunk.mp enc b (mset a t kv) :: cf) ac (setBlock w b (.map es' c')) := by
   intro es' c' hr' hb1 hb2
   refine d.turn rfl (fun q hq hn => ?_) (by simp [setBlock]) rfl rfl rfl ?_
   ·exact ChangeMaps.heap_setBlock_other hb _ (by simpa [Chunk.mp] using hn)
   ·intro hs _
    exact ⟨es', c', ChangeMaps.heap_setBlock_same hb _, hr'.mono hs, hb1, hb2⟩
  rcases run_findKey (P := P) (K := K) hr a with ⟨g1, g2, g3⟩ | ⟨t0, v, j, e, g1, g2, g3, g4, g5, g6⟩
  ·refine ⟨env, _, .skip, _, by simp [execOp, hv, hk, Instr.mapUpdate, run_underlying hT.hT, run_getMap hb, hchk, g2, hset] <;> rfl, .inr ⟨rfl, ?_⟩, kont⟩
   refine (hturn _ _ ?_ ?_ ?_).put_none _
   ·rw [Array.toList_push]
    exact g3 t _ clock (enc a) ht
   ·rw [Array.toList_push]
    simp only [borns, List.map_append, List.map_cons, List.map_nil]
    rw [List.pairwise_append]
    exact ⟨h1, by simp, fun p hp q hq => by
     rw [List.mem_singleton.1 hq]
     exact mem_borns.1 h2 p hp⟩
   ·intro e he
    rw [Array.toList_push] at he
    rcases List.mem_append.1 he with h | h
    ·have := h2 e h; omega
    ·rw [List.mem_singleton.1 h]; simp
  ·have hej : es[j]? = some e := by rw [← Array.getElem?_toList]; exact g4
   refine ⟨env, _, .skip, _, by simp [execOp, hv, hk, Instr.mapUpdate, run_underlying hT.hT, run_getMap hb, hchk, g2, hej, g5, run_stays (P := P) (K := K), hset] <;> rfl, .inr ⟨rfl, ?_⟩, kont⟩
   refine (hturn _ _ ?_ ?_ ?_).put_none _
   ·rw [Array.toList_modify]
    exact g6 t _ ht
   ·rw [Array.toList_modify]
    rw [borns_modify]
    exact h1
   ·rw [Array.toList_modify, mem_borns, borns_modify]
    exact mem_borns.1 h2
end maps
end Lg
end
section
set_option linter.all false
namespace Lg
open Go

/-! ### strings.Builder: bytes in an owned slice -/
def bytR (s : ByteArray) : List (List Tr) := s.data.toList.map fun b => [Tr.raw (.int .u8 b.toNat)]
theorem bytR_len (s : ByteArray) : (bytR s).length = s.size := by
 unfold bytR
 rw [List.length_map, Array.length_toList]
 rfl
theorem bytR_read {w : World} {A : Nat → Prop} {s : ByteArray} {xs : List Value} (h : RdC w A (bytR s).flatten xs) : xs = Lib.strCells s := by
 unfold bytR at h
 unfold Lib.strCells
 generalize s.data.toList = l at *
 induction l generalizing xs with
 |nil => exact h
 |cons b l ih =>
  obtain ⟨v, rest, rfl, h1, _, h2⟩ := h
  rw [ih h2, rd_raw h1]
  rfl
theorem bytR_rdc {w : World} {A : Nat → Prop} (s : ByteArray) : RdC w A (bytR s).flatten (Lib.strCells s) := by
 unfold bytR Lib.strCells
 generalize s.data.toList = l
 induction l with
 |nil => rfl
 |cons b l ih => exact ⟨_, _, rfl, raw_self _, rfl, ih⟩

section bld
variable {P : Program} {Γ : Ctx} {env env' : Env} {cs cs' cf : List Chunk} {Q : Post} {R : Array Oper}
variable {i : Tmp} {ty : TypeId} {pos : String} {af : Array Edge} {rest : List Oper}
variable {x y : Operand} {T T2 E : TypeId}

theorem Den.box_at {a : Act} {w : World} {b : Nat} {ts : List Tr} (d : Den Γ env cs a w) (hp : cs.Perm (Chunk.box b E ts :: cf)) : ∃ c : Array Value, w.heap[b]? = some (.cells c E (0, 0)) ∧ c.size = ts.length := by
 have h := (d.perm hp).has (List.Perm.refl _)
 generalize av Γ.M (Chunk.box b E ts :: cf) = A at h
 unfold Chunk.box at h
 obtain ⟨c, h1, h2⟩ := h
 exact ⟨c, h1, by rw [← Array.length_toList]; exact h2.length⟩
theorem OpV.toUns {b : Nat} {ts : List Tr} (h1 : P.underlying T = some (.pointer E)) (h2 : P.underlying T2 = some .unsafePointer) (h3 : ∃ j, P.info? E = some j ∧ j.size ≠ 0)
  (hx : ev env x = some (Tr.ptr b)) (hp : cs.Perm (Chunk.box b E ts :: cf)) (hl : 0 < ts.length) : OpV P Γ (.convert T T2 x) ty env cs (Tr.ptr b) := by
 unfold OpV
 intro a w d
 have hv := rd_raw (d.ev hx)
 obtain ⟨c, hb, hc⟩ := d.box_at hp
 obtain ⟨j, hj, hj0⟩ := h3
 have := Lib.run_to_unsafe (P := P) w (e := E) (cells := c.size) ⟨b, 0, none⟩ h1 h2 hj hj0 (by simp [World.shape?, hb]) (by simp; omega)
 exact ⟨_, by simp [execOp, hv, this], raw_self _⟩
theorem OpV.frUns {b n : Nat} {ts : List Tr} (h1 : P.underlying T = some .unsafePointer) (h2 : P.underlying T2 = some (.pointer E)) (h3 : ∃ j, P.info? E = some j)
  (hx : ev env x = some (Tr.ptr b)) (hp : cs.Perm (Chunk.box b E ts :: cf)) (hl : liesAt P P.depth E (n / P.cellsOf E) 0 E 1 = true) (hn : ts.length = n) : OpV P Γ (.convert T T2 x) ty env cs (Tr.ptr b) := by
 unfold OpV
 intro a w d
 have hv := rd_raw (d.ev hx)
 obtain ⟨c, hb, hc⟩ := d.box_at hp
 obtain ⟨j, hj⟩ := h3
 have := Lib.run_from_unsafe (P := P) w (e := E) (cells := c.size) ⟨b, 0, none⟩ h1 h2 hj (by simp [World.shape?, hb]) (by rw [hc, hn]; exact hl)
 exact ⟨_, by simp [execOp, hv, this], raw_self _⟩
theorem OpV.ext1 {f : FuncId} {ts : Array TypeId} {a r : Value} (hx : ev env x = some (.raw a))
  (h : ∀ w, (callFunc f #[a]).run P w = .ok (.value r) w) : OpV P Γ (.call ⟨.value (.func f), #[x], ts⟩) ty env cs (.raw r) := by
 unfold OpV
 intro ac w d
 have h1 := rd_raw (d.ev hx)
 exact ⟨r, by have hf : ac.eval (.func f) = .func (.func f) #[] #[] := rfl; simp [execOp, resolve, invoke, Deferred.ofValue, hf, h1, h w], raw_self _⟩

theorem Ops.ext1 {f : FuncId} {ts : Array TypeId} {a r : Value} (h : ∀ w, (callFunc f #[a]).run P w = .ok (.value r) w) (hx : ev env x = some (.raw a)) (hi : Nat.blt i Γ.n = true) (kk : Ops P Γ R rest ((i, .raw r) :: env) cs Q) :
  Ops P Γ R (⟨some i, .call ⟨.value (.func f), #[x], ts⟩, ty, pos, af, none⟩ :: rest) env cs Q := Ops.val' hi (OpV.ext1 hx h) kk

theorem equalIn_ptr_none {w : World} {tp te : TypeId} {j : TypeInfo} (p : Option Addr) (hp : P.underlying tp = some (.pointer te)) (hte : P.info? te = some j) (hj : j.size ≠ 0) (n : Nat) :
  (Op.equalIn (n + 1) tp (.pointer p) (.pointer none)).run P w = .ok (decide (p = none)) w := by
 cases p with
 |none => simp [Op.equalIn, run_underlying hp, Go.sizeOf, typeInfo, hte]
 |some a => simp [Op.equalIn, run_underlying hp, Go.sizeOf, typeInfo, hte, hj]
theorem eqGuard_ptr (op : BinOp) (t : TypeId) (x y : Operand) (a b : Option Addr) (w : World) : (eqGuard op t x y (.pointer a) (.pointer b)).run P w = .ok () w := by
 unfold eqGuard
 split <;> simp_all
theorem OpV.eql_pn {p : Option Addr} {b : Bool} (hb : decide (p = none) = b) (hp : P.underlying T = some (.pointer E)) (h3 : ∃ j, P.info? E = some j ∧ j.size ≠ 0) (hx : ev env x = some (.raw (.pointer p))) (hy : ev env y = some (.raw (.pointer none))) :
  OpV P Γ (.binOp .eql T x y T2) ty env cs (.bool b) := by
 unfold OpV
 intro a w d
 have hv := rd_raw (d.ev hx)
 have hv2 := rd_raw (d.ev hy)
 obtain ⟨j, hj, hj0⟩ := h3
 have := equalIn_ptr_none (w := w) p hp hj hj0 9999
 refine ⟨.bool b, ?_, raw_self _⟩
 simp only [execOp, hv, hv2, binOp]
 simp [eqGuard_ptr, Op.equal, Op.maxDepth, this, hb]
theorem OpV.neq_pp {b : Nat} (hp : P.underlying T = some (.pointer E)) (h3 : ∃ j, P.info? E = some j ∧ j.size ≠ 0) (hx : ev env x = some (Tr.ptr b)) (hy : ev env y = some (Tr.ptr b)) :
  OpV P Γ (.binOp .neq T x y T2) ty env cs (.bool false) := by
 unfold OpV
 intro a w d
 have hv := rd_raw (d.ev hx)
 have hv2 := rd_raw (d.ev hy)
 obtain ⟨j, hj, hj0⟩ := h3
 have := Lib.run_neq_ptr_same (P := P) w (te := E) ⟨b, 0, none⟩ hp hj
 refine ⟨.bool false, ?_, raw_self _⟩
 simp only [execOp, hv, hv2]
 simp [eqGuard_ptr, this]

theorem OpV.sdata_some {g n cap : Nat} {ts : Array TypeId} (hx : ev env x = some (.raw (.slice (some ⟨g, 0, none⟩) n cap))) (hc : cap ≠ 0) : OpV P Γ (.call ⟨.builtin .unsafeSliceData, #[x], ts⟩) ty env cs (Tr.ptr g) := by
 unfold OpV
 intro a w d
 have hv := rd_raw (d.ev hx)
 have := Lib.run_unsafeSliceData_row (P := P) w ts ty ⟨g, 0, none⟩ n cap hc
 exact ⟨_, by simp [execOp, resolve, invoke, builtin, hv, this], raw_self _⟩
theorem OpV.sdata_none {n cap : Nat} {ts : Array TypeId} (hx : ev env x = some (.raw (.slice none n cap))) : OpV P Γ (.call ⟨.builtin .unsafeSliceData, #[x], ts⟩) ty env cs (.raw (.pointer none)) := by
 unfold OpV
 intro a w d
 have hv := rd_raw (d.ev hx)
 have := Lib.run_unsafeSliceData_nil (P := P) w ts ty n cap
 exact ⟨_, by simp [execOp, resolve, invoke, builtin, hv, this], raw_self _⟩
theorem Ops.ustr_none {p : Option Addr} (hx : ev env x = some (.raw (.pointer p))) (hy : ev env y = some (.int 0)) (hi : Nat.blt i Γ.n = true) (kk : Ops P Γ R rest ((i, .str ⟨#[]⟩) :: env) cs Q) :
  Ops P Γ R (⟨some i, .call ⟨.builtin .unsafeString, #[x, y], #[T, T2]⟩, ty, pos, af, none⟩ :: rest) env cs Q :=
 Ops.val' hi (by
  unfold OpV
  intro a w d
  have hv := rd_raw (d.ev hx)
  have hv2 := rd_raw (d.ev hy)
  have := Lib.run_unsafeString_none (P := P) w T T2 ty p
  exact ⟨.string .empty, by simp [execOp, resolve, invoke, builtin, hv, hv2, this], raw_self _⟩) kk
theorem Ops.ustr {g cap : Nat} {s : ByteArray} {n : Int} (hT : P.underlying T = some (.pointer E)) (hE : P.cellsOf E = 1) (hx : ev env x = some (Tr.ptr g)) (hy : ev env y = some (.int n)) (hn : n = s.size) (h0 : s.size ≠ 0)
  (hp : cs.Perm (Chunk.own (some ⟨g, 0, none⟩) cap 1 E (bytR s) :: cf)) (hi : Nat.blt i Γ.n = true) (kk : Ops P Γ R rest ((i, .str s) :: env) cf Q) :
  Ops P Γ R (⟨some i, .call ⟨.builtin .unsafeString, #[x, y], #[T, T2]⟩, ty, pos, af, none⟩ :: rest) env cs Q :=
 Ops.of fun a w d => by
  subst hn
  have hv := rd_raw (d.ev hx)
  have hv2 := rd_raw (d.ev hy)
  have d' := d.perm hp
  have hh := d'.has (List.Perm.refl _)
  generalize hA : av Γ.M (_ :: cf) = A at hh
  unfold Chunk.own at hh
  obtain ⟨hk, xs, hown, hrd⟩ := hh
  clear hA
  have hxs := bytR_read hrd
  subst hxs
  have hl : s.data.toList.length = s.size := Array.length_toList
  rcases hown.2 with ⟨e, _⟩ | ⟨g', cap', cur, e, hbg, hg, hnc, hcm, hcs, htake⟩
  ·cases e
  simp only [Value.slice.injEq, Option.some.injEq, Addr.mk.injEq] at e
  obtain ⟨⟨rfl, _⟩, _, rfl⟩ := e
  rw [bytR_len] at hnc
  have hcells := hown.cells (g := g) rfl
  have key := Lib.run_unsafeString_row (P := P) w T T2 ty E hT hE g cur.size (by simp [World.shape?, hg]) s.data.toList (fun e => h0 (by rw [← hl, e]; rfl)) (by rw [hl, hcs]; omega) (by rw [hl]; unfold maxLen at hcm; omega)
   (fun j u hj => by
    have := hcells j (.int .u8 u.toNat) (by unfold Lib.strCells; rw [List.getElem?_map, hj]; rfl)
    simpa using this)
  rw [hl] at key
  refine ⟨_, _, .value (.string s), w.freeze ⟨g, 0, none⟩ s.size, by simp [execOp, resolve, invoke, builtin, hv, hv2, key], .inl ⟨_, rfl, Den.put (Den.dropc (d'.turnF (w' := w.freeze ⟨g, 0, none⟩ s.size) (c' := ⟨[], fun _ _ => True, fun _ _ _ => trivial⟩) (by simp) (by simp) ?_ (fun _ _ => trivial))) hi (raw_self _)⟩, kk⟩
  unfold World.freeze
  split
  ·exact Frm.refl _ _
  refine ⟨rfl, rfl, rfl, by simp, fun b hb hn => ?_, fun _ => Nat.le_refl _⟩
  have hne : g ≠ b := fun e => hn (by simp [Chunk.own, Value.ownBlock, e])
  simp [Array.getElem?_modify, hne]

theorem Ops.append_str {u : TypeId} {zs : List Value} [hS : TySl P T E 1 1 zs] (hz : (P.info? E).map (·.zero) = some (some (.int .u8 0))) {ad : Option Addr} {n cap : Nat} {t s : ByteArray} (hu : P.underlying u = some .string) (hx : ev env x = some (.raw (.slice ad n cap))) (hy : ev env y = some (.str s))
  (hp : cs.Perm (Chunk.own ad cap 1 E (bytR t) :: cf)) (hn : n = t.size) (hb : t.size + s.size ≤ 140737488355328) (hi : Nat.blt i Γ.n = true)
  (kont : ∀ ad' cap', (ad = none → t.size + s.size = 0 → ad' = none ∧ cap' = 0) → Ops P Γ R rest ((i, .raw (.slice ad' (t ++ s).size cap')) :: env) (Chunk.own ad' cap' 1 E (bytR (t ++ s)) :: cf) Q) :
  Ops P Γ R (⟨some i, .call ⟨.builtin .append, #[x, y], #[T, u]⟩, ty, pos, af, none⟩ :: rest) env cs Q :=
 Ops.of fun a w d => by
  subst hn
  have hv := rd_raw (d.ev hx)
  have hv2 := rd_raw (d.ev hy)
  have d' := d.perm hp
  have hh := d'.has (List.Perm.refl _)
  generalize hA : av Γ.M (_ :: cf) = A at hh
  unfold Chunk.own at hh
  obtain ⟨hk, xs, hown, hrd⟩ := hh
  clear hA
  have hxs := bytR_read hrd
  subst hxs
  obtain ⟨ti, zv, hi1, hi2, hi3, hi4, hi5, hi6⟩ := hS.hE
  rw [hi1] at hz
  simp only [Option.map_some, Option.some.injEq] at hz
  rw [hi2] at hz
  simp only [Option.some.injEq] at hz
  subst hz
  rw [bytR_len] at hown
  have hlim : t.size + s.size ≤ maxLen := by unfold maxLen; omega
  have hsz : (t ++ s).size = t.size + s.size := ByteArray.size_append
  have hcat : Lib.strCells t ++ Lib.strCells s = Lib.strCells (t ++ s) := by
   unfold Lib.strCells
   rw [ByteArray.data_append, Array.toList_append, List.map_append]
  have key : ∃ v' w', (Builtin.append_ #[T, u] ty #[.slice ad t.size cap, .string s]).run P w = .ok v' w' ∧ w'.ownsRow 0 E 1 v' (t.size + s.size) (Lib.strCells t ++ Lib.strCells s) ∧ w.grownBy w' (Value.ownBlock (.slice ad t.size cap)) ∧
    (∀ b, v'.ownBlock = some b → (Value.ownBlock (.slice ad t.size cap)) = some b ∨ w.heap.size ≤ b) ∧ (ad = none → t.size + s.size = 0 → v' = .slice none 0 0) := by
   rcases hown.2 with ⟨e, h0⟩ | ⟨g, cap', cur, e, hbg, hg, hnc, hcm, hcs, htake⟩
   ·simp only [Value.slice.injEq] at e
    obtain ⟨rfl, _, rfl⟩ := e
    have hown' : w.ownsRow w.heap.size E 1 (.slice none t.size 0) t.size (Lib.strCells t) := ⟨hown.1, .inl ⟨by rw [h0], h0⟩⟩
    obtain ⟨v', w', hr, h2, h3, h4⟩ := Lib.run_append_own_string (P := P) w w.heap.size T u ty E ti hS.hT hu hi1 hi2 hi4 hi5 _ _ _ hown' s hlim hb (Nat.le_refl _)
    exact ⟨v', w', hr, ownsRow_base h2, h3, fun b hb => .inr (h2.lt b hb).1, fun _ h => h4.2 ⟨by rw [h0], by omega⟩⟩
   ·simp only [Value.slice.injEq] at e
    obtain ⟨rfl, _, rfl⟩ := e
    obtain ⟨v', w', hr, h2, h3, h4⟩ := Lib.run_append_own_string (P := P) w 0 T u ty E ti hS.hT hu hi1 hi2 hi4 hi5 _ _ _ hown s hlim hb (Nat.zero_le _)
    refine ⟨v', w', hr, h2, h3, ?_, by simp⟩
    by_cases hroom : t.size + s.size ≤ cap
    ·have hr2 := Lib.run_append_room_string (P := P) w T u ty E ti hS.hT hu hi1 hi4 g t.size cap cur hg s hroom (by omega)
     rw [hr] at hr2
     simp only [Result.ok.injEq] at hr2
     obtain ⟨rfl, _⟩ := hr2
     intro b hb
     exact .inl (by simpa [Value.ownBlock] using hb)
    ·have hr2 := Lib.run_append_grow_string (P := P) w T u ty E ti (.int .u8 0) hS.hT hu hi1 hi2 ⟨g, 0, none⟩ t.size cap (Lib.strCells t) (by rw [hi4, Lib.strCells_length]; omega) (hown.cells (g := g) rfl) s (by omega) (by omega) (by rw [hi5]; exact growslice_fits (by omega) (by omega))
     rw [hr] at hr2
     simp only [Result.ok.injEq] at hr2
     obtain ⟨rfl, _⟩ := hr2
     intro b hb
     refine .inr ?_
     simp [Value.ownBlock] at hb
     omega
  obtain ⟨v', w', hrun, hown', hgr, hfresh, hnil⟩ := key
  rw [hcat, ← hsz] at hown'
  have hform : ∃ ad' cap', v' = .slice ad' (t ++ s).size cap' := by
   rcases hown'.2 with ⟨e, h0⟩ | ⟨g, c, cur, e, _⟩
   ·exact ⟨none, 0, by rw [e, h0]⟩
   ·exact ⟨_, c, by rw [e]⟩
  obtain ⟨ad', cap', rfl⟩ := hform
  refine ⟨_, _, .value _, w', by simp [execOp, resolve, invoke, builtin, hv, hv2, hrun], .inl ⟨_, rfl, Den.put ?_ hi (raw_self _)⟩, kont ad' cap' (fun h1 h2 => by have := hnil h1 h2; simp only [Value.slice.injEq] at this; exact ⟨this.1, this.2.2⟩)⟩
  refine d'.turnF (c' := Chunk.own ad' cap' 1 E (bytR (t ++ s))) ?_ ?_ ?_ ?_
  ·intro b hb
   have hb' : Value.ownBlock (.slice ad' (t ++ s).size cap') = some b := by simpa [Chunk.own, bytR_len] using hb
   rcases hfresh b hb' with h | h
   ·exact .inl (by simpa [Chunk.own, bytR_len] using h)
   ·exact .inr ⟨h, (hown'.lt b hb').2⟩
  ·simp only [Chunk.own]
   cases Value.ownBlock (.slice ad' (bytR (t ++ s)).length cap') <;> simp
  ·exact ⟨hgr.os, hgr.tape, hgr.output, hgr.size, fun b hb hn => hgr.block b hb fun e => hn (by simp [Chunk.own, bytR_len, ← e]), fun _ => run_drawn hrun⟩
  ·intro hs _
   unfold Chunk.own
   refine ⟨?_, _, by rw [bytR_len]; exact hown', bytR_rdc _⟩
   intro r hr
   unfold bytR at hr
   obtain ⟨_, _, rfl⟩ := List.mem_map.1 hr
   rfl
end bld
end Lg
end
section
set_option linter.all false
set_option maxRecDepth 100000
namespace Lg
open Go Go.RowKit

/-! ### strings as lists of bytes, and their parts -/
def mkB (l : List UInt8) : ByteArray := ⟨⟨l⟩⟩
theorem mkB_size (l : List UInt8) : (mkB l).size = l.length := rfl
theorem mkB_eta (s : ByteArray) : mkB s.data.toList = s := rfl
theorem mkB_list (l : List UInt8) : (mkB l).data.toList = l := rfl
theorem mkB_ext (l : List UInt8) (a b : Nat) : (mkB l).extract a b = mkB ((l.drop a).take (b - a)) := by
 have h := ByteArray.extract_mk l a b
 unfold mkB
 simpa using h
theorem str_list (s : ByteArray) : s.size = s.data.toList.length := rfl

section strs
variable {P : Program} {Γ : Ctx} {env env' : Env} {cs cs' cf : List Chunk} {Q : Post} {R : Array Oper}
variable {i : Tmp} {ty : TypeId} {pos : String} {af : Array Edge} {rest : List Oper}
variable {x y z : Operand} {T T2 : TypeId} {k : IntKind} {p q : Int} {s u : ByteArray}
theorem OpV.sliceS_l (hT : P.underlying T = some .string) (hx : ev env x = some (.str s)) (hz : ev env z = some (.raw (.int k q))) (h : 0 ≤ q ∧ q ≤ s.size) : OpV P Γ (.slice T x (some z) none none) ty env cs (.str (s.extract q.toNat s.size)) :=
 by unfold OpV; exact (fun a w d => ⟨.string (s.extract q.toNat s.size), by
  have h1 : a.eval x = .string s := rd_raw (d.ev hx)
  have h2 : a.eval z = .int k q := rd_raw (d.ev hz)
  simp [execOp, h1, h2, Instr.sliceAt, Instr.slice, Instr.sliceBounds, Instr.sliceBound, asIntOf, run_underlying hT, h], raw_self _⟩)
theorem Ops.sliceS_l (hT : P.underlying T = some .string) (hx : ev env x = some (.str s)) (hz : ev env z = some (.raw (.int k q))) (h : 0 ≤ q ∧ q ≤ s.size) (hi : Nat.blt i Γ.n = true)
  (kk : Ops P Γ R rest ((i, .str (s.extract q.toNat s.size)) :: env) cs Q) : Ops P Γ R (⟨some i, .slice T x (some z) none none, ty, pos, af, none⟩ :: rest) env cs Q := Ops.val' hi (OpV.sliceS_l hT hx hz h) kk
theorem OpV.sliceS_lh {k2 : IntKind} (hT : P.underlying T = some .string) (hx : ev env x = some (.str s)) (hy : ev env y = some (.raw (.int k p))) (hz : ev env z = some (.raw (.int k2 q))) (h : 0 ≤ p ∧ p ≤ q ∧ q ≤ s.size) : OpV P Γ (.slice T x (some y) (some z) none) ty env cs (.str (s.extract p.toNat q.toNat)) :=
 by unfold OpV; exact (fun a w d => ⟨.string (s.extract p.toNat q.toNat), by
  have h1 : a.eval x = .string s := rd_raw (d.ev hx)
  have h2 : a.eval y = .int k p := rd_raw (d.ev hy)
  have h3 : a.eval z = .int k2 q := rd_raw (d.ev hz)
  have h4 : 0 ≤ q := by omega
  have h5 : max q 0 = q := by omega
  have h6 : ¬ q < p := by omega
  simp [execOp, h1, h2, h3, Instr.sliceAt, Instr.slice, Instr.sliceBounds, Instr.sliceBound, asIntOf, run_underlying hT, h, h4, h5, h6], raw_self _⟩)
theorem Ops.sliceS_lh {k2 : IntKind} (hT : P.underlying T = some .string) (hx : ev env x = some (.str s)) (hy : ev env y = some (.raw (.int k p))) (hz : ev env z = some (.raw (.int k2 q))) (h : 0 ≤ p ∧ p ≤ q ∧ q ≤ s.size) (hi : Nat.blt i Γ.n = true)
  (kk : Ops P Γ R rest ((i, .str (s.extract p.toNat q.toNat)) :: env) cs Q) : Ops P Γ R (⟨some i, .slice T x (some y) (some z) none, ty, pos, af, none⟩ :: rest) env cs Q := Ops.val' hi (OpV.sliceS_lh hT hx hy hz h) kk
theorem OpV.catB (hx : ev env x = some (.str s)) (hy : ev env y = some (.str u)) (hz : s.size + u.size ≤ 1000000000000) : OpV P Γ (.binOp .add T x y T2) ty env cs (.str (s ++ u)) :=
 OpV.binS hx hy (by simp only [Op.stringOp]; rw [if_neg (by have : IntKind.i64.max = 9223372036854775807 := rfl; omega)])
theorem Ops.catB (hx : ev env x = some (.str s)) (hy : ev env y = some (.str u)) (hz : s.size + u.size ≤ 1000000000000) (hi : Nat.blt i Γ.n = true)
  (kk : Ops P Γ R rest ((i, .str (s ++ u)) :: env) cs Q) : Ops P Γ R (⟨some i, .binOp .add T x y T2, ty, pos, af, none⟩ :: rest) env cs Q := Ops.val' hi (OpV.catB hx hy hz) kk
end strs

/-! ### cut at a byte -/
def splL (c : UInt8) : List UInt8 → List (List UInt8)
 |[] => [[]]
 |x :: l => if x = c then [] :: splL c l else match splL c l with
  |[] => [[x]]
  |h :: t => (x :: h) :: t
theorem splL_ne (c : UInt8) (l : List UInt8) : splL c l ≠ [] := by
 cases l with
 |nil => simp [splL]
 |cons x l =>
  rw [splL]
  split
  ·simp
  ·split <;> simp
theorem splL_none {c : UInt8} : ∀ {l : List UInt8}, Lib.indexByte l c = -1 → splL c l = [l]
 |[], _ => rfl
 |x :: l, h => by
  rw [Lib.indexByte] at h
  split at h
  ·omega
  ·rename_i hx
   split at h
   ·rename_i h2
    have h3 : Lib.indexByte l c = -1 := by simpa using h2
    have ih := splL_none h3
    have hx' : ¬ x = c := by simpa using hx
    rw [splL, if_neg hx', ih]
   ·rename_i h2
    have := Lib.indexByte_ge l c
    omega
theorem splL_some {c : UInt8} : ∀ {l : List UInt8} {m : Nat}, Lib.indexByte l c = (m : Int) → splL c l = l.take m :: splL c (l.drop (m + 1)) ∧ m < l.length
 |[], m, h => by
  rw [Lib.indexByte] at h
  omega
 |x :: l, m, h => by
  rw [Lib.indexByte] at h
  split at h
  ·rename_i hx
   have hm : m = 0 := by omega
   subst hm
   have hx' : x = c := by simpa using hx
   rw [splL, if_pos hx']
   exact ⟨rfl, by simp⟩
  ·rename_i hx
   have hx' : ¬ x = c := by simpa using hx
   split at h
   ·omega
   ·rename_i h2
    have hge := Lib.indexByte_ge l c
    have h4 : ¬ Lib.indexByte l c = -1 := by simpa using h2
    obtain ⟨j, rfl⟩ : ∃ j, m = j + 1 := ⟨m - 1, by omega⟩
    have h3 : Lib.indexByte l c = (j : Int) := by omega
    obtain ⟨ih1, ih2⟩ := splL_some h3
    rw [splL, if_neg hx', ih1]
    exact ⟨rfl, by simp; omega⟩
theorem splL_len (c : UInt8) : ∀ l : List UInt8, (splL c l).length = Lib.countByte l c + 1
 |[] => rfl
 |x :: l => by
  have ih := splL_len c l
  unfold Lib.countByte at ih ⊢
  rw [splL, List.count_cons]
  by_cases h : x = c
  ·rw [if_pos h, if_pos (by simpa using h), List.length_cons, ih]
  ·rw [if_neg h, if_neg (by simpa using h)]
   cases h2 : splL c l with
   |nil => exact absurd h2 (splL_ne c l)
   |cons a b => rw [h2] at ih; simpa using ih
theorem countByte_le (l : List UInt8) (c : UInt8) : Lib.countByte l c ≤ l.length := List.count_le_length
/-- the texts between the bytes c of a string -/
def splS (c : UInt8) (s : ByteArray) : List ByteArray := (splL c s.data.toList).map mkB
theorem splS_none {c : UInt8} {s : ByteArray} (h : Lib.indexByte s.data.toList c = -1) : splS c s = [s] := by
 unfold splS
 rw [splL_none h]
 rfl
theorem splS_some {c : UInt8} {s : ByteArray} {m : Nat} (h : Lib.indexByte s.data.toList c = (m : Int)) : splS c s = s.extract 0 m :: splS c (s.extract (m + 1) s.size) ∧ m < s.size := by
 obtain ⟨h1, h2⟩ := splL_some h
 refine ⟨?_, h2⟩
 unfold splS
 rw [h1, List.map_cons]
 have e1 : s.extract 0 m = mkB (s.data.toList.take m) := by
  conv => lhs; rw [← mkB_eta s]
  rw [mkB_ext]
  simp
 have e2 : (s.extract (m + 1) s.size).data.toList = s.data.toList.drop (m + 1) := by
  conv => lhs; rw [← mkB_eta s]
  rw [mkB_ext, mkB_list]
  rw [List.take_of_length_le (by rw [List.length_drop, mkB_size]; exact Nat.le_refl _)]
 rw [e1, e2]
theorem splS_len (c : UInt8) (s : ByteArray) : (splS c s).length = Lib.countByte s.data.toList c + 1 := by
 unfold splS
 rw [List.length_map, splL_len]
theorem idx_cases (l : List UInt8) (c : UInt8) : Lib.indexByte l c = -1 ∨ ∃ m : Nat, Lib.indexByte l c = (m : Int) := by
 have := Lib.indexByte_ge l c
 by_cases h : Lib.indexByte l c = -1
 ·exact .inl h
 ·exact .inr ⟨(Lib.indexByte l c).toNat, by omega⟩
end Lg
end
