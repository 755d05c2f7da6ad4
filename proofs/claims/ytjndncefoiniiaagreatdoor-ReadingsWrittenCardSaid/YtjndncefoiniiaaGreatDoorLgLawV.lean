/- A part of the proof of a law of this seat: it adds no condition. By an AI agent. -/
import Derived.Lib.ConvBytes
import Derived.Laws.IdiomStrings
import Derived.Stop.LaidErr
import Derived.Test.YtjndncefoiniiaaGreatDoorLgFct
section
set_option linter.all false
set_option maxRecDepth 100000
namespace Lg
open Go Go.RowKit

/-! ### bytes: conversions between strings and slices of bytes; bits -/
section
variable {P : Program} {Γ : Ctx} {env env' : Env} {cs cs' cf : List Chunk} {Q : Post} {R : Array Oper}
variable {i : Tmp} {ty : TypeId} {pos : String} {af : Array Edge} {rest : List Oper}
variable {x y z : Operand} {T T2 : TypeId} {k : IntKind} {p q : Int} {s u : ByteArray}
theorem rdc_bytes {w : World} {A : Nat → Prop} : ∀ l : List UInt8, RdC w A (l.map fun b => Tr.raw (.int .u8 b.toNat)) (l.map fun b => Value.int .u8 b.toNat)
  | [] => rfl
  | b :: l => rdc_rawv rfl (rdc_bytes l)
theorem bytR_flat (s : ByteArray) : (bytR s).flatten = s.data.toList.map fun b => Tr.raw (.int .u8 b.toNat) := by
  unfold bytR
  induction s.data.toList with
  | nil => rfl
  | cons b l ih => rw [List.map_cons, List.flatten_cons, ih]; rfl
theorem Ops.convSB {E : TypeId} {d1 : TypeDesc} (hT : P.underlying T = some d1) (h2 : P.underlying T2 = some (.slice E)) (hE : P.underlying E = some (.int .u8)) (hx : ev env x = some (.str s)) (hs : s.size ≤ 1000000000) (hi : Nat.blt i Γ.n = true)
    (kk : Ops P Γ R rest ((i, .sl 1 (bytR s)) :: env) cs Q) : Ops P Γ R (⟨some i, .convert T T2 x, ty, pos, af, none⟩ :: rest) env cs Q :=
  Ops.of fun a w d => by
    have hv := rd_raw (d.ev hx)
    have hrun := Lib.run_convert_string_bytes (P := P) w T T2 E s hT h2 hE
    have hnot : w.heap.size ∉ fps cs := fun h => Nat.lt_irrefl _ (d.fresh _ h).1
    have hM : ¬ Γ.M w.heap.size := fun h => Nat.lt_irrefl _ (Nat.lt_of_lt_of_le (d.below _ h) d.frame.size)
    have hsame : SameOn w (Lib.bytesWorld w E s) (av Γ.M cs) (av Γ.M cs) := fun b hb h => ⟨h, Lib.bytesWorld_at_old w E s b hb⟩
    have d2 : Den Γ env cs a (Lib.bytesWorld w E s) := d.world hsame (fun c hc => c.mono (fun b _ hlt => Lib.bytesWorld_at_old w E s b hlt) hsame (d.chunks c hc)) d.nodup
      (fun b hb => by
        obtain ⟨h1, h2, h3⟩ := d.fresh b hb
        exact ⟨by rw [Lib.bytesWorld_size]; omega, h2, h3⟩)
      ⟨rfl, rfl, rfl, by rw [Lib.bytesWorld_size]; omega, fun b hb _ => Lib.bytesWorld_at_old w E s b hb, fun _ => Nat.le_succ _⟩
    refine ⟨_, _, .value _, _, by simp [execOp, hv, hrun] <;> rfl, .inl ⟨_, rfl, Den.put d2 hi ?_⟩, kk⟩
    unfold Tr.sl
    have hl := bytR_len s
    refine ⟨fun r hr => by unfold bytR at hr; obtain ⟨b, _, rfl⟩ := List.mem_map.1 hr; rfl, by rw [hl]; unfold maxLen; omega, _, _, by rw [hl], by rw [hl]; exact grownCap_ge w s.size 0 E, grownCap_le_maxLen w s.size 0 E (by unfold maxLen; omega), fun h => absurd h (by simp), .inr ⟨_, 0, rfl, ⟨hM, hnot⟩, _, _, _, Lib.bytesWorld_at_new w E s, ?_⟩⟩
    rw [bytR_flat, List.length_map, List.drop_zero]
    unfold Lib.bytesCells
    rw [Array.toList_append, List.take_append_of_le_length (by simp), List.take_of_length_le (by simp), Array.toList_map]
    exact rdc_bytes _
theorem rdc_raws {w : World} {A : Nat → Prop} : ∀ (l : List Value) {vs : List Value}, RdC w A (l.map Tr.raw) vs → vs = l
  | [], vs, h => h
  | v :: l, vs, h => by
    obtain ⟨u, rest, rfl, h1, _, h2⟩ := h
    rw [rd_raw h1, rdc_raws l h2]
/-- the bytes of a settled slice as a string -/
def bysR (l : List UInt8) : List (List Tr) := l.map fun b => [Tr.raw (.int .u8 b.toNat)]
theorem bysR_flat (l : List UInt8) : (bysR l).flatten = (l.map fun b => Value.int .u8 (b.toNat : Int)).map Tr.raw := by
  unfold bysR
  induction l with
  | nil => rfl
  | cons b l ih => rw [List.map_cons, List.flatten_cons, ih]; rfl
theorem OpV.convBS {E : TypeId} {l : List UInt8} (h0 : l ≠ []) (hT : P.underlying T = some (.slice E)) (h2 : P.underlying T2 = some .string) (hE : P.underlying E = some (.int .u8)) (hx : ev env x = some (.sl 1 (bysR l))) : OpV P Γ (.convert T T2 x) ty env cs (.str ⟨⟨l⟩⟩) := by
  unfold OpV
  intro a w d
  have hv := d.ev hx
  unfold Tr.sl at hv
  obtain ⟨_, _, ad, cap, he, _, _, _, h6⟩ := hv
  have hne : bysR l ≠ [] := fun h => h0 (List.map_eq_nil_iff.1 h)
  obtain ⟨b, off, rfl, hA, c, e, fz, hb, hr⟩ := h6.resolve_left hne
  have hfl := bysR_flat l
  have hlen : (bysR l).length = l.length := List.length_map _
  rw [hfl] at hr
  have hvs := rdc_raws _ hr
  have hcell : ∀ j (hj : j < l.length), w.cell? ((⟨b, off, none⟩ : Addr).add j) = some (.int .u8 (l[j].toNat : Int)) := fun j hj => by
    have h3 : ((c.toList.drop off).take (((l.map fun b => Value.int .u8 (b.toNat : Int)).map Tr.raw).length))[j]? = some (.int .u8 (l[j].toNat : Int)) := by
      rw [hvs, List.getElem?_map, List.getElem?_eq_getElem hj]
      rfl
    rw [List.getElem?_take_of_lt (by simpa using hj), List.getElem?_drop] at h3
    rw [add_plain]
    unfold World.cell?
    simp only [hb]
    simpa using h3
  rw [hlen] at he
  have hrun := Go.run_convert_bytes_back (P := P) w T T2 E ⟨b, off, none⟩ cap l hT hE h2 hcell
  exact ⟨_, by simp [execOp, he, hrun] <;> rfl, raw_self _⟩
theorem OpV.xor8 (hx : ev env x = some (.raw (.int .u8 p))) (hy : ev env y = some (.raw (.int .u8 q))) : OpV P Γ (.binOp .xor T x y T2) ty env cs (.raw (.int .u8 (bits .xor .u8 p q))) :=
  OpV.bin hx hy (by rw [binOp_xor, intBits_xor])
theorem bits_u8 (op : BinOp) (p q : Int) : 0 ≤ bits op .u8 p q ∧ bits op .u8 p q ≤ 255 := by
  unfold bits
  have : ∀ n : Int, IntKind.u8.wrap n = n % 256 := fun n => rfl
  simp only [this]
  omega
theorem and15_fin : ∀ i : _root_.Fin 256, bits .and .u8 ((i.val : Nat) : Int) 15 = ((i.val % 16 : Nat) : Int) := by decide +kernel
theorem and15 {p : Int} (h : 0 ≤ p ∧ p ≤ 255) : bits .and .u8 p 15 = p % 16 := by
  have := and15_fin ⟨p.toNat, by omega⟩
  simp only at this
  rw [show ((p.toNat : Nat) : Int) = p by omega] at this
  rw [this]
  omega
theorem OpV.and15 (hx : ev env x = some (.raw (.int .u8 p))) (hy : ev env y = some (.raw (.int .u8 15))) (h : 0 ≤ p ∧ p ≤ 255) : OpV P Γ (.binOp .and T x y T2) ty env cs (.raw (.int .u8 (p % 16))) :=
  OpV.bin hx hy (by rw [binOp_and, intBits_and, Lg.and15 h])
theorem OpV.binG {op : BinOp} {a b r : Value} (hx : ev env x = some (.raw a)) (hy : ev env y = some (.raw b)) (h1 : op ≠ .eql) (h2 : op ≠ .neq) (hb : binOp op T a b = pure r) : OpV P Γ (.binOp op T x y T2) ty env cs (.raw r) := by
  unfold OpV
  intro ac w d
  have e1 := rd_raw (d.ev hx)
  have e2 := rd_raw (d.ev hy)
  have h4 : (eqGuard op T x y a b).run P w = .ok () w := by
    unfold eqGuard
    cases op <;> first | (exact absurd rfl h1) | (exact absurd rfl h2) | simp
  exact ⟨r, by simp [execOp, e1, e2, h4, hb], raw_self _⟩
theorem OpV.shr4 (hx : ev env x = some (.raw (.int .u8 p))) (hy : ev env y = some (.raw (.int .u64 4))) (h : 0 ≤ p ∧ p ≤ 255) : OpV P Γ (.binOp .shr T x y T2) ty env cs (.raw (.int .u8 (p / 16))) :=
  OpV.binG hx hy (by decide) (by decide) (by
    rw [binOp_shr]
    have e : p.fdiv 16 = p / 16 := Int.fdiv_eq_ediv_of_nonneg p (by omega)
    simp [Op.shift, IntKind.bits, e])
theorem OpV.quo16 (hx : ev env x = some (.raw (.int .u8 p))) (hy : ev env y = some (.raw (.int .u8 16))) (h : 0 ≤ p ∧ p ≤ 255) : OpV P Γ (.binOp .quo T x y T2) ty env cs (.raw (.int .u8 (p / 16))) :=
  OpV.bin hx hy (by
    rw [binOp_quo]
    have e : p.tdiv 16 = p / 16 := Int.tdiv_eq_ediv_of_nonneg h.1
    have e2 : IntKind.u8.wrap (p / 16) = p / 16 := wrap_u8 (by omega)
    simp [Op.intDiv, e, e2])
theorem OpV.rem16 (hx : ev env x = some (.raw (.int .u8 p))) (hy : ev env y = some (.raw (.int .u8 16))) (h : 0 ≤ p ∧ p ≤ 255) : OpV P Γ (.binOp .rem T x y T2) ty env cs (.raw (.int .u8 (p % 16))) :=
  OpV.bin hx hy (by
    rw [binOp_rem]
    have e : p.tmod 16 = p % 16 := Int.tmod_eq_emod_of_nonneg h.1
    have e2 : IntKind.u8.wrap (p % 16) = p % 16 := wrap_u8 (by omega)
    simp [Op.intDiv, e, e2])
end
end Lg
end
section
set_option linter.all false
namespace Lg
open Go

/-! ### a law over package variables of the library -/
theorem law_callsV {P : Program} {f : FuncId} {w : World} {a : Option Addr} {len cap : Nat} {zs : List Int} {vs : List (String × (Array Value → Prop))} (ht : VarsIn P vs w) (h : Spec P f [Tr.ints (zs.take len)] [varC P vs] (fun r _ => r = Tr.bool true)) (hr : IsRow .i64 w a len cap zs) :
    Calls P f #[.slice a len cap] w fun e w' => e = .returned (.bool true) ∧ Go.RowKit.Below w.heap.size w w' := by
  unfold Spec at h
  have hav : ∀ b, av (fun _ => False) [varC P vs] b := fun b => ⟨id, by simp [fps, varC]⟩
  refine (h.2 (fun _ => False) w [.slice a len cap] ⟨_, _, rfl, isRow_rd hr hav, rfl⟩ ?_ (by simp [fps, varC]) (by simp [fps, varC]) (fun _ h => h.elim)).mono ?_
  · intro c hc
    rw [List.mem_singleton.1 hc]
    intro x hx
    obtain ⟨a, h1, h2⟩ := ht x hx
    obtain ⟨g, hg⟩ : ∃ g, P.globalNamed x.1 = some g := by
      unfold World.var? at h1
      cases hx : P.globalNamed x.1 with
      | none => rw [hx] at h1; cases h1
      | some g => exact ⟨g, rfl⟩
    exact ⟨g, a, hg, hav g, h1, h2⟩
  rintro e w' ⟨v, r, cs', rfl, rfl, hv, _, _, _, hf⟩
  cases (show v = .bool true by unfold Tr.bool Tr.raw at hv; exact hv)
  exact ⟨rfl, hf.os, hf.tape, hf.output, hf.size, fun k hk => hf.block k hk (by simp [fps, varC])⟩
theorem laid_iface {P : Program} {n nm : String} {d : DataW Unit} {r : List (String × DataW Unit)} {W : World} {g : Nat} {ti : TypeId} {ms : Array (String × TypeId)}
    (h : laidMet P ((n, .iface nm d) :: r) W) (hg : P.globalNamed n = some g) (ht : (P.globals[g]?).map (·.type) = some ti) (hi : P.underlying ti = some (.interface ms)) : ∃ tp p, W.var? P n = some #[.iface tp p] := by
  obtain ⟨ps, ⟨g0, t0, cs0, f0, p0, q0, hg0, ht0, hv0, hd0, _, e0⟩, _, hrows⟩ := h
  obtain rfl := Option.some.inj (hg.symm.trans hg0)
  obtain rfl := Option.some.inj (ht.symm.trans ht0)
  subst e0
  obtain ⟨l0⟩ := cs0
  obtain ⟨f1, u, v, rfl, hn, h1⟩ := Go.iface_of_trod hi hd0
  exact ⟨u, v, hv0⟩
end Lg
end
