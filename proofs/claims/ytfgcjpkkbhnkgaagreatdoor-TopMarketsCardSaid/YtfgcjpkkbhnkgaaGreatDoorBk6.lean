/- A part of the proof of a law of this seat: it adds no condition. By an AI agent. -/
import Derived.Shelf.Bits.Mul64
import Derived.Shelf.SlSortCmp.WholeK
import Derived.Shelf.Slices.In.SortNone
import Derived.Shelf.Slices.Reverse
import Derived.Test.YtfgcjpkkbhnkgaaGreatDoorLgCpy
import Derived.Test.YtfgcjpkkbhnkgaaGreatDoorMv4
import Derived.Test.YtfgcjpkkbhnkgaaGreatDoorBk3
section
set_option linter.all false
set_option maxRecDepth 100000
set_option maxHeartbeats 4000000
namespace Lg
open Go Go.Proofs

/-! ### the price, in plain terms -/
def sumQ : List Int → Int
 |[] => 0
 |x :: l => x + sumQ l
theorem sumQ_app (a b : List Int) : sumQ (a ++ b) = sumQ a + sumQ b := by
 induction a with
 |nil => simp [sumQ]
 |cons x a ih => rw [List.cons_append, sumQ, sumQ, ih]; omega
theorem sumQ_bd {l : List Int} {B : Int} (h : ∀ x ∈ l, 0 ≤ x ∧ x ≤ B) : 0 ≤ sumQ l ∧ sumQ l ≤ (l.length : Int) * B := by
 induction l with
 |nil => simp [sumQ]
 |cons x l ih =>
  have h1 := h x (by simp)
  have h2 := ih (fun y hy => h y (by simp [hy]))
  rw [sumQ, List.length_cons, show ((l.length + 1 : Nat) : Int) * B = (l.length : Int) * B + B by rw [Int.natCast_add, Int.add_mul]; simp]
  omega
theorem sumQ_take {l : List Int} {k : Nat} {x : Int} (h : l[k]? = some x) : sumQ (l.take (k + 1)) = sumQ (l.take k) + x := by
 rw [List.take_succ, h, sumQ_app]
 simp [sumQ]
/-- what a deal takes off, of prices from high to low -/
def dOn (m f : Nat) : Nat → List Int → Int
 |0, _ => 0
 |n + 1, S => if m ≤ S.length then sumQ ((S.take m).drop (m - f)) + dOn m f n (S.drop m) else 0
theorem dOn_fuel {m f : Nat} (hm : 1 ≤ m) : ∀ (n : Nat) (S : List Int), S.length ≤ n → dOn m f n S = dOn m f S.length S
 |0, S, h => by
  rw [show S.length = 0 by omega]
 |n + 1, S, h => by
  by_cases hl : m ≤ S.length
  ·obtain ⟨q, hq⟩ : ∃ q, S.length = q + 1 := ⟨S.length - 1, by omega⟩
   have hd : (S.drop m).length = S.length - m := List.length_drop
   rw [hq, dOn, dOn, if_pos hl, if_pos hl, dOn_fuel hm n _ (by omega), dOn_fuel hm q _ (by omega)]
  ·rw [dOn, if_neg hl]
   cases hq : S.length with
   |zero => rfl
   |succ q => rw [dOn, if_neg (by omega)]
def dOff (m f : Nat) (S : List Int) : Int := dOn m f S.length S
theorem dOff_step {m f : Nat} {S : List Int} (hm : 1 ≤ m) (h : m ≤ S.length) : dOff m f S = sumQ ((S.take m).drop (m - f)) + dOff m f (S.drop m) := by
 have hd : (S.drop m).length = S.length - m := List.length_drop
 unfold dOff
 obtain ⟨q, hq⟩ : ∃ q, S.length = q + 1 := ⟨S.length - 1, by omega⟩
 rw [hq, dOn, if_pos (by omega), dOn_fuel hm q _ (by omega)]
theorem dOff_end {m f : Nat} {S : List Int} (h : S.length < m) : dOff m f S = 0 := by
 unfold dOff
 cases hq : S.length with
 |zero => rfl
 |succ q => rw [dOn, if_neg (by omega)]
/-- the prices of a group's units -/
def unitsG (w : List Wr) (g : ByteArray) : List Nm → List Int
 |[] => []
 |x :: b => (if (wrD w x.key).group = g then List.replicate x.many.toNat (wrD w x.key).price else []) ++ unitsG w g b
theorem unitsG_snoc (w : List Wr) (g : ByteArray) (b : List Nm) (x : Nm) : unitsG w g (b ++ [x]) = unitsG w g b ++ (if (wrD w x.key).group = g then List.replicate x.many.toNat (wrD w x.key).price else []) := by
 induction b with
 |nil => simp [unitsG]
 |cons y b ih => rw [List.cons_append, unitsG, ih, unitsG, List.append_assoc]
def totG (w : List Wr) : List Nm → Int
 |[] => 0
 |x :: b => (wrD w x.key).price * x.many + totG w b
theorem totG_snoc (w : List Wr) (b : List Nm) (x : Nm) : totG w (b ++ [x]) = totG w b + (wrD w x.key).price * x.many := by
 induction b with
 |nil => simp [totG]
 |cons y b ih => rw [List.cons_append, totG, ih, totG]; omega
/-- from high to low -/
def hiLo (l : List Int) : List Int := (l.mergeSort fun x y => decide (x ≤ y)).reverse
theorem hiLo_perm (l : List Int) : (hiLo l).Perm l := (List.reverse_perm _).trans (List.mergeSort_perm _ _)
theorem hiLo_len (l : List Int) : (hiLo l).length = l.length := (hiLo_perm l).length_eq
theorem hiLo_sorted (l : List Int) : (hiLo l).Pairwise fun a b => b ≤ a := by
 unfold hiLo
 rw [List.pairwise_reverse]
 have := List.pairwise_mergeSort (le := fun x y : Int => decide (x ≤ y)) (by intro a b c h1 h2; simp at *; omega) (by intro a b; simp; omega) l
 exact this.imp fun h => by simpa using h
theorem hiLo_uniq {ys l : List Int} (hp : ys.Perm l) (hs : ys.Pairwise fun a b => b ≤ a) : ys = hiLo l :=
 sorted_uniq (le := fun a b => b ≤ a) (hp.trans (hiLo_perm l).symm) (fun a _ b _ h1 h2 => Int.le_antisymm h2 h1) hs (hiLo_sorted l)
def dlS (w : List Wr) (b : List Nm) (st : Int × List ByteArray) (x : Dl) : Int × List ByteArray :=
 (st.1 - dOff x.many.toNat x.free.toNat (hiLo (unitsG w x.group b)), if x.many.toNat ≤ (unitsG w x.group b).length then st.2 ++ [x.key] else st.2)
def prcP (w : List Wr) (d : List Dl) (b : List Nm) : Int × List ByteArray := d.foldl (dlS w b) (totG w b, [])
/-! ### right arguments -/
theorem wares_ok {w : List Wr} (h : waresE w = 0) : w.length ≤ 200 ∧ ∀ x ∈ w, 0 ≤ x.price ∧ x.price ≤ 100000 := by
 unfold waresE at h
 by_cases h0 : w.length > 200
 ·rw [if_pos h0] at h; cases h
 rw [if_neg h0] at h
 refine ⟨by omega, fun x hx => ?_⟩
 obtain ⟨k, hk⟩ := List.getElem?_of_mem hx
 have hlt := (List.getElem?_eq_some_iff.1 hk).1
 have h1 := firstE_zero h k (by omega) (by omega)
 unfold wrE at h1
 rw [hk] at h1
 simp only [wrX] at h1
 repeat (split at h1; · cases h1)
 omega
theorem bask_ok {w : List Wr} {b : List Nm} (h : bskE w b = 0) : waresE w = 0 ∧ b.length ≤ 100 ∧ ∀ x ∈ b, (wrF1 w x.key).isSome = true ∧ 1 ≤ x.many ∧ x.many ≤ 100 := by
 unfold bskE at h
 by_cases h1 : waresE w ≠ 0
 ·rw [if_pos h1] at h; exact absurd h h1
 rw [if_neg h1] at h
 by_cases h0 : b.length > 100
 ·rw [if_pos h0] at h; cases h
 rw [if_neg h0] at h
 refine ⟨by omega, by omega, fun x hx => ?_⟩
 obtain ⟨k, hk⟩ := List.getElem?_of_mem hx
 have hlt := (List.getElem?_eq_some_iff.1 hk).1
 have h1 := firstE_zero h k (by omega) (by omega)
 unfold bkE at h1
 rw [hk] at h1
 simp only [bkX] at h1
 split at h1
 ·cases h1
 rename_i hn
 repeat (split at h1; · cases h1)
 refine ⟨?_, by omega, by omega⟩
 cases hq : wrF1 w x.key with
 |none => rw [hq] at hn; exact absurd rfl hn
 |some y => rfl
theorem deal_ok {w : List Wr} {d : List Dl} (h : dealE w d = 0) : d.length ≤ 20 ∧ ∀ x ∈ d, 2 ≤ x.many ∧ x.many ≤ 20 ∧ 1 ≤ x.free ∧ x.free ≤ x.many - 1 := by
 unfold dealE at h
 by_cases h1 : waresE w ≠ 0
 ·rw [if_pos h1] at h; exact absurd h h1
 rw [if_neg h1] at h
 by_cases h0 : d.length > 20
 ·rw [if_pos h0] at h; cases h
 rw [if_neg h0] at h
 refine ⟨by omega, fun x hx => ?_⟩
 obtain ⟨k, hk⟩ := List.getElem?_of_mem hx
 have hlt := (List.getElem?_eq_some_iff.1 hk).1
 have h1 := firstE_zero h k (by omega) (by omega)
 unfold dlE at h1
 rw [hk] at h1
 simp only [dlX] at h1
 repeat (split at h1; · cases h1)
 omega
theorem wrD_bd {w : List Wr} (h : ∀ x ∈ w, 0 ≤ x.price ∧ x.price ≤ 100000) (k : ByteArray) : 0 ≤ (wrD w k).price ∧ (wrD w k).price ≤ 100000 := by
 unfold wrD
 cases hq : wrF1 w k with
 |none => simp
 |some y => exact h y (List.mem_of_find?_eq_some hq)
theorem unitsG_bd {w : List Wr} (h : ∀ x ∈ w, 0 ≤ x.price ∧ x.price ≤ 100000) (g : ByteArray) : ∀ (b : List Nm), ∀ y ∈ unitsG w g b, 0 ≤ y ∧ y ≤ 100000
 |[], y, hy => by cases hy
 |x :: b, y, hy => by
  rw [unitsG] at hy
  rcases List.mem_append.1 hy with h1 | h1
  ·split at h1
   ·rw [List.eq_of_mem_replicate h1]; exact wrD_bd h _
   ·cases h1
  ·exact unitsG_bd h g b y h1
theorem unitsG_len {w : List Wr} (g : ByteArray) : ∀ (b : List Nm), (∀ x ∈ b, x.many ≤ 100) → (unitsG w g b).length ≤ b.length * 100
 |[], _ => by simp [unitsG]
 |x :: b, hb => by
  have h1 := unitsG_len (w := w) g b (fun y hy => hb y (by simp [hy]))
  have h2 := hb x (by simp)
  rw [unitsG, List.length_append, List.length_cons]
  split
  ·rw [List.length_replicate]; omega
  ·simp; omega
theorem totG_bd {w : List Wr} (h : ∀ x ∈ w, 0 ≤ x.price ∧ x.price ≤ 100000) : ∀ (b : List Nm), (∀ x ∈ b, 1 ≤ x.many ∧ x.many ≤ 100) → 0 ≤ totG w b ∧ totG w b ≤ (b.length : Int) * 10000000
 |[], _ => by simp [totG]
 |x :: b, hb => by
  have h1 := totG_bd h b (fun y hy => hb y (by simp [hy]))
  have h2 := hb x (by simp)
  have h3 := wrD_bd h x.key
  have h4 : 0 ≤ (wrD w x.key).price * x.many := Int.mul_nonneg h3.1 (by omega)
  have h5 : (wrD w x.key).price * x.many ≤ 100000 * 100 := Int.mul_le_mul h3.2 h2.2 (by omega) (by omega)
  rw [totG, List.length_cons]
  omega
end Lg
end
section
set_option linter.all false
set_option maxRecDepth 100000
set_option maxHeartbeats 4000000
namespace Lg
open Go Go.Proofs

/-! ### slices.Repeat of one number -/
theorem PFn.tup2 {P : Program} {f : FuncId} {args : List Tr} {a b : Value} (h : PFn P f args (· = .raw (.tuple #[a, b]))) : PFn P f args (· = .tup [.raw a, .raw b]) := by
 have h := h.spec
 refine PFn.mk ?_
 unfold Spec at h ⊢
 refine ⟨h.1, fun M w vs h1 h2 h3 h4 h5 => (h.2 M w vs h1 h2 h3 h4 h5).mono ?_⟩
 rintro e w' ⟨v, r, cs', he, ⟨hc, hr⟩, hrd, hrest⟩
 subst hr
 refine ⟨v, .tup [.raw a, .raw b], cs', he, ⟨hc, rfl⟩, ?_, hrest⟩
 rw [rd_raw hrd]
 unfold Tr.tup
 exact ⟨[a, b], rfl, a, [b], rfl, raw_self _, b, [], rfl, raw_self _, rfl⟩
theorem mul_fn (x y : Nat) (hx : x ≤ 1000) (hy : y ≤ 1000000) : PFn Tryz.prog 61 [.raw (.int .u64 x), .raw (.int .u64 y)] (· = .tup [.raw (.int .u64 0), .raw (.int .u64 ((x * y : Nat) : Int))]) := by
 refine PFn.tup2 (PFn.of_calls (args := [.int .u64 x, .int .u64 y]) (fun vs w => rfl) (fun w => ?_))
 refine (Any.bits_Mul Tryz.lays212 x y (by omega) (by omega) w).mono ?_
 rintro e w' ⟨rfl, rfl⟩
 have h1 : x * y ≤ 1000 * 1000000 := Nat.mul_le_mul hx hy
 rw [Nat.div_eq_of_lt (by omega), Nat.mod_eq_of_lt (by omega)]
 exact ⟨rfl, Go.RowKit.Below.refl _ _, fun _ => Nat.le_refl _⟩
theorem repeat_fn (x : Int) (N : Nat) (h1 : 1 ≤ N) (hN : N ≤ 1000000) : Spec Tryz.prog 28 [.sl 1 [[.int x]], .int N] [] (fun r cs => ∃ ad cap, r = .raw (.slice ad N cap) ∧ cs = [Chunk.own ad cap 1 3 (List.replicate N [.int x])]) := by
 have km := mul_fn 1 N (by omega) (by omega)
 rw [Nat.one_mul] at km
 refine Spec.body Tryz.func28 rfl rfl (Tryz.ntmps28) rfl fun w0 own0 M => ?_
 repeat' (first | refine goH ?_ | (refine Ops.k_convert ?_; first | (first | refine Ops.convN Tryz.underlying3 Tryz.underlying125 rfl (wrap_u64 (by first | omega | (simp; done))) rfl ?_ | refine Ops.convN Tryz.underlying125 Tryz.underlying3 rfl (wrap_i64 (by first | omega | (simp; done))) rfl ?_)) | refine goV ?_ | refine goC (fun ad cap => ?_) | refine goG ?_ | (refine Ops.k_guard ?_; first | (refine Ops.guard_dec rfl rfl ?_ ?_ <;> intro hc <;> try omega) | refine Ops.guard_split rfl rfl ?_ ?_ <;> intro hc) | refine goI ?_ | (refine Cw.k_cond ?_; first | (refine Cw.cond_dec rfl ?_ ?_ <;> intro hc <;> try omega) | refine Cw.cond_bool rfl ?_ ?_ <;> intro hc) | (refine Ops.k_calla ?_; first | (refine Ops.k_callf 61 ?_; refine Ops.callV km (Evs.cons rfl (Evs.cons rfl Evs.nil)) rfl ?_)) | (apply OpW.k_call; first | (apply OpW.k_callf 61; exact OpW.callV km (Evs.cons rfl (Evs.cons rfl Evs.nil)))) | refine goR ?_ | refine goP ?_ | apply PSeq.cons | apply PSeq.yes rfl rfl rfl | exact goW | fail)
 rw [Int.toNat_natCast]
 refine Ops.own_form goPk (by rw [List.length_replicate]; omega) ?_
 rintro g rfl hcap1 hcap2
 rw [List.length_replicate] at hcap1
 obtain ⟨rows, hrows⟩ : ∃ rows : List (List Tr), rows = (List.replicate N (List.map Tr.raw [Value.int .i64 0])).set 0 [Tr.int x] := ⟨_, rfl⟩
 have hrl : rows.length = N := by rw [hrows]; simp
 have hr1 : rows.take 1 = List.replicate 1 [Tr.int x] := by
  rw [hrows]
  obtain ⟨q, rfl⟩ : ∃ q, N = q + 1 := ⟨N - 1, by omega⟩
  rfl
 repeat' (first | refine goH ?_ | (refine Ops.k_c_copy ?_; first | (refine Ops.copy_one (j := 0) rfl rfl goPk rfl (by rw [List.length_replicate]; omega) (by rw [List.length_replicate]; omega) (by omega) rfl ?_)) | refine goV ?_ | refine goC (fun ad cap => ?_) | refine goG ?_ | (refine Ops.k_guard ?_; first | (refine Ops.guard_dec rfl rfl ?_ ?_ <;> intro hc <;> try omega) | refine Ops.guard_split rfl rfl ?_ ?_ <;> intro hc) | refine goI ?_ | (refine Cw.k_cond ?_; first | (refine Cw.cond_dec rfl ?_ ?_ <;> intro hc <;> try omega) | refine Cw.cond_bool rfl ?_ ?_ <;> intro hc) | refine goR ?_ | refine goP ?_ | apply PSeq.cons | apply PSeq.yes rfl rfl rfl | exact goW | fail)
 rw [← hrows]
 clear hrows km
 refine Cw.loopI [(7, _)] _ (fun q e c => ∃ (n : Nat) (rows : List (List Tr)), q = N - n ∧ (1 ≤ n ∧ n ≤ N ∧ rows.length = N ∧ rows.take n = List.replicate n [Tr.int x]) ∧ e = [(8, .int n)] ∧ c = [Chunk.own (some ⟨g, 0, none⟩) cap 1 3 rows]) ⟨_, _, _, (Ent.mkP goSub goPm), 1, rows, rfl, ⟨by omega, by omega, hrl, hr1⟩, rfl, rfl⟩ ?_
 clear hr1 hrl rows
 rintro _ _ _ ⟨n, rows, rfl, ⟨hn1, hnN, hrl, hr⟩, rfl, rfl⟩
 by_cases hc : n < N
 ·obtain ⟨m, hm⟩ : ∃ m, m = min (N - n) n := ⟨_, rfl⟩
  obtain ⟨rows2, hrows2⟩ : ∃ rows2, rows2 = rows.take n ++ rows.take m ++ rows.drop (n + m) := ⟨_, rfl⟩
  have hl2 : rows2.length = N := by
   rw [hrows2, List.length_append, List.length_append, List.length_take, List.length_take, List.length_drop]
   omega
  have hr2 : rows2.take (n + m) = List.replicate (n + m) [Tr.int x] := by
   have hml : (rows.take n ++ rows.take m).length = n + m := by rw [List.length_append, List.length_take, List.length_take]; omega
   rw [hrows2, List.take_append_of_le_length (by omega), List.take_of_length_le (by omega), hr, show rows.take m = (rows.take n).take m by rw [List.take_take]; congr 1; omega, hr, List.take_replicate, List.replicate_append_replicate]
   congr 1
   omega
  repeat' (first | refine goH ?_ | refine goV ?_ | refine goC (fun ad cap => ?_) | refine goG ?_ | (refine Ops.k_guard ?_; first | (refine Ops.guard_dec rfl rfl ?_ ?_ <;> intro hc <;> try omega) | refine Ops.guard_split rfl rfl ?_ ?_ <;> intro hc) | refine goI ?_ | (refine Cw.k_cond ?_; first | (refine Cw.cond_dec rfl ?_ ?_ <;> intro hc <;> try omega) | refine Cw.cond_bool rfl ?_ ?_ <;> intro hc) | fail)
  refine Cw.region_seqF (m := 7) [0] rfl (by decide +kernel) rfl (fun a w d => FlRun.move rfl rfl rfl rfl FlRun.nil) ?_
  repeat' (first | refine goH ?_ | ((fail_if_success refine Ops.k_c_copy ?_); refine goV ?_) | ((fail_if_success refine Ops.k_c_copy ?_); refine goC (fun ad cap => ?_)) | refine goG ?_ | (refine Ops.k_guard ?_; first | (refine Ops.guard_dec rfl rfl ?_ ?_ <;> intro hc <;> try omega) | refine Ops.guard_split rfl rfl ?_ ?_ <;> intro hc) | refine goI ?_ | (refine Cw.k_cond ?_; first | (refine Cw.cond_dec rfl ?_ ?_ <;> intro hc <;> try omega) | refine Cw.cond_bool rfl ?_ ?_ <;> intro hc) | exact OpV.w (OpV.slice_rawl rfl rfl (by omega)) | exact OpV.w (OpV.slice_own_hP rfl rfl goPk (by omega) (by omega)) | refine NoP.norm ?_ | refine goR ?_ | refine goP ?_ | apply PSeq.cons | apply PSeq.yes rfl rfl rfl | exact goW | fail)
  have hif : (if cap = ((n : Nat) : Int).toNat then some (⟨g, 0, none⟩ : Addr) else (some (⟨g, 0, none⟩ : Addr)).map (·.add (((n : Nat) : Int).toNat * 1))) = some ⟨g, n * 1, none⟩ := by
   rw [if_neg (by omega), Int.toNat_natCast]
   simp [Addr.add]
   omega
  refine Ops.copy_front (n := n) (m := m) (o1 := n * 1) (dl := N - n) (sl := n) (congrArg (fun z => some (Tr.raw (Value.slice z (N - ((n : Nat) : Int).toNat) (cap - ((n : Nat) : Int).toNat)))) hif) rfl goPk rfl (by omega) (by omega) (by omega) hm (by omega) rfl ?_
  rw [← hrows2]
  repeat' (first | refine goH ?_ | refine goV ?_ | refine goC (fun ad cap => ?_) | refine goG ?_ | (refine Ops.k_guard ?_; first | (refine Ops.guard_dec rfl rfl ?_ ?_ <;> intro hc <;> try omega) | refine Ops.guard_split rfl rfl ?_ ?_ <;> intro hc) | refine goI ?_ | (refine Cw.k_cond ?_; first | (refine Cw.cond_dec rfl ?_ ?_ <;> intro hc <;> try omega) | refine Cw.cond_bool rfl ?_ ?_ <;> intro hc) | refine NoP.norm ?_ | refine goR ?_ | refine goP ?_ | apply PSeq.cons | apply PSeq.yes rfl rfl rfl | exact goW | fail)
  exact ⟨_, _, _, (Ent.mk goSub goTk), ⟨n + m, rows2, rfl, ⟨by omega, by omega, hl2, hr2⟩, rfl, rfl⟩, by omega⟩
 ·repeat' (first | refine goH ?_ | refine goV ?_ | refine goC (fun ad cap => ?_) | refine goG ?_ | (refine Ops.k_guard ?_; first | (refine Ops.guard_dec rfl rfl ?_ ?_ <;> intro hc <;> try omega) | refine Ops.guard_split rfl rfl ?_ ?_ <;> intro hc) | refine goI ?_ | (refine Cw.k_cond ?_; first | (refine Cw.cond_dec rfl ?_ ?_ <;> intro hc <;> try omega) | refine Cw.cond_bool rfl ?_ ?_ <;> intro hc) | refine goR ?_ | refine goP ?_ | apply PSeq.cons | apply PSeq.yes rfl rfl rfl | exact goW | fail)
  have hnn : n = N := by omega
  subst hnn
  rw [List.take_of_length_le (by omega)] at hr
  rw [hr]
  exact Fin.ret (Ent.take goTk) (Outs.one rfl rfl) ⟨_, _, rfl, rfl⟩
end Lg
end
section
set_option linter.all false
set_option maxRecDepth 100000
set_option maxHeartbeats 4000000
namespace Lg
open Go Go.Proofs Go.Sort Go.Shelf

/-! ### prices from high to low, both ways -/
/-- slices.SortFunc on at most 12 elements -/
theorem pdq_int {n : Nat} {d : Int} {xs : List Int} {ad : Option Addr} {cap : Nat} {g : Nat} {caps : List Value} {cin : List Chunk} {lt : Int → Int → Bool} {cf : Int → Int → Int} (hlt : ∀ a b, lt a b = decide (cf a b < 0)) (hl : xs.length ≤ 12) (hn : n = xs.length)
  (hs : ∀ a b, a ∈ xs → b ∈ xs → Spec Tryz.prog g ([Tr.int a, Tr.int b] ++ caps.map Tr.raw) cin (fun r cs => r = Tr.int (cf a b) ∧ cs = cin)) :
  Spec Tryz.prog 62 [Tr.raw (.slice ad n cap), .int 0, .int n, .int d, Tr.raw (.func (.func g) #[] caps.toArray)] (Chunk.own ad cap 1 3 (xs.map (fun x => [Tr.int x])) :: cin) (fun r cs => r = Tr.tup [] ∧ cs = Chunk.own ad cap 1 3 ((isort lt xs).map (fun x => [Tr.int x])) :: cin) := by
 have hi := insSort_int (ad := ad) (cap := cap) hlt (show xs.length ≤ 1000000 by omega) hn hs
 refine Spec.body Tryz.func62 rfl rfl (Tryz.ntmps62) rfl fun w0 own0 M => ?_
 repeat' (first | refine goH ?_ | refine goV ?_ | refine goG ?_ | (refine Ops.k_guard ?_; first | (refine Ops.guard_dec rfl rfl ?_ ?_ <;> intro hc <;> try omega) | refine Ops.guard_split rfl rfl ?_ ?_ <;> intro hc) | refine goI ?_ | (refine Cw.k_cond ?_; first | (refine Cw.cond_dec rfl ?_ ?_ <;> intro hc <;> try omega) | refine Cw.cond_bool rfl ?_ ?_ <;> intro hc) | refine goR ?_ | refine goP ?_ | apply PSeq.cons | apply PSeq.yes rfl rfl rfl | exact goW | fail)
 refine Cw.loopI [(0, _), (4, _)] _ (fun q e c => q = 0 ∧ e = [(1, .int 0), (2, .int n), (3, .int d), (10, .bool true), (11, .bool true)] ∧ c = []) ⟨_, _, _, (Ent.mkP goSub goPm), rfl, rfl, rfl⟩ ?_
 rintro _ _ _ ⟨rfl, rfl, rfl⟩
 repeat' (first | refine goH ?_ | refine goV ?_ | refine goG ?_ | (refine Ops.k_guard ?_; first | (refine Ops.guard_dec rfl rfl ?_ ?_ <;> intro hc <;> try omega) | refine Ops.guard_split rfl rfl ?_ ?_ <;> intro hc) | refine goI ?_ | (refine Cw.k_cond ?_; first | (refine Cw.cond_dec rfl ?_ ?_ <;> intro hc <;> try omega) | refine Cw.cond_bool rfl ?_ ?_ <;> intro hc) | (refine Ops.k_calla ?_; first | (refine Ops.call (cf := []) hi (Evs.cons rfl (Evs.cons rfl (Evs.cons rfl (Evs.cons rfl Evs.nil)))) (by simp) rfl ?_; rintro r cs' ⟨rfl, rfl⟩)) | refine goR ?_ | refine goP ?_ | apply PSeq.cons | apply PSeq.yes rfl rfl rfl | exact goW | fail)
 first | exact Fin.norm (Ent.mkP goSub (by simp)) (Outs.zero rfl) ⟨rfl, rfl⟩ | exact Fin.ret (Ent.mkP goSub (by simp)) (Outs.zero rfl) ⟨rfl, rfl⟩
theorem sortFunc_int {n : Nat} {xs : List Int} {ad : Option Addr} {cap : Nat} {g : Nat} {caps : List Value} {cin : List Chunk} {lt : Int → Int → Bool} {cf : Int → Int → Int} (hlt : ∀ a b, lt a b = decide (cf a b < 0)) (hl : xs.length ≤ 12) (hn : n = xs.length)
  (hs : ∀ a b, a ∈ xs → b ∈ xs → Spec Tryz.prog g ([Tr.int a, Tr.int b] ++ caps.map Tr.raw) cin (fun r cs => r = Tr.int (cf a b) ∧ cs = cin)) :
  Spec Tryz.prog 29 [Tr.raw (.slice ad n cap), Tr.raw (.func (.func g) #[] caps.toArray)] (Chunk.own ad cap 1 3 (xs.map (fun x => [Tr.int x])) :: cin) (fun r cs => r = Tr.tup [] ∧ cs = Chunk.own ad cap 1 3 ((isort lt xs).map (fun x => [Tr.int x])) :: cin) := by
 have hi := fun d => pdq_int (d := d) (ad := ad) (cap := cap) hlt hl hn hs
 have hb := bitsLen_fn n (by omega)
 unfold PFn at hb
 refine Spec.body Tryz.func29 rfl rfl (Tryz.ntmps29) rfl fun w0 own0 M => ?_
 repeat' (first | refine goH ?_ | (refine Ops.k_convert ?_; first | (refine Ops.convN Tryz.underlying3 Tryz.underlying125 rfl (wrap_u64 (by omega)) rfl ?_)) | refine goV ?_ | refine goI ?_ | (refine Cw.k_cond ?_; first | (refine Cw.cond_dec rfl ?_ ?_ <;> intro hc <;> try omega) | refine Cw.cond_bool rfl ?_ ?_ <;> intro hc) | (refine Ops.k_calla ?_; first | (refine Ops.k_callf 63 ?_; (refine Ops.call hb (Evs.cons rfl Evs.nil) (by rw [List.nil_append]) rfl ?_; rintro r cs' ⟨rfl, v, rfl⟩; rw [List.nil_append])) | (refine Ops.call (cf := []) (hi _) (Evs.cons rfl (Evs.cons rfl (Evs.cons rfl (Evs.cons rfl (Evs.cons rfl Evs.nil))))) (by simp) rfl ?_; rintro r cs' ⟨rfl, rfl⟩)) | fail)
 first | exact Fin.norm (Ent.mkP goSub (by simp)) (Outs.zero rfl) ⟨rfl, rfl⟩ | exact Fin.ret (Ent.mkP goSub (by simp)) (Outs.zero rfl) ⟨rfl, rfl⟩

theorem price1_fn (a b : Int) : PFn Tryz.prog 30 [.int a, .int b] (· = .int (cmpI b a)) := by
 have k := compare_fn b a
 refine PFn.mk (Spec.body Tryz.func30 rfl rfl (Tryz.ntmps30) rfl fun w0 own0 M => ?_)
 repeat' (first | refine goH ?_ | refine goV ?_ | refine goI ?_ | (refine Cw.k_cond ?_; first | (refine Cw.cond_dec rfl ?_ ?_ <;> intro hc <;> try omega) | refine Cw.cond_bool rfl ?_ ?_ <;> intro hc) | (refine Ops.k_calla ?_; first | (refine Ops.k_callf 31 ?_; refine Ops.callV k (Evs.cons rfl (Evs.cons rfl Evs.nil)) rfl ?_)) | fail)
 exact Fin.ret (Ent.take goTk) (Outs.one rfl rfl) ⟨rfl, rfl⟩
theorem cmpI_negB (a b : Int) : cmpI a b < 0 ↔ a < b := by
 unfold cmpI
 split
 ·omega
 ·split <;> omega
theorem lt_hl (a b : Int) : ltOf (fun a b : Int => cmpI b a) a b = decide (b < a) := by
 unfold ltOf
 rw [decide_eq_decide]
 exact cmpI_negB b a
theorem swo_hl : SWO (ltOf fun a b : Int => cmpI b a) := by
 refine ⟨fun x => ?_, fun x y z h1 h2 => ?_, fun x y z h1 h2 => ?_⟩ <;> simp only [lt_hl, decide_eq_true_eq, decide_eq_false_iff_not] at * <;> omega
theorem sortD_fn (us : List Int) (hu : us.length ≤ 1000000) (ad : Option Addr) (cap n : Nat) (hn : n = us.length) : Spec Tryz.prog 29 [Tr.raw (.slice ad n cap), Tr.raw (.func (.func 30) #[] #[])] [Chunk.own ad cap 1 3 (intRows us)]
  (fun r cs => r = Tr.tup [] ∧ cs = [Chunk.own ad cap 1 3 (intRows (hiLo us))]) := by
 by_cases h0 : us = []
 ·subst h0
  have h := sortFunc_int (ad := ad) (cap := cap) (n := n) (xs := []) (g := 30) (caps := []) (cin := []) (lt := fun a b => decide (b < a)) (cf := fun a b => cmpI b a) (fun a b => by rw [decide_eq_decide]; exact (cmpI_negB b a).symm) (by simp) hn (fun a b ha hb => by cases ha)
  refine Spec.mono h ?_
  rintro r cs ⟨rfl, rfl⟩
  exact ⟨rfl, by rw [show hiLo [] = [] from List.eq_nil_of_length_eq_zero (hiLo_len [])]; rfl⟩
 ·have hp : 1 ≤ us.length := by
   cases us with
   |nil => exact absurd rfl h0
   |cons a rest => simp
  have h := sortFunc1 Tryz.sortInt (Value.int .i64) (fun _ => rfl) (fun a b : Int => cmpI b a) swo_hl (g := 30) (bx := []) (fun x y => price1_fn x y) (ad := ad) (cap := cap) (E := 3) (xs := us) (n := n) hn (by omega) (by omega)
  refine Spec.mono h ?_
  rintro r cs ⟨ys, rfl, rfl, hperm, hsort⟩
  have : ys = hiLo us := hiLo_uniq hperm (hsort.imp fun h => by rw [lt_hl] at h; simpa using h)
  subst this
  exact ⟨rfl, rfl⟩
end Lg
end
