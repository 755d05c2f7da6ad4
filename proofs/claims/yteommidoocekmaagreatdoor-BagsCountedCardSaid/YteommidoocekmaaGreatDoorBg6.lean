/- A part of the proof of a law of this seat: it adds no condition. By an AI agent. -/
import Derived.Test.YteommidoocekmaaGreatDoorBg5
set_option linter.all false
set_option maxRecDepth 100000
set_option maxHeartbeats 8000000
namespace Lg
open Go Go.Proofs

/-! ### the reference's suspects -/
abbrev whoL (l : List Bag) : List ByteArray := l.map Bag.who
def susZ (l : List Bag) (least : Int) (ks : List ByteArray) : List Nm := (ks.filter fun w => susB (ownB l w) least).map fun w => ⟨w, sumQ (ownB l w)⟩
theorem susZ_snoc (l : List Bag) (least : Int) (ks : List ByteArray) (w : ByteArray) : susZ l least (ks ++ [w]) = susZ l least ks ++ (if susB (ownB l w) least = true then [⟨w, sumQ (ownB l w)⟩] else []) := by
  unfold susZ
  rw [List.filter_append, List.map_append]
  congr 1
  by_cases h : susB (ownB l w) least = true
  · simp [h]
  · simp [h]
theorem susZ_take {l : List Bag} {least : Int} {K : List ByteArray} {k : Nat} {w : ByteArray} (h : K[k]? = some w) : susZ l least (K.take (k + 1)) = susZ l least (K.take k) ++ (if susB (ownB l w) least = true then [⟨w, sumQ (ownB l w)⟩] else []) := by
  rw [take_at h, susZ_snoc]
theorem susZ_len (l : List Bag) (least : Int) (ks : List ByteArray) : (susZ l least ks).length ≤ ks.length := by
  unfold susZ
  rw [List.length_map]
  exact List.length_filter_le _ _
theorem susZ_mem {l : List Bag} {least : Int} {ks : List ByteArray} (hk : ∀ x, x ∈ ks ↔ x ∈ whoL l) (x : Nm) : x ∈ susZ l least ks ↔ SusP l least x := by
  unfold susZ SusP
  rw [List.mem_map]
  constructor
  · rintro ⟨w, hw, rfl⟩
    rw [List.mem_filter, hk] at hw
    exact ⟨List.mem_map.1 hw.1, rfl, hw.2⟩
  · rintro ⟨h1, h2, h3⟩
    refine ⟨x.key, List.mem_filter.2 ⟨(hk _).2 (List.mem_map.2 h1), h3⟩, ?_⟩
    rw [← h2]
theorem susZ_sorted {l : List Bag} {least : Int} {ks : List ByteArray} (hk : ks.Pairwise fun a b => strLt a b = true) : (susZ l least ks).Pairwise Nm.lt := by
  unfold susZ
  rw [List.pairwise_map]
  exact (hk.sublist List.filter_sublist).imp fun h => h
/-- the same over an owned slice, that it only reads -/
theorem indexFuncO_int {n : Nat} {l : List Int} {p : Int → Bool} {ad : Option Addr} {cap : Nat} {g : Nat} {caps : List Value} {cin : List Chunk} (hl : l.length ≤ 1000000000) (hn : n = l.length)
    (hs : ∀ x, x ∈ l → Spec Tryz.prog g ([Tr.int x] ++ caps.map Tr.raw) cin (fun r cs => r = Tr.bool (p x) ∧ cs = cin)) :
    Spec Tryz.prog 57 [Tr.raw (.slice ad n cap), Tr.raw (.func (.func g) #[] caps.toArray)] (Chunk.own ad cap 1 3 (l.map (fun x => [Tr.int x])) :: cin) (fun r cs => r = Tr.int (idxFrom p l 0) ∧ cs = Chunk.own ad cap 1 3 (l.map (fun x => [Tr.int x])) :: cin) := by
  refine Spec.body Tryz.func57 rfl rfl (Tryz.ntmps57) rfl fun w0 own0 M => ?_
  have hL : (l.map (fun x => [Tr.int x])).length = n := by rw [List.length_map, hn]
  repeat' (first | refine goH ?_ | refine goV ?_ | refine goI ?_ | (refine Cw.k_cond ?_; first | (refine Cw.cond_dec rfl (fun hc => ?_) (fun hc => ?_) <;> try (exfalso; omega)) | refine Cw.cond_bool rfl (fun hc => ?_) (fun hc => ?_)) | fail)
  refine Cw.loopI [(0, _), (1, _), (7, _)] _ (fun q e c => ∃ k : Nat, q = n - k ∧ (k ≤ n ∧ idxFrom p l 0 = idxFrom p (l.drop k) k) ∧ e = [(8, .int k)] ∧ c = []) ⟨_, _, _, (Ent.mkP goSub goPm), 0, rfl, ⟨by omega, rfl⟩, rfl, rfl⟩ ?_
  rintro _ _ _ ⟨k, rfl, ⟨hk, hgo⟩, rfl, rfl⟩
  by_cases hkl : k < n
  · obtain ⟨x, hx⟩ : ∃ x, l[k]? = some x := ⟨_, List.getElem?_eq_getElem (by omega)⟩
    have hrow : (l.map (fun x => [Tr.int x]))[k]? = some [.int x] := rows_at hx
    have hdrop := idxFrom_drop p hx
    rw [hdrop] at hgo
    have hsx := hs x (List.mem_of_getElem? hx)
    by_cases hp : p x = true
    · rw [if_pos hp] at hgo
      rw [hp] at hsx
      repeat' (first | refine goH ?_ | refine goV ?_ | refine goI ?_ | (refine Cw.k_cond ?_; first | (refine Cw.cond_dec rfl (fun hc => ?_) (fun hc => ?_) <;> try (exfalso; omega)) | refine Cw.cond_bool rfl (fun hc => ?_) (fun hc => ?_)) | (refine Ops.k_calla ?_; first | refine Ops.callS_fn rfl hsx (Evs.cons rfl Evs.nil) (List.perm_append_comm (l₁ := [Chunk.own ad cap 1 3 (l.map (fun x => [Tr.int x]))])) rfl ?_) | fail)
      exact Fin.ret Ent.refl (Outs.one rfl rfl) ⟨by rw [hgo], rfl⟩
    · rw [if_neg hp] at hgo
      rw [Bool.not_eq_true] at hp
      rw [hp] at hsx
      repeat' (first | refine goH ?_ | refine goV ?_ | refine goI ?_ | (refine Cw.k_cond ?_; first | (refine Cw.cond_dec rfl (fun hc => ?_) (fun hc => ?_) <;> try (exfalso; omega)) | refine Cw.cond_bool rfl (fun hc => ?_) (fun hc => ?_)) | (refine Ops.k_calla ?_; first | refine Ops.callS_fn rfl hsx (Evs.cons rfl Evs.nil) (List.perm_append_comm (l₁ := [Chunk.own ad cap 1 3 (l.map (fun x => [Tr.int x]))])) rfl ?_) | fail)
      exact ⟨_, _, _, (Ent.mkP goSub goPm), ⟨k + 1, rfl, ⟨by omega, hgo⟩, rfl, rfl⟩, by omega⟩
  · rw [List.drop_eq_nil_of_le (by omega), idxFrom] at hgo
    repeat' (first | refine goH ?_ | refine goV ?_ | refine goI ?_ | (refine Cw.k_cond ?_; first | (refine Cw.cond_dec rfl (fun hc => ?_) (fun hc => ?_) <;> try (exfalso; omega)) | refine Cw.cond_bool rfl (fun hc => ?_) (fun hc => ?_)) | fail)
    exact Fin.ret Ent.refl (Outs.one rfl rfl) ⟨by rw [hgo], rfl⟩

/-- slices.DeleteFunc of a slice of one's own -/
theorem delFunc_int {ad : Option Addr} {n cap : Nat} (L : List Int) (p : Int → Bool) {f : Nat} (hn : n = L.length) (hl : n ≤ 1000000) (hs : ∀ x : Int, PFn Tryz.prog f [Tr.int x] (· = .bool (p x))) :
    Spec Tryz.prog 40 [Tr.raw (.slice ad n cap), Tr.raw (.func (.func f) #[] #[])] [Chunk.own ad cap 1 3 (L.map (fun x => [Tr.int x]))] (fun r cs => r = Tr.raw (.slice ad (L.filter fun x => !p x).length cap) ∧ cs = [Chunk.own ad cap 1 3 ((L.filter fun x => !p x).map (fun x => [Tr.int x]))]) := by
  have hLr : (L.map (fun x => [Tr.int x])).length = n := by rw [List.length_map, hn]
  have kI := indexFuncO_int (n := n) (l := L) (p := p) (ad := ad) (cap := cap) (g := f) (caps := []) (cin := []) (by omega) hn (fun x _ => (hs x).lend)
  refine Spec.body Tryz.func40 rfl rfl (Tryz.ntmps40) rfl fun w0 own0 M => ?_
  rcases idx_split p L 0 with ⟨h1, h2⟩ | ⟨i, x0, h1, h2, h3, h4⟩
  · rw [h1] at kI
    repeat' (first | refine goH ?_ | refine goV ?_ | refine goI ?_ | (refine Cw.k_cond ?_; first | (refine Cw.cond_dec rfl (fun hc => ?_) (fun hc => ?_) <;> try (exfalso; omega)) | refine Cw.cond_bool rfl (fun hc => ?_) (fun hc => ?_)) | (refine Ops.k_calla ?_; first | (refine Ops.k_callf 57 ?_; (refine Ops.call kI (Evs.cons rfl (Evs.cons rfl Evs.nil)) goPm rfl ?_; rintro r cs' ⟨rfl, rfl⟩))) | fail)
    rw [h2, ← hn]
    exact Fin.ret (Ent.take goTk) (Outs.one rfl rfl) ⟨rfl, rfl⟩
  rw [Int.zero_add] at h1
  rw [h1] at kI
  have hst := Dlt.start h2 h3 h4
  have hil := (List.getElem?_eq_some_iff.1 h2).1
  clear h1 h2 h3 h4
  repeat' (first | refine goH ?_ | refine goV ?_ | refine goI ?_ | (refine Cw.k_cond ?_; first | (refine Cw.cond_dec rfl (fun hc => ?_) (fun hc => ?_) <;> try (exfalso; omega)) | refine Cw.cond_bool rfl (fun hc => ?_) (fun hc => ?_)) | (refine Ops.k_calla ?_; first | (refine Ops.k_callf 57 ?_; (refine Ops.call kI (Evs.cons rfl (Evs.cons rfl Evs.nil)) goPm rfl ?_; rintro r cs' ⟨rfl, rfl⟩))) | fail)
  refine Cw.own_form (List.Perm.refl _) (by omega) ?_
  rintro g rfl hcp hcm
  rw [hLr] at hcp
  clear kI
  refine Cw.loopI [(0, _), (1, _)] _ (fun q e cc => ∃ (j m : Nat) (W : List Int), q = n - j ∧ (j ≤ n ∧ Dlt p L W m j) ∧ e = [(5, .int m), (6, .int j)] ∧ cc = [Chunk.own (some ⟨g, 0, none⟩) cap 1 3 (W.map (fun x => [Tr.int x]))]) ⟨_, _, _, (Ent.mkP goSub goPm), i + 1, i, L, rfl, ⟨by omega, hst⟩, rfl, rfl⟩ ?_
  clear hst hil
  rintro _ _ _ ⟨j, m, W, rfl, ⟨hj, hw⟩, rfl, rfl⟩
  have hWl : (W.map (fun x => [Tr.int x])).length = n := by rw [List.length_map, hw.len, hn]
  have hmlt := hw.lt
  by_cases hjn : j < n
  · obtain ⟨x, hx⟩ := at_lt (l := L) (k := j) (by omega)
    have rx : (W.map (fun x => [Tr.int x]))[((j : Nat) : Int).toNat]? = some [.int x] := by rw [Int.toNat_natCast]; exact rows_at ((hw.at0 (Nat.le_refl _)).trans hx)
    have kp := hs x
    cases hp : p x
    · have hw2 := hw.keep hx hp
      have hset : (W.map (fun x => [Tr.int x])).set m [.int x] = (W.set m x).map (fun x => [Tr.int x]) := by rw [List.map_set] <;> rfl
      obtain ⟨c, hc⟩ := at_lt (l := W) (k := m) (by rw [hw.len]; omega)
      have rc : (W.map (fun x => [Tr.int x]))[((m : Nat) : Int).toNat]? = some ((fun x => [Tr.int x]) c) := by rw [Int.toNat_natCast]; exact rows_at hc
      try simp only at rc
      rw [hp] at kp
      clear hx hw hc
      repeat' (first | refine goH ?_ | refine goV ?_ | refine goI ?_ | (refine Cw.k_cond ?_; first | (refine Cw.cond_dec rfl (fun hc => ?_) (fun hc => ?_) <;> try (exfalso; omega)) | refine Cw.cond_bool rfl (fun hc => ?_) (fun hc => ?_)) | (refine Ops.k_calla ?_; first | refine Ops.callS_fn (caps := []) (args := [Tr.int x]) rfl kp.lend (Evs.cons rfl Evs.nil) (List.Perm.refl _) rfl ?_) | fail)
      erw [hset]
      exact ⟨_, _, _, (Ent.mk goSub goTk), ⟨j + 1, m + 1, _, rfl, ⟨by omega, hw2⟩, rfl, rfl⟩, by omega⟩
    · have hw2 := hw.drop hx hp
      rw [hp] at kp
      clear hx hw
      repeat' (first | refine goH ?_ | refine goV ?_ | refine goI ?_ | (refine Cw.k_cond ?_; first | (refine Cw.cond_dec rfl (fun hc => ?_) (fun hc => ?_) <;> try (exfalso; omega)) | refine Cw.cond_bool rfl (fun hc => ?_) (fun hc => ?_)) | (refine Ops.k_calla ?_; first | refine Ops.callS_fn (caps := []) (args := [Tr.int x]) rfl kp.lend (Evs.cons rfl Evs.nil) (List.Perm.refl _) rfl ?_) | fail)
      exact ⟨_, _, _, (Ent.mk goSub goTk), ⟨j + 1, m, W, rfl, ⟨by omega, hw2⟩, rfl, rfl⟩, by omega⟩
  have hje : j = n := by omega
  have hdone := hw.done
  have hm := hw.hm
  rw [hje, hn, List.take_length] at hdone hm
  clear hw
  repeat' (first | refine goH ?_ | (refine Ops.k_slice ?_; first | (refine Ops.sliceR_l rfl rfl (by omega) (by omega) rfl ?_)) | ((fail_if_success refine Ops.k_c_clear ?_); refine goV ?_) | refine goI ?_ | (refine Cw.k_cond ?_; first | (refine Cw.cond_dec rfl (fun hc => ?_) (fun hc => ?_) <;> try (exfalso; omega)) | refine Cw.cond_bool rfl (fun hc => ?_) (fun hc => ?_)) | fail)
  refine Ops.k_c_clear ?_
  refine Ops.clear_part (o := m) rfl (List.Perm.refl _) (by rw [Int.toNat_natCast, Nat.zero_add]; rfl) (by omega) (by omega) ?_
  rw [Int.toNat_natCast]
  have hz : ((W.map (fun x => [Tr.int x])).take m ++ List.replicate (n - m) (List.map Tr.raw [Value.int .i64 0])).take m = (L.filter fun x => !p x).map (fun x => [Tr.int x]) := by
    rw [List.take_append_of_le_length (by rw [List.length_take, hWl]; omega), List.take_take, Nat.min_self, ← List.map_take, hdone]
  have hzl : ((W.map (fun x => [Tr.int x])).take m ++ List.replicate (n - m) (List.map Tr.raw [Value.int .i64 0])).length = n := by rw [List.length_append, List.length_take, hWl, List.length_replicate]; omega
  generalize (W.map (fun x => [Tr.int x])).take m ++ List.replicate (n - m) (List.map Tr.raw [Value.int .i64 0]) = Z at *
  repeat' (first | refine goH ?_ | refine goV ?_ | refine goI ?_ | (refine Cw.k_cond ?_; first | (refine Cw.cond_dec rfl (fun hc => ?_) (fun hc => ?_) <;> try (exfalso; omega)) | refine Cw.cond_bool rfl (fun hc => ?_) (fun hc => ?_)) | fail)
  rw [Int.toNat_natCast, hz, hm]
  exact Fin.ret (Ent.take goTk) (Outs.one rfl rfl) ⟨by rw [List.length_map], rfl⟩

theorem isZero_fn (x : Int) : PFn Tryz.prog 42 [.int x] (· = .bool (decide (x = 0))) := by
  refine PFn.mk (Spec.body Tryz.func42 rfl rfl (Tryz.ntmps42) rfl fun w0 own0 M => ?_)
  repeat' (first | refine goH ?_ | refine goV ?_ | refine goI ?_ | (refine Cw.k_cond ?_; first | (refine Cw.cond_dec rfl (fun hc => ?_) (fun hc => ?_) <;> try (exfalso; omega)) | refine Cw.cond_bool rfl (fun hc => ?_) (fun hc => ?_)) | fail)
  exact Fin.ret (Ent.take goTk) (Outs.one rfl rfl) ⟨rfl, rfl⟩
theorem strRows_snocB (l : List ByteArray) (x : ByteArray) : strRows l ++ [[Tr.str x]] = strRows (l ++ [x]) := by unfold strRows; rw [List.map_append]; rfl
theorem nmRows_snoc (l : List Nm) (k : ByteArray) (n : Int) : l.map Nm.row ++ [[Tr.str k, Tr.int n]] = (l ++ ([⟨k, n⟩] : List Nm)).map Nm.row := by rw [List.map_append]; rfl
theorem suspectsOf_fn (l : List Bag) (hb : BgB l) (least : Int) (hl1 : 1 ≤ least) (hl2 : least ≤ 1000000) : ∃ Z : List Nm, Z.Pairwise Nm.lt ∧ (∀ x, x ∈ Z ↔ SusP l least x) ∧ Z.length ≤ 500 ∧ PFn Tryz.prog 20 [.bags l, .int least] (· = .nms Z) := by
  have hL : (l.map Bag.row).length = l.length := List.length_map _
  have hWl : (whoL l).length = l.length := List.length_map _
  have hl := hb.1
  obtain ⟨K, hK1, hK2, hK3, kS⟩ := sorted_fn (whoL l) (by omega)
  refine ⟨susZ l least K, susZ_sorted hK1, susZ_mem hK2, by have := susZ_len l least K; omega, ?_⟩
  have hKl := strRows_len K
  clear hK1 hK2
  refine PFn.mk (Spec.body Tryz.func20 rfl rfl (Tryz.ntmps20) rfl fun w0 own0 M => ?_)
  repeat' (first | refine goH ?_ | refine goV ?_ | refine goB (fun b => ?_) | refine goC (fun ad cap => ?_) | refine goG ?_ | (refine Ops.k_guard ?_; first | (refine Ops.guard_dec rfl rfl (fun hc => ?_) (fun hc => ?_) <;> try (exfalso; omega)) | refine Ops.guard_split rfl rfl (fun hc => ?_) (fun hc => ?_)) | refine goI ?_ | (refine Cw.k_cond ?_; first | (refine Cw.cond_dec rfl (fun hc => ?_) (fun hc => ?_) <;> try (exfalso; omega)) | refine Cw.cond_bool rfl (fun hc => ?_) (fun hc => ?_)) | refine goR ?_ | refine goP ?_ | apply PSeq.cons | apply PSeq.yes rfl rfl rfl | exact goW | fail)
  refine Cw.loopI [(0, _), (1, _), (18, _), (19, _)] _ (fun q e c => ∃ (k : Nat) (ad : Option Addr) (cap : Nat) (rows : List (List Tr)), q = l.length - k ∧ (k ≤ l.length ∧ rows = strRows (whoL (l.take k)) ∧ rows.length = k) ∧ e = [(5, Tr.raw (.slice ad rows.length cap)), (20, .int k)] ∧ c = [Chunk.own ad cap 1 9 rows])
    ⟨_, _, _, Ent.trans (Ent.nil 1 9) (Ent.mkP goSub goPm), 0, none, 0, [], rfl, ⟨by omega, rfl, rfl⟩, rfl, rfl⟩ ?_
  rintro _ _ _ ⟨k, ad, cap, rows, rfl, ⟨hk, hrows, hrl⟩, rfl, rfl⟩
  by_cases hkl : k < l.length
  · obtain ⟨x, hx⟩ := at_lt hkl
    have hrow : (l.map Bag.row)[k]? = some [.int x.day, .str x.who, .int x.mtr, .int x.fnd] := rows_at hx
    have hr : rows ++ [[Tr.str x.who]] = strRows (whoL (l.take (k + 1))) := by
      rw [hrows, take_at hx, strRows_snocB]
      unfold whoL
      rw [List.map_append]
      rfl
    clear hx hrows
    repeat' (first | refine goH ?_ | refine goV ?_ | refine goB (fun b => ?_) | refine goC (fun ad cap => ?_) | refine goG ?_ | (refine Ops.k_guard ?_; first | (refine Ops.guard_dec rfl rfl (fun hc => ?_) (fun hc => ?_) <;> try (exfalso; omega)) | refine Ops.guard_split rfl rfl (fun hc => ?_) (fun hc => ?_)) | refine goI ?_ | (refine Cw.k_cond ?_; first | (refine Cw.cond_dec rfl (fun hc => ?_) (fun hc => ?_) <;> try (exfalso; omega)) | refine Cw.cond_bool rfl (fun hc => ?_) (fun hc => ?_)) | refine goR ?_ | refine goP ?_ | apply PSeq.cons | apply PSeq.yes rfl rfl rfl | exact goW | fail)
    exact ⟨_, _, _, (Ent.mk goSub goTk), ⟨k + 1, _, _, _, rfl, ⟨by omega, hr, by rw [List.length_append, hrl]; rfl⟩, rfl, rfl⟩, by omega⟩
  rw [List.take_of_length_le (by omega)] at hrows
  subst hrows
  refine Cw.ent (Ent.settle (s := 5) rfl goPk rfl) ?_
  clear hrl
  repeat' (first | refine goH ?_ | refine goV ?_ | refine goB (fun b => ?_) | refine goC (fun ad cap => ?_) | refine goG ?_ | (refine Ops.k_guard ?_; first | (refine Ops.guard_dec rfl rfl (fun hc => ?_) (fun hc => ?_) <;> try (exfalso; omega)) | refine Ops.guard_split rfl rfl (fun hc => ?_) (fun hc => ?_)) | refine goI ?_ | (refine Cw.k_cond ?_; first | (refine Cw.cond_dec rfl (fun hc => ?_) (fun hc => ?_) <;> try (exfalso; omega)) | refine Cw.cond_bool rfl (fun hc => ?_) (fun hc => ?_)) | (refine Ops.k_calla ?_; first | refine Ops.callV kS (Evs.cons rfl Evs.nil) rfl ?_) | (apply OpW.k_call; first | exact OpW.callV kS (Evs.cons rfl Evs.nil)) | refine goR ?_ | refine goP ?_ | apply PSeq.cons | apply PSeq.yes rfl rfl rfl | exact goW | fail)
  refine Cw.loopI [(0, _), (1, _), (31, _), (32, _)] _ (fun q e c => ∃ (k : Nat) (ad : Option Addr) (cap : Nat) (rows : List (List Tr)), q = K.length - k ∧ (k ≤ K.length ∧ rows = (susZ l least (K.take k)).map Nm.row ∧ rows.length ≤ k) ∧ e = [(8, Tr.raw (.slice ad rows.length cap)), (33, .int k)] ∧ c = [Chunk.own ad cap 2 51 rows])
    ⟨_, _, _, Ent.trans (Ent.nil 2 51) (Ent.mkP goSub goPm), 0, none, 0, [], rfl, ⟨by omega, rfl, by simp⟩, rfl, rfl⟩ ?_
  rintro _ _ _ ⟨k, ad, cap, rows, rfl, ⟨hk, hrows, hrl⟩, rfl, rfl⟩
  by_cases hkl : k < K.length
  rotate_left
  · rw [List.take_of_length_le (by omega)] at hrows
    subst hrows
    repeat' (first | refine goH ?_ | refine goV ?_ | refine goB (fun b => ?_) | refine goC (fun ad cap => ?_) | refine goG ?_ | (refine Ops.k_guard ?_; first | (refine Ops.guard_dec rfl rfl (fun hc => ?_) (fun hc => ?_) <;> try (exfalso; omega)) | refine Ops.guard_split rfl rfl (fun hc => ?_) (fun hc => ?_)) | refine goI ?_ | (refine Cw.k_cond ?_; first | (refine Cw.cond_dec rfl (fun hc => ?_) (fun hc => ?_) <;> try (exfalso; omega)) | refine Cw.cond_bool rfl (fun hc => ?_) (fun hc => ?_)) | refine goR ?_ | refine goP ?_ | apply PSeq.cons | apply PSeq.yes rfl rfl rfl | exact goW | fail)
    refine Fin.ret (Ent.trans (Ent.settle (s := 4) rfl goPk rfl) (Ent.take goTk)) (Outs.sole rfl goOe) ⟨rfl, rfl⟩
  obtain ⟨w, hw⟩ := at_lt hkl
  have hrow : (strRows K)[k]? = some [.str w] := strRows_at hw
  have hnext := susZ_take (l := l) (least := least) hw
  have kO := offs_fn l hb w
  obtain ⟨o1, o2⟩ := hb.own w
  clear hw
  obtain ⟨Z, hZ⟩ : ∃ Z, Z = susZ l least (K.take k) := ⟨_, rfl⟩
  rw [← hZ] at hnext hrows
  obtain ⟨Z2, hZ2⟩ : ∃ Z2, Z2 = susZ l least (K.take (k + 1)) := ⟨_, rfl⟩
  rw [← hZ2] at hnext
  generalize ownB l w = O at *
  have hOl := intRows_len O
  have kC := clone_int (intRows O) (intRows_kB O) (by omega)
  unfold PFnO at kC
  have kD := fun (ad : Option Addr) (cap : Nat) => delFunc_int (ad := ad) (cap := cap) (n := (intRows O).length) O (fun x => decide (x = 0)) (f := 42) hOl (by omega) isZero_fn
  obtain ⟨F, hF⟩ : ∃ F, F = O.filter fun x => !decide (x = 0) := ⟨_, rfl⟩
  rw [← hF] at kD
  have hFl : (intRows F).length = F.length := intRows_len F
  have hFl2 : F.length ≤ 500 := by rw [hF]; exact Nat.le_trans (List.length_filter_le _ _) o1
  rw [← hFl] at kD
  change ∀ (ad : Option Addr) (cap : Nat), Spec Tryz.prog 40 [Tr.raw (.slice ad (intRows O).length cap), Tr.raw (.func (.func 42) #[] #[])] [Chunk.own ad cap 1 3 (intRows O)] (fun r cs => r = Tr.raw (.slice ad (intRows F).length cap) ∧ cs = [Chunk.own ad cap 1 3 (intRows F)]) at kD
  repeat' (first | refine goH ?_ | refine goV ?_ | refine goB (fun b => ?_) | refine goC (fun ad cap => ?_) | refine goG ?_ | (refine Ops.k_guard ?_; first | (refine Ops.guard_dec rfl rfl (fun hc => ?_) (fun hc => ?_) <;> try (exfalso; omega)) | refine Ops.guard_split rfl rfl (fun hc => ?_) (fun hc => ?_)) | refine goI ?_ | (refine Cw.k_cond ?_; first | (refine Cw.cond_dec rfl (fun hc => ?_) (fun hc => ?_) <;> try (exfalso; omega)) | refine Cw.cond_bool rfl (fun hc => ?_) (fun hc => ?_)) | (refine Ops.k_calla ?_; first | (refine Ops.k_callf 38 ?_; refine Ops.callV kO (Evs.cons rfl (Evs.cons rfl Evs.nil)) rfl ?_) | (refine Ops.k_callf 41 ?_; (refine Ops.call kC (Evs.cons rfl Evs.nil) (List.Perm.refl _) rfl ?_; rintro r cs' ⟨ad3, cap3, rows3, rfl, rfl, rfl⟩)) | (refine Ops.k_callf 40 ?_; (refine Ops.call (kD _ _) (Evs.cons rfl (Evs.cons rfl Evs.nil)) goPm rfl ?_; rintro r cs' ⟨rfl, rfl⟩; refine Ops.ent (Ent.settle (s := 42) rfl goPk rfl) ?_))) | (apply OpW.k_call; first | (apply OpW.k_callf 38; exact OpW.callV kO (Evs.cons rfl (Evs.cons rfl Evs.nil)))) | refine goR ?_ | refine goP ?_ | apply PSeq.cons | apply PSeq.yes rfl rfl rfl | exact goW | fail)
  have hM : (intRows F).drop (max (((intRows F).length : Int) - 60) 0).toNat = intRows (oddB O) := by
    unfold oddB
    rw [← hF, ← intRows_dropB]
    congr 1
    omega
  rw [hM]
  have hm60 := oddB_len O
  have hsus : susB O least = (decide (sumQ O < 0) && decide (headsP (oddB O).length (negB (oddB O)) * least ≤ ((2 ^ (oddB O).length : Nat) : Int))) := rfl
  have kQ := sumQ_fn O (by omega) (fun i => by have := sumQ_bdT o1 o2 i; omega)
  clear hM kC kD kO hF hFl2 kS
  generalize oddB O = Mo at *
  have hMl := intRows_len Mo
  refine Cw.loopI [(0, _), (1, _), (8, _), (10, _), (11, _), (12, _), (31, _), (32, _), (33, _), (49, _), (50, _)] _ (fun q e cc => ∃ (i : Nat) (c : Int), q = Mo.length - i ∧ (i ≤ Mo.length ∧ c = (negB (Mo.take i) : Nat)) ∧ e = [(13, .int c), (51, .int i)] ∧ cc = []) ⟨_, _, _, (Ent.mkP goSub goPm), 0, 0, rfl, ⟨by omega, rfl⟩, rfl, rfl⟩ ?_
  rintro _ _ _ ⟨i, c, rfl, ⟨hi, hc0⟩, rfl, rfl⟩
  have hcb := negB_len (Mo.take i)
  rw [List.length_take] at hcb
  by_cases him : i < Mo.length
  · obtain ⟨x, hx⟩ := at_lt him
    have r1 : (intRows Mo)[i]? = some [Tr.int x] := intRows_at hx
    have hn := negB_take hx
    rw [← hc0] at hn
    by_cases h0 : x < 0
    · rw [if_pos h0] at hn
      clear hx
      repeat' (first | refine goH ?_ | refine goV ?_ | refine goB (fun b => ?_) | refine goC (fun ad cap => ?_) | refine goG ?_ | (refine Ops.k_guard ?_; first | (refine Ops.guard_dec rfl rfl (fun hc => ?_) (fun hc => ?_) <;> try (exfalso; omega)) | refine Ops.guard_split rfl rfl (fun hc => ?_) (fun hc => ?_)) | refine goI ?_ | (refine Cw.k_cond ?_; first | (refine Cw.cond_dec rfl (fun hc => ?_) (fun hc => ?_) <;> try (exfalso; omega)) | refine Cw.cond_bool rfl (fun hc => ?_) (fun hc => ?_)) | refine goR ?_ | refine goP ?_ | apply PSeq.cons | apply PSeq.yes rfl rfl rfl | exact goW | fail)
      exact ⟨_, _, _, (Ent.mk goSub goTk), ⟨i + 1, _, rfl, ⟨by omega, hn.symm⟩, rfl, rfl⟩, by omega⟩
    · rw [if_neg h0, Int.add_zero] at hn
      clear hx
      repeat' (first | refine goH ?_ | refine goV ?_ | refine goB (fun b => ?_) | refine goC (fun ad cap => ?_) | refine goG ?_ | (refine Ops.k_guard ?_; first | (refine Ops.guard_dec rfl rfl (fun hc => ?_) (fun hc => ?_) <;> try (exfalso; omega)) | refine Ops.guard_split rfl rfl (fun hc => ?_) (fun hc => ?_)) | refine goI ?_ | (refine Cw.k_cond ?_; first | (refine Cw.cond_dec rfl (fun hc => ?_) (fun hc => ?_) <;> try (exfalso; omega)) | refine Cw.cond_bool rfl (fun hc => ?_) (fun hc => ?_)) | refine goR ?_ | refine goP ?_ | apply PSeq.cons | apply PSeq.yes rfl rfl rfl | exact goW | fail)
      exact ⟨_, _, _, (Ent.mk goSub goTk), ⟨i + 1, _, rfl, ⟨by omega, hn.symm⟩, rfl, rfl⟩, by omega⟩
  rw [List.take_of_length_le (by omega)] at hc0 hcb
  have hcm : negB Mo ≤ Mo.length := negB_len Mo
  have kH := chanceOf_fn (Mo.length : Int) (negB Mo : Int)
  have hch : chT (Mo.length : Int) (negB Mo : Int) = .tup [.agg (frac (headsP Mo.length (negB Mo)) ((2 ^ Mo.length : Nat) : Int)).row, .int 0] := by
    unfold chT
    rw [if_neg (by unfold chB; rw [decide_eq_true_iff]; omega), Int.toNat_natCast, Int.toNat_natCast]
  rw [hch] at kH
  have hH := headsP_le hm60 (k := negB Mo) (by omega)
  have hP := pow2_bd hm60
  have hfl := frac_le hH.1 hP.1 hl1
  have hfb := gcd_frac_bd hH hP
  generalize headsP Mo.length (negB Mo) = H at *
  generalize ((2 ^ Mo.length : Nat) : Int) = P at *
  unfold Frac.row at kH
  generalize frac H P = f at *
  obtain ⟨fn, fd⟩ := f
  simp only at hfl hfb kH
  rw [Int.tdiv_eq_ediv_of_nonneg hfb.2.2.1] at hfl
  rw [← hMl] at kH
  subst hc0
  have hsb := sumQ_bdT o1 o2 O.length
  rw [List.take_length] at hsb
  by_cases hs1 : sumQ O < 0
  · by_cases hs2 : fn ≤ fd / least
    · have hst : susB O least = true := by rw [hsus, decide_eq_true hs1, decide_eq_true (hfl.1 hs2)]; rfl
      rw [if_pos hst] at hnext
      have hr2 : rows ++ [[Tr.str w, Tr.int (sumQ O)]] = Z2.map Nm.row := by rw [hrows, nmRows_snoc, hnext]
      clear hsus hst hnext hrows
      generalize sumQ O = sq at *
      repeat' (first | refine goH ?_ | refine goV ?_ | refine goB (fun b => ?_) | refine goC (fun ad cap => ?_) | refine goG ?_ | (refine Ops.k_guard ?_; first | (refine Ops.guard_dec rfl rfl (fun hc => ?_) (fun hc => ?_) <;> try (exfalso; omega)) | refine Ops.guard_split rfl rfl (fun hc => ?_) (fun hc => ?_)) | refine goI ?_ | (refine Cw.k_cond ?_; first | (refine Cw.cond_dec rfl (fun hc => ?_) (fun hc => ?_) <;> try (exfalso; omega)) | refine Cw.cond_bool rfl (fun hc => ?_) (fun hc => ?_)) | (refine Ops.k_calla ?_; first | (refine Ops.k_callf 9 ?_; refine Ops.callV kH (Evs.cons rfl (Evs.cons rfl Evs.nil)) rfl ?_) | (refine Ops.k_callf 28 ?_; refine Ops.callV kQ (Evs.cons rfl Evs.nil) rfl ?_)) | (apply OpW.k_call; first | (apply OpW.k_callf 9; exact OpW.callV kH (Evs.cons rfl (Evs.cons rfl Evs.nil))) | (apply OpW.k_callf 28; exact OpW.callV kQ (Evs.cons rfl Evs.nil))) | refine goR ?_ | refine goP ?_ | apply PSeq.cons | apply PSeq.yes rfl rfl rfl | exact goW | fail)
      all_goals first | (exfalso; omega) | exact ⟨_, _, _, (Ent.mk goSub goTk), ⟨k + 1, _, _, _, rfl, ⟨by omega, hZ2 ▸ hr2, by rw [List.length_append]; simp; omega⟩, rfl, rfl⟩, by omega⟩
    · have hst : ¬ susB O least = true := by rw [hsus, decide_eq_true hs1, decide_eq_false (fun h => hs2 (hfl.2 h))]; simp
      rw [if_neg hst, List.append_nil] at hnext
      rw [← hnext] at hrows
      clear hsus hst hnext
      generalize sumQ O = sq at *
      repeat' (first | refine goH ?_ | refine goV ?_ | refine goB (fun b => ?_) | refine goC (fun ad cap => ?_) | refine goG ?_ | (refine Ops.k_guard ?_; first | (refine Ops.guard_dec rfl rfl (fun hc => ?_) (fun hc => ?_) <;> try (exfalso; omega)) | refine Ops.guard_split rfl rfl (fun hc => ?_) (fun hc => ?_)) | refine goI ?_ | (refine Cw.k_cond ?_; first | (refine Cw.cond_dec rfl (fun hc => ?_) (fun hc => ?_) <;> try (exfalso; omega)) | refine Cw.cond_bool rfl (fun hc => ?_) (fun hc => ?_)) | (refine Ops.k_calla ?_; first | (refine Ops.k_callf 9 ?_; refine Ops.callV kH (Evs.cons rfl (Evs.cons rfl Evs.nil)) rfl ?_) | (refine Ops.k_callf 28 ?_; refine Ops.callV kQ (Evs.cons rfl Evs.nil) rfl ?_)) | (apply OpW.k_call; first | (apply OpW.k_callf 9; exact OpW.callV kH (Evs.cons rfl (Evs.cons rfl Evs.nil))) | (apply OpW.k_callf 28; exact OpW.callV kQ (Evs.cons rfl Evs.nil))) | refine goR ?_ | refine goP ?_ | apply PSeq.cons | apply PSeq.yes rfl rfl rfl | exact goW | fail)
      all_goals first | (exfalso; omega) | exact ⟨_, _, _, (Ent.mk goSub goTk), ⟨k + 1, _, _, _, rfl, ⟨by omega, hZ2 ▸ hrows, by omega⟩, rfl, rfl⟩, by omega⟩
  · have hst : ¬ susB O least = true := by rw [hsus, decide_eq_false hs1]; simp
    rw [if_neg hst, List.append_nil] at hnext
    rw [← hnext] at hrows
    clear hsus hst hnext
    generalize sumQ O = sq at *
    repeat' (first | refine goH ?_ | refine goV ?_ | refine goB (fun b => ?_) | refine goC (fun ad cap => ?_) | refine goG ?_ | (refine Ops.k_guard ?_; first | (refine Ops.guard_dec rfl rfl (fun hc => ?_) (fun hc => ?_) <;> try (exfalso; omega)) | refine Ops.guard_split rfl rfl (fun hc => ?_) (fun hc => ?_)) | refine goI ?_ | (refine Cw.k_cond ?_; first | (refine Cw.cond_dec rfl (fun hc => ?_) (fun hc => ?_) <;> try (exfalso; omega)) | refine Cw.cond_bool rfl (fun hc => ?_) (fun hc => ?_)) | (refine Ops.k_calla ?_; first | (refine Ops.k_callf 9 ?_; refine Ops.callV kH (Evs.cons rfl (Evs.cons rfl Evs.nil)) rfl ?_) | (refine Ops.k_callf 28 ?_; refine Ops.callV kQ (Evs.cons rfl Evs.nil) rfl ?_)) | (apply OpW.k_call; first | (apply OpW.k_callf 9; exact OpW.callV kH (Evs.cons rfl (Evs.cons rfl Evs.nil))) | (apply OpW.k_callf 28; exact OpW.callV kQ (Evs.cons rfl Evs.nil))) | refine goR ?_ | refine goP ?_ | apply PSeq.cons | apply PSeq.yes rfl rfl rfl | exact goW | fail)
    all_goals first | (exfalso; omega) | exact ⟨_, _, _, (Ent.mk goSub goTk), ⟨k + 1, _, _, _, rfl, ⟨by omega, hZ2 ▸ hrows, by omega⟩, rfl, rfl⟩, by omega⟩
end Lg
