/- A part of the proof of a law of this seat: it adds no condition. By an AI agent. -/
import Derived.Test.YtcojnmobcfpeeaaDoorMs18
set_option linter.all false
set_option maxRecDepth 100000
set_option maxHeartbeats 8000000
namespace Lg
open Go Go.Proofs

/-! ### what holds of the two machines, whatever was called -/
def SlB (L : List SlotM) : Prop := ∀ s ∈ L, 1 ≤ s.price ∧ s.price ≤ 20000 ∧ 0 ≤ s.cnt ∧ s.cnt ≤ s.most ∧ s.most ≤ 1000
def LiB (l : List Int) (k : Nat) : Prop := l.length ≤ k ∧ ∀ v ∈ l, 0 ≤ v ∧ v ≤ 1000000000000
theorem LiB.nil (k : Nat) : LiB [] k := ⟨by simp, fun v h => by cases h⟩
theorem LiB.mono {l : List Int} {k m : Nat} (h : LiB l k) (hk : k ≤ m) : LiB l m := ⟨by have := h.1; omega, h.2⟩
theorem LiB.snoc {l : List Int} {k : Nat} (h : LiB l k) {v : Int} (hv : 0 ≤ v ∧ v ≤ 1000000000000) : LiB (l ++ [v]) (k + 1) := by
 refine ⟨by rw [List.length_append]; have := h.1; simp; omega, fun x hx => ?_⟩
 rcases List.mem_append.1 hx with e | e
 ·exact h.2 x e
 ·rw [List.mem_singleton.1 e]; exact hv
structure MI2 (k : Nat) (K : List Int) (G : Int) (T : List Tube) (L : List SlotM) (J : List Bool) (E : List Int) (Y : List Tally) (i o f c x r : Int) (kv : KB) (Gm : List Gr) (LI LO LF LC : List Int) : Prop where
 pt : TbOk T
 pkl : K.length ≤ 20 ∧ ∀ v ∈ K, 1 ≤ v ∧ v ≤ 20000
 pg : 1 ≤ G ∧ G ≤ 20000
 pl : L.length ≤ 60 ∧ SlB L
 kd : KD L
 pj : J.length = L.length
 jm : JM kv L J
 py : Y = audY L Gm
 pe : E.length ≤ k ∧ (∀ v ∈ E, 0 ≤ v ∧ v ≤ 20000) ∧ sumF id E ≤ 20000
 pr : r = sumF id E
 pi : i = sumF id LI ∧ LiB LI k ∧ i ≤ 20000 * k
 po : o = sumF id LO ∧ LiB LO k ∧ o ≤ 20000 * k
 pf : f = sumF id LF ∧ LiB LF k ∧ f ≤ 10000000 * k
 pc : c = sumF id LC ∧ LiB LC k
 px : 0 ≤ x ∧ c + x ≤ 3000000000 * k
 gm : ∀ q, LiB (gval q Gm) k ∧ sumF id (gval q Gm) ≤ 20000 * k
theorem sum_snoc (l : List Int) (v : Int) : sumF id (l ++ [v]) = sumF id l + v := sumF_snoc id l v
theorem sum_ge {l : List Int} {k : Nat} (h : LiB l k) : 0 ≤ sumF id l := (sumId_bd h.2).1
theorem audY_keys {L M : List SlotM} (h : M.map SlotM.key = L.map SlotM.key) (G : List Gr) : audY M G = audY L G := by
 have e : ∀ X : List SlotM, audY X G = (X.map SlotM.key).map fun q => ⟨q, (gval q G).length, sumF id (gval q G)⟩ := fun X => by unfold audY; rw [List.map_map]; rfl
 rw [e, e, h]
theorem keys_set {L : List SlotM} {k : Nat} {d d2 : SlotM} (hd : L[k]? = some d) (h : d2.key = d.key) : (L.set k d2).map SlotM.key = L.map SlotM.key := by
 rw [List.map_set, h]
 apply List.ext_getElem?
 intro i
 by_cases e : i = k
 ·subst e
  rw [List.getElem?_set_self (by rw [List.length_map]; exact (List.getElem?_eq_some_iff.1 hd).1), List.getElem?_map, hd]
  rfl
 ·rw [List.getElem?_set_ne (by omega)]
theorem keys_at {L M : List SlotM} (h : M.map SlotM.key = L.map SlotM.key) {i : Nat} {x : SlotM} (hx : M[i]? = some x) : ∃ y, L[i]? = some y ∧ y.key = x.key := by
 have h1 : (M.map SlotM.key)[i]? = some x.key := by rw [List.getElem?_map, hx]; rfl
 rw [h, List.getElem?_map] at h1
 cases hy : L[i]? with
 |none => rw [hy] at h1; cases h1
 |some y => rw [hy] at h1; exact ⟨y, rfl, Option.some.inj h1⟩
theorem KD.keys {L M : List SlotM} (hd : KD L) (h : M.map SlotM.key = L.map SlotM.key) : KD M := by
 intro i j x y hx hy e
 obtain ⟨x', hx', ex⟩ := keys_at h hx
 obtain ⟨y', hy', ey⟩ := keys_at h hy
 exact hd i j x' y' hx' hy' (by rw [ex, ey, e])
theorem JM.keys {kv : KB} {L M : List SlotM} {J : List Bool} (hj : JM kv L J) (h : M.map SlotM.key = L.map SlotM.key) : JM kv M J := by
 intro k s hs
 obtain ⟨y, hy, e⟩ := keys_at h hs
 rw [← e]
 exact hj k y hy
/-- a slot's numbers turn, its key stays -/
theorem MI2.slot {k : Nat} {K : List Int} {G : Int} {T : List Tube} {L : List SlotM} {J : List Bool} {E : List Int} {Y : List Tally} {i o f c x r : Int} {kv : KB} {Gm : List Gr} {LI LO LF LC : List Int} (h : MI2 k K G T L J E Y i o f c x r kv Gm LI LO LF LC)
  {n : Nat} {d d2 : SlotM} (hd : L[n]? = some d) (hk : d2.key = d.key) (hb : 1 ≤ d2.price ∧ d2.price ≤ 20000 ∧ 0 ≤ d2.cnt ∧ d2.cnt ≤ d2.most ∧ d2.most ≤ 1000) : MI2 k K G T (L.set n d2) J E Y i o f c x r kv Gm LI LO LF LC := by
 have hs := keys_set hd hk
 exact { h with
  pl := ⟨by rw [List.length_set]; exact h.pl.1, fun s hs => by
   rcases List.mem_or_eq_of_mem_set hs with e | e
   ·exact h.pl.2 s e
   ·rw [e]; exact hb⟩
  kd := h.kd.keys hs
  pj := by rw [List.length_set]; exact h.pj
  jm := h.jm.keys hs
  py := by rw [audY_keys hs]; exact h.py }
theorem MI2.next {k m : Nat} {K : List Int} {G : Int} {T : List Tube} {L : List SlotM} {J : List Bool} {E : List Int} {Y : List Tally} {i o f c x r : Int} {kv : KB} {Gm : List Gr} {LI LO LF LC : List Int} (h : MI2 k K G T L J E Y i o f c x r kv Gm LI LO LF LC) (hm : k ≤ m) : MI2 m K G T L J E Y i o f c x r kv Gm LI LO LF LC :=
 { h with
  pe := ⟨by have := h.pe.1; omega, h.pe.2⟩
  pi := ⟨h.pi.1, h.pi.2.1.mono hm, by have := h.pi.2.2; omega⟩
  po := ⟨h.po.1, h.po.2.1.mono hm, by have := h.po.2.2; omega⟩
  pf := ⟨h.pf.1, h.pf.2.1.mono hm, by have := h.pf.2.2; omega⟩
  pc := ⟨h.pc.1, h.pc.2.mono hm⟩
  px := ⟨h.px.1, by have := h.px.2; omega⟩
  gm := fun q => ⟨(h.gm q).1.mono hm, by have := (h.gm q).2; omega⟩ }
theorem MI2.ins {k : Nat} {K : List Int} {G : Int} {T : List Tube} {L : List SlotM} {J : List Bool} {E : List Int} {Y : List Tally} {i o f c x r : Int} {kv : KB} {Gm : List Gr} {LI LO LF LC : List Int} (h : MI2 k K G T L J E Y i o f c x r kv Gm LI LO LF LC) (v : Int) :
  MI2 (k + 1) K G T L J (insL K G r v E) Y i o f c x (insC K G r v) kv Gm LI LO LF LC := by
 have hn := h.next (m := k + 1) (by omega)
 unfold insL insC
 by_cases h0 : insO K G r v = 0
 ·rw [if_pos h0, if_pos h0]
  unfold insO at h0
  by_cases h1 : v ∉ K
  ·rw [if_pos h1] at h0; omega
  rw [if_neg h1] at h0
  by_cases h2 : G < r + v
  ·rw [if_pos h2] at h0; omega
  have hv := h.pkl.2 v (by simpa using h1)
  have hr := h.pr
  have hg := h.pg
  exact { hn with
   pe := ⟨by rw [List.length_append]; have := h.pe.1; simp; omega, fun u hu => by
     rcases List.mem_append.1 hu with e | e
     ·exact h.pe.2.1 u e
     ·rw [List.mem_singleton.1 e]; omega, by rw [sum_snoc]; omega⟩
   pr := by rw [sum_snoc, hr] }
 ·rw [if_neg h0, if_neg h0]
  exact hn
theorem MI2.jam {k : Nat} {K : List Int} {G : Int} {T : List Tube} {L : List SlotM} {J : List Bool} {E : List Int} {Y : List Tally} {i o f c x r : Int} {kv : KB} {Gm : List Gr} {LI LO LF LC : List Int} (h : MI2 k K G T L J E Y i o f c x r kv Gm LI LO LF LC) (n : Option Nat) (on : Bool) {kv' : KB} (hj : JM kv' L (jamL n J on)) :
  MI2 (k + 1) K G T L (jamL n J on) E Y i o f c x r kv' Gm LI LO LF LC :=
 { h.next (m := k + 1) (by omega) with
  pj := by
   unfold jamL
   cases n with
   |none => exact h.pj
   |some q =>
    simp only
    split
    ·exact h.pj
    ·rw [List.length_set]; exact h.pj
  jm := hj }
theorem MI2.load {k : Nat} {K : List Int} {G : Int} {T : List Tube} {L : List SlotM} {J : List Bool} {E : List Int} {Y : List Tally} {i o f c x r : Int} {kv : KB} {Gm : List Gr} {LI LO LF LC : List Int} (h : MI2 k K G T L J E Y i o f c x r kv Gm LI LO LF LC) (key : ByteArray) (m : Int) :
  MI2 (k + 1) K G T (loadL L (slotN L key) m) J E Y i o f c x r kv Gm LI LO LF LC := by
 have hn := h.next (m := k + 1) (by omega)
 cases hk : slotN L key with
 |none => unfold loadL; exact hn
 |some q =>
  obtain ⟨d, hd, _, hq⟩ := findN_some (p := slotP key) hk
  have hb := h.pl.2 d (List.mem_of_getElem? hd)
  unfold loadL
  simp only
  by_cases h0 : loadO L (some q) m = 0
  ·rw [if_pos h0]
   unfold addCnt
   unfold loadO at h0
   simp only at h0
   rw [tAtS_eq hd] at h0 ⊢
   have h1 : ¬ m < 1 := fun e => by rw [if_pos e] at h0; omega
   rw [if_neg h1] at h0
   have h2 : ¬ d.most - d.cnt < m := fun e => by rw [if_pos e] at h0; omega
   exact hn.slot hd rfl ⟨hb.1, hb.2.1, by show 0 ≤ d.cnt + m; omega, by show d.cnt + m ≤ d.most; omega, hb.2.2.2.2⟩
  ·rw [if_neg h0]; exact hn
theorem MI2.price {k : Nat} {K : List Int} {G : Int} {T : List Tube} {L : List SlotM} {J : List Bool} {E : List Int} {Y : List Tally} {i o f c x r : Int} {kv : KB} {Gm : List Gr} {LI LO LF LC : List Int} (h : MI2 k K G T L J E Y i o f c x r kv Gm LI LO LF LC) (key : ByteArray) (m : Int) :
  MI2 (k + 1) K G T (priL L (slotN L key) m) J E Y i o f c x r kv Gm LI LO LF LC := by
 have hn := h.next (m := k + 1) (by omega)
 cases hk : slotN L key with
 |none => unfold priL; exact hn
 |some q =>
  obtain ⟨d, hd, _, hq⟩ := findN_some (p := slotP key) hk
  have hb := h.pl.2 d (List.mem_of_getElem? hd)
  unfold priL
  simp only
  by_cases h0 : m < 1 ∨ 20000 < m
  ·rw [if_pos h0]; exact hn
  ·rw [if_neg h0, tAtS_eq hd]
   exact hn.slot hd rfl ⟨by show 1 ≤ m; omega, by show m ≤ 20000; omega, hb.2.2⟩
theorem MI2.fill {k : Nat} {K : List Int} {G : Int} {T : List Tube} {L : List SlotM} {J : List Bool} {E : List Int} {Y : List Tally} {i o f c x r : Int} {kv : KB} {Gm : List Gr} {LI LO LF LC : List Int} (h : MI2 k K G T L J E Y i o f c x r kv Gm LI LO LF LC) (v m : Int) (hv : 0 ≤ v ∧ v ≤ 10000) {LF' : List Int} (hLF : LF' = if filO T (tubeN T v) m = 0 then LF ++ [v * m] else LF) :
  MI2 (k + 1) K G (filL T (tubeN T v) m) L J E Y i o (if filO T (tubeN T v) m = 0 then f + m * v else f) c x r kv Gm LI LO LF' LC := by
 have hn := h.next (m := k + 1) (by omega)
 subst hLF
 cases hk : tubeN T v with
 |none =>
  have e : filO T none m = 8 := rfl
  rw [e, if_neg (by decide), if_neg (by decide)]
  exact hn
 |some q =>
  obtain ⟨d, hd, _, hq⟩ := findN_some (p := tubeP v) hk
  have hb := h.pt.cnt d (List.mem_of_getElem? hd)
  have hvl := h.pt.val d (List.mem_of_getElem? hd)
  unfold filL
  simp only
  by_cases h0 : filO T (some q) m = 0
  ·rw [if_pos h0, if_pos h0, if_pos h0]
   unfold filO at h0
   simp only at h0
   unfold addT
   rw [tAt_eq hd] at h0 ⊢
   have h1 : ¬ m < 1 := fun e => by rw [if_pos e] at h0; omega
   rw [if_neg h1] at h0
   have h2 : ¬ d.most - d.cnt < m := fun e => by rw [if_pos e] at h0; omega
   have hm := mul_bd (a := v) (b := m) (A := 10000) (B := 1000) hv (by omega)
   have hf := h.pf
   exact { hn with
    pt := ⟨by rw [List.length_set]; exact h.pt.len, fun z hz => by
      rcases List.mem_or_eq_of_mem_set hz with e | e
      ·exact h.pt.val z e
      ·rw [e]; exact hvl, fun z hz => by
      rcases List.mem_or_eq_of_mem_set hz with e | e
      ·exact h.pt.cnt z e
      ·rw [e]; exact ⟨by show 0 ≤ d.cnt + m; omega, by show d.cnt + m ≤ d.most; omega, hb.2.2⟩⟩
    pf := ⟨by rw [sum_snoc, ← hf.1, Int.mul_comm], hf.2.1.snoc ⟨hm.1, by omega⟩, by rw [Int.mul_comm m v]; have := hf.2.2; omega⟩ }
  ·rw [if_neg h0, if_neg h0, if_neg h0]
   exact hn
theorem MI2.collect {k : Nat} {K : List Int} {G : Int} {T : List Tube} {L : List SlotM} {J : List Bool} {E : List Int} {Y : List Tally} {i o f c x r : Int} {kv : KB} {Gm : List Gr} {LI LO LF LC : List Int} (h : MI2 k K G T L J E Y i o f c x r kv Gm LI LO LF LC) (hk : k ≤ 100) :
  MI2 (k + 1) K G T L J E Y i o f (c + x) 0 r kv Gm LI LO LF (LC ++ [x]) := by
 have hn := h.next (m := k + 1) (by omega)
 have hc := h.pc
 have hx := h.px
 have h0 := sum_ge hc.2
 exact { hn with
  pc := ⟨by rw [sum_snoc, ← hc.1], hc.2.snoc ⟨hx.1, by omega⟩⟩
  px := ⟨by omega, by omega⟩ }
theorem MI2.back {k : Nat} {K : List Int} {G : Int} {T : List Tube} {L : List SlotM} {J : List Bool} {E : List Int} {Y : List Tally} {i o f c x r : Int} {kv : KB} {Gm : List Gr} {LI LO LF LC : List Int} (h : MI2 k K G T L J E Y i o f c x r kv Gm LI LO LF LC) :
  MI2 (k + 1) K G T L J [] Y i o f c x 0 kv Gm LI LO LF LC :=
 { h.next (m := k + 1) (by omega) with
  pe := ⟨by simp, fun v h => (by cases h), by decide⟩
  pr := rfl }
theorem subT_ok {W : List Tube} (ho : TbOk W) (a : Nat) : TbOk (subT W (coinsL W a)) := by
 have hl : (subT W (coinsL W a)).length = W.length := by unfold subT; rw [List.length_zipWith, coinsL_len]; omega
 have hm : ∀ z ∈ subT W (coinsL W a), ∃ d ∈ W, ∃ n : Int, 0 ≤ n ∧ n ≤ d.cnt ∧ z = sub1 d n := fun z hz => by
  obtain ⟨j, hj⟩ := List.getElem?_of_mem hz
  unfold subT at hj
  rw [List.getElem?_zipWith] at hj
  cases h1 : W[j]? with
  |none => rw [h1] at hj; cases hj
  |some d =>
   cases h2 : (coinsL W a)[j]? with
   |none => rw [h1, h2] at hj; cases hj
   |some n =>
    rw [h1, h2] at hj
    obtain ⟨b1, b2⟩ := coinsL_bd ho h2 h1
    exact ⟨d, List.mem_of_getElem? h1, n, b1, b2, (Option.some.inj hj).symm⟩
 refine ⟨by rw [hl]; exact ho.len, fun z hz => ?_, fun z hz => ?_⟩
 ·obtain ⟨d, hd, n, h1, h2, rfl⟩ := hm z hz
  exact ho.val d hd
 ·obtain ⟨d, hd, n, h1, h2, rfl⟩ := hm z hz
  have := ho.cnt d hd
  show 0 ≤ d.cnt - n ∧ d.cnt - n ≤ d.most ∧ d.most ≤ 1000
  omega
theorem MI2.press {k : Nat} {K : List Int} {G : Int} {T : List Tube} {L : List SlotM} {J : List Bool} {E : List Int} {Y : List Tally} {i o f c x r : Int} {kv : KB} {Gm : List Gr} {LI LO LF LC : List Int} (h : MI2 k K G T L J E Y i o f c x r kv Gm LI LO LF LC) (hk1 : k ≤ 100) {key : ByteArray} {q : Nat} {d : SlotM} {y : Tally} {G2 : List Gr}
  (hk : slotN L key = some q) (hd : L[q]? = some d) (hy : Y[q]? = some y) (hok : prsE L J (some q) T E r = 0) (hg1 : gval key G2 = gval key Gm ++ [d.price]) (hg2 : ∀ j, j ≠ key → gval j G2 = gval j Gm) :
  MI2 (k + 1) K G (subT (tknT T E) (coinsL (tknT T E) (r - d.price).toNat)) (L.set q { d with cnt := d.cnt - 1 }) J [] (Y.set q { y with many := y.many + 1, val := y.val + d.price }) (i + r) (o + (r - d.price)) f c (x + tknR T E) 0 kv G2 (LI ++ [r]) (LO ++ [r - d.price]) LF LC := by
 have hn := h.next (m := k + 1) (by omega)
 have hkey : d.key = key := by
  obtain ⟨d', hd', hp, _⟩ := findN_some (p := slotP key) hk
  rw [hd] at hd'
  cases hd'
  unfold slotP at hp
  simpa using hp
 have hb := h.pl.2 d (List.mem_of_getElem? hd)
 have hr := h.pr
 have he := h.pe
 have hr0 : 0 ≤ r := by rw [hr]; exact (sumId_bd fun v hv => by have := he.2.1 v hv; omega).1
 have hq : d.cnt ≠ 0 ∧ d.price ≤ r := by
  unfold prsE at hok
  simp only at hok
  rw [tAtS_eq hd] at hok
  by_cases h1 : J.getD q false = true ∨ d.cnt = 0
  ·rw [if_pos h1] at hok; omega
  rw [if_neg h1] at hok
  by_cases h2 : r < d.price
  ·rw [if_pos h2] at hok; omega
  exact ⟨(not_or.1 h1).2, by omega⟩
 have hsl := hn.slot (d2 := { d with cnt := d.cnt - 1 }) hd rfl ⟨hb.1, hb.2.1, by show 0 ≤ d.cnt - 1; omega, by show d.cnt - 1 ≤ d.most; omega, hb.2.2.2.2⟩
 have htk := tknR_bd (T := T) (E := E) h.pt he.2.1 (by omega)
 have hi := h.pi
 have hoo := h.po
 have hx := h.px
 exact { hsl with
  pt := subT_ok (tkn_ok h.pt he.2.1) _
  pe := ⟨by simp, fun v h => (by cases h), by decide⟩
  pr := rfl
  pi := ⟨by rw [sum_snoc, ← hi.1], hi.2.1.snoc ⟨hr0, by omega⟩, by have := hi.2.2; omega⟩
  po := ⟨by rw [sum_snoc, ← hoo.1], hoo.2.1.snoc ⟨by omega, by omega⟩, by have := hoo.2.2; omega⟩
  px := ⟨by omega, by omega⟩
  py := by
   rw [audY_keys (keys_set (d2 := { d with cnt := d.cnt - 1 }) hd rfl)]
   have hyv : y = ⟨d.key, (gval d.key Gm).length, sumF id (gval d.key Gm)⟩ := by
    rw [h.py] at hy
    unfold audY at hy
    rw [List.getElem?_map, hd] at hy
    exact (Option.some.inj hy).symm
   rw [h.py, hyv]
   unfold audY
   apply List.ext_getElem?
   intro j
   by_cases e : j = q
   ·subst e
    rw [List.getElem?_set_self (by rw [List.length_map]; exact (List.getElem?_eq_some_iff.1 hd).1), List.getElem?_map, hd]
    simp only [Option.map_some]
    rw [hkey, hg1, List.length_append, sum_snoc]
    congr 2
   ·rw [List.getElem?_set_ne (by omega), List.getElem?_map, List.getElem?_map]
    cases hj : L[j]? with
    |none => rfl
    |some z =>
     have hz : z.key ≠ key := fun e2 => e (h.kd j q z d hj hd (by rw [e2, hkey]))
     simp only [Option.map_some]
     rw [hg2 _ hz]
  gm := fun u => by
   by_cases e : u = key
   ·subst e
    rw [hg1, sum_snoc]
    have := h.gm u
    exact ⟨this.1.snoc ⟨by omega, by omega⟩, by have := this.2; omega⟩
   ·rw [hg2 u e]
    exact hn.gm u }
end Lg
