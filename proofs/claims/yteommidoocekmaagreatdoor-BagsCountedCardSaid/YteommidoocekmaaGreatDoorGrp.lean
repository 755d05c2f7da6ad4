/- A part of the proof of a law of this seat: it adds no condition. By an AI agent. -/
import Derived.Shelf.SlSortCmp.WholeK
import Derived.Shelf.Sort.Plain
import Derived.Shelf.Bits.Mul64
import Derived.Shelf.Slices.In.SortNone
import Derived.Test.YteommidoocekmaaGreatDoorProg
import Derived.Test.YteommidoocekmaaGreatDoorLgSort2
import Derived.Test.YteommidoocekmaaGreatDoorDd
section
/-
  DERIVED: THE SHELF's CONTRACTS AT THIS DUMP, IN PLAIN WORDS (tools/lay-plain.mjs out of 'YteommidoocekmaaGreatDoorShelf2Raw.lean', which tools/lay-shelf.mjs wrote): THE SAME DECLARATIONS UNDER THE SAME NAMES: 'import', 'namespace', 'open', 'def', 'theorem' AND NOTHING ELSE: no command of the shelf's: FOR A HAND-IN. Each laying: the table of numbers ('.._ren') and one theorem, a field a fact of the dump's own or the kernel's comparison; each contract: ONE APPLICATION.
-/
namespace Go.Proofs
open Go.Shelf
def Tryz.sortNm_ren : Go.Shelf.Ren := ⟨fun | 6 => 34 | 15 => 48 | 14 => 47 | 28 => 67 | 29 => 68 | 20 => 59 | 21 => 60 | 22 => 61 | 23 => 62 | 24 => 63 | 25 => 64 | 26 => 65 | 27 => 66 | 46 => 80 | 47 => 81 | 48 => 82 | 49 => 83 | 50 => 84 | 57 => 98 | n => n, fun | 22 => 41 | 24 => 51 | 25 => 70 | 3 => 3 | 39 => 81 | 0 => 0 | 53 => 97 | 55 => 65 | 4 => 4 | 46 => 90 | 45 => 89 | 50 => 94 | 5 => 5 | 9 => 9 | 66 => 108 | 70 => 112 | 76 => 123 | 77 => 47 | n => n, fun | n => n⟩
theorem Tryz.sortNm : Go.Proofs.SlLaysF0.n6 Tryz.prog Tryz.sortNm_ren := {
  mixed := by kernel_rfl
  f6 := ⟨Tryz.f34.name, by decide, Tryz.func34.trans (congrArg some (by kernel_rfl))⟩
  f14 := ⟨Tryz.f47.name, by decide, Tryz.func47.trans (congrArg some (by kernel_rfl))⟩
  f15 := Tryz.func48.trans (congrArg some (by kernel_rfl))
  f20 := ⟨Tryz.f59.name, by decide, Tryz.func59.trans (congrArg some (by kernel_rfl))⟩
  f21 := ⟨Tryz.f60.name, by decide, Tryz.func60.trans (congrArg some (by kernel_rfl))⟩
  f22 := ⟨Tryz.f61.name, by decide, Tryz.func61.trans (congrArg some (by kernel_rfl))⟩
  f23 := ⟨Tryz.f62.name, by decide, Tryz.func62.trans (congrArg some (by kernel_rfl))⟩
  f24 := ⟨Tryz.f63.name, by decide, Tryz.func63.trans (congrArg some (by kernel_rfl))⟩
  f25 := ⟨Tryz.f64.name, by decide, Tryz.func64.trans (congrArg some (by kernel_rfl))⟩
  f26 := ⟨Tryz.f65.name, by decide, Tryz.func65.trans (congrArg some (by kernel_rfl))⟩
  f27 := ⟨Tryz.f66.name, by decide, Tryz.func66.trans (congrArg some (by kernel_rfl))⟩
  f28 := Tryz.func67.trans (congrArg some (by kernel_rfl))
  f29 := Tryz.func68.trans (congrArg some (by kernel_rfl))
  f46 := ⟨Tryz.f80.name, by decide, Tryz.func80.trans (congrArg some (by kernel_rfl))⟩
  f47 := Tryz.func81.trans (congrArg some (by kernel_rfl))
  f48 := Tryz.func82.trans (congrArg some (by kernel_rfl))
  f49 := ⟨Tryz.f83.name, by decide, Tryz.func83.trans (congrArg some (by kernel_rfl))⟩
  f50 := ⟨Tryz.f84.name, by decide, Tryz.func84.trans (congrArg some (by kernel_rfl))⟩
  f57 := ⟨Tryz.f98.name, by decide, Tryz.func98.trans (congrArg some (by kernel_rfl))⟩
  t0 := Tryz.underlying0
  a0 := Tryz.isAgg0
  z0 := Tryz.sizeOf0
  v0 := Tryz.zeroValue0
  t3 := Tryz.underlying3
  a3 := Tryz.isAgg3
  z3 := Tryz.sizeOf3
  v3 := Tryz.zeroValue3
  t4 := Tryz.underlying4
  a4 := Tryz.isAgg4
  z4 := Tryz.sizeOf4
  v4 := Tryz.zeroValue4
  t5 := Tryz.underlying5
  a5 := Tryz.isAgg5
  z5 := Tryz.sizeOf5
  v5 := Tryz.zeroValue5
  t9 := Tryz.underlying9
  a9 := Tryz.isAgg9
  z9 := Tryz.sizeOf9
  v9 := Tryz.zeroValue9
  t22 := Tryz.underlying41
  a22 := Tryz.isAgg41
  z22 := Tryz.sizeOf41
  v22 := Tryz.zeroValue41
  t25 := Tryz.underlying70
  a25 := Tryz.isAgg70
  z25 := Tryz.sizeOf70
  v25 := Tryz.zeroValue70
  t39 := Tryz.underlying81
  a39 := Tryz.isAgg81
  z39 := Tryz.sizeOf81
  v39 := Tryz.zeroValue81
  t45 := Tryz.underlying89
  a45 := Tryz.isAgg89
  z45 := Tryz.sizeOf89
  v45 := Tryz.zeroValue89
  t46 := Tryz.underlying90
  a46 := Tryz.isAgg90
  z46 := Tryz.sizeOf90
  v46 := Tryz.zeroValue90
  t50 := Tryz.underlying94
  a50 := Tryz.isAgg94
  z50 := Tryz.sizeOf94
  v50 := Tryz.zeroValue94
  t53 := Tryz.underlying97
  a53 := Tryz.isAgg97
  z53 := Tryz.sizeOf97
  v53 := Tryz.zeroValue97
  t55 := Tryz.underlying65
  a55 := Tryz.isAgg65
  z55 := Tryz.sizeOf65
  v55 := Tryz.zeroValue65
  t66 := Tryz.underlying108
  a66 := Tryz.isAgg108
  z66 := Tryz.sizeOf108
  v66 := Tryz.zeroValue108
  t70 := Tryz.underlying112
  a70 := Tryz.isAgg112
  z70 := Tryz.sizeOf112
  v70 := Tryz.zeroValue112
  t76 := Tryz.underlying123
  a76 := Tryz.isAgg123
  z76 := Tryz.sizeOf123
  v76 := Tryz.zeroValue123
  t77 := Tryz.underlying47
  a77 := Tryz.isAgg47
  z77 := Tryz.sizeOf47
  v77 := Tryz.zeroValue47 }
def Tryz.lays190_ren : Go.Shelf.Ren := ⟨fun | 190 => 55 | 125 => 48 | 258 => 72 | 128 => 67 | 129 => 68 | 302 => 85 | 303 => 86 | 304 => 87 | 305 => 88 | 306 => 89 | 307 => 90 | 308 => 91 | 309 => 92 | 310 => 93 | 333 => 99 | 329 => 81 | 330 => 82 | 334 => 100 | 335 => 101 | 336 => 102 | 344 => 106 | n => n, fun | 31 => 58 | 9 => 9 | 3 => 3 | 46 => 81 | 0 => 0 | 51 => 97 | 53 => 65 | 4 => 4 | 183 => 90 | 182 => 89 | 131 => 94 | 5 => 5 | 218 => 108 | 222 => 112 | 228 => 123 | 229 => 47 | n => n, fun | n => n⟩
theorem Tryz.lays190 : Go.Proofs.Lays.n190 Tryz.prog Tryz.lays190_ren := {
  mixed := by kernel_rfl
  f125 := Tryz.func48.trans (congrArg some (by kernel_rfl))
  f128 := Tryz.func67.trans (congrArg some (by kernel_rfl))
  f129 := Tryz.func68.trans (congrArg some (by kernel_rfl))
  f190 := Tryz.func55.trans (congrArg some (by kernel_rfl))
  f258 := Tryz.func72.trans (congrArg some (by kernel_rfl))
  f302 := Tryz.func85.trans (congrArg some (by kernel_rfl))
  f303 := Tryz.func86.trans (congrArg some (by kernel_rfl))
  f304 := Tryz.func87.trans (congrArg some (by kernel_rfl))
  f305 := Tryz.func88.trans (congrArg some (by kernel_rfl))
  f306 := Tryz.func89.trans (congrArg some (by kernel_rfl))
  f307 := Tryz.func90.trans (congrArg some (by kernel_rfl))
  f308 := Tryz.func91.trans (congrArg some (by kernel_rfl))
  f309 := Tryz.func92.trans (congrArg some (by kernel_rfl))
  f310 := Tryz.func93.trans (congrArg some (by kernel_rfl))
  f329 := Tryz.func81.trans (congrArg some (by kernel_rfl))
  f330 := Tryz.func82.trans (congrArg some (by kernel_rfl))
  f333 := Tryz.func99.trans (congrArg some (by kernel_rfl))
  f334 := Tryz.func100.trans (congrArg some (by kernel_rfl))
  f335 := Tryz.func101.trans (congrArg some (by kernel_rfl))
  f336 := Tryz.func102.trans (congrArg some (by kernel_rfl))
  f344 := Tryz.func106.trans (congrArg some (by kernel_rfl))
  t0 := Tryz.underlying0
  a0 := Tryz.isAgg0
  z0 := Tryz.sizeOf0
  v0 := Tryz.zeroValue0
  t3 := Tryz.underlying3
  a3 := Tryz.isAgg3
  z3 := Tryz.sizeOf3
  v3 := Tryz.zeroValue3
  t4 := Tryz.underlying4
  a4 := Tryz.isAgg4
  z4 := Tryz.sizeOf4
  v4 := Tryz.zeroValue4
  t5 := Tryz.underlying5
  a5 := Tryz.isAgg5
  z5 := Tryz.sizeOf5
  v5 := Tryz.zeroValue5
  t9 := Tryz.underlying9
  a9 := Tryz.isAgg9
  z9 := Tryz.sizeOf9
  v9 := Tryz.zeroValue9
  t31 := Tryz.underlying58
  a31 := Tryz.isAgg58
  z31 := Tryz.sizeOf58
  v31 := Tryz.zeroValue58
  t46 := Tryz.underlying81
  a46 := Tryz.isAgg81
  z46 := Tryz.sizeOf81
  v46 := Tryz.zeroValue81
  t51 := Tryz.underlying97
  a51 := Tryz.isAgg97
  z51 := Tryz.sizeOf97
  v51 := Tryz.zeroValue97
  t53 := Tryz.underlying65
  a53 := Tryz.isAgg65
  z53 := Tryz.sizeOf65
  v53 := Tryz.zeroValue65
  t131 := Tryz.underlying94
  a131 := Tryz.isAgg94
  z131 := Tryz.sizeOf94
  v131 := Tryz.zeroValue94
  t182 := Tryz.underlying89
  a182 := Tryz.isAgg89
  z182 := Tryz.sizeOf89
  v182 := Tryz.zeroValue89
  t183 := Tryz.underlying90
  a183 := Tryz.isAgg90
  z183 := Tryz.sizeOf90
  v183 := Tryz.zeroValue90
  t218 := Tryz.underlying108
  a218 := Tryz.isAgg108
  z218 := Tryz.sizeOf108
  v218 := Tryz.zeroValue108
  t222 := Tryz.underlying112
  a222 := Tryz.isAgg112
  z222 := Tryz.sizeOf112
  v222 := Tryz.zeroValue112
  t228 := Tryz.underlying123
  a228 := Tryz.isAgg123
  z228 := Tryz.sizeOf123
  v228 := Tryz.zeroValue123
  t229 := Tryz.underlying47
  a229 := Tryz.isAgg47
  z229 := Tryz.sizeOf47
  v229 := Tryz.zeroValue47 }
def Tryz.lays264_ren : Go.Shelf.Ren := ⟨fun | 264 => 46 | n => n, fun | 53 => 65 | 46 => 81 | n => n, fun | n => n⟩
theorem Tryz.lays264 : Go.Proofs.Lays.n264 Tryz.prog Tryz.lays264_ren := {
  mixed := by kernel_rfl
  f264 := Tryz.func46.trans (congrArg some (by kernel_rfl))
  t46 := Tryz.underlying81
  a46 := Tryz.isAgg81
  z46 := Tryz.sizeOf81
  v46 := Tryz.zeroValue81
  t53 := Tryz.underlying65
  a53 := Tryz.isAgg65
  z53 := Tryz.sizeOf65
  v53 := Tryz.zeroValue65 }
end Go.Proofs
end
section
set_option linter.all false
set_option maxRecDepth 100000
set_option maxHeartbeats 8000000
namespace Lg
open Go Go.Proofs Go.Sort Go.Shelf

/-! ### sorting names, at whatever length (from Mv2 and Mv4) -/
def Nm.lt (a b : Nm) : Prop := strLt a.key b.key = true
theorem nm_strict {l : List Nm} (hs : l.Pairwise fun a b => ¬ b.lt a) (hn : (l.map Nm.key).Nodup) : l.Pairwise Nm.lt := by
  rw [List.Nodup, List.pairwise_map] at hn
  refine (hs.and hn).imp fun {a b} h => ?_
  unfold Nm.lt at *
  cases h1 : strLt a.key b.key
  · exact absurd (strLt_tri h1 (by simpa using h.1)) h.2
  · rfl
theorem nm_uniq {a b : List Nm} (ha : a.Pairwise Nm.lt) (hb : b.Pairwise Nm.lt) (hm : ∀ x, x ∈ a ↔ x ∈ b) : a = b :=
  strict_uniq (lt := Nm.lt) (fun a => by unfold Nm.lt; rw [strLt_irrefl]; simp) (fun a b c h1 h2 => strLt_trans h1 h2) ha hb hm
theorem isortN_sorted (l : List Nm) : (isort nmLt l).Pairwise fun a b => ¬ b.lt a := by
  have := isort_sorted (lt := nmLt) (fun a b h => strLt_asymm h) (fun a b c h1 h2 => by
    unfold nmLt at *
    cases h : strLt c.key a.key with
    | false => rfl
    | true =>
      cases h3 : strLt a.key b.key with
      | true => rw [strLt_trans h h3] at h2; cases h2
      | false => rw [strLt_tri h3 h1] at h; rw [h] at h2; cases h2) l
  exact this.imp fun {a b} h => by unfold nmLt at h; unfold Nm.lt; rw [h]; simp
theorem isortN_strict {l : List Nm} (hn : (l.map Nm.key).Nodup) : (isort nmLt l).Pairwise Nm.lt :=
  nm_strict (isortN_sorted l) (((isort_perm nmLt l).map Nm.key).nodup_iff.2 hn)
/-- a sorted list of the same names is the sorted one -/
theorem nm_sorted_uniq {ys xs : List Nm} (hp : ys.Perm xs) (hs : ys.Pairwise fun a b => ¬ b.lt a) (hn : (xs.map Nm.key).Nodup) : ys = isort nmLt xs := by
  refine nm_uniq (nm_strict hs ((hp.map Nm.key).nodup_iff.2 hn)) (isortN_strict hn) fun x => ?_
  rw [hp.mem_iff, (isort_perm nmLt xs).mem_iff]
theorem Imp.aggV {vs : List Value} (h : ∀ v ∈ vs, v.oneCell' = true) : Imp (Tr.raw (.agg vs.toArray)) (.agg (vs.map Tr.raw)) := by
  intro w A v hv
  have := rd_raw hv
  subst this
  unfold Tr.agg
  exact ⟨vs, rfl, rdc_raw h⟩
theorem PFn.impA {P : Program} {f : FuncId} {ts ts' : List Tr} {R : Tr → Prop} (hi : ImpL ts ts') (h : PFn P f ts' R) : PFn P f ts R := by
  unfold PFn Spec at h ⊢
  exact ⟨h.1, fun M w vs hv => h.2 M w vs (hi.rdl hv)⟩
def cfN (a b : Nm) : Int := cmpS a.key b.key
theorem ltN_iff (a b : Nm) : ltOf cfN a b = true ↔ a.lt b := by
  unfold ltOf cfN Nm.lt
  rw [decide_eq_true_iff, cmpS_lt]
theorem ltN_nf (a b : Nm) : ltOf cfN a b = false ↔ ¬ a.lt b := by
  rw [← ltN_iff, Bool.not_eq_true]
theorem swo_N : SWO (ltOf cfN) := by
  refine ⟨fun x => ?_, fun x y z h1 h2 => ?_, fun x y z h1 h2 => ?_⟩
  · rw [ltN_nf]; unfold Nm.lt; rw [strLt_irrefl]; simp
  · rw [ltN_iff] at *; exact strLt_trans h1 h2
  · rw [ltN_nf] at *
    unfold Nm.lt at *
    intro h
    have h1' : strLt x.key y.key = false := by simpa using h1
    have h2' : strLt y.key z.key = false := by simpa using h2
    cases h3 : strLt y.key x.key with
    | true => rw [strLt_trans h3 h] at h2'; cases h2'
    | false => rw [strLt_tri h3 h1'] at h2'; rw [h] at h2'; cases h2'
abbrev encN (x : Nm) : List Value := [.string x.key, .int .i64 x.many]
theorem encN_one (x : Nm) : ∀ v ∈ encN x, v.oneCell' = true := by
  intro v hv
  rcases List.mem_cons.1 hv with rfl | hv
  · rfl
  · rcases List.mem_cons.1 hv with rfl | hv
    · rfl
    · cases hv
instance : Inhabited Nm := ⟨nm0⟩
theorem sortNmK {g : Nat} (hg : ∀ x y : Nm, PFn Tryz.prog g [.agg x.row, .agg y.row] (· = .int (cmpS x.key y.key))) (us : List Nm) (hu : us.length ≤ 1000000) (hn : (us.map Nm.key).Nodup) (ad : Option Addr) (cap : Nat) : Spec Tryz.prog 34 [Tr.raw (.slice ad us.length cap), Tr.raw (.func (.func g) #[] #[])] [Chunk.own ad cap 2 51 (us.map Nm.row)]
    (fun r cs => r = Tr.tup [] ∧ cs = [Chunk.own ad cap 2 51 ((isort nmLt us).map Nm.row)]) := by
  by_cases h0 : us = []
  · subst h0
    exact sortFunc_nm (ad := ad) (cap := cap) (n := 0) (xs := []) (g := g) (caps := []) (cin := []) (lt := nmLt) (cf := fun a b => cmpS a.key b.key) nmLt_c (by simp) rfl (fun a b ha hb => by cases ha)
  · have hp : 1 ≤ us.length := by
      cases us with
      | nil => exact absurd rfl h0
      | cons a rest => simp
    have h := sortFuncK Tryz.sortNm (k := 2) (by omega) Tryz.isAgg51 Tryz.sizeOf51 encN (fun _ => rfl) encN_one cfN swo_N (g := g) (bx := []) (fun x y => (hg x y).impA (.cons (Imp.aggV (encN_one x)) (.cons (Imp.aggV (encN_one y)) .nil))) (ad := ad) (cap := cap) (E := 51) (xs := us) (n := us.length) rfl hp (by omega)
    refine Spec.mono h ?_
    rintro r cs ⟨ys, rfl, rfl, hperm, hsort⟩
    have e := nm_sorted_uniq hperm (hsort.imp fun h => (ltN_nf _ _).1 h) hn
    subst e
    exact ⟨rfl, rfl⟩
end Lg
end
section
set_option linter.all false
set_option maxRecDepth 100000
set_option maxHeartbeats 8000000
namespace Lg
open Go Go.Proofs

/-! (from Bk8 and Bk9) -/
/-! ### groups: a map of owned slices -/
structure Gr where
  key : ByteArray
  ad : Option Addr
  cap : Nat
  l : List Int
abbrev Gr.v (g : Gr) : Tr := Tr.raw (.slice g.ad g.l.length g.cap)
abbrev Gr.c (g : Gr) : Chunk := Chunk.own g.ad g.cap 1 3 (intRows g.l)
def gkv (G : List Gr) : List (ByteArray × Tr) := G.map fun g => (g.key, g.v)
def gch (G : List Gr) : List Chunk := G.map Gr.c
def gval (k : ByteArray) : List Gr → List Int
  | [] => []
  | g :: G => if k = g.key then g.l else gval k G
theorem gch_app (A B : List Gr) : gch (A ++ B) = gch A ++ gch B := List.map_append
theorem gch_mid (A B : List Gr) (g : Gr) : gch (A ++ g :: B) = gch A ++ g.c :: gch B := by rw [gch_app]; rfl
theorem g_split (k : ByteArray) : ∀ (G : List Gr), (∃ A g B, G = A ++ g :: B ∧ g.key = k ∧ ∀ a ∈ A, a.key ≠ k) ∨ (∀ a ∈ G, a.key ≠ k)
  | [] => .inr (fun a h => by cases h)
  | g :: G => by
    by_cases h : g.key = k
    · exact .inl ⟨[], g, G, rfl, h, fun a h => by cases h⟩
    · rcases g_split k G with ⟨A, x, B, rfl, h1, h2⟩ | h1
      · refine .inl ⟨g :: A, x, B, rfl, h1, fun a ha => ?_⟩
        rcases List.mem_cons.1 ha with rfl | ha
        · exact h
        · exact h2 a ha
      · refine .inr fun a ha => ?_
        rcases List.mem_cons.1 ha with rfl | ha
        · exact h
        · exact h1 a ha
theorem mread_in {A B : List Gr} {g : Gr} (hA : ∀ a ∈ A, a.key ≠ g.key) : mread g.key (.slice none 0 0) (gkv (A ++ g :: B)) = g.v := by
  unfold mread
  induction A with
  | nil => simp [gkv, mget]
  | cons a A ih =>
    have := ih (fun x hx => hA x (by simp [hx]))
    simp only [gkv, List.cons_append, List.map_cons, mget] at this ⊢
    rw [if_neg (fun e => hA a (by simp) e.symm)]
    exact this
theorem mread_out {G : List Gr} {k : ByteArray} (h : ∀ a ∈ G, a.key ≠ k) : mread k (.slice none 0 0) (gkv G) = Tr.raw (.slice none 0 0) := by
  unfold mread
  induction G with
  | nil => rfl
  | cons a G ih =>
    have := ih (fun x hx => h x (by simp [hx]))
    simp only [gkv, List.map_cons, mget] at this ⊢
    rw [if_neg (fun e => h a (by simp) e.symm)]
    exact this
theorem mset_in {A B : List Gr} {g g2 : Gr} (hk : g2.key = g.key) (hA : ∀ a ∈ A, a.key ≠ g.key) : mset g.key g2.v (gkv (A ++ g :: B)) = gkv (A ++ g2 :: B) := by
  induction A with
  | nil => simp [gkv, mset, hk]
  | cons a A ih =>
    have := ih (fun x hx => hA x (by simp [hx]))
    simp only [gkv, List.cons_append, List.map_cons, mset] at this ⊢
    rw [if_neg (fun e => hA a (by simp) e.symm), this]
theorem mset_out {G : List Gr} {g : Gr} (h : ∀ a ∈ G, a.key ≠ g.key) : mset g.key g.v (gkv G) = gkv (G ++ [g]) := by
  induction G with
  | nil => rfl
  | cons a G ih =>
    have := ih (fun x hx => h x (by simp [hx]))
    simp only [gkv, List.cons_append, List.map_cons, mset] at this ⊢
    rw [if_neg (fun e => h a (by simp) e.symm), this]
theorem gval_in {A B : List Gr} {g : Gr} (hA : ∀ a ∈ A, a.key ≠ g.key) : gval g.key (A ++ g :: B) = g.l := by
  induction A with
  | nil => simp [gval]
  | cons a A ih => rw [List.cons_append, gval, if_neg (fun e => hA a (by simp) e.symm), ih (fun x hx => hA x (by simp [hx]))]
theorem gval_out {G : List Gr} {k : ByteArray} (h : ∀ a ∈ G, a.key ≠ k) : gval k G = [] := by
  induction G with
  | nil => rfl
  | cons a G ih => rw [gval, if_neg (fun e => h a (by simp) e.symm), ih (fun x hx => h x (by simp [hx]))]
theorem gval_ne {A B : List Gr} {g g2 : Gr} {k : ByteArray} (hk : g2.key = g.key) (hne : k ≠ g.key) : gval k (A ++ g2 :: B) = gval k (A ++ g :: B) := by
  induction A with
  | nil => simp only [List.nil_append, gval]; rw [if_neg (by rw [hk]; exact hne), if_neg hne]
  | cons a A ih => simp only [List.cons_append, gval]; rw [ih]
theorem gval_snoc_ne {G : List Gr} {g : Gr} {k : ByteArray} (hne : k ≠ g.key) : gval k (G ++ [g]) = gval k G := by
  induction G with
  | nil => simp [gval, hne]
  | cons a G ih => rw [List.cons_append, gval, gval, ih]
theorem gval_snoc {G : List Gr} {g : Gr} (h : ∀ a ∈ G, a.key ≠ g.key) : gval g.key (G ++ [g]) = g.l := gval_in (B := []) h

theorem grp_take (k : ByteArray) (G : List Gr) : ∃ (ad : Option Addr) (cap : Nat) (l : List Int) (R : List Chunk), mread k (.slice none 0 0) (gkv G) = Tr.raw (.slice ad l.length cap) ∧ gval k G = l ∧
    (∀ (Γ : Ctx) (env : Env) (cs cf : List Chunk), cs.Perm (Chunk.bun (gch G) :: cf) → Ent Γ env cs env (Chunk.own ad cap 1 3 (intRows l) :: Chunk.bun R :: cf)) ∧
    ∀ (ad' : Option Addr) (cap' : Nat) (l' : List Int), ∃ G' : List Gr, mset k (Tr.raw (.slice ad' l'.length cap')) (gkv G) = gkv G' ∧
      (∀ (Γ : Ctx) (env : Env) (cs cf cf' : List Chunk), cs.Perm (Chunk.own ad' cap' 1 3 (intRows l') :: cf') → cf'.Perm (Chunk.bun R :: cf) → Ent Γ env cs env (Chunk.bun (gch G') :: cf)) ∧
      gval k G' = l' ∧ ∀ j, j ≠ k → gval j G' = gval j G := by
  rcases g_split k G with ⟨A, g, B, rfl, rfl, hA⟩ | h
  · refine ⟨g.ad, g.cap, g.l, gch A ++ gch B, mread_in hA, gval_in hA, fun Γ env cs cf hp => ?_, fun ad' cap' l' => ⟨A ++ ⟨g.key, ad', cap', l'⟩ :: B, mset_in (g2 := ⟨g.key, ad', cap', l'⟩) rfl hA, fun Γ env cs cf cf' h1 h2 => ?_, ?_, fun j hj => gval_ne rfl hj⟩⟩
    · rw [gch_mid] at hp
      exact Ent.pull hp
    · rw [gch_mid]
      exact Ent.putb h1 h2
    · exact gval_in (g := ⟨g.key, ad', cap', l'⟩) hA
  · refine ⟨none, 0, [], gch G, mread_out h, gval_out h, fun Γ env cs cf hp => Ent.trans (Ent.perm hp) (Ent.nil 1 3), fun ad' cap' l' => ⟨G ++ [⟨k, ad', cap', l'⟩], mset_out (g := ⟨k, ad', cap', l'⟩) h, fun Γ env cs cf cf' h1 h2 => ?_, gval_snoc (g := ⟨k, ad', cap', l'⟩) h, fun j hj => gval_snoc_ne hj⟩⟩
    rw [gch_app]
    exact Ent.push h1 h2
instance : TyMap Tryz.prog 64 9 22 (.slice none 0 0) := ⟨Tryz.underlying64, ⟨_, rfl, rfl⟩⟩
instance : KeyTy Tryz.prog 9 Value.string := KeyTy.str Tryz.underlying9
theorem OpV.lookup_eqG {P : Program} {Γ : Ctx} {env : Env} {cs cf : List Chunk} {ty T K E : TypeId} {x y : Operand} {α : Type} [DecidableEq α] {enc : α → Value} {zv : Value} [hT : TyMap P T K E zv] [hK : KeyTy P K enc] {b : Nat} {a : α} {kv : List (α × Tr)} {t : Tr} (hx : ev env x = some (.raw (.map (some b)))) (hy : ev env y = some (.raw (enc a)))
    (hp : cs.Perm (Chunk.mp enc b kv :: cf)) (he : mread a zv kv = t) : OpW P Γ (.lookup T x y false) ty env cs t := he ▸ OpV.w (OpV.lookup hx hy hp)
theorem gkv_nil : gkv [] = [] := rfl
theorem gch_nil : gch [] = [] := rfl

/-! ### the keys of a map -/
theorem mset_keys {α : Type} [DecidableEq α] (k : α) (v : Tr) : ∀ m : List (α × Tr), (mset k v m).map Prod.fst = if k ∈ m.map Prod.fst then m.map Prod.fst else m.map Prod.fst ++ [k]
  | [] => rfl
  | p :: m => by
    have ih := mset_keys k v m
    by_cases h : k = p.1
    · simp [mset, h]
    · rw [mset, if_neg h, List.map_cons, List.map_cons, ih]
      by_cases h2 : k ∈ m.map Prod.fst
      · rw [if_pos h2, if_pos (List.mem_cons_of_mem _ h2)]
      · rw [if_neg h2, if_neg (by rw [List.mem_cons]; exact fun h3 => h3.elim h h2)]
        rfl
theorem mset_nodup {α : Type} [DecidableEq α] {k : α} {v : Tr} {m : List (α × Tr)} (h : (m.map Prod.fst).Nodup) : ((mset k v m).map Prod.fst).Nodup := by
  rw [mset_keys]
  split
  · exact h
  · rename_i h2
    refine List.nodup_append.2 ⟨h, by simp, fun a ha b hb => ?_⟩
    rw [List.mem_singleton] at hb
    subst hb
    exact fun e => h2 (e ▸ ha)
theorem mset_mem {α : Type} [DecidableEq α] {k x : α} {v : Tr} {m : List (α × Tr)} : x ∈ (mset k v m).map Prod.fst ↔ x ∈ m.map Prod.fst ∨ x = k := by
  rw [mset_keys]
  split
  · rename_i h
    constructor
    · exact fun h => .inl h
    · rintro (h2 | rfl)
      · exact h2
      · exact h
  · rw [List.mem_append, List.mem_singleton]
/-- an entry of the map: its slice is taken out of the bundle and put back -/
theorem grp_entry {G : List Gr} {a : ByteArray} {t : Tr} (hn : ((gkv G).map Prod.fst).Nodup) (h : (a, t) ∈ gkv G) : ∃ (ad : Option Addr) (cap : Nat) (l : List Int) (R : List Chunk), t = Tr.raw (.slice ad l.length cap) ∧ gval a G = l ∧
    (∀ (Γ : Ctx) (env : Env) (cs cf : List Chunk), cs.Perm (Chunk.bun (gch G) :: cf) → Ent Γ env cs env (Chunk.own ad cap 1 3 (intRows l) :: Chunk.bun R :: cf)) ∧
    ∀ (Γ : Ctx) (env : Env) (cs cf cf' : List Chunk), cs.Perm (Chunk.own ad cap 1 3 (intRows l) :: cf') → cf'.Perm (Chunk.bun R :: cf) → Ent Γ env cs env (Chunk.bun (gch G) :: cf) := by
  obtain ⟨g, hg, he⟩ := List.mem_map.1 h
  simp only [Prod.mk.injEq] at he
  obtain ⟨rfl, rfl⟩ := he
  obtain ⟨A, B, rfl⟩ := List.append_of_mem hg
  have hA : ∀ x ∈ A, x.key ≠ g.key := fun x hx e => by
    unfold gkv at hn
    rw [List.map_map, List.map_append, List.map_cons] at hn
    have := (List.nodup_append.1 hn).2.2 x.key (List.mem_map.2 ⟨x, hx, rfl⟩) g.key (by simp)
    exact this e
  refine ⟨g.ad, g.cap, g.l, gch A ++ gch B, rfl, gval_in hA, fun Γ env cs cf hp => ?_, fun Γ env cs cf cf' h1 h2 => ?_⟩
  · rw [gch_mid] at hp
    exact Ent.pull hp
  · rw [gch_mid]
    exact Ent.putb h1 h2
end Lg
end
