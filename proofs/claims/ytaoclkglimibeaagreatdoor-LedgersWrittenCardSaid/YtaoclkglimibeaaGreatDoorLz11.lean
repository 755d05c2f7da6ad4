/- A part of the proof of a law of this seat: it adds no condition. By an AI agent. -/
import Derived.Lib.LaidU8T
import Derived.Lib.LaidTab
import Derived.KernelRfl
import Derived.Test.YtaoclkglimibeaaGreatDoorLz10
set_option linter.all false
set_option maxRecDepth 100000
namespace Lg
open Go Go.Proofs

/-! ### what a card's row says of the library's variables -/
theorem u8_all : ∃ ρ : Shelf.Ren, U8Types Tryz.prog ρ ∧ U8Extra Tryz.prog ρ :=
  ⟨⟨id, fun n => if n = 5 then 5 else if n = 119 then 167 else if n = 138 then 169 else if n = 139 then 170 else n, fun n => if n = 3 then (Tryz.prog.globalNamed "unicode/utf8.first").getD 0 else if n = 4 then (Tryz.prog.globalNamed "unicode/utf8.acceptRanges").getD 0 else n⟩,
    ⟨by kernel_rfl, by kernel_rfl, by kernel_rfl, by kernel_rfl⟩, ⟨by kernel_rfl, by kernel_rfl, by kernel_rfl, by kernel_rfl, by kernel_rfl, by kernel_rfl, by kernel_rfl⟩⟩
theorem bkV6_of {w : World} (h1 : Lib.TabIs Tryz.prog w "internal/strconv.uint64pow10" .u64 Lib.pow10Tab) (h2 : Lib.VarReads Tryz.prog w "unicode/utf8.first" Lib.firstData) (h3 : Lib.VarReads Tryz.prog w "unicode/utf8.acceptRanges" Lib.acceptData)
    (h4 : ∃ g m, Tryz.prog.globalNamed "internal/bytealg.MaxLen" = some g ∧ w.cell? ⟨g, 0, none⟩ = some (.int .i64 m)) (h5 : ∃ tp p, w.var? Tryz.prog "strconv.ErrSyntax" = some #[.iface tp p]) (h6 : ∃ tp p, w.var? Tryz.prog "strconv.ErrRange" = some #[.iface tp p]) : VarsIn Tryz.prog bkV w := by
  obtain ⟨ρ, u8Types, u8Extra⟩ := u8_all
  have hu := utf8Tabs_of_readsT u8Types u8Extra h2 h3
  obtain ⟨g2, _, c2, _, _, e2, _, v2, _⟩ := h2
  obtain ⟨g3, _, c3, _, _, e3, _, v3, _⟩ := h3
  obtain ⟨g4, m, e4, v4⟩ := h4
  obtain ⟨t5, p5, h5⟩ := h5
  obtain ⟨t6, p6, h6⟩ := h6
  obtain rfl := Option.some.inj (u8Extra.n3.symm.trans e2)
  obtain rfl := Option.some.inj (u8Extra.n4.symm.trans e3)
  intro x hx
  unfold bkV at hx
  rcases List.mem_cons.1 hx with rfl | hx
  · exact ⟨_, h1, rfl⟩
  rcases List.mem_cons.1 hx with rfl | hx
  · refine ⟨c2, v2, fun c hc => ?_⟩
    rw [← World.var?_cell e2 v2 c]
    exact hu.1 c hc
  rcases List.mem_cons.1 hx with rfl | hx
  · refine ⟨c3, v3, fun i hi => ?_⟩
    rw [← World.var?_cell e3 v3 (2 * i), ← World.var?_cell e3 v3 (2 * i + 1)]
    exact hu.2 i hi
  rcases List.mem_cons.1 hx with rfl | hx
  · have hv : ∃ cs, w.var? Tryz.prog "internal/bytealg.MaxLen" = some cs := by
      unfold World.var?
      rw [e4]
      simp only [Option.bind_some]
      unfold World.cell? at v4
      simp only at v4
      split
      · exact ⟨_, rfl⟩
      · rename_i hno
        exfalso
        split at v4
        · rename_i hc
          exact hno _ _ _ hc
        · cases v4
    obtain ⟨cs, hv⟩ := hv
    refine ⟨cs, hv, m, ?_⟩
    rw [← World.var?_cell e4 hv 0]
    exact v4
  rcases List.mem_cons.1 hx with rfl | hx
  · exact ⟨_, h5, _, _, rfl⟩
  rcases List.mem_cons.1 hx with rfl | hx
  · exact ⟨_, h6, _, _, rfl⟩
  cases hx
theorem ledgersWritten_walk {w : World} {a : Option Addr} {len cap : Nat} {zs : List Int} (h1 : Lib.TabIs Tryz.prog w "internal/strconv.uint64pow10" .u64 Lib.pow10Tab) (h2 : Lib.VarReads Tryz.prog w "unicode/utf8.first" Lib.firstData) (h3 : Lib.VarReads Tryz.prog w "unicode/utf8.acceptRanges" Lib.acceptData)
    (h4 : ∃ g m, Tryz.prog.globalNamed "internal/bytealg.MaxLen" = some g ∧ w.cell? ⟨g, 0, none⟩ = some (.int .i64 m)) (h5 : ∃ tp p, w.var? Tryz.prog "strconv.ErrSyntax" = some #[.iface tp p]) (h6 : ∃ tp p, w.var? Tryz.prog "strconv.ErrRange" = some #[.iface tp p]) (hr : IsRow .i64 w a len cap zs) :
    Calls Tryz.prog 3 #[.slice a len cap] w fun e w' => e = .returned (.bool true) ∧ Go.RowKit.Below w.heap.size w w' := law_callsV (bkV6_of h1 h2 h3 h4 h5 h6) (ledgersWritten_law (zs.take len)) hr
end Lg
