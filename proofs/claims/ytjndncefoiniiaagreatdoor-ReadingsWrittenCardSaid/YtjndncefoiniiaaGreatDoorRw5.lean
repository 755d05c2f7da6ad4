/- A part of the proof of a law of this seat: it adds no condition. By an AI agent. -/
import Derived.Test.YtjndncefoiniiaaGreatDoorNumW
set_option linter.all false
namespace Lg
open Go Go.Proofs

theorem readingsWritten_walk {w : World} {a : Option Addr} {len cap : Nat} {zs : List Int} (h1 : Lib.TabIs Tryz.prog w "internal/strconv.uint64pow10" .u64 Lib.pow10Tab) (h2 : ∃ tp p, w.var? Tryz.prog "strconv.ErrSyntax" = some #[.iface tp p]) (h3 : ∃ tp p, w.var? Tryz.prog "strconv.ErrRange" = some #[.iface tp p]) (hr : IsRow .i64 w a len cap zs) :
    Calls Tryz.prog 3 #[.slice a len cap] w fun e w' => e = .returned (.bool true) ∧ Go.RowKit.Below w.heap.size w w' := law_callsV (numV_of h1 h2 h3) (readingsWritten_law (zs.take len)) hr
end Lg
