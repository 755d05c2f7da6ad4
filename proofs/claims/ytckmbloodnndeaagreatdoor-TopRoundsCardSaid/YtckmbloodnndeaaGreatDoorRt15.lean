/- A part of the proof of a law of this seat: it adds no condition. By an AI agent. -/
import Derived.Test.YtckmbloodnndeaaGreatDoorRt12
section
set_option linter.all false
set_option maxRecDepth 100000
set_option maxHeartbeats 8000000
namespace Lg
open Go Go.Proofs

/-! ### a part of a list turned around, in plain terms -/
/-! ### Improve, in plain terms -/
section imp
variable (l : List Stop) (h : Spot) (s : Int) (b : List Int)
end imp
section imp
variable {l : List Stop} {h : Spot} {s : Int} {b : List Int}
end imp
attribute [local irreducible] intRows drv drvU ordersE

end Lg
end
section
set_option linter.all false
set_option maxRecDepth 100000
set_option maxHeartbeats 8000000
namespace Lg
open Go Go.Proofs

attribute [local irreducible] intRows

end Lg
end
section
set_option linter.all false
set_option maxRecDepth 100000
set_option maxHeartbeats 8000000
namespace Lg
open Go Go.Proofs

attribute [local irreducible] intRows drv drvU ordersE tripE

end Lg
end
