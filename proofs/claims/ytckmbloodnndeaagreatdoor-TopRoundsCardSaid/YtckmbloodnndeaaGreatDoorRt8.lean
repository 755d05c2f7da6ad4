/- A part of the proof of a law of this seat: it adds no condition. By an AI agent. -/
import Derived.Laws.Externs
import Derived.Test.YtckmbloodnndeaaGreatDoorRt4
section
set_option linter.all false
set_option maxRecDepth 100000
set_option maxHeartbeats 8000000
namespace Lg
open Go Go.Proofs

attribute [local irreducible] intRows
end Lg
end
section
set_option linter.all false
set_option maxRecDepth 100000
set_option maxHeartbeats 8000000
namespace Lg
open Go Go.Proofs

attribute [local irreducible] intRows
end Lg
end
section
set_option linter.all false
set_option maxRecDepth 100000
set_option maxHeartbeats 8000000
namespace Lg
open Go Go.Proofs


attribute [local irreducible] intRows drv

end Lg
end
