/- Operations of a drawn region taken first, in one line each; over a whole frame, or over one of which few slots are known. -/
import Derived.Test.YtapbkomicihkkaaGreatDoorBase
namespace Go.Proofs.YtapbkomicihkkaaGreatDoor
open Go.RowKit
set_option linter.unusedVariables false
set_option linter.unusedSimpArgs false

end Go.Proofs.YtapbkomicihkkaaGreatDoor
