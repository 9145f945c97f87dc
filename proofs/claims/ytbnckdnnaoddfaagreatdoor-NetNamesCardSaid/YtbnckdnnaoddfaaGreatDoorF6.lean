import Derived.Test.YtbnckdnnaoddfaaGreatDoorC0
import Derived.Test.YtbnckdnnaoddfaaGreatDoorRows
import Derived.ProofKit
import Derived.OpenShut
import Derived.LaidMore
import Derived.Lay
import Derived.LaidLaws
import Derived.MakeChecks
import Derived.SevenTiedAt
import Derived.Stop.Joined
import Derived.Shelf.Vars
set_option linter.all false
namespace Go.Proofs.YtbnckdnnaoddfaaGreatDoor
open Go Go.ChangeShapes Go.WideShapes Go.ChangeAt Go.RowKit
set_option maxRecDepth 100000
theorem f_named : (Rows.netNamesRow.named == Tryz.pinned.checked.prog.varsNamed 3) = true := by unfold Program.varsNamed; rw [clos]; kernel_rfl
end Go.Proofs.YtbnckdnnaoddfaaGreatDoor
