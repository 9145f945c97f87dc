import Derived.Test.YtbnckdnnaoddfaaGreatDoorRows
import Derived.ProofKit
import Derived.OpenShut
import Derived.LaidMore
import Derived.Lay
import Derived.LaidLaws
import Derived.MakeChecks
import Derived.SevenTiedAt
import Derived.Stop.Joined
import Derived.Shelf.Vars
set_option linter.all false
namespace Go.Proofs.YtbnckdnnaoddfaaGreatDoor
open Go Go.ChangeShapes Go.WideShapes Go.ChangeAt Go.RowKit
set_option maxRecDepth 100000
theorem row_b1 : OpenClaim.wfByText (OpenSpec.ofChange Rows.netNamesSpec) Rows.netNamesRow = true := by kernel_rfl
theorem row_b2 : Tryz.pinned.checked.prog.mainIs = some ((true, "ed767d8727b1989ac7c4193065bf6b0c51bc52021811ad04293d56df96c278e7").1, (true, "ed767d8727b1989ac7c4193065bf6b0c51bc52021811ad04293d56df96c278e7").2.toList) := by kernel_rfl
end Go.Proofs.YtbnckdnnaoddfaaGreatDoor
