import Derived.Test.YtbnckdnnaoddfaaGreatDoorF0
import Derived.Test.YtbnckdnnaoddfaaGreatDoorF1
import Derived.Test.YtbnckdnnaoddfaaGreatDoorRows
import Derived.ProofKit
import Derived.OpenShut
import Derived.LaidMore
import Derived.Lay
import Derived.LaidLaws
import Derived.MakeChecks
import Derived.SevenTiedAt
import Derived.Stop.Joined
import Derived.Shelf.Vars
set_option linter.all false
namespace Go.Proofs.YtbnckdnnaoddfaaGreatDoor
open Go Go.ChangeShapes Go.WideShapes Go.ChangeAt Go.RowKit
set_option maxRecDepth 100000
theorem f_goes : Tryz.pinned.checked.prog.goes 3 = false := by unfold Program.goes; rw [clos, f_unf]; kernel_rfl
theorem row_b4 : false = Rows.netNamesRow.goesBy Tryz.pinned.checked.prog := by
  unfold OpenClaim.goesBy Program.goesAt Program.goesFrom
  rw [row_a1, Option.any_some, f_goes]
  rfl
end Go.Proofs.YtbnckdnnaoddfaaGreatDoor
