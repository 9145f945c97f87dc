import Derived.Test.YtbnckdnnaoddfaaGreatDoorF1
import Derived.Test.YtbnckdnnaoddfaaGreatDoorF6
import Derived.Test.YtbnckdnnaoddfaaGreatDoorRows
import Derived.ProofKit
import Derived.OpenShut
import Derived.LaidMore
import Derived.Lay
import Derived.LaidLaws
import Derived.MakeChecks
import Derived.SevenTiedAt
import Derived.Stop.Joined
import Derived.Shelf.Vars
set_option linter.all false
namespace Go.Proofs.YtbnckdnnaoddfaaGreatDoor
open Go Go.ChangeShapes Go.WideShapes Go.ChangeAt Go.RowKit
set_option maxRecDepth 100000
theorem row_a2 : joinedFacts Tryz.pinned.checked.prog 3 Tryz.f3 Rows.netNamesSpec Rows.netNamesRow = true := by
  unfold joinedFacts
  rw [f_inPlace, f_unf1, f_rec1, f_named]
  kernel_rfl
end Go.Proofs.YtbnckdnnaoddfaaGreatDoor
