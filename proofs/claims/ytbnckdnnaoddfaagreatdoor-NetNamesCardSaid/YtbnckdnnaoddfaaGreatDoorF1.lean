import Derived.Test.YtbnckdnnaoddfaaGreatDoorC0
import Derived.Test.YtbnckdnnaoddfaaGreatDoorRows
import Derived.ProofKit
import Derived.OpenShut
import Derived.LaidMore
import Derived.Lay
import Derived.LaidLaws
import Derived.MakeChecks
import Derived.SevenTiedAt
import Derived.Stop.Joined
import Derived.Shelf.Vars
set_option linter.all false
namespace Go.Proofs.YtbnckdnnaoddfaaGreatDoor
open Go Go.ChangeShapes Go.WideShapes Go.ChangeAt Go.RowKit
set_option maxRecDepth 100000
theorem f_unf : Tryz.pinned.checked.prog.unfollowed 3 = true := by unfold Program.unfollowed; rw [clos]; kernel_rfl
theorem f_unf1 : (Rows.netNamesRow.unfollowed == Tryz.pinned.checked.prog.unfollowed 3) = true := by rw [f_unf]; rfl
theorem f_rec1 : (Rows.netNamesRow.recurses == Tryz.pinned.checked.prog.recurses 3) = true := by unfold Program.recurses; rw [f_unf]; rfl
theorem f_inPlace : (Rows.netNamesRow.inPlace == Tryz.pinned.checked.prog.inPlace 3) = true := by unfold Program.inPlace; rw [clos]; kernel_rfl
end Go.Proofs.YtbnckdnnaoddfaaGreatDoor
