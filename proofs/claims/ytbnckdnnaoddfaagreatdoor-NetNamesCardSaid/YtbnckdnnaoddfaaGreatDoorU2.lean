import Derived.Test.YtbnckdnnaoddfaaGreatDoorU0
set_option linter.all false
namespace Go.Proofs.YtbnckdnnaoddfaaGreatDoor
open Go
set_option maxRecDepth 100000
theorem tie_rows : ∀ os tape, laidRowsB Tryz.prog (varsWorld Tryz.prog 400 (varsId Tryz.prog) os tape).memory tiePs = true := fun _ _ => by kernel_rfl
end Go.Proofs.YtbnckdnnaoddfaaGreatDoor
