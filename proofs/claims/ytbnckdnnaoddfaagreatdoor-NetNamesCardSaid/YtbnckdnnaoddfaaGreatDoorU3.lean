import Derived.Test.YtbnckdnnaoddfaaGreatDoorU0
set_option linter.all false
namespace Go.Proofs.YtbnckdnnaoddfaaGreatDoor
open Go
set_option maxRecDepth 100000
theorem tie_nodup : decide tiePs.Nodup = true := by kernel_rfl
end Go.Proofs.YtbnckdnnaoddfaaGreatDoor
