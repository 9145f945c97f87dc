import Derived.Test.YtbnckdnnaoddfaaGreatDoorTA
set_option linter.all false
namespace Go.Proofs.YtbnckdnnaoddfaaGreatDoor
open Go
theorem tie_n : varsNamedLaterB Tryz.prog (varsId Tryz.prog) tieLaid = true := by kernel_rfl
end Go.Proofs.YtbnckdnnaoddfaaGreatDoor
