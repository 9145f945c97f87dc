import Derived.Test.YtbnckdnnaoddfaaGreatDoorTA
set_option linter.all false
namespace Go.Proofs.YtbnckdnnaoddfaaGreatDoor
open Go
theorem tie_h1 : ∀ os tape, (DataW.laidRun Tryz.prog (varsWorld Tryz.prog 400 (varsId Tryz.prog) os tape).memory 8 (tieLaid.map (·.1))).map (·.1) = some tieLaid := fun _ _ => by kernel_rfl
end Go.Proofs.YtbnckdnnaoddfaaGreatDoor
