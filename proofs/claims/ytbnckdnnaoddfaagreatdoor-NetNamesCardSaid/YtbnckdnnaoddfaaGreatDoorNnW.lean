import Derived.Test.YtbnckdnnaoddfaaGreatDoorNnE
set_option linter.all false
namespace Go.Abs
set_option maxRecDepth 100000
theorem cW : (fun m => freshB Go.Proofs.Tryz.prog X00 fuel 1 3 225 rG wEs m) = fun _ => true := by kernel_rfl
end Go.Abs
