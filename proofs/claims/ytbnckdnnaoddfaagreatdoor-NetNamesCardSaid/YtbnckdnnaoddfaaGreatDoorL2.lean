import Derived.Test.YtbnckdnnaoddfaaGreatDoorNnE
set_option linter.all false
namespace Go.Abs
set_option maxRecDepth 100000
theorem c58_6226 : chk X2 58 e58_6226 = fun _ => true := by kernel_rfl
end Go.Abs
