import Derived.Test.YtbnckdnnaoddfaaGreatDoorNnE
set_option linter.all false
namespace Go.Abs
set_option maxRecDepth 100000
theorem c16_13453 : chk X2 16 e16_13453 = fun _ => true := by kernel_rfl
theorem c5_12206 : chk X2 5 e5_12206 = fun _ => true := by kernel_rfl
end Go.Abs
