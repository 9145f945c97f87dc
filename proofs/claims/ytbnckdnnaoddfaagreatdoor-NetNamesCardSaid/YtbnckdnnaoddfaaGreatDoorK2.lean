import Derived.Test.YtbnckdnnaoddfaaGreatDoorNnE
set_option linter.all false
namespace Go.Abs
set_option maxRecDepth 100000
theorem c5_102 : chk X2 5 e5_102 = fun _ => true := by kernel_rfl
theorem c5_574 : chk X2 5 e5_574 = fun _ => true := by kernel_rfl
theorem c7_1034 : chk X2 7 e7_1034 = fun _ => true := by kernel_rfl
theorem c8_1513 : chk X2 8 e8_1513 = fun _ => true := by kernel_rfl
end Go.Abs
