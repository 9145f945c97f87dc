import Derived.Test.YtbnckdnnaoddfaaGreatDoorNnE
set_option linter.all false
namespace Go.Abs
set_option maxRecDepth 100000
theorem c9_1967 : chk X2 9 e9_1967 = fun _ => true := by kernel_rfl
theorem c10_2427 : chk X2 10 e10_2427 = fun _ => true := by kernel_rfl
theorem c13_2957 : chk X2 13 e13_2957 = fun _ => true := by kernel_rfl
theorem c5_3396 : chk X2 5 e5_3396 = fun _ => true := by kernel_rfl
end Go.Abs
