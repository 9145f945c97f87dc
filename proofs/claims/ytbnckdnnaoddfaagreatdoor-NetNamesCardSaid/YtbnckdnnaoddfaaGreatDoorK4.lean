import Derived.Test.YtbnckdnnaoddfaaGreatDoorNnE
set_option linter.all false
namespace Go.Abs
set_option maxRecDepth 100000
theorem c14_3835 : chk X2 14 e14_3835 = fun _ => true := by kernel_rfl
theorem c15_4196 : chk X2 15 e15_4196 = fun _ => true := by kernel_rfl
theorem c16_4237 : chk X2 16 e16_4237 = fun _ => true := by kernel_rfl
theorem c16_4585 : chk X2 16 e16_4585 = fun _ => true := by kernel_rfl
end Go.Abs
