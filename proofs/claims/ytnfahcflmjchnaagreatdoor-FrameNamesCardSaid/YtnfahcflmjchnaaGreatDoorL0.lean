import Derived.Test.YtnfahcflmjchnaaGreatDoorFnE
set_option linter.all false
namespace Go.Abs
set_option maxRecDepth 100000
theorem c5_38 : chk X1 5 e5_38 = fun _ => true := by kernel_rfl
theorem c6_1190 : chk X1 6 e6_1190 = fun _ => true := by kernel_rfl
theorem c7_2316 : chk X1 7 e7_2316 = fun _ => true := by kernel_rfl
theorem c7_3550 : chk X1 7 e7_3550 = fun _ => true := by kernel_rfl
theorem c8_4721 : chk X1 8 e8_4721 = fun _ => true := by kernel_rfl
theorem c10_5848 : chk X1 10 e10_5848 = fun _ => true := by kernel_rfl
end Go.Abs
