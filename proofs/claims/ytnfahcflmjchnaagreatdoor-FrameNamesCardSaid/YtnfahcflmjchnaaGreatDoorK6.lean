import Derived.Test.YtnfahcflmjchnaaGreatDoorFnE
set_option linter.all false
namespace Go.Abs
set_option maxRecDepth 100000
theorem c14_21164 : chk X0 14 e14_21164 = fun _ => true := by kernel_rfl
theorem c14_22334 : chk X0 14 e14_22334 = fun _ => true := by kernel_rfl
theorem c14_23530 : chk X0 14 e14_23530 = fun _ => true := by kernel_rfl
end Go.Abs
