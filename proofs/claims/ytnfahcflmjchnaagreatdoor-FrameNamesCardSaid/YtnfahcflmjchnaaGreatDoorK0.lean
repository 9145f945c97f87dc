import Derived.Test.YtnfahcflmjchnaaGreatDoorFnE
set_option linter.all false
namespace Go.Abs
set_option maxRecDepth 100000
theorem c14_41 : chk X0 14 e14_41 = fun _ => true := by kernel_rfl
theorem c14_1193 : chk X0 14 e14_1193 = fun _ => true := by kernel_rfl
theorem c14_2319 : chk X0 14 e14_2319 = fun _ => true := by kernel_rfl
end Go.Abs
