import Derived.Test.YtnfahcflmjchnaaGreatDoorFnE
set_option linter.all false
namespace Go.Abs
set_option maxRecDepth 100000
theorem c14_7640 : chk X0 14 e14_7640 = fun _ => true := by kernel_rfl
theorem c14_9435 : chk X0 14 e14_9435 = fun _ => true := by kernel_rfl
theorem c14_11710 : chk X0 14 e14_11710 = fun _ => true := by kernel_rfl
end Go.Abs
