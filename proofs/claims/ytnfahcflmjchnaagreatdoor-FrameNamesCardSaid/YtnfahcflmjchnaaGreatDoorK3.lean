import Derived.Test.YtnfahcflmjchnaaGreatDoorFnE
set_option linter.all false
namespace Go.Abs
set_option maxRecDepth 100000
theorem c14_13991 : chk X0 14 e14_13991 = fun _ => true := by kernel_rfl
theorem c14_15716 : chk X0 14 e14_15716 = fun _ => true := by kernel_rfl
theorem c14_16837 : chk X0 14 e14_16837 = fun _ => true := by kernel_rfl
end Go.Abs
