import Derived.Test.YtnfahcflmjchnaaGreatDoorFnE
set_option linter.all false
namespace Go.Abs
set_option maxRecDepth 100000
theorem c14_3553 : chk X0 14 e14_3553 = fun _ => true := by kernel_rfl
theorem c14_4726 : chk X0 14 e14_4726 = fun _ => true := by kernel_rfl
theorem c14_5850 : chk X0 14 e14_5850 = fun _ => true := by kernel_rfl
end Go.Abs
