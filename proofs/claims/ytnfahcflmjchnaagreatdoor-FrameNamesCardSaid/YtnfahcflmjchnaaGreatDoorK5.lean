import Derived.Test.YtnfahcflmjchnaaGreatDoorFnE
set_option linter.all false
namespace Go.Abs
set_option maxRecDepth 100000
theorem c14_19532 : chk X0 14 e14_19532 = fun _ => true := by kernel_rfl
theorem c14_19536 : chk X0 14 e14_19536 = fun _ => true := by kernel_rfl
theorem c14_19579 : chk X0 14 e14_19579 = fun _ => true := by kernel_rfl
end Go.Abs
