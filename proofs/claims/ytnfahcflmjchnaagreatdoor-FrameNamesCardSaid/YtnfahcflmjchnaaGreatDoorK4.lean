import Derived.Test.YtnfahcflmjchnaaGreatDoorFnE
set_option linter.all false
namespace Go.Abs
set_option maxRecDepth 100000
theorem c14_17959 : chk X0 14 e14_17959 = fun _ => true := by kernel_rfl
theorem c14_19114 : chk X0 14 e14_19114 = fun _ => true := by kernel_rfl
theorem c14_19407 : chk X0 14 e14_19407 = fun _ => true := by kernel_rfl
end Go.Abs
