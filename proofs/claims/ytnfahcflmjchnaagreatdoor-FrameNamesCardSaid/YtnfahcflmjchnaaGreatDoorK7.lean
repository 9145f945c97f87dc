import Derived.Test.YtnfahcflmjchnaaGreatDoorFnE
set_option linter.all false
namespace Go.Abs
set_option maxRecDepth 100000
theorem c14_25121 : chk X0 14 e14_25121 = fun _ => true := by kernel_rfl
end Go.Abs
