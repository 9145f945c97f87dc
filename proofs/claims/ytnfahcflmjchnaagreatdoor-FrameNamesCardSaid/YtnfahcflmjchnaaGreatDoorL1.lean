import Derived.Test.YtnfahcflmjchnaaGreatDoorFnE
set_option linter.all false
namespace Go.Abs
set_option maxRecDepth 100000
theorem c11_7296 : chk X1 11 e11_7296 = fun _ => true := by kernel_rfl
theorem c12_9431 : chk X1 12 e12_9431 = fun _ => true := by kernel_rfl
end Go.Abs
