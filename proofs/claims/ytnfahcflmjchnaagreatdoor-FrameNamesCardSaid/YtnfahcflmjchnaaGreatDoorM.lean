import Derived.Test.YtnfahcflmjchnaaGreatDoorFnE
set_option linter.all false
namespace Go.Abs
set_option maxRecDepth 100000
theorem c15_19546 : chk X2 15 e15_19546 = fun _ => true := by kernel_rfl
end Go.Abs
