import Derived.Test.YtbnckdnnaoddfaaGreatDoorNnE
set_option linter.all false
namespace Go.Abs
set_option maxRecDepth 100000
theorem c57_4822 : chk X2 57 e57_4822 = fun _ => true := by kernel_rfl
end Go.Abs
