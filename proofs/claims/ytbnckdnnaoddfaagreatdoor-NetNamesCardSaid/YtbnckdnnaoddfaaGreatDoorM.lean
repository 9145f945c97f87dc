import Derived.Test.YtbnckdnnaoddfaaGreatDoorNnE
set_option linter.all false
namespace Go.Abs
set_option maxRecDepth 100000
theorem c17_4822 : chk X3 17 e17_4822 = fun _ => true := by kernel_rfl
end Go.Abs
