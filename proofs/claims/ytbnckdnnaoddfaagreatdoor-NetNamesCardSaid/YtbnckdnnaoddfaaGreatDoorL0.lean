import Derived.Test.YtbnckdnnaoddfaaGreatDoorNnE
set_option linter.all false
namespace Go.Abs
set_option maxRecDepth 100000
theorem c46_12629 : chk X2 46 e46_12629 = fun _ => true := by kernel_rfl
end Go.Abs
