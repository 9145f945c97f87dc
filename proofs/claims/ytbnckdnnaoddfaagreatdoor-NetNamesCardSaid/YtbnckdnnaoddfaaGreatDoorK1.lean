import Derived.Test.YtbnckdnnaoddfaaGreatDoorNnE
set_option linter.all false
namespace Go.Abs
set_option maxRecDepth 100000
theorem c257_9953 : chk X0 257 e257_9953 = fun _ => true := by kernel_rfl
theorem c257_11128 : chk X0 257 e257_11128 = fun _ => true := by kernel_rfl
end Go.Abs
