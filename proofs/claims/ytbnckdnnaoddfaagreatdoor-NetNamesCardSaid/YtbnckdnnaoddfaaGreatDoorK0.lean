import Derived.Test.YtbnckdnnaoddfaaGreatDoorNnE
set_option linter.all false
namespace Go.Abs
set_option maxRecDepth 100000
theorem c257_6230 : chk X0 257 e257_6230 = fun _ => true := by kernel_rfl
theorem c257_8068 : chk X0 257 e257_8068 = fun _ => true := by kernel_rfl
theorem c257_9015 : chk X0 257 e257_9015 = fun _ => true := by kernel_rfl
end Go.Abs
