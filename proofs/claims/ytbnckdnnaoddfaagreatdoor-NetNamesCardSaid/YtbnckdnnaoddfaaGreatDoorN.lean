import Derived.Test.YtbnckdnnaoddfaaGreatDoorNnE
set_option linter.all false
namespace Go.Abs
set_option maxRecDepth 100000
theorem c3_11 : chk X4 3 e3_11 = fun _ => true := by kernel_rfl
theorem k3_11 : entOk 1 e3_11 = true := by kernel_rfl
theorem rG_le : (fun m => rowsLe rG (hpOf 1 3 m rG)) = fun _ => true := by kernel_rfl
theorem rG_int : (fun m => isIntRow 3 (row (hpOf 1 3 m rG) 1)) = fun _ => true := by kernel_rfl
end Go.Abs
