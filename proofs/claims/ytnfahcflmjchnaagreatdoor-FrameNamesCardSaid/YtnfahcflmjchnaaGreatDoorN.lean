import Derived.Test.YtnfahcflmjchnaaGreatDoorFnE
set_option linter.all false
namespace Go.Abs
set_option maxRecDepth 100000
noncomputable def e3_8 : Ent := ⟨8, [], rG, .bool true, [], 25846⟩
theorem c3_8 : chk X3 3 e3_8 = fun _ => true := by kernel_rfl
theorem k3_8 : entOk 0 e3_8 = true := by kernel_rfl
theorem rG_le : (fun m => rowsLe rG (hpOf 0 3 m rG)) = fun _ => true := by kernel_rfl
theorem rG_int : (fun m => isIntRow 3 (row (hpOf 0 3 m rG) 0)) = fun _ => true := by kernel_rfl
end Go.Abs
