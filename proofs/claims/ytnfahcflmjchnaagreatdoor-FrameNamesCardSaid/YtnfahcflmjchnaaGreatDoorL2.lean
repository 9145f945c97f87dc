import Derived.Test.YtnfahcflmjchnaaGreatDoorFnE
set_option linter.all false
namespace Go.Abs
set_option maxRecDepth 100000
theorem c12_11706 : chk X1 12 e12_11706 = fun _ => true := by kernel_rfl
theorem c12_13987 : chk X1 12 e12_13987 = fun _ => true := by kernel_rfl
theorem c12_15712 : chk X1 12 e12_15712 = fun _ => true := by kernel_rfl
theorem c12_16833 : chk X1 12 e12_16833 = fun _ => true := by kernel_rfl
theorem c8_17954 : chk X1 8 e8_17954 = fun _ => true := by kernel_rfl
theorem c11_19076 : chk X1 11 e11_19076 = fun _ => true := by kernel_rfl
theorem c12_19575 : chk X1 12 e12_19575 = fun _ => true := by kernel_rfl
theorem c42_21161 : chk X1 42 e42_21161 = fun _ => true := by kernel_rfl
theorem c43_22331 : chk X1 43 e43_22331 = fun _ => true := by kernel_rfl
theorem c44_23527 : chk X1 44 e44_23527 = fun _ => true := by kernel_rfl
end Go.Abs
