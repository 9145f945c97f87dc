import Derived.Test.YtbnckdnnaoddfaaGreatDoorTA
set_option linter.all false
namespace Go.Proofs.YtbnckdnnaoddfaaGreatDoor
open Go
theorem tie_w : (Tryz.prog.worded (varsWordLater true) = true) := by kernel_rfl
theorem tie_w2 : (Tryz.prog.worded (varsWordLater !true) = false) := by kernel_rfl
theorem tie_r : Tryz.prog.worded rootWordLater = true := by kernel_rfl
theorem tie_k : tieLaid.map (fun x => Tryz.prog.kindOfLater x.1) = ([.data, .data, .listed, .data, .data, .data, .sentinel, .sentinel] : List LaidKind).map some := by kernel_rfl
theorem tie_g : (Tryz.prog.funcNamed "gosem.cut.vars").isSome = true := by kernel_rfl
theorem tie_p : (tieLaid.all fun x => x.2.handleName?.isNone) = true := by kernel_rfl
end Go.Proofs.YtbnckdnnaoddfaaGreatDoor
