import Derived.Test.YtbnckdnnaoddfaaGreatDoorU1
import Derived.Test.YtbnckdnnaoddfaaGreatDoorU2
import Derived.Test.YtbnckdnnaoddfaaGreatDoorU3
set_option linter.all false
namespace Go.Proofs.YtbnckdnnaoddfaaGreatDoor
open Go
set_option maxRecDepth 100000
theorem tie_h2 : ∀ os tape, (DataW.laidRun Tryz.prog (varsWorld Tryz.prog 400 (varsId Tryz.prog) os tape).memory 8 (tieLaid.map (·.1))).map (fun x => decide x.2.Nodup && laidRowsB Tryz.prog (varsWorld Tryz.prog 400 (varsId Tryz.prog) os tape).memory x.2) = some true := by
  intro os tape
  have h := tie_ps os tape
  cases hr : DataW.laidRun Tryz.prog (varsWorld Tryz.prog 400 (varsId Tryz.prog) os tape).memory 8 (tieLaid.map (·.1)) with
  | none => rw [hr] at h; cases h
  | some x =>
    rw [hr] at h
    have e : x.2 = tiePs := Option.some.inj h
    rw [Option.map_some, e, tie_nodup, tie_rows]
    rfl
end Go.Proofs.YtbnckdnnaoddfaaGreatDoor
