/-
  DERIVED. GIVEN WITH THE SEED: THE CARDS: each row of YtbnckdnnaoddfaaGreatDoorRows.lean that lists a variable, with what it lists TIED to the program's text (the seventh form; the later family's looks); each row that meets fmt, with fmt's text TOLD by the authors' own Lean function (tested against real Go, not proved from fmt's source: count such statements apart). THE CARD IS WHAT COUNTS. Prove the row's statement (the work); the ties are given (YtbnckdnnaoddfaaGreatDoorTie.lean); close each card by the builder's one call (the guide's Derived/Test/ToyasCard.lean, 'card_holds'). Laid BY PROGRAM, IN A SANDBOX (cutbox-door.mjs). By AI agents, Wed Nov 11 2026. No macro, syntax, notation, axiom, sorry.
-/
import Derived.Test.YtbnckdnnaoddfaaGreatDoorRows
import GoSem.ClaimSeven
namespace Go.Proofs.YtbnckdnnaoddfaaGreatDoor
namespace Rows

/-- THE TIED CARD OF 'ripostelaw16.NetNames'. -/
def netNamesCard : Claim7 := { stood := { row := netNamesRow, standIns := [], harness := (true, "ed767d8727b1989ac7c4193065bf6b0c51bc52021811ad04293d56df96c278e7"), looks := true }, kinds := [], alts := [], laidByText := true, laidKinds := [.data, .pinned, .data, .listed, .data, .data, .data, .sentinel, .sentinel], laidTests := true, laidLooks := .later }
def NetNamesCardSaid : Prop := Claim7.holds Tryz.pinned (.plain (OpenSpec.ofChange netNamesSpec)) netNamesCard

/-- THE SECOND FORM's CARD OF 'ripostelaw16.NetNames'. -/
def netNamesUptoCard : Claim7 := { stood := { row := netNamesUptoRow, standIns := [], harness := (true, "ed767d8727b1989ac7c4193065bf6b0c51bc52021811ad04293d56df96c278e7"), looks := true }, kinds := [], alts := [], laidByText := true, laidKinds := [.data, .pinned, .data, .listed, .data, .data, .data, .sentinel, .sentinel], laidTests := true, laidLooks := .later }
def NetNamesUptoCardSaid : Prop := Claim7.holds Tryz.pinned (.plain (OpenSpec.upto netNamesSpec)) netNamesUptoCard
end Rows
end Go.Proofs.YtbnckdnnaoddfaaGreatDoor
