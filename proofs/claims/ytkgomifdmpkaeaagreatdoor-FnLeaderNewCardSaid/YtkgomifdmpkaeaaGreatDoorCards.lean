/-
  DERIVED. GIVEN WITH THE SEED: THE CARDS: each row of YtkgomifdmpkaeaaGreatDoorRows.lean that lists a variable, with what it lists TIED to the program's text (the seventh form; the later family's looks); each row that meets fmt, with fmt's text TOLD by the authors' own Lean function (tested against real Go, not proved from fmt's source: count such statements apart). THE CARD IS WHAT COUNTS. Prove the row's statement (the work); the ties are given (YtkgomifdmpkaeaaGreatDoorTie.lean); close each card by the builder's one call (the guide's Derived/Test/ToyasCard.lean, 'card_holds'). Laid BY PROGRAM, IN A SANDBOX (cutbox-door.mjs). By AI agents, Wed Nov 11 2026. No macro, syntax, notation, axiom, sorry.
-/
import Derived.Test.YtkgomifdmpkaeaaGreatDoorRows
import GoSem.ClaimSeven
namespace Go.Proofs.YtkgomifdmpkaeaaGreatDoor
namespace Rows

/-- THE TIED CARD OF 'laws.FnLeaderNew'. -/
def fnLeaderNewCard : Claim7 := { stood := { row := fnLeaderNewRow, standIns := [], harness := (true, "4624166222a3612423f4ab53ab60a24ba2703ca26ba99c8d792b1ed9230bd151"), looks := true }, kinds := [], alts := [], laidByText := true, laidKinds := [.data, .data, .data, .sentinel, .sentinel, .data], laidTests := true, laidLooks := .later }
def FnLeaderNewCardSaid : Prop := Claim7.holds Tryz.pinned (.plain (OpenSpec.ofChange fnLeaderNewSpec)) fnLeaderNewCard

/-- THE SECOND FORM's CARD OF 'laws.FnLeaderNew'. -/
def fnLeaderNewUptoCard : Claim7 := { stood := { row := fnLeaderNewUptoRow, standIns := [], harness := (true, "4624166222a3612423f4ab53ab60a24ba2703ca26ba99c8d792b1ed9230bd151"), looks := true }, kinds := [], alts := [], laidByText := true, laidKinds := [.data, .data, .data, .sentinel, .sentinel, .data], laidTests := true, laidLooks := .later }
def FnLeaderNewUptoCardSaid : Prop := Claim7.holds Tryz.pinned (.plain (OpenSpec.upto fnLeaderNewSpec)) fnLeaderNewUptoCard
end Rows
end Go.Proofs.YtkgomifdmpkaeaaGreatDoor
