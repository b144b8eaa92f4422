/-
  DERIVED. GIVEN WITH THE SEED: THE CARDS: each row of YtkgomifdmpkaeaaDoorRows.lean that lists a variable, with what it lists TIED to the program's text (the seventh form; the later family's looks); each row that meets fmt, with fmt's text TOLD by the authors' own Lean function (tested against real Go, not proved from fmt's source: count such statements apart). THE CARD IS WHAT COUNTS. Prove the row's statement (the work); the ties are given (YtkgomifdmpkaeaaDoorTie.lean); close each card by the builder's one call (the guide's Derived/Test/ToyasCard.lean, 'card_holds'). Laid BY PROGRAM, IN A SANDBOX (cutbox-door.mjs). By AI agents, Wed Nov 11 2026. No macro, syntax, notation, axiom, sorry.
-/
import Derived.Test.YtkgomifdmpkaeaaDoorRows
import GoSem.ClaimSeven
namespace Go.Proofs.YtkgomifdmpkaeaaDoor
namespace Rows

/-- THE TIED CARD OF 'laws.FnIdText'. -/
def fnIdTextCard : Claim7 := { stood := { row := fnIdTextRow, standIns := [], harness := (true, "6f170d79f21b3e68558a8a8ebb6ddf379c27d6e400b6b2ea126ad871ea557397"), looks := true }, kinds := [], alts := [], laidByText := true, laidKinds := [.data, .data, .data, .sentinel, .sentinel], laidTests := true, laidLooks := .later }
def FnIdTextCardSaid : Prop := Claim7.holds Tryd.pinned (.plain (OpenSpec.ofChange fnIdTextSpec)) fnIdTextCard

/-- THE TIED CARD OF 'laws.FnExactListSort'. -/
def fnExactListSortCard : Claim7 := { stood := { row := fnExactListSortRow, standIns := [], harness := (true, "6f170d79f21b3e68558a8a8ebb6ddf379c27d6e400b6b2ea126ad871ea557397"), looks := true }, kinds := [], alts := [], laidByText := true, laidKinds := [.data, .data, .data, .sentinel, .sentinel], laidTests := true, laidLooks := .later }
def FnExactListSortCardSaid : Prop := Claim7.holds Tryd.pinned (.plain (OpenSpec.ofChange fnExactListSortSpec)) fnExactListSortCard

/-- THE TIED CARD OF 'laws.FnListSort'. -/
def fnListSortCard : Claim7 := { stood := { row := fnListSortRow, standIns := [], harness := (true, "6f170d79f21b3e68558a8a8ebb6ddf379c27d6e400b6b2ea126ad871ea557397"), looks := true }, kinds := [], alts := [], laidByText := true, laidKinds := [.data, .data, .data, .sentinel, .sentinel], laidTests := true, laidLooks := .later }
def FnListSortCardSaid : Prop := Claim7.holds Tryd.pinned (.plain (OpenSpec.ofChange fnListSortSpec)) fnListSortCard

/-- THE SECOND FORM's CARD OF 'laws.FnIdText'. -/
def fnIdTextUptoCard : Claim7 := { stood := { row := fnIdTextUptoRow, standIns := [], harness := (true, "6f170d79f21b3e68558a8a8ebb6ddf379c27d6e400b6b2ea126ad871ea557397"), looks := true }, kinds := [], alts := [], laidByText := true, laidKinds := [.data, .data, .data, .sentinel, .sentinel], laidTests := true, laidLooks := .later }
def FnIdTextUptoCardSaid : Prop := Claim7.holds Tryd.pinned (.plain (OpenSpec.upto fnIdTextSpec)) fnIdTextUptoCard

/-- THE SECOND FORM's CARD OF 'laws.FnExactListSort'. -/
def fnExactListSortUptoCard : Claim7 := { stood := { row := fnExactListSortUptoRow, standIns := [], harness := (true, "6f170d79f21b3e68558a8a8ebb6ddf379c27d6e400b6b2ea126ad871ea557397"), looks := true }, kinds := [], alts := [], laidByText := true, laidKinds := [.data, .data, .data, .sentinel, .sentinel], laidTests := true, laidLooks := .later }
def FnExactListSortUptoCardSaid : Prop := Claim7.holds Tryd.pinned (.plain (OpenSpec.upto fnExactListSortSpec)) fnExactListSortUptoCard

/-- THE SECOND FORM's CARD OF 'laws.FnListSort'. -/
def fnListSortUptoCard : Claim7 := { stood := { row := fnListSortUptoRow, standIns := [], harness := (true, "6f170d79f21b3e68558a8a8ebb6ddf379c27d6e400b6b2ea126ad871ea557397"), looks := true }, kinds := [], alts := [], laidByText := true, laidKinds := [.data, .data, .data, .sentinel, .sentinel], laidTests := true, laidLooks := .later }
def FnListSortUptoCardSaid : Prop := Claim7.holds Tryd.pinned (.plain (OpenSpec.upto fnListSortSpec)) fnListSortUptoCard
end Rows
end Go.Proofs.YtkgomifdmpkaeaaDoor
