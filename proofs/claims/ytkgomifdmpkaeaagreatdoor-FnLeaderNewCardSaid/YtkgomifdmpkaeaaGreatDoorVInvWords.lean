/- Words about memory that the contracts lean on: what the texts of this claim name, out of the print's own words. -/
import Derived.Test.YtkgomifdmpkaeaaGreatDoorVInv
import Derived.Test.YtkgomifdmpkaeaaGreatDoorVFootNe
namespace Go.Proofs.YtkgomifdmpkaeaaGreatDoorW.PrintWords
open Go.RowKit
end Go.Proofs.YtkgomifdmpkaeaaGreatDoorW.PrintWords
namespace Go.Proofs.YtkgomifdmpkaeaaGreatDoorW.PrintLast
section
variable {ops : Array Oper} {a : Act} {o og : Oper} {g : Nat} {t : Tmp} {u : Bool}
end
end Go.Proofs.YtkgomifdmpkaeaaGreatDoorW.PrintLast
