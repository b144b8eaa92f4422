/- Words about memory that the contracts lean on: what the texts of this claim name, out of the print's own words. -/
import Derived.Test.YtkgomifdmpkaeaaGreatDoorVTab
/-! ### 56. Four, five, six operations that may come up next, in any order -/
namespace Go.Proofs.YtkgomifdmpkaeaaGreatDoorW.PrintLast
section
variable {P : Program} {ops : Array Oper} {Q : Exit → Act → World → Prop} {md : Region.Mode} {S : World → Prop} {ds : List Nat} {T : Bool × List (List Nat × List Nat)}
end
end Go.Proofs.YtkgomifdmpkaeaaGreatDoorW.PrintLast
