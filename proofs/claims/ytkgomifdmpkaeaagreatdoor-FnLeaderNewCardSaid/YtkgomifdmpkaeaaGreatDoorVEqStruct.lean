/- Words about memory that the contracts lean on: what the texts of this claim name, out of the print's own words. -/
import Derived.Test.YtkgomifdmpkaeaaGreatDoorVWords
import Derived.Laws.StructEq
/-! ### 53. '==' of structs as_ one Bool -/
namespace Go.Proofs.YtkgomifdmpkaeaaGreatDoorW.PrintWords
open Go.RowKit
section
variable {P : Program} {d : Nat} {xs ys : Array Value} {f : Field} {fs : List Field} {a b : Value} {r s : Bool} {w : World}
end
end Go.Proofs.YtkgomifdmpkaeaaGreatDoorW.PrintWords
