/- Words about memory that the contracts lean on: what the texts of this claim name, out of the print's own words. -/
import Derived.Test.YtkgomifdmpkaeaaGreatDoorVN
/-! ### 52. A row that stays read whatever happens to a block (a set of blocks) doesn't lie there -/
namespace Go.Proofs.YtkgomifdmpkaeaaGreatDoorW.PrintWords
open Go.RowKit
namespace Kd
section
variable {α : Type} {d : Kd α} {W : World} {g n : Nat} {S ok : Nat → Prop} {A : Option Addr} {ad : Addr} {xs : List α}
end
end Kd
end Go.Proofs.YtkgomifdmpkaeaaGreatDoorW.PrintWords
