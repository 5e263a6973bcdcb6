
/- The contracts of layer 5: Check of the reference. -/
import Derived.Test.YtnmpoeljjajdiaaDoorCivC
namespace Go.Proofs.YtnmpoeljjajdiaaDoor.Civ
open Go.RowKit Aid
theorem chkC_bad {y m d h mi s n : Int} (k : ¬ Valid y m d h mi s n) : chkC y m d h mi s n = 3 := by
  unfold chkC; rw [if_neg (fun e => k (okB_valid.1 e))]
end Go.Proofs.YtnmpoeljjajdiaaDoor.Civ
