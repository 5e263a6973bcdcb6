
/- The contract of layer 5: Seconds of the reference. -/
import Derived.Test.YtnmpoeljjajdiaaDoorCivG
namespace Go.Proofs.YtnmpoeljjajdiaaDoor.Civ
open Go.RowKit Aid
end Go.Proofs.YtnmpoeljjajdiaaDoor.Civ
