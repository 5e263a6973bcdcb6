
/- The contract of layer 5: Of of the reference. -/
import Derived.Test.YtnmpoeljjajdiaaDoorCivE
namespace Go.Proofs.YtnmpoeljjajdiaaDoor.Civ
open Go.RowKit Aid
end Go.Proofs.YtnmpoeljjajdiaaDoor.Civ
