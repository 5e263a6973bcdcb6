
/- The contracts of layer 54: the errors of Extend. -/
import Derived.Test.YtnmpoeljjajdiaaDoorVotP
namespace Go.Proofs.YtnmpoeljjajdiaaDoor.Vot
open Go.RowKit Aid Civ Leap App
end Go.Proofs.YtnmpoeljjajdiaaDoor.Vot
