
/- The contracts of layer 7: place and gone of the reference. -/
import Derived.Test.YtnmpoeljjajdiaaDoorSmrC
namespace Go.Proofs.YtnmpoeljjajdiaaDoor.Smr
open Go.RowKit Aid Civ Leap
theorem frm_bgn (K W : Int) (A O : Nat → Int) (i : Nat) : frm K W A O i = bgn K W (A i) (O i) := rfl
end Go.Proofs.YtnmpoeljjajdiaaDoor.Smr
