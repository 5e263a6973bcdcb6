
/- The contracts of layer 6: Check of both, any table. -/
import Derived.Test.YtnmpoeljjajdiaaDoorLeapB
import Derived.Test.YtnmpoeljjajdiaaDoorLeapC
namespace Go.Proofs.YtnmpoeljjajdiaaDoor.Leap
open Go.RowKit Aid Civ
theorem Check_any (B X : Int) (a : Option Addr) (n cap : Nat) (A O : Nat → Int) (w : World) (l : Laid w) (hr : Ents w a n A O) :
    Calls Tryd.prog 11 #[.agg #[.int .i64 B, .int .i64 X, .slice a n cap]] w fun e w' => e = .returned (.int .i64 (chkT B X A O n)) ∧ Below w.heap.size w w' := by
  by_cases h : 64 < n
  · exact Check_long B X a n cap A O w hr h
  · by_cases hf : inB B (-1000) 1000 = true ∧ inB X (-8000000000) 8000000000 = true
    · exact Check_loop B X a n cap A O w l hr h hf
    · exact Check_far B X a n cap A O w hr h hf
end Go.Proofs.YtnmpoeljjajdiaaDoor.Leap
