
/- The contracts of layer 6: Check of both, any table. -/
import Derived.Test.YtbekfofakpbhiaaDoorLeapB
import Derived.Test.YtbekfofakpbhiaaDoorLeapC
namespace Go.Proofs.YtbekfofakpbhiaaDoor.Leap
open Go.RowKit Aid Civ
theorem Check_any (B X : Int) (a : Option Addr) (n cap : Nat) (A O : Nat → Int) (w : World) (l : Laid w) (hr : Ents w a n A O) :
    Calls Tryd.prog 22 #[.agg #[.int .i64 B, .int .i64 X, .slice a n cap]] w fun e w' => e = .returned (.int .i64 (chkT B X A O n)) ∧ Below w.heap.size w w' := by
  by_cases h : 64 < n
  · exact Check_long B X a n cap A O w hr h
  · by_cases hf : inB B (-1000) 1000 = true ∧ inB X (-8000000000) 8000000000 = true
    · exact Check_loop B X a n cap A O w l hr h hf
    · exact Check_far B X a n cap A O w hr h hf
theorem RCheck_any (B X : Int) (a : Option Addr) (n cap : Nat) (A O : Nat → Int) (w : World) (hr : Ents w a n A O) :
    Calls Tryd.prog 31 #[.agg #[.int .i64 B, .int .i64 X, .slice a n cap]] w fun e w' => e = .returned (.int .i64 (chkT B X A O n)) ∧ Below w.heap.size w w' := by
  by_cases h : 64 < n
  · exact RCheck_long B X a n cap A O w hr h
  · by_cases hf : inB B (-1000) 1000 = true ∧ inB X (-8000000000) 8000000000 = true
    · exact RCheck_loop B X a n cap A O w hr h hf
    · exact RCheck_far B X a n cap A O w hr h hf
end Go.Proofs.YtbekfofakpbhiaaDoor.Leap
