/- The walk of the law AlarmNobody. -/
import Derived.Test.YtgkcegmbjiodgaaAlmG
namespace Go.Proofs.Ytgkcegmbjiodgaa.AlmW
open Go.RowKit Alm Aid
set_option maxHeartbeats 1600000 in
theorem AlarmNobody_walk (at_ v : Int) (w : World) :
    Calls Try.prog 9 #[.int .i64 at_, .int .i64 v] w fun e w' => e = .returned (.bool true) ∧ Below w.heap.size w w' := by
  have C1 := hide (Feed_nil at_ v)
  have C2 := hide Since_nil
  have C3 := hide Counts_nil
  have C4 := hide Raised_nil
  have C5 := hide awake_any
  go_enter Try.func9, Try.ntmps9
  go_wp2_with (first | (go_at_call 15; refine (C1.out _).mono ?_; rintro e w' ⟨rfl, rfl⟩) | (go_at_call 17; refine (C2.out _).mono ?_; rintro e w' ⟨rfl, rfl⟩) | (go_at_call 21; refine (C3.out _).mono ?_; rintro e w' ⟨rfl, rfl⟩) | (go_at_call 19; refine (C4.out _).mono ?_; rintro e w' ⟨rfl, rfl⟩) | (go_at_call 13; refine (C5.out _).mono ?_; rintro e w' ⟨rfl, hb⟩))
  go_ret
  exact ⟨rfl, by assumption⟩
end Go.Proofs.Ytgkcegmbjiodgaa.AlmW
