
/- The walk of the law LeapvoteNobody. -/
import Derived.Test.YtbekfofakpbhiaaDoorVotL
namespace Go.Proofs.YtbekfofakpbhiaaDoor.Vot
open Go.RowKit Aid Civ Leap App
set_option maxRecDepth 100000 in
set_option maxHeartbeats 3200000 in
theorem LeapvoteNobody_walk (k i u : Int) (w : World) (l : Laid w) : Calls Tryd.prog 6 #[.int .i64 k, .int .i64 i, .int .i64 u] w fun e w' => e = .returned (.bool true) ∧ Below w.heap.size w w' := by
  have HL := hide l
  clear l
  have C1 := hide (Counts_nil u w)
  have C2 := hide (fun W => Arm_nil u W)
  have C3 := hide (fun W => PVote_nil k i u W)
  have C4 := hide (fun W => Decision_nil u W)
  go_enter Tryd.func6, Tryd.ntmps6
  go_wp2_with fail
  refine C1.out.mono ?_
  rintro e w1 ⟨rfl, b1⟩
  go_wp2_with fail
  refine (C2.out _).mono ?_
  rintro e w2 ⟨rfl, b2⟩
  have b2 := b1.trans (b2.mono b1.size)
  clear b1
  go_wp2_with fail
  have g3 : Below w.heap.size w (w2.alloc (.cells #[.int .i64 0, .int .i64 0] 36)) := b2.alloc b2.size _
  refine (C3.out _).mono ?_
  rintro e _ ⟨rfl, rfl⟩
  have l3 := HL.out.step g3
  go_wp2_with fail
  refine (C4.out _).mono ?_
  rintro e w4 ⟨rfl, b4⟩
  have u0 : w4.cell? ⟨w2.heap.size, 0, none⟩ = some (.int .i64 0) := (b4.cell (p := ⟨w2.heap.size, 0, none⟩) (by simp)).trans (by simp [go_sem])
  have u1 : w4.cell? ⟨w2.heap.size, 1, none⟩ = some (.int .i64 0) := (b4.cell (p := ⟨w2.heap.size, 1, none⟩) (by simp)).trans (by simp [go_sem])
  have b5 := g3.trans (b4.mono g3.size)
  have CW := hide (awake_any w4 (HL.out.step b5))
  have HB := hide b5
  clear b5 b4 g3 l3 b2
  go_wp2_with fail
  refine CW.out.mono ?_
  rintro e w6 ⟨rfl, b6⟩
  have HF := hide (HB.out.trans (b6.mono HB.out.size))
  clear b6
  go_wp2
  go_ret
  exact ⟨rfl, HF.out⟩
end Go.Proofs.YtbekfofakpbhiaaDoor.Vot
