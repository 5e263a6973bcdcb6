/- The walk of the law CivilOf. -/
import Derived.Test.YtbhpceghgjognaaDoorCivP
namespace Go.Proofs.YtbhpceghgjognaaDoor.Civ
open Go.RowKit Aid
theorem of_both (sec : Int) : ∃ x0 x1 x2 x3 x4 x5 x6 k : Int,
    (∀ W, Laid W → Calls Tryd.prog 11 #[.int .i64 sec] W fun e w' => e = .returned (.tuple #[.agg #[.int .i64 x0, .int .i64 x1, .int .i64 x2, .int .i64 x3, .int .i64 x4, .int .i64 x5, .int .i64 x6], .int .i64 k]) ∧ Below W.heap.size W w') ∧
    (∀ W, Calls Tryd.prog 12 #[.int .i64 sec] W fun e w' => e = .returned (.tuple #[.agg #[.int .i64 x0, .int .i64 x1, .int .i64 x2, .int .i64 x3, .int .i64 x4, .int .i64 x5, .int .i64 x6], .int .i64 k]) ∧ Below W.heap.size W w') := by
  by_cases h : -8000000000 ≤ sec ∧ sec ≤ 8000000000
  · exact ⟨_, _, _, _, _, _, _, _, fun W l => Of_ok sec W l h, fun W => ROf_ok sec W h⟩
  · exact ⟨_, _, _, _, _, _, _, _, fun W _ => Of_bad sec W h, fun W => ROf_bad sec W h⟩
set_option maxRecDepth 100000 in
set_option maxHeartbeats 3200000 in
theorem CivilOf_walk (sec : Int) (w : World) (l : Laid5 w) : Calls Tryd.prog 3 #[.int .i64 sec] w fun e w' => e = .returned (.bool true) ∧ Below w.heap.size w w' := by
  obtain ⟨x0, x1, x2, x3, x4, x5, x6, k, c1, c2⟩ := of_both sec
  have HL := hide (fun W (h : Below w.heap.size w W) => l.step h)
  have C1 := hide (c1 w l.laid)
  have C2 := hide c2
  have C3 := hide awake_any
  clear c1 c2 l
  go_enter Tryd.func3, Tryd.ntmps3
  go_wp2_with fail
  with_reducible refine C1.out.mono ?_
  rintro e w1 ⟨rfl, h1⟩
  have a1 := h1.alloc h1.size (.cells #[.int .i64 x0, .int .i64 x1, .int .i64 x2, .int .i64 x3, .int .i64 x4, .int .i64 x5, .int .i64 x6] 23)
  have B1 := hide (Box7.new w1 x0 x1 x2 x3 x4 x5 x6)
  have A1 := hide a1
  clear a1 C1 h1
  go_wp2_with fail
  with_reducible refine (C2.out _).mono ?_
  rintro e w2 ⟨rfl, h2⟩
  have b2 := A1.out.trans (h2.mono A1.out.size)
  have a2 := b2.alloc b2.size (.cells #[.int .i64 x0, .int .i64 x1, .int .i64 x2, .int .i64 x3, .int .i64 x4, .int .i64 x5, .int .i64 x6] 23)
  obtain ⟨p0, p1, p2, p3, p4, p5, p6, pf, plt⟩ := B1.out.step h2
  have G3 := hide (C3.out _ (HL.out _ a2))
  have A2 := hide a2
  clear a2 C3 h2 b2 B1 A1
  go_wp2_with fail
  with_reducible refine G3.out.mono ?_
  rintro e w3 ⟨rfl, h3⟩
  have b3 := A2.out.trans (h3.mono A2.out.size)
  go_wp2
  go_ret
  exact ⟨rfl, b3⟩
end Go.Proofs.YtbhpceghgjognaaDoor.Civ
