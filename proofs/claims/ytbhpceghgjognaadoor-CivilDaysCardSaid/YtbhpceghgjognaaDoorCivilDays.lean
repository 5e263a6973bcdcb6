/- The walk of the law CivilDays. -/
import Derived.Test.YtbhpceghgjognaaDoorCivP
namespace Go.Proofs.YtbhpceghgjognaaDoor.Civ
open Go.RowKit Aid
set_option maxRecDepth 100000 in
set_option maxHeartbeats 3200000 in
theorem CivilDays_walk (sec year month : Int) (w : World) (h1 : -9223372036854775808 ≤ sec) (h2 : sec ≤ 9223372036854775807) (l : Laid5 w) : Calls Tryd.prog 6 #[.int .i64 sec, .int .i64 year, .int .i64 month] w fun e w' => e = .returned (.bool true) ∧ Below w.heap.size w w' := by
  have HL := hide (fun W (h : Below w.heap.size w W) => l.step h)
  have C1 := hide fun W => Weekday_any sec W h1 h2
  have C2 := hide fun W => RWeekday_any sec W h1 h2
  have C3 := hide fun W => MJD_any sec W h1 h2
  have C4 := hide fun W => RMJD_any sec W h1 h2
  have C5 := hide fun W (h : Below w.heap.size w W) => MonthDays_any year month W (HL.out W h).laid
  have C6 := hide fun W => RMonthDays_any year month W
  have C7 := hide fun W (h : Below w.heap.size w W) => awake_any W (HL.out W h)
  generalize wkV sec = a at *
  generalize sec / 86400 + 15020 = b at *
  generalize md year month = c at *
  clear l h1 h2 HL
  go_enter Tryd.func6, Tryd.ntmps6
  go_wp2_with fail
  refine (C1.out _).mono ?_
  rintro e w' ⟨rfl, n, rfl⟩
  go_wp2_with fail
  refine (C2.out _).mono ?_
  rintro e w' ⟨rfl, rfl⟩
  go_wp2_with fail
  refine (C3.out _).mono ?_
  rintro e w' ⟨rfl, m, rfl⟩
  go_wp2_with fail
  refine (C4.out _).mono ?_
  rintro e w' ⟨rfl, rfl⟩
  have hb : ∀ k, Below w.heap.size w (w.drewN k) := fun k => below_drewN (Below.refl _ _) k
  go_wp2_with fail
  refine (C5.out _ (by first | exact hb _ | exact below_drewN (hb _) _)).mono ?_
  rintro e w' ⟨rfl, rfl⟩
  go_wp2_with fail
  refine (C6.out _).mono ?_
  rintro e w' ⟨rfl, rfl⟩
  go_wp2_with fail
  refine (C7.out _ (by first | exact hb _ | exact below_drewN (hb _) _)).mono ?_
  rintro e w8 ⟨rfl, h8⟩
  go_wp2
  go_ret
  exact ⟨rfl, (hb _).trans h8⟩
end Go.Proofs.YtbhpceghgjognaaDoor.Civ
