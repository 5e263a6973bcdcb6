
/- The contracts of layer 5: within, MonthDays, isLeap, yearDays, yearStart, day, dayOf. -/
import Derived.Test.YtnmpoeljjajdiaaDoorFixed
import Derived.Test.YtnmpoeljjajdiaaDoorRone
import Derived.Test.YtnmpoeljjajdiaaDoorCivPlain
import Derived.Deep.RegionHeld3
namespace Go.Proofs.YtnmpoeljjajdiaaDoor.Civ
open Go.RowKit Aid
def inB (n lo hi : Int) : Bool := decide (lo ≤ n ∧ n ≤ hi)
theorem within_any (n lo hi : Int) (w : World) : Calls Tryd.prog 34 #[.int .i64 n, .int .i64 lo, .int .i64 hi] w fun e w' => e = .returned (.bool (inB n lo hi)) ∧ w = w' := by
  by_cases h1 : lo ≤ n
  · by_cases h2 : n ≤ hi
    · rw [show inB n lo hi = true by unfold inB; simp; omega]
      go_enter Tryd.func34, Tryd.ntmps34
      go_wp2
      go_ret
      exact ⟨rfl, rfl⟩
    · rw [show inB n lo hi = false by unfold inB; simp; omega]
      go_enter Tryd.func34, Tryd.ntmps34
      go_wp2
      go_ret
      exact ⟨rfl, rfl⟩
  · rw [show inB n lo hi = false by unfold inB; simp; omega]
    go_enter Tryd.func34, Tryd.ntmps34
    go_wp2
    go_ret
    exact ⟨rfl, rfl⟩
theorem tmod_zero (a b : Int) : (a.tmod b = 0) ↔ (a % b = 0) :=
  ⟨fun h => Int.emod_eq_zero_of_dvd (Int.dvd_of_tmod_eq_zero h), fun h => Int.tmod_eq_zero_of_dvd (Int.dvd_of_emod_eq_zero h)⟩
theorem yearStart_any (y : Int) (w : World) (h1 : 1 ≤ y) (h2 : y ≤ 1000000) : Calls Tryd.prog 36 #[.int .i64 y] w fun e w' => e = .returned (.int .i64 (ys y)) ∧ w = w' := by
  obtain ⟨z, hz⟩ : ∃ z : Nat, y = (z : Int) + 1 := ⟨(y - 1).toNat, by omega⟩
  subst hz
  go_enter Tryd.func36, Tryd.ntmps36
  go_wp2
  go_ret
  exact ⟨ret_int (by unfold ys; omega), rfl⟩
theorem day_any (s : Int) (w : World) (h1 : -9223372036854775808 ≤ s) (h2 : s ≤ 9223372036854775807) : Calls Tryd.prog 35 #[.int .i64 s] w fun e w' => e = .returned (.int .i64 (s / 86400)) ∧ ∃ n, w' = w.drewN n := by
  have F := hide (Fx.Floor_any s 86400 w (by omega) h1 h2)
  generalize s / 86400 = v at *
  go_enter Tryd.func35, Tryd.ntmps35
  go_wp2_with fail
  refine F.out.mono ?_
  rintro e w' ⟨rfl, n, rfl⟩
  go_wp2
  go_ret
  exact ⟨rfl, n, rfl⟩
end Go.Proofs.YtnmpoeljjajdiaaDoor.Civ
