
/- The contracts of layer 5: within, MonthDays, isLeap, yearDays, yearStart, day, dayOf. -/
import Derived.Test.YtbekfofakpbhiaaDoorFixed
import Derived.Test.YtbekfofakpbhiaaDoorRone
import Derived.Test.YtbekfofakpbhiaaDoorCivPlain
import Derived.Deep.RegionHeld3
namespace Go.Proofs.YtbekfofakpbhiaaDoor.Civ
open Go.RowKit Aid
def inB (n lo hi : Int) : Bool := decide (lo ≤ n ∧ n ≤ hi)
theorem within_any (n lo hi : Int) (w : World) : Calls Tryd.prog 44 #[.int .i64 n, .int .i64 lo, .int .i64 hi] w fun e w' => e = .returned (.bool (inB n lo hi)) ∧ w = w' := by
  by_cases h1 : lo ≤ n
  · by_cases h2 : n ≤ hi
    · rw [show inB n lo hi = true by unfold inB; simp; omega]
      go_enter Tryd.func44, Tryd.ntmps44
      go_wp2
      go_ret
      exact ⟨rfl, rfl⟩
    · rw [show inB n lo hi = false by unfold inB; simp; omega]
      go_enter Tryd.func44, Tryd.ntmps44
      go_wp2
      go_ret
      exact ⟨rfl, rfl⟩
  · rw [show inB n lo hi = false by unfold inB; simp; omega]
    go_enter Tryd.func44, Tryd.ntmps44
    go_wp2
    go_ret
    exact ⟨rfl, rfl⟩
theorem tmod_zero (a b : Int) : (a.tmod b = 0) ↔ (a % b = 0) :=
  ⟨fun h => Int.emod_eq_zero_of_dvd (Int.dvd_of_tmod_eq_zero h), fun h => Int.tmod_eq_zero_of_dvd (Int.dvd_of_emod_eq_zero h)⟩
theorem isLeap_any (y : Int) (w : World) : Calls Tryd.prog 55 #[.int .i64 y] w fun e w' => e = .returned (.bool (leap y)) ∧ w = w' := by
  have t4 := tmod_zero y 4
  have t100 := tmod_zero y 100
  have t400 := tmod_zero y 400
  by_cases h4 : y % 4 = 0
  · have e4 : (y.tmod 4 == 0) = true := by simpa using t4.2 h4
    by_cases h100 : y % 100 = 0
    · have e100 : (y.tmod 100 != 0) = false := by simpa using t100.2 h100
      by_cases h400 : y % 400 = 0
      · have e400 : (y.tmod 400 == 0) = true := by simpa using t400.2 h400
        rw [show leap y = true by unfold leap; simp [h4, h100, h400]]
        clear t4 t100 t400 h4 h100 h400
        go_enter Tryd.func55, Tryd.ntmps55
        go_wp2
        go_ret
        exact ⟨rfl, rfl⟩
      · have e400 : (y.tmod 400 == 0) = false := by simpa using fun h => h400 (t400.1 h)
        rw [show leap y = false by unfold leap; simp [h4, h100, h400]]
        clear t4 t100 t400 h4 h100 h400
        go_enter Tryd.func55, Tryd.ntmps55
        go_wp2
        go_ret
        exact ⟨rfl, rfl⟩
    · have e100 : (y.tmod 100 != 0) = true := by simpa using fun h => h100 (t100.1 h)
      rw [show leap y = true by unfold leap; simp [h4, h100]]
      clear t4 t100 t400 h4 h100
      go_enter Tryd.func55, Tryd.ntmps55
      go_wp2
      go_ret
      exact ⟨rfl, rfl⟩
  · have e4 : (y.tmod 4 == 0) = false := by simpa using fun h => h4 (t4.1 h)
    rw [show leap y = false by unfold leap; simp [h4]]
    clear t4 t100 t400 h4
    go_enter Tryd.func55, Tryd.ntmps55
    go_wp2
    go_ret
    exact ⟨rfl, rfl⟩
theorem yearDays_any (y : Int) (w : World) : Calls Tryd.prog 50 #[.int .i64 y] w fun e w' => e = .returned (.int .i64 (yd y)) ∧ w = w' := by
  have L := hide (isLeap_any y w)
  cases h : leap y
  · rw [h] at L
    rw [show yd y = 365 by unfold yd; rw [h]; rfl]
    go_enter Tryd.func50, Tryd.ntmps50
    go_wp2_with fail
    refine L.out.mono ?_
    rintro e w' ⟨rfl, rfl⟩
    go_wp2
    go_ret
    exact ⟨rfl, rfl⟩
  · rw [h] at L
    rw [show yd y = 366 by unfold yd; rw [h]; rfl]
    go_enter Tryd.func50, Tryd.ntmps50
    go_wp2_with fail
    refine L.out.mono ?_
    rintro e w' ⟨rfl, rfl⟩
    go_wp2
    go_ret
    exact ⟨rfl, rfl⟩
theorem yearStart_any (y : Int) (w : World) (h1 : 1 ≤ y) (h2 : y ≤ 1000000) : Calls Tryd.prog 46 #[.int .i64 y] w fun e w' => e = .returned (.int .i64 (ys y)) ∧ w = w' := by
  obtain ⟨z, hz⟩ : ∃ z : Nat, y = (z : Int) + 1 := ⟨(y - 1).toNat, by omega⟩
  subst hz
  go_enter Tryd.func46, Tryd.ntmps46
  go_wp2
  go_ret
  exact ⟨ret_int (by unfold ys; omega), rfl⟩
theorem day_any (s : Int) (w : World) (h1 : -9223372036854775808 ≤ s) (h2 : s ≤ 9223372036854775807) : Calls Tryd.prog 45 #[.int .i64 s] w fun e w' => e = .returned (.int .i64 (s / 86400)) ∧ ∃ n, w' = w.drewN n := by
  have F := hide (Fx.Floor_any s 86400 w (by omega) h1 h2)
  generalize s / 86400 = v at *
  go_enter Tryd.func45, Tryd.ntmps45
  go_wp2_with fail
  refine F.out.mono ?_
  rintro e w' ⟨rfl, n, rfl⟩
  go_wp2
  go_ret
  exact ⟨rfl, n, rfl⟩
theorem dayOf_any (s : Int) (w : World) (h1 : -9223372036854775808 ≤ s) (h2 : s ≤ 9223372036854775807) : Calls Tryd.prog 49 #[.int .i64 s] w fun e w' => e = .returned (.int .i64 (s / 86400)) ∧ w = w' := by
  have F := hide (Ro.Floor_any s 86400 w (by omega) (by omega) h1 h2)
  generalize s / 86400 = v at *
  go_enter Tryd.func49, Tryd.ntmps49
  go_wp2_with fail
  refine F.out.mono ?_
  rintro e w' ⟨rfl, rfl⟩
  go_wp2
  go_ret
  exact ⟨rfl, rfl⟩
end Go.Proofs.YtbekfofakpbhiaaDoor.Civ
