/- The contracts of layer 5: Weekday, MJD. -/
import Derived.Test.YtbhpceghgjognaaDoorCivH
namespace Go.Proofs.YtbhpceghgjognaaDoor.Civ
open Go.RowKit Aid
def wkV (s : Int) : Int := s / 86400 % 7
theorem Weekday_any (s : Int) (w : World) (h1 : -9223372036854775808 ≤ s) (h2 : s ≤ 9223372036854775807) : Calls Tryd.prog 18 #[.int .i64 s] w fun e w' => e = .returned (.int .i64 (wkV s)) ∧ ∃ n, w' = w.drewN n := by
  have F := hide (day_any s w h1 h2)
  have b : -200000000000000 ≤ s / 86400 ∧ s / 86400 ≤ 200000000000000 := by omega
  have e1 : (s / 86400).tmod 7 = if 0 ≤ s / 86400 ∨ s / 86400 % 7 = 0 then s / 86400 % 7 else s / 86400 % 7 - 7 := by
    rw [Int.tmod_eq_emod]
    by_cases h : 0 ≤ s / 86400 ∨ s / 86400 % 7 = 0
    · rw [if_pos h, if_pos (h.imp id (fun k => Int.dvd_of_emod_eq_zero k))]; omega
    · rw [if_neg h, if_neg (fun k => h (k.imp id (fun k => Int.emod_eq_zero_of_dvd k)))]; simp
  unfold wkV
  generalize s / 86400 = v at *
  obtain ⟨b1, b2⟩ := b
  by_cases h : 0 ≤ v ∨ v % 7 = 0
  · rw [if_pos h] at e1
    have e2 : ¬ v % 7 < 0 := by omega
    have e3 : decide (v % 7 < 0) = false := decide_eq_false e2
    generalize v % 7 = x at *
    clear h
    go_enter Tryd.func18, Tryd.ntmps18
    go_wp2_with fail
    refine F.out.mono ?_
    rintro e w' ⟨rfl, n, rfl⟩
    go_wp2
    go_ret
    exact ⟨rfl, n, rfl⟩
  · rw [if_neg h] at e1
    obtain ⟨x, hx⟩ : ∃ x, v % 7 - 7 = x := ⟨_, rfl⟩
    have e2 : x < 0 := by omega
    have e3 : decide (x < 0) = true := decide_eq_true e2
    have e4 : v % 7 = x + 7 := by omega
    have e5 : -7 ≤ x := by omega
    rw [hx] at e1
    rw [e4]
    clear h hx e4
    go_enter Tryd.func18, Tryd.ntmps18
    go_wp2_with fail
    refine F.out.mono ?_
    rintro e w' ⟨rfl, n, rfl⟩
    go_wp2
    go_ret
    exact ⟨rfl, n, rfl⟩
theorem RWeekday_any (s : Int) (w : World) (h1 : -9223372036854775808 ≤ s) (h2 : s ≤ 9223372036854775807) : Calls Tryd.prog 19 #[.int .i64 s] w fun e w' => e = .returned (.int .i64 (wkV s)) ∧ w = w' := by
  have F := hide (dayOf_any s w h1 h2)
  have b : -200000000000000 ≤ s / 86400 ∧ s / 86400 ≤ 200000000000000 := by omega
  have e1 : (s / 86400).tmod 7 = if 0 ≤ s / 86400 ∨ s / 86400 % 7 = 0 then s / 86400 % 7 else s / 86400 % 7 - 7 := by
    rw [Int.tmod_eq_emod]
    by_cases h : 0 ≤ s / 86400 ∨ s / 86400 % 7 = 0
    · rw [if_pos h, if_pos (h.imp id (fun k => Int.dvd_of_emod_eq_zero k))]; omega
    · rw [if_neg h, if_neg (fun k => h (k.imp id (fun k => Int.emod_eq_zero_of_dvd k)))]; simp
  unfold wkV
  generalize s / 86400 = v at *
  obtain ⟨x, hx⟩ : ∃ x, v.tmod 7 = x := ⟨_, rfl⟩
  have e2 : -7 ≤ x := by rw [← hx, e1]; split <;> omega
  have e3 : x ≤ 6 := by rw [← hx, e1]; split <;> omega
  have e4 : (x + 7) % 7 = v % 7 := by rw [← hx, e1]; split <;> omega
  have HE := hide e4
  clear e1 b e4
  go_enter Tryd.func19, Tryd.ntmps19
  go_wp2_with fail
  refine F.out.mono ?_
  rintro e w' ⟨rfl, rfl⟩
  go_wp2
  go_ret
  exact ⟨by rw [← HE.out]; rfl, rfl⟩
theorem MJD_any (s : Int) (w : World) (h1 : -9223372036854775808 ≤ s) (h2 : s ≤ 9223372036854775807) : Calls Tryd.prog 20 #[.int .i64 s] w fun e w' => e = .returned (.int .i64 (s / 86400 + 15020)) ∧ ∃ n, w' = w.drewN n := by
  have F := hide (day_any s w h1 h2)
  have b1 : -200000000000000 ≤ s / 86400 := by omega
  have b2 : s / 86400 ≤ 200000000000000 := by omega
  generalize s / 86400 = v at *
  go_enter Tryd.func20, Tryd.ntmps20
  go_wp2_with fail
  refine F.out.mono ?_
  rintro e w' ⟨rfl, n, rfl⟩
  go_wp2
  go_ret
  exact ⟨rfl, n, rfl⟩
theorem RMJD_any (s : Int) (w : World) (h1 : -9223372036854775808 ≤ s) (h2 : s ≤ 9223372036854775807) : Calls Tryd.prog 21 #[.int .i64 s] w fun e w' => e = .returned (.int .i64 (s / 86400 + 15020)) ∧ w = w' := by
  have F := hide (dayOf_any s w h1 h2)
  have b1 : -200000000000000 ≤ s / 86400 := by omega
  have b2 : s / 86400 ≤ 200000000000000 := by omega
  generalize s / 86400 = v at *
  go_enter Tryd.func21, Tryd.ntmps21
  go_wp2_with fail
  refine F.out.mono ?_
  rintro e w' ⟨rfl, rfl⟩
  go_wp2
  go_ret
  exact ⟨rfl, rfl⟩
end Go.Proofs.YtbhpceghgjognaaDoor.Civ
