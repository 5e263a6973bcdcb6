/- The contracts of package fixed's divide and Floor at positive divisors, for any world. -/
import Derived.Test.YtjjhdigbgmbmnaaAid
namespace Go.Proofs.Ytjjhdigbgmbmnaa.Fx
open Go.RowKit Aid
theorem divide_any (a b : Int) (w : World) (hb : 1 ≤ b) (ha : -9223372036854775808 ≤ a) (ha2 : a ≤ 9223372036854775807) :
    Calls Try.prog 48 #[.int .i64 a, .int .i64 b] w fun e w' => e = .returned (.tuple #[.int .i64 (a.tdiv b), .int .i64 (a.tmod b), .bool true]) ∧ ∃ n, w' = w.drewN n := by
  have h0 : (b == 0) = false := by simp; omega
  have h1 : (b == -1) = false := by simp; omega
  rcases Bool.eq_false_or_eq_true (a == -9223372036854775808) with hm | hm
  all_goals
    go_enter Try.func48, Try.ntmps48
    go_wp2
    go_quiet (fail)
    go_wp2
    go_ret3
    exact ⟨rfl, nq, rfl⟩

/-- how the floor of a quotient comes of the truncated one -/
theorem floor_cases (a b : Int) (hb : 1 ≤ b) : (a.tmod b < 0 ∧ a / b = a.tdiv b - 1) ∨ (a.tmod b = 0 ∧ a / b = a.tdiv b) ∨ (0 < a.tmod b ∧ a / b = a.tdiv b) := by
  have e1 := Int.mul_tdiv_add_tmod a b
  have e2 := Int.mul_ediv_add_emod a b
  have b1 := Int.emod_nonneg a (show b ≠ 0 by omega)
  have b2 := Int.emod_lt_of_pos a (show 0 < b by omega)
  rcases (show a < 0 ∨ 0 ≤ a by omega) with ha | ha
  · have c1 : a.tmod b ≤ 0 := by have := Int.tmod_nonneg b (show 0 ≤ -a by omega); rw [Int.neg_tmod] at this; omega
    have c2 : -b < a.tmod b := by have := Int.tmod_lt_of_pos (-a) (show 0 < b by omega); rw [Int.neg_tmod] at this; omega
    rcases (show a.tmod b < 0 ∨ 0 ≤ a.tmod b by omega) with h | h
    · refine .inl ⟨h, ?_⟩
      have : b * (a.tdiv b - 1) + (a.tmod b + b) = a := by rw [Int.mul_sub]; omega
      rw [← this, Int.mul_add_ediv_left _ _ (by omega), Int.ediv_eq_zero_of_lt (by omega) (by omega)]
      have : b * (a.tdiv b - 1) + (a.tmod b + b) = a := this
      rw [this]; omega
    · refine .inr (.inl ⟨by omega, ?_⟩)
      have : b * a.tdiv b = a := by omega
      conv => lhs; rw [← this]
      rw [Int.mul_ediv_cancel_left _ (by omega)]
  · have c1 := Int.tmod_nonneg b ha
    have : a / b = a.tdiv b := by rw [Int.tdiv_eq_ediv_of_nonneg ha]
    omega
theorem tdiv_bd (a b : Int) (hb : 1 ≤ b) (ha : -9223372036854775808 ≤ a) (ha2 : a ≤ 9223372036854775807) :
    -9223372036854775808 ≤ a / b ∧ a / b ≤ 9223372036854775807 := by
  constructor
  · rw [Int.le_ediv_iff_mul_le (by omega)]
    have := Int.mul_le_mul_of_nonneg_left hb (show (0 : Int) ≤ 9223372036854775808 by omega)
    omega
  · have h : a / b < 9223372036854775808 := by
      rw [Int.ediv_lt_iff_lt_mul (by omega)]
      have := Int.mul_le_mul_of_nonneg_left hb (show (0 : Int) ≤ 9223372036854775808 by omega)
      omega
    omega

set_option maxHeartbeats 400000 in
theorem Floor_any (a b : Int) (w : World) (hb : 1 ≤ b) (ha : -9223372036854775808 ≤ a) (ha2 : a ≤ 9223372036854775807) :
    Calls Try.prog 47 #[.int .i64 a, .int .i64 b] w fun e w' => e = .returned (.tuple #[.int .i64 (a / b), .bool true]) ∧ ∃ n, w' = w.drewN n := by
  have hc := floor_cases a b hb
  have hd := tdiv_bd a b hb ha ha2
  have D := divide_any a b w hb ha ha2
  generalize a.tdiv b = q at *
  generalize a.tmod b = r at *
  generalize a / b = d at *
  have D' := Lib.hid D
  clear D ha ha2
  rcases hc with ⟨h1, h2⟩ | ⟨h1, h2⟩ | ⟨h1, h2⟩
  · have H := Lib.hid h2
    have hne : (r != 0) = true := by simp; omega
    have hq : -9223372036854775807 ≤ q := by omega
    have hq2 : q ≤ 9223372036854775808 := by omega
    have hbn : decide (b < 0) = false := by simp; omega
    clear h2
    go_enter Try.func47, Try.ntmps47
    go_wp2_with fail
    refine (D'.out).mono ?_
    rintro e w' ⟨rfl, n, rfl⟩
    go_wp2
    go_ret2
    exact ⟨by rw [H.out]; rfl, n, rfl⟩
  · subst h1 h2
    go_enter Try.func47, Try.ntmps47
    go_wp2_with fail
    refine (D'.out).mono ?_
    rintro e w' ⟨rfl, n, rfl⟩
    go_wp2
    go_ret2
    exact ⟨rfl, n, rfl⟩
  · subst h2
    have hne : (r != 0) = true := by simp; omega
    have hbn : decide (b < 0) = false := by simp; omega
    go_enter Try.func47, Try.ntmps47
    go_wp2_with fail
    refine (D'.out).mono ?_
    rintro e w' ⟨rfl, n, rfl⟩
    go_wp2
    go_ret2
    exact ⟨rfl, n, rfl⟩
end Go.Proofs.Ytjjhdigbgmbmnaa.Fx
