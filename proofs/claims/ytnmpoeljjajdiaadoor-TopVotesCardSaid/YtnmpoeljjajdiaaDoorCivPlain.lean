
/- Plain law of layer 5 (the calendar): leap years, starts of years, months; days and their dates. No program. -/
import Init
namespace Go.Proofs.YtnmpoeljjajdiaaDoor.Civ
def leap (y : Int) : Bool := decide (y % 4 = 0) && (decide (y % 100 ≠ 0) || decide (y % 400 = 0))
def yd (y : Int) : Int := if leap y = true then 366 else 365
def md (y m : Int) : Int :=
  if m = 2 then (if leap y = true then 29 else 28)
  else if m = 4 ∨ m = 6 ∨ m = 9 ∨ m = 11 then 30
  else if 1 ≤ m ∧ m ≤ 12 then 31 else 0
/-- the first day of a year -/
def ys (y : Int) : Int := 365 * (y - 1) + (y - 1) / 4 - (y - 1) / 100 + (y - 1) / 400 - 693595
/-- the days before a month of a year -/
def ms (y : Int) : Nat → Int
  | 0 => 0
  | m + 1 => ms y m + md y (m : Int)
theorem leap_iff (y : Int) : leap y = true ↔ (y % 4 = 0 ∧ (y % 100 ≠ 0 ∨ y % 400 = 0)) := by
  unfold leap; simp
theorem yd_cases (y : Int) : (yd y = 366 ∧ y % 4 = 0 ∧ (y % 100 ≠ 0 ∨ y % 400 = 0)) ∨ (yd y = 365 ∧ ¬ (y % 4 = 0 ∧ (y % 100 ≠ 0 ∨ y % 400 = 0))) := by
  unfold yd
  by_cases h : leap y = true
  · rw [if_pos h]; exact .inl ⟨rfl, (leap_iff y).1 h⟩
  · rw [if_neg h]; exact .inr ⟨rfl, fun k => h ((leap_iff y).2 k)⟩
theorem ys_next (y : Int) : ys (y + 1) = ys y + yd y := by
  have := yd_cases y
  unfold ys
  omega
theorem ys_lt (y : Int) : ys y + 365 ≤ ys (y + 1) := by
  rw [ys_next]; have := yd_cases y; omega
theorem ys_mono_nat (y : Int) (k : Nat) : ys y + 365 * (k : Int) ≤ ys (y + k) := by
  induction k with
  | zero => simp
  | succ k ih =>
    have := ys_lt (y + k)
    rw [show y + ((k + 1 : Nat) : Int) = y + k + 1 by omega]
    omega
theorem ys_mono {a b : Int} (h : a ≤ b) : ys a + 365 * (b - a) ≤ ys b := by
  have := ys_mono_nat a (b - a).toNat
  rw [show a + (((b - a).toNat : Nat) : Int) = b by omega] at this
  omega
theorem year_unique {n a b : Int} (h1 : ys a ≤ n) (h2 : n < ys (a + 1)) (h3 : ys b ≤ n) (h4 : n < ys (b + 1)) : a = b := by
  rcases Int.lt_trichotomy a b with h | h | h
  · have := ys_mono (a := a + 1) (b := b) (by omega); omega
  · exact h
  · have := ys_mono (a := b + 1) (b := a) (by omega); omega
theorem md_bd (y m : Int) : 0 ≤ md y m ∧ md y m ≤ 31 := by
  unfold md; split
  · split <;> omega
  · split
    · omega
    · split <;> omega
theorem md_pos {y m : Int} (h1 : 1 ≤ m) (h2 : m ≤ 12) : 28 ≤ md y m := by
  unfold md; split
  · split <;> omega
  · split
    · omega
    · rw [if_pos ⟨h1, h2⟩]; omega
theorem md_none {y m : Int} (h : ¬ (1 ≤ m ∧ m ≤ 12)) : md y m = 0 := by
  unfold md
  rw [if_neg (by omega), if_neg (by omega), if_neg h]
theorem ms_13 (y : Int) : ms y 13 = yd y := by
  cases h : leap y <;> simp [ms, md, yd, h]
theorem ms_1 (y : Int) : ms y 1 = 0 := by simp [ms, md]
theorem ms_mono {y : Int} {a b : Nat} (h : a ≤ b) : ms y a ≤ ms y b := by
  induction b with
  | zero =>
    obtain rfl : a = 0 := by omega
    exact Int.le_refl _
  | succ b ih =>
    rcases Nat.eq_or_lt_of_le h with e | e
    · subst e; exact Int.le_refl _
    · have := ih (by omega)
      have := (md_bd y (b : Int)).1
      show ms y a ≤ ms y b + md y (b : Int)
      omega
/-- day n is day d of month m of year y -/
structure Date (n y : Int) (m : Nat) (d : Int) : Prop where
  y1 : ys y ≤ n
  y2 : n < ys (y + 1)
  m1 : 1 ≤ m
  m2 : m ≤ 12
  d1 : d = n - ys y - ms y m + 1
  d2 : 1 ≤ d
  d3 : d ≤ md y (m : Int)
theorem Date.unique {n y y' : Int} {m m' : Nat} {d d' : Int} (a : Date n y m d) (b : Date n y' m' d') : y = y' ∧ m = m' ∧ d = d' := by
  obtain rfl := year_unique a.y1 a.y2 b.y1 b.y2
  have key : m = m' := by
    rcases Nat.lt_trichotomy m m' with h | h | h
    · have := ms_mono (y := y) (show m + 1 ≤ m' by omega)
      have e : ms y (m + 1) = ms y m + md y (m : Int) := rfl
      have := a.d1; have := a.d3; have := b.d1; have := b.d2
      omega
    · exact h
    · have := ms_mono (y := y) (show m' + 1 ≤ m by omega)
      have e : ms y (m' + 1) = ms y m' + md y (m' : Int) := rfl
      have := b.d1; have := b.d3; have := a.d1; have := a.d2
      omega
  subst key
  exact ⟨rfl, rfl, by rw [a.d1, b.d1]⟩
theorem year_exists (n : Int) (h : ys 1 ≤ n) : ∃ y, 1 ≤ y ∧ ys y ≤ n ∧ n < ys (y + 1) := by
  have key : ∀ k : Nat, n < ys (1 + k) → ∃ y, 1 ≤ y ∧ ys y ≤ n ∧ n < ys (y + 1) := by
    intro k
    induction k with
    | zero => intro hk; simp at hk; omega
    | succ k ih =>
      intro hk
      by_cases hq : n < ys (1 + k)
      · exact ih hq
      · exact ⟨1 + k, by omega, by omega, by rw [show (1 : Int) + (k : Int) + 1 = 1 + ((k + 1 : Nat) : Int) by omega]; exact hk⟩
  have := ys_mono_nat 1 ((n - ys 1).toNat + 1)
  exact key ((n - ys 1).toNat + 1) (by omega)
theorem month_exists {y r : Int} (h0 : 0 ≤ r) (h1 : r < yd y) : ∃ m : Nat, 1 ≤ m ∧ m ≤ 12 ∧ ms y m ≤ r ∧ r < ms y (m + 1) := by
  have key : ∀ k : Nat, k ≤ 12 → r < ms y (k + 1) → ∃ m : Nat, 1 ≤ m ∧ m ≤ 12 ∧ ms y m ≤ r ∧ r < ms y (m + 1) := by
    intro k
    induction k with
    | zero => intro _ h; rw [ms_1] at h; omega
    | succ k ih =>
      intro hk h
      by_cases hq : r < ms y (k + 1)
      · exact ih (by omega) hq
      · exact ⟨k + 1, by omega, by omega, by omega, h⟩
  exact key 12 (by omega) (by rw [ms_13]; exact h1)
theorem date_exists (n : Int) (h : ys 1 ≤ n) : ∃ y m d, Date n y m d := by
  obtain ⟨y, hy, h1, h2⟩ := year_exists n h
  have e := ys_next y
  obtain ⟨m, m1, m2, m3, m4⟩ := month_exists (y := y) (r := n - ys y) (by omega) (by omega)
  have e2 : ms y (m + 1) = ms y m + md y (m : Int) := rfl
  exact ⟨y, m, n - ys y - ms y m + 1, h1, h2, m1, m2, rfl, by omega, by omega⟩
theorem date_of {y d : Int} {m : Nat} (m1 : 1 ≤ m) (m2 : m ≤ 12) (d1 : 1 ≤ d) (d2 : d ≤ md y (m : Int)) : Date (ys y + ms y m + d - 1) y m d := by
  have e2 : ms y (m + 1) = ms y m + md y (m : Int) := rfl
  have a := ms_mono (y := y) (show 1 ≤ m by omega)
  have b := ms_mono (y := y) (show m + 1 ≤ 13 by omega)
  rw [ms_1] at a
  rw [ms_13] at b
  have e := ys_next y
  exact ⟨by omega, by omega, m1, m2, by omega, d1, d2⟩
end Go.Proofs.YtnmpoeljjajdiaaDoor.Civ
