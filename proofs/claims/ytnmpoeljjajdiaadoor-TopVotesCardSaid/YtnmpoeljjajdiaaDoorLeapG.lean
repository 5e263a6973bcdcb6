
/- Plain law of layer 6: two entries of a valid table lie at least 28 days apart. -/
import Derived.Test.YtnmpoeljjajdiaaDoorLeapPlain
namespace Go.Proofs.YtnmpoeljjajdiaaDoor.Leap
open Go.RowKit Aid Civ
theorem beg_elim {a : Int} (h : begB a = true) : (-8000000000 ≤ a ∧ a ≤ 8000000000) ∧ (dateOf (a / 86400)).2.2 = 1 ∧ a % 86400 = 0 := by
  unfold begB at h
  simp only [Bool.and_eq_true, beq_iff_eq] at h
  obtain ⟨⟨⟨⟨h1, h2⟩, h3⟩, h4⟩, h5⟩ := h
  exact ⟨inB_iff.1 h1, h2, by omega⟩
theorem beg_intro {a : Int} (h1 : -8000000000 ≤ a ∧ a ≤ 8000000000) (h2 : (dateOf (a / 86400)).2.2 = 1) (h3 : a % 86400 = 0) : begB a = true := by
  unfold begB
  simp only [Bool.and_eq_true, beq_iff_eq]
  exact ⟨⟨⟨⟨inB_iff.2 h1, h2⟩, by omega⟩, by omega⟩, by omega⟩
theorem day_gap {n n' y y' : Int} {m m' : Nat} (D : Date n y m 1) (D' : Date n' y' m' 1) (h : n < n') : n + 28 ≤ n' := by
  rcases Int.lt_or_le n' (n + 28) with h1 | h1
  · have e := D.d1
    have q := date_of (y := y) (d := n' - n + 1) (m := m) D.m1 D.m2 (by omega) (by have := md_pos (y := y) (m := (m : Int)) (by have := D.m1; omega) (by have := D.m2; omega); omega)
    rw [show ys y + ms y m + (n' - n + 1) - 1 = n' by omega] at q
    have := (q.unique D').2.2
    omega
  · exact h1
theorem beg_gap {a b : Int} (ha : begB a = true) (hb : begB b = true) (h : a < b) : a + 2419200 ≤ b := by
  obtain ⟨a1, a2, a3⟩ := beg_elim ha
  obtain ⟨b1, b2, b3⟩ := beg_elim hb
  have D := dateOf_spec (n := a / 86400) (by unfold ys; omega)
  have D' := dateOf_spec (n := b / 86400) (by unfold ys; omega)
  rw [a2] at D
  rw [b2] at D'
  have := day_gap D D' (by omega)
  omega
theorem Tab.gap {B X : Int} {A O : Nat → Int} {n : Nat} (T : Tab B X A O n) {i : Nat} (h : i + 1 < n) : A i + 2419200 ≤ A (i + 1) := beg_gap (T.beg i (by omega)) (T.beg (i + 1) h) (T.inc i h)
theorem Tab.gap2 {B X : Int} {A O : Nat → Int} {n : Nat} (T : Tab B X A O n) {i j : Nat} (hij : i < j) (hj : j < n) : A i + 2419200 ≤ A j := by
  induction j with
  | zero => omega
  | succ j ih =>
    have g := T.gap hj
    rcases Nat.lt_or_ge i j with h1 | h1
    · have := ih h1 (by omega); omega
    · obtain rfl : i = j := by omega
      exact g
theorem Tab.next {B X : Int} {A O : Nat → Int} {n : Nat} (T : Tab B X A O n) {i : Nat} (h : i + 1 < n) : O (i + 1) = O i + 1 ∨ O (i + 1) = O i - 1 := by
  have := T.one (i + 1) h
  unfold oldO at this
  rw [if_neg (by omega), Nat.add_sub_cancel] at this
  exact this
end Go.Proofs.YtnmpoeljjajdiaaDoor.Leap
