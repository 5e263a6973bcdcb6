
/- The contract of layer 6: Check of the reference. -/
import Derived.Test.YtnmpoeljjajdiaaDoorLeapB
import Derived.Test.YtnmpoeljjajdiaaDoorQuiet
namespace Go.Proofs.YtnmpoeljjajdiaaDoor.Leap
open Go.RowKit Aid Civ
theorem oldO_bd {B : Int} {O : Nat → Int} {k : Nat} (hB : -1000 ≤ B ∧ B ≤ 1000) (hO : ∀ i, i < k → -1000 ≤ O i ∧ O i ≤ 1000) : -1000 ≤ oldO B O k ∧ oldO B O k ≤ 1000 := by
  unfold oldO
  split
  · exact hB
  · exact hO (k - 1) (by omega)
theorem threeR (o x : Int) : (x != o + 1) = false ∧ (x = o + 1 ∨ x = o - 1) ∨ (x != o + 1) = true ∧ (x != o - 1) = false ∧ (x = o + 1 ∨ x = o - 1) ∨ (x != o + 1) = true ∧ (x != o - 1) = true ∧ ¬ (x = o + 1 ∨ x = o - 1) := by
  by_cases h1 : x = o + 1
  · exact .inl ⟨by simp [h1], .inl h1⟩
  · by_cases h2 : x = o - 1
    · exact .inr (.inl ⟨by simp [h1], by simp [h2], .inr h2⟩)
    · exact .inr (.inr ⟨by simp [h1], by simp [h2], by omega⟩)
end Go.Proofs.YtnmpoeljjajdiaaDoor.Leap
