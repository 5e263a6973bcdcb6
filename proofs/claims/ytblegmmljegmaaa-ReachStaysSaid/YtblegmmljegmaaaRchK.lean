/- Plain law of ReachSettles. -/
import Derived.Test.YtblegmmljegmaaaRchD
namespace Go.Proofs.Ytblegmmljegmaaa.Rch
open Go.RowKit Aid
theorem adapt_up {r : Reg} {o j : Int} (k : Ok r) (hs : smallB o j = true) : Ok (adapt r o j) ∧ r.poll ≤ (adapt r o j).poll ∧ (adapt r o j).bits = r.bits ∧ (adapt r o j).mn = r.mn ∧ (adapt r o j).mx = r.mx ∧
    (∀ n : Int, (r.poll = r.mx ∨ (r.mx - r.poll - 1) * 11 + (33 - r.cnt) / 3 ≤ n) → (adapt r o j).poll = r.mx ∨ (r.mx - (adapt r o j).poll - 1) * 11 + (33 - (adapt r o j).cnt) / 3 ≤ n - 1) := by
  obtain ⟨b1, b2, n1, n2, x1, x2, p1, p2, c1, c2⟩ := k
  have hz : chk r = 0 := ok_chk ⟨b1, b2, n1, n2, x1, x2, p1, p2, c1, c2⟩
  unfold adapt
  rw [if_pos hz, if_pos hs]
  split
  · refine ⟨?_, ?_, rfl, rfl, rfl, ?_⟩
    · constructor <;> dsimp only <;> omega
    · dsimp only; omega
    · intro n h; dsimp only; omega
  · refine ⟨?_, ?_, rfl, rfl, rfl, ?_⟩
    · constructor <;> dsimp only <;> omega
    · dsimp only; omega
    · intro n h; dsimp only; omega
theorem adapt_down {r : Reg} {o j : Int} (k : Ok r) (hs : smallB o j = false) : Ok (adapt r o j) ∧ (adapt r o j).poll ≤ r.poll ∧ (adapt r o j).bits = r.bits ∧ (adapt r o j).mn = r.mn ∧ (adapt r o j).mx = r.mx ∧
    (∀ n : Int, (r.poll = r.mn ∨ (r.poll - r.mn - 1) * 6 + (36 + r.cnt) / 6 ≤ n) → (adapt r o j).poll = r.mn ∨ ((adapt r o j).poll - r.mn - 1) * 6 + (36 + (adapt r o j).cnt) / 6 ≤ n - 1) := by
  obtain ⟨b1, b2, n1, n2, x1, x2, p1, p2, c1, c2⟩ := k
  have hz : chk r = 0 := ok_chk ⟨b1, b2, n1, n2, x1, x2, p1, p2, c1, c2⟩
  unfold adapt
  rw [if_pos hz, if_neg (by rw [hs]; simp)]
  split
  · refine ⟨?_, ?_, rfl, rfl, rfl, ?_⟩
    · constructor <;> dsimp only <;> omega
    · dsimp only; omega
    · intro n h; dsimp only; omega
  · refine ⟨?_, ?_, rfl, rfl, rfl, ?_⟩
    · constructor <;> dsimp only <;> omega
    · dsimp only; omega
    · intro n h; dsimp only; omega
theorem backoff_ok {r : Reg} (k : Ok r) : Ok (backoff r) ∧ (backoff r).poll = min (r.poll + 2) r.mx ∧ (backoff r).cnt = 0 ∧ (backoff r).bits = r.bits ∧ (backoff r).mn = r.mn ∧ (backoff r).mx = r.mx := by
  obtain ⟨b1, b2, n1, n2, x1, x2, p1, p2, c1, c2⟩ := k
  have hz : chk r = 0 := ok_chk ⟨b1, b2, n1, n2, x1, x2, p1, p2, c1, c2⟩
  unfold backoff
  rw [if_pos hz]
  refine ⟨?_, rfl, rfl, rfl, rfl, rfl⟩
  constructor <;> dsimp only <;> omega
theorem small_up {j : Int} (h : 0 ≤ j) : smallB (-4 * j - 3) (j + 1) = true := by unfold smallB; simp; omega
theorem small_down {j : Int} (h : 0 ≤ j) : smallB (4 * j) j = false := by unfold smallB; simp; omega
end Go.Proofs.Ytblegmmljegmaaa.Rch
