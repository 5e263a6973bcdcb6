/- Plain laws of layer 5: seconds and civil times are inverse to each other. -/
import Derived.Test.YtbhpceghgjognaaDoorCivH
namespace Go.Proofs.YtbhpceghgjognaaDoor.Civ
open Go.RowKit Aid
theorem of_sec {sec : Int} (h : -8000000000 ≤ sec ∧ sec ≤ 8000000000) : ∃ (y d H I S : Int) (M : Nat), ofV sec = .agg #[.int .i64 y, .int .i64 (M : Int), .int .i64 d, .int .i64 H, .int .i64 I, .int .i64 S, .int .i64 0] ∧
    Valid y (M : Int) d H I S 0 ∧ secN y (M : Int) d H I S = sec ∧ Date (sec / 86400) y M d ∧ H = sec % 86400 / 3600 ∧ I = sec % 86400 / 60 % 60 ∧ S = sec % 86400 % 60 := by
  obtain ⟨h1, h2⟩ := h
  have n1 : -92593 ≤ sec / 86400 := by omega
  have n2 : sec / 86400 ≤ 92592 := by omega
  have D := dateOf_spec (n := sec / 86400) (by unfold ys; omega)
  refine ⟨_, _, _, _, _, _, rfl, ?_, ?_, D, rfl, rfl, rfl⟩
  · obtain ⟨a1, a2, b1, b2, c1, c2, c3⟩ := D
    generalize (dateOf (sec / 86400)).1 = y at *
    generalize (dateOf (sec / 86400)).2.1 = M at *
    generalize (dateOf (sec / 86400)).2.2 = d at *
    have y1 := ys_1646 (y := y + 1) n1 a2
    have y2 : y ≤ 2153 := by unfold ys at a1; omega
    exact ⟨by omega, by omega, by omega, by omega, c2, c3, by omega, by omega, by omega, by omega, by omega, by omega, by omega, by omega⟩
  · have e := D.d1
    unfold secN
    rw [Int.toNat_natCast, e]
    omega
theorem sec_day {y d h mi s n : Int} {M : Nat} (v : Valid y (M : Int) d h mi s n) : secN y (M : Int) d h mi s / 86400 = ys y + ms y M + d - 1 ∧ secN y (M : Int) d h mi s % 86400 = 3600 * h + 60 * mi + s := by
  obtain ⟨a1, a2, b1, b2, c1, c2, d1, d2, f1, f2, g1, g2, k1, k2⟩ := v
  unfold secN
  rw [Int.toNat_natCast]
  omega
theorem sec_back {y d h mi s n : Int} {M : Nat} (v : Valid y (M : Int) d h mi s n) : ofV (secN y (M : Int) d h mi s) = .agg #[.int .i64 y, .int .i64 (M : Int), .int .i64 d, .int .i64 h, .int .i64 mi, .int .i64 s, .int .i64 0] := by
  obtain ⟨e1, e2⟩ := sec_day v
  obtain ⟨a1, a2, b1, b2, c1, c2, d1, d2, f1, f2, g1, g2, k1, k2⟩ := v
  have D := date_of (y := y) (d := d) (m := M) (by omega) (by omega) c1 c2
  have y5 : -110000 ≤ ys y := by unfold ys; omega
  have m5 := ms_mono (y := y) (show 1 ≤ M by omega)
  rw [ms_1] at m5
  have E := dateOf_eq (n := ys y + ms y M + d - 1) (by unfold ys at *; omega) D
  unfold ofV
  rw [e1, e2, E, show (3600 * h + 60 * mi + s) / 3600 = h by omega, show (3600 * h + 60 * mi + s) / 60 % 60 = mi by omega, show (3600 * h + 60 * mi + s) % 60 = s by omega]
theorem secV_of {y m d h mi s n : Int} (v : Valid y m d h mi s n) (r : -8000000000 ≤ secN y m d h mi s ∧ secN y m d h mi s ≤ 8000000000) : secV y m d h mi s n = secN y m d h mi s ∧ secE y m d h mi s n = 0 := by
  unfold secV secE
  rw [if_pos ⟨chkC_of v, r⟩, if_pos ⟨chkC_of v, r⟩]
  exact ⟨rfl, rfl⟩
theorem secE_cases (y m d h mi s n : Int) : (secE y m d h mi s n = 0 ∧ Valid y m d h mi s n ∧ (-8000000000 ≤ secN y m d h mi s ∧ secN y m d h mi s ≤ 8000000000) ∧ secV y m d h mi s n = secN y m d h mi s) ∨ (secE y m d h mi s n = 3 ∧ secV y m d h mi s n = 0) := by
  unfold secV secE
  split
  · rename_i k; exact .inl ⟨rfl, chkC_ok k.1, k.2, rfl⟩
  · exact .inr ⟨rfl, rfl⟩
end Go.Proofs.YtbhpceghgjognaaDoor.Civ
