
/- The contracts of layer 54: Counts, Decision. -/
import Derived.Test.YtnmpoeljjajdiaaDoorVotD
namespace Go.Proofs.YtnmpoeljjajdiaaDoor.Vot
open Go.RowKit Aid Civ Leap
theorem counts_any (s : Vt) (g : Nat) (u : Int) (w : World) (h : PAt w g s) (hi : Inv s) :
    Calls Tryd.prog 31 #[.pointer (some ⟨g, 0, none⟩), .int .i64 u] w fun e w' => e = .returned (.agg #[.int .i64 (cv s u 0), .int .i64 (cv s u 1), .int .i64 (cv s u 2)]) ∧ Below w.heap.size w w' := by
  by_cases hu : -8000000000 ≤ u ∧ u ≤ 8000000000
  · rw [cv_in hu, cv_in hu, cv_in hu]
    exact counts_in s g u w h hi hu
  · rw [cv_out hu, cv_out hu, cv_out hu]
    exact counts_out _ u w (.inr ⟨⟨g, rfl⟩, hu⟩)
theorem cnt_n {s : Vt} (h : Inv s) (u j : Int) (N : Nat) (hN : s.n = (N : Int)) : ∀ m, cnt s u j (N + m) = cnt s u j N := by
  intro m
  induction m with
  | zero => rfl
  | succ m ih =>
    rw [← Nat.add_assoc, cnt_no (.inl (h.p _ (by omega))), ih]
theorem cnt_12 {s : Vt} (h : Inv s) (u j : Int) (N : Nat) (hN : s.n = (N : Int)) : cnt s u j 12 = cnt s u j N := by
  have := h.n2
  have e := cnt_n h u j N hN (12 - N)
  rwa [show N + (12 - N) = 12 by omega] at e
def dec (s : Vt) (u : Int) : Int := if s.n < 2 * cv s u 0 then 0 else if s.n < 2 * cv s u 1 then 1 else if s.n < 2 * cv s u 2 then 2 else 3
theorem dec_ways (s : Vt) (u : Int) : (s.n < 2 * cv s u 0 ∧ dec s u = 0) ∨ (¬ s.n < 2 * cv s u 0 ∧ s.n < 2 * cv s u 1 ∧ dec s u = 1) ∨ (¬ s.n < 2 * cv s u 0 ∧ ¬ s.n < 2 * cv s u 1 ∧ s.n < 2 * cv s u 2 ∧ dec s u = 2) ∨ (¬ s.n < 2 * cv s u 0 ∧ ¬ s.n < 2 * cv s u 1 ∧ ¬ s.n < 2 * cv s u 2 ∧ dec s u = 3) := by
  unfold dec
  by_cases h0 : s.n < 2 * cv s u 0
  · exact .inl ⟨h0, if_pos h0⟩
  by_cases h1 : s.n < 2 * cv s u 1
  · exact .inr (.inl ⟨h0, h1, by rw [if_neg h0, if_pos h1]⟩)
  by_cases h2 : s.n < 2 * cv s u 2
  · exact .inr (.inr (.inl ⟨h0, h1, h2, by rw [if_neg h0, if_neg h1, if_pos h2]⟩))
  · exact .inr (.inr (.inr ⟨h0, h1, h2, by rw [if_neg h0, if_neg h1, if_neg h2]⟩))
theorem Decision_nil (u : Int) (w : World) : Calls Tryd.prog 14 #[.pointer none, .int .i64 u] w fun e w' => e = .returned (.int .i64 3) ∧ Below w.heap.size w w' := by
  go_enter Tryd.func14, Tryd.ntmps14
  go_wp2
  go_ret
  exact ⟨rfl, Below.refl _ _⟩
set_option maxRecDepth 100000 in
set_option maxHeartbeats 3200000 in
theorem Decision_any (s : Vt) (g : Nat) (u : Int) (w : World) (h : PAt w g s) (hi : Inv s) : Calls Tryd.prog 14 #[.pointer (some ⟨g, 0, none⟩), .int .i64 u] w fun e w' => e = .returned (.int .i64 (dec s u)) ∧ Below w.heap.size w w' := by
  have C := hide (counts_any s g u w h hi)
  have D := dec_ways s u
  obtain ⟨x1, x2⟩ := cv_bd s u 0
  obtain ⟨y1, y2⟩ := cv_bd s u 1
  obtain ⟨z1, z2⟩ := cv_bd s u 2
  have HP := hide (fun W (b : Below w.heap.size w W) => h.step b)
  have n1 := hi.n1
  have n2 := hi.n2
  obtain ⟨n, hn⟩ : ∃ n, n = s.n := ⟨_, rfl⟩
  obtain ⟨d, hd⟩ : ∃ d, d = dec s u := ⟨_, rfl⟩
  rw [← hn] at D n1 n2
  rw [← hd] at D ⊢
  have HN := hide hn
  clear h hi hn hd
  generalize cv s u 0 = x at *
  generalize cv s u 1 = y at *
  generalize cv s u 2 = z at *
  have i0 : ∀ W, (Instr.index 69 (.agg #[.int .i64 x, .int .i64 y, .int .i64 z]) (.int .i64 0)).run Tryd.prog W = .ok (.int .i64 x) W := fun _ => rfl
  have i1 : ∀ W, (Instr.index 69 (.agg #[.int .i64 x, .int .i64 y, .int .i64 z]) (.int .i64 1)).run Tryd.prog W = .ok (.int .i64 y) W := fun _ => rfl
  have i2 : ∀ W, (Instr.index 69 (.agg #[.int .i64 x, .int .i64 y, .int .i64 z]) (.int .i64 2)).run Tryd.prog W = .ok (.int .i64 z) W := fun _ => rfl
  have HD := hide D
  clear D
  go_enter Tryd.func14, Tryd.ntmps14
  go_wp2_with fail
  with_reducible refine C.out.mono ?_
  rintro e w1 ⟨rfl, hb⟩
  have c0 : w1.cell? ⟨g, 0, none⟩ = some (.int .i64 n) := by rw [HN.out]; exact (HP.out _ hb).cell 0 (by omega)
  have HB := hide hb
  clear hb C HP HN
  go_wp2
  go_loopw [12] (fun i wr => ∃ k : Nat, k ≤ 3 ∧ i = .int .i64 k ∧ (0 < k → ¬ n < 2 * x) ∧ (1 < k → ¬ n < 2 * y) ∧ (2 < k → ¬ n < 2 * z) ∧ wr = w1) (fun i _ => 3 - (intOf i).toNat)
  case atStart => exact ⟨0, by omega, rfl, by omega, by omega, by omega, rfl⟩
  case round =>
    obtain ⟨k, hk, rfl, p0, p1, p2, rfl⟩ := hrel
    rcases (show k = 0 ∨ k = 1 ∨ k = 2 ∨ k = 3 by omega) with rfl | rfl | rfl | rfl
    · by_cases q : n < 2 * x
      · have HR : Hid (0 = d) := hide (by have := HD.out; omega)
        clear p0 p1 p2
        go_wp2
        go_ret
        exact ⟨ret_int HR.out, HB.out⟩
      · have HR : Hid ((0 < 1 → ¬ n < 2 * x) ∧ (1 < 1 → ¬ n < 2 * y) ∧ (2 < 1 → ¬ n < 2 * z)) := hide ⟨by omega, by omega, by omega⟩
        clear p0 p1 p2
        go_wp2
        go_roundw
        case rel => exact ⟨1, by omega, rfl, HR.out.1, HR.out.2.1, HR.out.2.2, by first | rfl | trivial⟩
        case measure => decide
    · have p0 := p0 (by omega)
      by_cases q : n < 2 * y
      · have HR : Hid (1 = d) := hide (by have := HD.out; omega)
        clear p0 p1 p2
        go_wp2
        go_ret
        exact ⟨ret_int HR.out, HB.out⟩
      · have HR : Hid ((0 < 2 → ¬ n < 2 * x) ∧ (1 < 2 → ¬ n < 2 * y) ∧ (2 < 2 → ¬ n < 2 * z)) := hide ⟨by omega, by omega, by omega⟩
        clear p0 p1 p2
        go_wp2
        go_roundw
        case rel => exact ⟨2, by omega, rfl, HR.out.1, HR.out.2.1, HR.out.2.2, by first | rfl | trivial⟩
        case measure => decide
    · have p0 := p0 (by omega)
      have p1 := p1 (by omega)
      by_cases q : n < 2 * z
      · have HR : Hid (2 = d) := hide (by have := HD.out; omega)
        clear p0 p1 p2
        go_wp2
        go_ret
        exact ⟨ret_int HR.out, HB.out⟩
      · have HR : Hid ((0 < 3 → ¬ n < 2 * x) ∧ (1 < 3 → ¬ n < 2 * y) ∧ (2 < 3 → ¬ n < 2 * z)) := hide ⟨by omega, by omega, by omega⟩
        clear p0 p1 p2
        go_wp2
        go_roundw
        case rel => exact ⟨3, by omega, rfl, HR.out.1, HR.out.2.1, HR.out.2.2, by first | rfl | trivial⟩
        case measure => decide
    · have HR : Hid (3 = d) := hide (by have := HD.out; have := p0 (by omega); have := p1 (by omega); have := p2 (by omega); omega)
      clear p0 p1 p2
      go_wp2
      go_ret
      exact ⟨ret_int HR.out, HB.out⟩
end Go.Proofs.YtnmpoeljjajdiaaDoor.Vot
