/- The walk of the law ReachShifts. -/
import Derived.Test.YtblegmmljegmaaaRchJ
namespace Go.Proofs.Ytblegmmljegmaaa.Rch
open Go.RowKit Aid
set_option maxRecDepth 100000 in
set_option maxHeartbeats 6400000 in
theorem ReachShifts_walk (bits poll mn mx cnt : Int) (h : Bool) (w : World) :
    Calls Try.prog 6 #[.agg #[.int .i64 bits, .int .i64 poll, .int .i64 mn, .int .i64 mx, .int .i64 cnt], .bool h] w fun e w' => e = .returned (.bool true) ∧ Below w.heap.size w w' := by
  have hB : w.heap.size + 1 ≤ (w.alloc (.cells #[.int .i64 bits, .int .i64 poll, .int .i64 mn, .int .i64 mx, .int .i64 cnt] 23)).heap.size := by simp
  have C0 := hide (based hB fun W _ => Shift_any bits poll mn mx cnt h W)
  have C1 := hide (based hB fun W _ => RShift_any bits poll mn mx cnt h W)
  have C2 := hide (based hB fun W _ => Backoff_any bits poll mn mx cnt W)
  have C3 := hide (based hB fun W _ => RBackoff_any bits poll mn mx cnt W)
  have C4 := hide (based hB fun W _ => awake_any W)
  have K := hide (fun W h => conf_cells (w := w) (x0 := .int .i64 bits) (x1 := .int .i64 poll) (x2 := .int .i64 mn) (x3 := .int .i64 mx) (x4 := .int .i64 cnt) (T := 23) (W := W) h)
  have hb0 := Below.refl (w.heap.size + 1) (w.alloc (.cells #[.int .i64 bits, .int .i64 poll, .int .i64 mn, .int .i64 mx, .int .i64 cnt] 23))
  clear hB
  generalize shift ⟨bits, poll, mn, mx, cnt⟩ h = q at C0 C1
  obtain ⟨q0, q1, q2, q3, q4⟩ := q
  generalize backoff ⟨bits, poll, mn, mx, cnt⟩ = p at C2 C3
  obtain ⟨p0, p1, p2, p3, p4⟩ := p
  simp only [regV] at C0 C1 C2 C3
  go_enter Try.func6, Try.ntmps6
  go_wp2
  obtain ⟨k0, k1, k2, k3, k4, _⟩ := K.out _ hb0
  go_region_held3 (fun W => W.cell? ⟨w.heap.size, 0, none⟩ = some (.int .i64 bits) ∧ W.cell? ⟨w.heap.size, 1, none⟩ = some (.int .i64 poll) ∧ W.cell? ⟨w.heap.size, 2, none⟩ = some (.int .i64 mn) ∧ W.cell? ⟨w.heap.size, 3, none⟩ = some (.int .i64 mx) ∧ W.cell? ⟨w.heap.size, 4, none⟩ = some (.int .i64 cnt) ∧ Below (w.heap.size + 1) (w.alloc (.cells #[.int .i64 bits, .int .i64 poll, .int .i64 mn, .int .i64 mx, .int .i64 cnt] 23)) W) (first | exact K.out _ (by assumption) | exact K.out _ (Below.drew (by assumption)))
    (first | (go_at_call 22; refine (C0.out _ (by first | assumption | exact And.right (And.right (And.right (And.right (And.right (by assumption))))))).mono ?_; rintro e w' ⟨rfl, hb⟩) | (go_at_call 23; refine (C1.out _ (by first | assumption | exact And.right (And.right (And.right (And.right (And.right (by assumption))))))).mono ?_; rintro e w' ⟨rfl, hb⟩) | (go_at_call 24; refine (C2.out _ (by first | assumption | exact And.right (And.right (And.right (And.right (And.right (by assumption))))))).mono ?_; rintro e w' ⟨rfl, hb⟩) | (go_at_call 25; refine (C3.out _ (by first | assumption | exact And.right (And.right (And.right (And.right (And.right (by assumption))))))).mono ?_; rintro e w' ⟨rfl, hb⟩) | (go_at_call 11; refine (C4.out _ (by first | assumption | exact And.right (And.right (And.right (And.right (And.right (by assumption))))))).mono ?_; rintro e w' ⟨rfl, hb⟩))
  go_wp2
  go_ret
  exact ⟨rfl, box_below (by assumption)⟩
end Go.Proofs.Ytblegmmljegmaaa.Rch
