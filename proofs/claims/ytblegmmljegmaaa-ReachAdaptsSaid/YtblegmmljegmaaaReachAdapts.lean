/- The walk of the law ReachAdapts. -/
import Derived.Test.YtblegmmljegmaaaRchJ
namespace Go.Proofs.Ytblegmmljegmaaa.Rch
open Go.RowKit Aid
set_option maxRecDepth 100000 in
set_option maxHeartbeats 6400000 in
theorem ReachAdapts_walk (bits poll mn mx cnt : Int) (o j : Int) (w : World) (ho : -9223372036854775808 ≤ o) (ho2 : o ≤ 9223372036854775807) (hj : -9223372036854775808 ≤ j) (hj2 : j ≤ 9223372036854775807) :
    Calls Try.prog 3 #[.agg #[.int .i64 bits, .int .i64 poll, .int .i64 mn, .int .i64 mx, .int .i64 cnt], .int .i64 o, .int .i64 j] w fun e w' => e = .returned (.bool true) ∧ Below w.heap.size w w' := by
  have hB : w.heap.size + 1 ≤ (w.alloc (.cells #[.int .i64 bits, .int .i64 poll, .int .i64 mn, .int .i64 mx, .int .i64 cnt] 23)).heap.size := by simp
  have C0 := hide (based hB fun W _ => Adapt_any bits poll mn mx cnt o j ho ho2 hj hj2 W)
  have C1 := hide (based hB fun W _ => RAdapt_any bits poll mn mx cnt o j ho ho2 hj hj2 W)
  have C2 := hide (based hB fun W _ => awake_any W)
  have K := hide (fun W h => conf_cells (w := w) (x0 := .int .i64 bits) (x1 := .int .i64 poll) (x2 := .int .i64 mn) (x3 := .int .i64 mx) (x4 := .int .i64 cnt) (T := 23) (W := W) h)
  have hb0 := Below.refl (w.heap.size + 1) (w.alloc (.cells #[.int .i64 bits, .int .i64 poll, .int .i64 mn, .int .i64 mx, .int .i64 cnt] 23))
  clear hB
  generalize adapt ⟨bits, poll, mn, mx, cnt⟩ o j = q at C0 C1
  obtain ⟨q0, q1, q2, q3, q4⟩ := q
  simp only [regV] at C0 C1
  go_enter Try.func3, Try.ntmps3
  go_wp2
  obtain ⟨k0, k1, k2, k3, k4, _⟩ := K.out _ hb0
  go_region_held3 (fun W => W.cell? ⟨w.heap.size, 0, none⟩ = some (.int .i64 bits) ∧ W.cell? ⟨w.heap.size, 1, none⟩ = some (.int .i64 poll) ∧ W.cell? ⟨w.heap.size, 2, none⟩ = some (.int .i64 mn) ∧ W.cell? ⟨w.heap.size, 3, none⟩ = some (.int .i64 mx) ∧ W.cell? ⟨w.heap.size, 4, none⟩ = some (.int .i64 cnt) ∧ Below (w.heap.size + 1) (w.alloc (.cells #[.int .i64 bits, .int .i64 poll, .int .i64 mn, .int .i64 mx, .int .i64 cnt] 23)) W) (first | exact K.out _ (by assumption) | exact K.out _ (Below.drew (by assumption)))
    (first | (go_at_call 9; refine (C0.out _ (by first | assumption | exact And.right (And.right (And.right (And.right (And.right (by assumption))))))).mono ?_; rintro e w' ⟨rfl, hb⟩) | (go_at_call 10; refine (C1.out _ (by first | assumption | exact And.right (And.right (And.right (And.right (And.right (by assumption))))))).mono ?_; rintro e w' ⟨rfl, hb⟩) | (go_at_call 11; refine (C2.out _ (by first | assumption | exact And.right (And.right (And.right (And.right (And.right (by assumption))))))).mono ?_; rintro e w' ⟨rfl, hb⟩))
  go_wp2
  go_ret
  exact ⟨rfl, box_below (by assumption)⟩
end Go.Proofs.Ytblegmmljegmaaa.Rch
