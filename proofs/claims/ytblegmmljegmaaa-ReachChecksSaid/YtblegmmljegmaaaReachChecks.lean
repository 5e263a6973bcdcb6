/- The walk of the law ReachChecks. -/
import Derived.Test.YtblegmmljegmaaaRchJ
namespace Go.Proofs.Ytblegmmljegmaaa.Rch
open Go.RowKit Aid
set_option maxRecDepth 100000 in
set_option maxHeartbeats 6400000 in
theorem ReachChecks_walk (bits poll mn mx cnt : Int) (w : World) :
    Calls Try.prog 4 #[.agg #[.int .i64 bits, .int .i64 poll, .int .i64 mn, .int .i64 mx, .int .i64 cnt]] w fun e w' => e = .returned (.bool true) ∧ Below w.heap.size w w' := by
  have hB : w.heap.size + 1 ≤ (w.alloc (.cells #[.int .i64 bits, .int .i64 poll, .int .i64 mn, .int .i64 mx, .int .i64 cnt] 23)).heap.size := by simp
  have C0 := hide (based hB fun W _ => Check_any bits poll mn mx cnt W)
  have C1 := hide (based hB fun W _ => RCheck_any bits poll mn mx cnt W)
  have C2 := hide (based hB fun W _ => Reachable_any bits poll mn mx cnt W)
  have C3 := hide (based hB fun W _ => RReachable_any bits poll mn mx cnt W)
  have C4 := hide (based hB fun W _ => Heard_any bits poll mn mx cnt W)
  have C5 := hide (based hB fun W _ => RHeard_any bits poll mn mx cnt W)
  have C6 := hide (based hB fun W _ => Lost_any bits poll mn mx cnt W)
  have C7 := hide (based hB fun W _ => RLost_any bits poll mn mx cnt W)
  have C8 := hide (based hB fun W _ => Wait_any bits poll mn mx cnt W)
  have C9 := hide (based hB fun W _ => RWait_any bits poll mn mx cnt W)
  have C10 := hide (based hB fun W _ => awake_any W)
  have K := hide (fun W h => conf_cells (w := w) (x0 := .int .i64 bits) (x1 := .int .i64 poll) (x2 := .int .i64 mn) (x3 := .int .i64 mx) (x4 := .int .i64 cnt) (T := 23) (W := W) h)
  have hb0 := Below.refl (w.heap.size + 1) (w.alloc (.cells #[.int .i64 bits, .int .i64 poll, .int .i64 mn, .int .i64 mx, .int .i64 cnt] 23))
  clear hB
  generalize reachB ⟨bits, poll, mn, mx, cnt⟩ = a1 at C2 C3
  generalize (if chk ⟨bits, poll, mn, mx, cnt⟩ = 0 then (heardN bits : Int) else 0) = a2 at C4 C5
  generalize (if chk ⟨bits, poll, mn, mx, cnt⟩ = 0 then (lostN bits : Int) else 0) = a3 at C6 C7
  generalize waitV ⟨bits, poll, mn, mx, cnt⟩ = a4 at C8 C9
  generalize chk ⟨bits, poll, mn, mx, cnt⟩ = a0 at C0 C1
  go_enter Try.func4, Try.ntmps4
  go_wp2
  obtain ⟨k0, k1, k2, k3, k4, _⟩ := K.out _ hb0
  go_region_held3 (fun W => W.cell? ⟨w.heap.size, 0, none⟩ = some (.int .i64 bits) ∧ W.cell? ⟨w.heap.size, 1, none⟩ = some (.int .i64 poll) ∧ W.cell? ⟨w.heap.size, 2, none⟩ = some (.int .i64 mn) ∧ W.cell? ⟨w.heap.size, 3, none⟩ = some (.int .i64 mx) ∧ W.cell? ⟨w.heap.size, 4, none⟩ = some (.int .i64 cnt) ∧ Below (w.heap.size + 1) (w.alloc (.cells #[.int .i64 bits, .int .i64 poll, .int .i64 mn, .int .i64 mx, .int .i64 cnt] 23)) W) (first | exact K.out _ (by assumption) | exact K.out _ (Below.drew (by assumption)))
    (first | (go_at_call 12; refine (C0.out _ (by first | assumption | exact And.right (And.right (And.right (And.right (And.right (by assumption))))))).mono ?_; rintro e w' ⟨rfl, hb⟩) | (go_at_call 13; refine (C1.out _ (by first | assumption | exact And.right (And.right (And.right (And.right (And.right (by assumption))))))).mono ?_; rintro e w' ⟨rfl, hb⟩) | (go_at_call 14; refine (C2.out _ (by first | assumption | exact And.right (And.right (And.right (And.right (And.right (by assumption))))))).mono ?_; rintro e w' ⟨rfl, hb⟩) | (go_at_call 15; refine (C3.out _ (by first | assumption | exact And.right (And.right (And.right (And.right (And.right (by assumption))))))).mono ?_; rintro e w' ⟨rfl, hb⟩) | (go_at_call 16; refine (C4.out _ (by first | assumption | exact And.right (And.right (And.right (And.right (And.right (by assumption))))))).mono ?_; rintro e w' ⟨rfl, hb⟩) | (go_at_call 17; refine (C5.out _ (by first | assumption | exact And.right (And.right (And.right (And.right (And.right (by assumption))))))).mono ?_; rintro e w' ⟨rfl, hb⟩) | (go_at_call 18; refine (C6.out _ (by first | assumption | exact And.right (And.right (And.right (And.right (And.right (by assumption))))))).mono ?_; rintro e w' ⟨rfl, hb⟩) | (go_at_call 19; refine (C7.out _ (by first | assumption | exact And.right (And.right (And.right (And.right (And.right (by assumption))))))).mono ?_; rintro e w' ⟨rfl, hb⟩) | (go_at_call 20; refine (C8.out _ (by first | assumption | exact And.right (And.right (And.right (And.right (And.right (by assumption))))))).mono ?_; rintro e w' ⟨rfl, hb⟩) | (go_at_call 21; refine (C9.out _ (by first | assumption | exact And.right (And.right (And.right (And.right (And.right (by assumption))))))).mono ?_; rintro e w' ⟨rfl, hb⟩) | (go_at_call 11; refine (C10.out _ (by first | assumption | exact And.right (And.right (And.right (And.right (And.right (by assumption))))))).mono ?_; rintro e w' ⟨rfl, hb⟩))
  go_wp2
  go_ret
  exact ⟨rfl, box_below (by assumption)⟩
end Go.Proofs.Ytblegmmljegmaaa.Rch
