/- The walk of the law OscRates: for every oscillator and every time the law returns true. -/
import Derived.Test.YtcfmjoadbamdiaaOscH
import Derived.Test.YtcfmjoadbamdiaaOscD
namespace Go.Proofs.Ytcfmjoadbamdiaa.OscW
open Go.RowKit OscP Aid
set_option maxHeartbeats 3200000 in
theorem OscRates_walk (ph : Int) (a : Option Addr) (n cap : Nat) (A P : Nat → Int) (t : Int) (w : World) (hr : SegsAt w a n A P) :
    Calls Try.prog 6 #[.agg #[.int .i64 ph, .slice a n cap], .int .i64 t] w fun e w' => e = .returned (.bool true) ∧ Below w.heap.size w w' := by
  have hB : w.heap.size + 1 ≤ (w.alloc (.cells #[.int .i64 ph, .slice a n cap] 24)).heap.size := by simp
  have C1 := hide (based hB fun W h => Rate_any ph a n cap A P t W (hr.below (box_below h)))
  have C2 := hide (based hB fun W h => RRate_any ph a n cap A P t W (hr.below (box_below h)))
  have C3 := hide (based hB fun W h => Bound_any ph a n cap A P W (hr.below (box_below h)))
  have C4 := hide (based hB fun W h => RBound_any ph a n cap A P W (hr.below (box_below h)))
  have C5 := hide (based hB fun W _ => awake_any W)
  have K := hide (box_cells (w := w) (x := .int .i64 ph) (y := .slice a n cap) (T := 24))
  clear hB hr
  generalize (if chk ph A P n = 0 then rate A P t n else 0) = x at C1 C2
  generalize (if chk ph A P n = 0 then most P n else 0) = y at C3 C4
  go_enter Try.func6, Try.ntmps6
  have hb := Below.refl (w.heap.size + 1) (w.alloc (.cells #[.int .i64 ph, .slice a n cap] 24))
  go_wp2_with fail
  go_region_held3 (fun W => W.cell? ⟨w.heap.size, 0, none⟩ = some (.int .i64 ph) ∧ W.cell? ⟨w.heap.size, 1, none⟩ = some (.slice a n cap) ∧ Below (w.heap.size + 1) (w.alloc (.cells #[.int .i64 ph, .slice a n cap] 24)) W) (first | exact K.out _ (by assumption) | exact K.out _ (Below.drew (by assumption)))
    (first | (go_at_call 16; refine (C1.out _ (by first | assumption | exact And.right (And.right (by assumption)))).mono ?_; rintro e w' ⟨rfl, hb⟩) | (go_at_call 17; refine (C2.out _ (by first | assumption | exact And.right (And.right (by assumption)))).mono ?_; rintro e w' ⟨rfl, hb⟩) | (go_at_call 15; refine (C3.out _ (by first | assumption | exact And.right (And.right (by assumption)))).mono ?_; rintro e w' ⟨rfl, hb⟩) | (go_at_call 18; refine (C4.out _ (by first | assumption | exact And.right (And.right (by assumption)))).mono ?_; rintro e w' ⟨rfl, hb⟩) | (go_at_call 13; refine (C5.out _ (by first | assumption | exact And.right (And.right (by assumption)))).mono ?_; rintro e w' ⟨rfl, hb⟩))
  go_wp2
  go_ret
  exact ⟨rfl, box_below (by assumption)⟩
end Go.Proofs.Ytcfmjoadbamdiaa.OscW
