/- The walk of the law OscReads: for every oscillator and every time the law returns true. -/
import Derived.Test.YtcfmjoadbamdiaaOscH
namespace Go.Proofs.Ytcfmjoadbamdiaa.OscW
open Go.RowKit OscP Aid

theorem box_cells {w : World} {x y : Value} {T : TypeId} : ∀ W, Below (w.heap.size + 1) (w.alloc (.cells #[x, y] T)) W → W.cell? ⟨w.heap.size, 0, none⟩ = some x ∧ W.cell? ⟨w.heap.size, 1, none⟩ = some y ∧ Below (w.heap.size + 1) (w.alloc (.cells #[x, y] T)) W :=
  fun W h => ⟨(h.cell (p := ⟨w.heap.size, 0, none⟩) (by simp)).trans (by simp [go_sem]), (h.cell (p := ⟨w.heap.size, 1, none⟩) (by simp)).trans (by simp [go_sem]), h⟩
theorem box_below {w : World} {o : Obj} {W : World} (h : Below (w.heap.size + 1) (w.alloc o) W) : Below w.heap.size w W := ((Below.refl _ _).alloc (Nat.le_refl _) _).trans (h.mono (by omega))

set_option maxHeartbeats 1600000 in
theorem OscReads_walk (ph : Int) (a : Option Addr) (n cap : Nat) (A P : Nat → Int) (t : Int) (w : World) (hr : SegsAt w a n A P) :
    Calls Try.prog 3 #[.agg #[.int .i64 ph, .slice a n cap], .int .i64 t] w fun e w' => e = .returned (.bool true) ∧ Below w.heap.size w w' := by
  have hB : w.heap.size + 1 ≤ (w.alloc (.cells #[.int .i64 ph, .slice a n cap] 24)).heap.size := by simp
  have C1 := hide (based hB fun W h => Read_any ph a n cap A P t W (hr.below (box_below h)))
  have C2 := hide (based hB fun W h => RRead_any ph a n cap A P t W (hr.below (box_below h)))
  have C3 := hide (based hB fun W h => Check_any ph a n cap A P W (hr.below (box_below h)))
  have C4 := hide (based hB fun W h => RCheck_any ph a n cap A P W (hr.below (box_below h)))
  have C5 := hide (based hB fun W _ => awake_any W)
  have K := hide (box_cells (w := w) (x := .int .i64 ph) (y := .slice a n cap) (T := 24))
  clear hB hr
  go_enter Try.func3, Try.ntmps3
  go_wp2_with fail
  refine (C1.out _ (Below.refl _ _)).mono ?_
  rintro e w1 ⟨rfl, hb1⟩
  obtain ⟨k0, k1, hb⟩ := K.out _ hb1
  clear hb1
  have hs1 : w.heap.size < w1.heap.size := by have := hb.size; simp at this; omega
  go_wp2_with fail
  refine (C2.out _ hb).mono ?_
  rintro e w2 ⟨rfl, hb2⟩
  clear k0 k1 hb hs1
  obtain ⟨k0, k1, hb⟩ := K.out _ hb2
  clear hb2
  go_wp2
  go_region_held3 (fun W => W.cell? ⟨w.heap.size, 0, none⟩ = some (.int .i64 ph) ∧ W.cell? ⟨w.heap.size, 1, none⟩ = some (.slice a n cap) ∧ Below (w.heap.size + 1) (w.alloc (.cells #[.int .i64 ph, .slice a n cap] 24)) W) (first | exact K.out _ (by assumption) | exact K.out _ (Below.drew (by assumption)))
    (first | (go_at_call 11; refine (C3.out _ (by first | assumption | exact And.right (And.right (by assumption)))).mono ?_; rintro e w' ⟨rfl, hb⟩) | (go_at_call 12; refine (C4.out _ (by first | assumption | exact And.right (And.right (by assumption)))).mono ?_; rintro e w' ⟨rfl, hb⟩) | (go_at_call 13; refine (C5.out _ (by first | assumption | exact And.right (And.right (by assumption)))).mono ?_; rintro e w' ⟨rfl, hb⟩))
  go_wp2
  go_ret
  exact ⟨rfl, box_below (by assumption)⟩
end Go.Proofs.Ytcfmjoadbamdiaa.OscW
