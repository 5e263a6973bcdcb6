/- The walk of the law OscInverts: for every oscillator and every reading the law returns true. -/
import Derived.Test.YtcfmjoadbamdiaaOscT
namespace Go.Proofs.Ytcfmjoadbamdiaa.OscW
open Go.RowKit OscP Aid
theorem first_any (ph : Int) (A P : Nat → Int) (n : Nat) (x : Int) : ∃ r, chk ph A P n = 0 → First ph A P n x r := by
  by_cases hz : chk ph A P n = 0
  · obtain ⟨r, hr⟩ := first_ex (chk_ok hz) x
    exact ⟨r, fun _ => hr⟩
  · exact ⟨0, fun h => absurd h hz⟩
set_option maxHeartbeats 3200000 in
theorem OscInverts_walk (ph : Int) (a : Option Addr) (n cap : Nat) (A P : Nat → Int) (x : Int) (w : World) (hr : SegsAt w a n A P) :
    Calls Try.prog 7 #[.agg #[.int .i64 ph, .slice a n cap], .int .i64 x] w fun e w' => e = .returned (.bool true) ∧ Below w.heap.size w w' := by
  have hB : w.heap.size + 1 ≤ (w.alloc (.cells #[.int .i64 ph, .slice a n cap] 24)).heap.size := by simp
  obtain ⟨r, hf⟩ := first_any ph A P n x
  have C1 := hide (based hB fun W h => When_any ph a n cap A P x r W (hr.below (box_below h)) hf)
  have C2 := hide (based hB fun W h => RWhen_any ph a n cap A P x r W (hr.below (box_below h)) hf)
  have C5 := hide (based hB fun W _ => awake_any W)
  have K := hide (box_cells (w := w) (x := .int .i64 ph) (y := .slice a n cap) (T := 24))
  clear hB hr hf
  generalize whV (chk ph A P n) r = v at C1 C2
  generalize whE (chk ph A P n) r = u at C1 C2
  go_enter Try.func7, Try.ntmps7
  go_wp2_with fail
  refine (C1.out _ (Below.refl _ _)).mono ?_
  rintro e w1 ⟨rfl, hb1⟩
  obtain ⟨k0, k1, hb⟩ := K.out _ hb1
  clear hb1
  go_wp2_with fail
  refine (C2.out _ hb).mono ?_
  rintro e w2 ⟨rfl, hb2⟩
  go_wp2_with (go_at_call 13; refine (C5.out _ (by assumption)).mono ?_; rintro e w' ⟨rfl, hb'⟩)
  go_ret
  exact ⟨rfl, box_below (by assumption)⟩
end Go.Proofs.Ytcfmjoadbamdiaa.OscW
