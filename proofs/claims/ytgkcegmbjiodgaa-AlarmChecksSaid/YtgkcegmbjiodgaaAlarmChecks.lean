/- The walk of the law AlarmChecks. -/
import Derived.Test.YtgkcegmbjiodgaaAlmG
namespace Go.Proofs.Ytgkcegmbjiodgaa.AlmW
open Go.RowKit Alm Aid
set_option maxHeartbeats 3200000 in
theorem AlarmChecks_walk (hi lo hold clr sil : Int) (w : World) :
    Calls Try.prog 3 #[.agg #[.int .i64 hi, .int .i64 lo, .int .i64 hold, .int .i64 clr, .int .i64 sil]] w fun e w' => e = .returned (.bool true) ∧ Below w.heap.size w w' := by
  have hB : w.heap.size + 1 ≤ (w.alloc (.cells #[.int .i64 hi, .int .i64 lo, .int .i64 hold, .int .i64 clr, .int .i64 sil] 23)).heap.size := by simp
  have C1 := hide (based hB fun W _ => Check_any hi lo hold clr sil W)
  have C2 := hide (based hB fun W _ => RCheck_any hi lo hold clr sil W)
  have C5 := hide (based hB fun W _ => awake_any W)
  have K := hide (fun W h => conf_cells (w := w) (x0 := .int .i64 hi) (x1 := .int .i64 lo) (x2 := .int .i64 hold) (x3 := .int .i64 clr) (x4 := .int .i64 sil) (T := 23) (W := W) h)
  by_cases hz : chk ⟨hi, lo, hold, clr, sil⟩ = 0
  · have CN := hide fun W (h : Below (w.heap.size + 1) (w.alloc (.cells #[.int .i64 hi, .int .i64 lo, .int .i64 hold, .int .i64 clr, .int .i64 sil] 23)) W) => (New_ok hi lo hold clr sil W hz).mono fun e w' h2 => (⟨h2.choose, h2.choose_spec.1, h.trans (h2.choose_spec.2.2.2.mono (Nat.le_trans hB h.size))⟩ : ∃ g, e = .returned (.pointer (some ⟨g, 0, none⟩)) ∧ Below (w.heap.size + 1) (w.alloc (.cells #[.int .i64 hi, .int .i64 lo, .int .i64 hold, .int .i64 clr, .int .i64 sil] 23)) w')
    rw [hz] at C1 C2
    clear hz hB
    have hb := Below.refl (w.heap.size + 1) (w.alloc (.cells #[.int .i64 hi, .int .i64 lo, .int .i64 hold, .int .i64 clr, .int .i64 sil] 23))
    go_enter Try.func3, Try.ntmps3
    go_wp2_with fail
    refine (C1.out _ hb).mono ?_
    rintro e w1 ⟨rfl, hb1⟩
    obtain ⟨k0, k1, k2, k3, k4, _⟩ := K.out _ hb1
    go_wp2_with fail
    refine (C2.out _ hb1).mono ?_
    rintro e w2 ⟨rfl, hb2⟩
    clear k0 k1 k2 k3 k4
    obtain ⟨k0, k1, k2, k3, k4, _⟩ := K.out _ hb2
    go_wp2_with fail
    refine (CN.out _ hb2).mono ?_
    rintro e w3 ⟨g, rfl, hb3⟩
    go_wp2_with fail
    refine (C5.out _ hb3).mono ?_
    rintro e w4 ⟨rfl, hb4⟩
    go_wp2
    go_ret
    exact ⟨rfl, box_below hb4⟩
  · have CN := hide (based hB fun W _ => New_bad hi lo hold clr sil W hz)
    have hz1 : (chk ⟨hi, lo, hold, clr, sil⟩ == 0) = false := by simpa using hz
    generalize chk ⟨hi, lo, hold, clr, sil⟩ = k at *
    clear hz hB
    have hb := Below.refl (w.heap.size + 1) (w.alloc (.cells #[.int .i64 hi, .int .i64 lo, .int .i64 hold, .int .i64 clr, .int .i64 sil] 23))
    go_enter Try.func3, Try.ntmps3
    go_wp2_with fail
    refine (C1.out _ hb).mono ?_
    rintro e w1 ⟨rfl, hb1⟩
    obtain ⟨k0, k1, k2, k3, k4, _⟩ := K.out _ hb1
    go_wp2_with fail
    refine (C2.out _ hb1).mono ?_
    rintro e w2 ⟨rfl, hb2⟩
    clear k0 k1 k2 k3 k4
    obtain ⟨k0, k1, k2, k3, k4, _⟩ := K.out _ hb2
    go_wp2_with fail
    refine (CN.out _ hb2).mono ?_
    rintro e w3 ⟨rfl, hb3⟩
    go_wp2_with fail
    refine (C5.out _ hb3).mono ?_
    rintro e w4 ⟨rfl, hb4⟩
    go_wp2
    go_ret
    exact ⟨rfl, box_below hb4⟩
end Go.Proofs.Ytgkcegmbjiodgaa.AlmW
