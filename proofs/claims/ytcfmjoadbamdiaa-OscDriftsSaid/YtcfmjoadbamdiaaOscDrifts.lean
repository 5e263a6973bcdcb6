/- The walk of the law OscDrifts: for every oscillator, time and duration the law returns true. -/
import Derived.Test.YtcfmjoadbamdiaaOscH
namespace Go.Proofs.Ytcfmjoadbamdiaa.OscW
open Go.RowKit OscP Aid
set_option maxHeartbeats 3200000 in
theorem OscDrifts_walk (ph : Int) (a : Option Addr) (n cap : Nat) (A P : Nat → Int) (t d : Int) (w : World) (hr : SegsAt w a n A P) :
    Calls Try.prog 5 #[.agg #[.int .i64 ph, .slice a n cap], .int .i64 t, .int .i64 d] w fun e w' => e = .returned (.bool true) ∧ Below w.heap.size w w' := by
  have hB : w.heap.size + 1 ≤ (w.alloc (.cells #[.int .i64 ph, .slice a n cap] 24)).heap.size := by simp
  have C0 := hide (fun W => span_any t d W)
  have C5 := hide (based hB fun W _ => awake_any W)
  by_cases hs : spanB t d = true
  · have hs' := hs
    unfold spanB at hs'
    simp only [decide_eq_true_eq] at hs'
    obtain ⟨t1, t2, d1, d2⟩ := hs'
    rw [hs] at C0
    clear hs
    have C1 := hide (based hB fun W h => Read_any ph a n cap A P t W (hr.below (box_below h)))
    have C2 := hide (based hB fun W h => Read_any ph a n cap A P (t + d) W (hr.below (box_below h)))
    have C3 := hide (based hB fun W h => Bound_any ph a n cap A P W (hr.below (box_below h)))
    have K := hide (box_cells (w := w) (x := .int .i64 ph) (y := .slice a n cap) (T := 24))
    clear hr hB
    by_cases hz : chk ph A P n = 0
    · have ok := chk_ok hz
      have ea : rdE ph A P n t = 0 := by unfold rdE; rw [if_neg (by omega), if_neg (by omega)]
      have eb : rdE ph A P n (t + d) = 0 := by unfold rdE; rw [if_neg (by omega), if_neg (by omega)]
      have va : rdV ph A P n t = rd ph A P n t := by unfold rdV; rw [if_neg (by omega), if_neg (by omega)]
      have vb : rdV ph A P n (t + d) = rd ph A P n (t + d) := by unfold rdV; rw [if_neg (by omega), if_neg (by omega)]
      rw [ea, va] at C1
      rw [eb, vb] at C2
      rw [if_pos hz] at C3
      have D := rd_drift (c := most P n) (ph := ph) ok.n1 ok.a0 ok.inc t1 d1 (most_bd (P := P) (n := n)).2
      have ba := rd_bd ok ⟨t1, t2⟩
      have bb := rd_bd ok (show 0 ≤ t + d ∧ t + d ≤ 1125899906842624 by omega)
      have m1 := (most_bd (P := P) (n := n)).1
      have m2 := most_le (P := P) (n := n) (by omega) ok.pin
      clear ea eb va vb hz ok
      generalize rd ph A P n t = x at *
      generalize rd ph A P n (t + d) = y at *
      generalize most P n = m at *
      have p1 := mul_bd (p := m) (a := 500000) (x := d / 1000000000) (b := 1126000) (by omega) (by omega)
      have p2 := mul_bd (p := m) (a := 500000) (x := d % 1000000000) (b := 1000000000) (by omega) (by omega)
      have q1 := Int.mul_nonneg (show 0 ≤ d / 1000000000 by omega) m1
      have q2 := Int.mul_nonneg (show 0 ≤ d % 1000000000 by omega) m1
      rw [Int.mul_comm m] at p1 p2
      obtain ⟨p11, p12⟩ := p1
      obtain ⟨p21, p22⟩ := p2
      obtain ⟨D1, D2⟩ : y - x - d ≤ d / 1000000000 * m + (d % 1000000000 * m + 999999999) / 1000000000 ∧ d - (y - x) ≤ d / 1000000000 * m + (d % 1000000000 * m + 999999999) / 1000000000 := D
      go_enter Try.func5, Try.ntmps5
      go_wp2_with fail
      refine (C0.out _).mono ?_
      rintro e w0 ⟨rfl, rfl⟩
      go_wp2_with fail
      refine (C1.out _ (Below.refl _ _)).mono ?_
      rintro e w1 ⟨rfl, hb1⟩
      obtain ⟨k0, k1, hb⟩ := K.out _ hb1
      clear hb1
      go_wp2_with fail
      refine (C2.out _ hb).mono ?_
      rintro e w2 ⟨rfl, hb2⟩
      clear k0 k1 hb
      obtain ⟨k0, k1, hb⟩ := K.out _ hb2
      clear hb2
      go_wp2_with fail
      refine (C3.out _ hb).mono ?_
      rintro e w3 ⟨rfl, hb3⟩
      clear k0 k1 hb
      go_wp2_with (go_at_call 13; refine (C5.out _ (by assumption)).mono ?_; rintro e w' ⟨rfl, hb⟩)
      go_ret
      exact ⟨rfl, box_below (by assumption)⟩
    · have ea : rdE ph A P n t = chk ph A P n := by unfold rdE; rw [if_pos hz]
      have eb : rdE ph A P n (t + d) = chk ph A P n := by unfold rdE; rw [if_pos hz]
      rw [ea] at C1
      rw [eb] at C2
      rw [if_neg hz] at C3
      clear ea eb
      generalize rdV ph A P n t = x at *
      generalize rdV ph A P n (t + d) = y at *
      generalize chk ph A P n = c at *
      have hz1 : (c != 0) = true := by simp [hz]
      have hz2 : (c == 0) = false := by simp [hz]
      clear hz
      go_enter Try.func5, Try.ntmps5
      go_wp2_with fail
      refine (C0.out _).mono ?_
      rintro e w0 ⟨rfl, rfl⟩
      go_wp2_with fail
      refine (C1.out _ (Below.refl _ _)).mono ?_
      rintro e w1 ⟨rfl, hb1⟩
      obtain ⟨k0, k1, hb⟩ := K.out _ hb1
      clear hb1
      go_wp2_with fail
      refine (C2.out _ hb).mono ?_
      rintro e w2 ⟨rfl, hb2⟩
      clear k0 k1 hb
      obtain ⟨k0, k1, hb⟩ := K.out _ hb2
      clear hb2
      go_wp2_with fail
      refine (C3.out _ hb).mono ?_
      rintro e w3 ⟨rfl, hb3⟩
      clear k0 k1 hb
      go_wp2_with (go_at_call 13; refine (C5.out _ (by assumption)).mono ?_; rintro e w' ⟨rfl, hb⟩)
      go_ret
      exact ⟨rfl, box_below (by assumption)⟩
  · have hs' : spanB t d = false := by simpa using hs
    rw [hs'] at C0
    clear hs hs' hr hB
    go_enter Try.func5, Try.ntmps5
    go_wp2_with fail
    refine (C0.out _).mono ?_
    rintro e w0 ⟨rfl, rfl⟩
    have hb := Below.refl (w.heap.size + 1) (w.alloc (.cells #[.int .i64 ph, .slice a n cap] 24))
    go_wp2_with (go_at_call 13; refine (C5.out _ (by assumption)).mono ?_; rintro e w' ⟨rfl, hb'⟩)
    go_ret
    exact ⟨rfl, box_below (by assumption)⟩
end Go.Proofs.Ytcfmjoadbamdiaa.OscW
