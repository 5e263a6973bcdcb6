/- The walk of the law OscRises: for every oscillator, time and duration the law returns true. -/
import Derived.Test.YtcfmjoadbamdiaaOscInverts
namespace Go.Proofs.Ytcfmjoadbamdiaa.OscW
open Go.RowKit OscP Aid
set_option maxHeartbeats 3200000 in
theorem OscRises_walk (ph : Int) (a : Option Addr) (n cap : Nat) (A P : Nat → Int) (t d : Int) (w : World) (hr : SegsAt w a n A P) :
    Calls Try.prog 8 #[.agg #[.int .i64 ph, .slice a n cap], .int .i64 t, .int .i64 d] w fun e w' => e = .returned (.bool true) ∧ Below w.heap.size w w' := by
  have hB : w.heap.size + 1 ≤ (w.alloc (.cells #[.int .i64 ph, .slice a n cap] 24)).heap.size := by simp
  have C0 := hide (fun W => span_any t d W)
  have C5 := hide (based hB fun W _ => awake_any W)
  by_cases hs : spanB t d = true
  · have hs' := hs
    unfold spanB at hs'
    simp only [decide_eq_true_eq] at hs'
    obtain ⟨t1, t2, d1, d2⟩ := hs'
    rw [hs] at C0
    clear hs
    have C1 := hide (based hB fun W h => Read_any ph a n cap A P t W (hr.below (box_below h)))
    have C2 := hide (based hB fun W h => Read_any ph a n cap A P (t + d) W (hr.below (box_below h)))
    have K := hide (box_cells (w := w) (x := .int .i64 ph) (y := .slice a n cap) (T := 24))
    by_cases hz : chk ph A P n = 0
    · have ok := chk_ok hz
      have ea : rdE ph A P n t = 0 := by unfold rdE; rw [if_neg (by omega), if_neg (by omega)]
      have eb : rdE ph A P n (t + d) = 0 := by unfold rdE; rw [if_neg (by omega), if_neg (by omega)]
      have va : rdV ph A P n t = rd ph A P n t := by unfold rdV; rw [if_neg (by omega), if_neg (by omega)]
      have vb : rdV ph A P n (t + d) = rd ph A P n (t + d) := by unfold rdV; rw [if_neg (by omega), if_neg (by omega)]
      rw [ea, va] at C1
      rw [eb, vb] at C2
      obtain ⟨r, hf⟩ := first_ex ok (rd ph A P n (t + d))
      have C3 := hide (based hB fun W h => When_any ph a n cap A P (rd ph A P n (t + d)) r W (hr.below (box_below h)) (fun _ => hf))
      have hm := rd_mono ok t1 (show t ≤ t + d by omega)
      obtain ⟨r0, r1, hf2⟩ := hf
      have h1 := hf2 (t + d) (by omega) (by omega)
      have h2 := hf2 t (by omega) (by omega)
      have hwe : whE (chk ph A P n) r = 0 := by unfold whE; rw [if_neg (by omega), if_neg (by omega)]
      have hwv : whV (chk ph A P n) r = r := by unfold whV; rw [if_neg (by omega), if_neg (by omega)]
      rw [hwe, hwv] at C3
      clear ea eb va vb hz ok hf2 hwe hwv hr hB
      have hrt : r ≤ t + d := by omega
      generalize rd ph A P n t = x at *
      generalize rd ph A P n (t + d) = y at *
      rcases Bool.eq_false_or_eq_true (x == y) with he | he
      · clear h1 h2
        go_enter Try.func8, Try.ntmps8
        go_wp2_with fail
        refine (C0.out _).mono ?_
        rintro e w0 ⟨rfl, rfl⟩
        go_wp2_with fail
        refine (C1.out _ (Below.refl _ _)).mono ?_
        rintro e w1 ⟨rfl, hb1⟩
        obtain ⟨k0, k1, hb⟩ := K.out _ hb1
        clear hb1
        go_wp2_with fail
        refine (C2.out _ hb).mono ?_
        rintro e w2 ⟨rfl, hb2⟩
        clear k0 k1 hb
        obtain ⟨k0, k1, hb⟩ := K.out _ hb2
        clear hb2
        go_wp2_with fail
        refine (C3.out _ hb).mono ?_
        rintro e w3 ⟨rfl, hb3⟩
        clear k0 k1 hb
        go_wp2_with (go_at_call 13; refine (C5.out _ (by assumption)).mono ?_; rintro e w' ⟨rfl, hb⟩)
        go_ret
        exact ⟨rfl, box_below (by assumption)⟩
      · have hne : x ≠ y := by simpa using he
        have hlt : t < r := by omega
        clear h1 h2 hne
        go_enter Try.func8, Try.ntmps8
        go_wp2_with fail
        refine (C0.out _).mono ?_
        rintro e w0 ⟨rfl, rfl⟩
        go_wp2_with fail
        refine (C1.out _ (Below.refl _ _)).mono ?_
        rintro e w1 ⟨rfl, hb1⟩
        obtain ⟨k0, k1, hb⟩ := K.out _ hb1
        clear hb1
        go_wp2_with fail
        refine (C2.out _ hb).mono ?_
        rintro e w2 ⟨rfl, hb2⟩
        clear k0 k1 hb
        obtain ⟨k0, k1, hb⟩ := K.out _ hb2
        clear hb2
        go_wp2_with fail
        refine (C3.out _ hb).mono ?_
        rintro e w3 ⟨rfl, hb3⟩
        clear k0 k1 hb
        go_wp2_with (go_at_call 13; refine (C5.out _ (by assumption)).mono ?_; rintro e w' ⟨rfl, hb⟩)
        go_ret
        exact ⟨rfl, box_below (by assumption)⟩
    · have ea : rdE ph A P n t = chk ph A P n := by unfold rdE; rw [if_pos hz]
      have eb : rdE ph A P n (t + d) = chk ph A P n := by unfold rdE; rw [if_pos hz]
      rw [ea] at C1
      rw [eb] at C2
      clear ea eb hr hB
      generalize rdV ph A P n t = x at *
      generalize rdV ph A P n (t + d) = y at *
      generalize chk ph A P n = c at *
      have hz1 : (c != 0) = true := by simp [hz]
      have hz2 : (c == 0) = false := by simp [hz]
      clear hz
      go_enter Try.func8, Try.ntmps8
      go_wp2_with fail
      refine (C0.out _).mono ?_
      rintro e w0 ⟨rfl, rfl⟩
      go_wp2_with fail
      refine (C1.out _ (Below.refl _ _)).mono ?_
      rintro e w1 ⟨rfl, hb1⟩
      obtain ⟨k0, k1, hb⟩ := K.out _ hb1
      clear hb1
      go_wp2_with fail
      refine (C2.out _ hb).mono ?_
      rintro e w2 ⟨rfl, hb2⟩
      clear k0 k1 hb
      go_wp2_with (go_at_call 13; refine (C5.out _ (by assumption)).mono ?_; rintro e w' ⟨rfl, hb⟩)
      go_ret
      exact ⟨rfl, box_below (by assumption)⟩
  · have hs' : spanB t d = false := by simpa using hs
    rw [hs'] at C0
    clear hs hs' hr hB
    go_enter Try.func8, Try.ntmps8
    go_wp2_with fail
    refine (C0.out _).mono ?_
    rintro e w0 ⟨rfl, rfl⟩
    have hb := Below.refl (w.heap.size + 1) (w.alloc (.cells #[.int .i64 ph, .slice a n cap] 24))
    go_wp2_with (go_at_call 13; refine (C5.out _ (by assumption)).mono ?_; rintro e w' ⟨rfl, hb'⟩)
    go_ret
    exact ⟨rfl, box_below (by assumption)⟩
end Go.Proofs.Ytcfmjoadbamdiaa.OscW
