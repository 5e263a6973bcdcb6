/- The contracts of the reference's segment, Check and floor (layer 9). -/
import Derived.Test.YtcfmjoadbamdiaaOscA
namespace Go.Proofs.Ytcfmjoadbamdiaa.OscW
open Go.RowKit OscP Aid

theorem Rfloor_any (a : Int) (w : World) (ha : -9223372036854775808 ≤ a) (ha2 : a ≤ 9223372036854775807) :
    Calls Try.prog 28 #[.int .i64 a, .int .i64 1000000000] w fun e w' => e = .returned (.int .i64 (a / 1000000000)) ∧ w = w' := by
  rcases Fx.floor_cases a 1000000000 (by omega) with ⟨h1, h2⟩ | ⟨h1, h2⟩ | ⟨h1, h2⟩
  · have hq : -9223372036854775807 ≤ a.tdiv 1000000000 := by have := Fx.tdiv_bd a 1000000000 (by omega) ha ha2; omega
    have hq2 : a.tdiv 1000000000 ≤ 9223372036854775808 := by omega
    have H := Lib.hid h2
    clear h2
    go_enter Try.func28, Try.ntmps28
    go_wp2
    all_goals (go_ret; exact ⟨ret_int (by rw [H.out]), rfl⟩)
  · have H := Lib.hid h2
    have h1' : decide (a.tmod 1000000000 < 0) = false := by simp; omega
    clear h2
    go_enter Try.func28, Try.ntmps28
    go_wp2
    all_goals (go_ret; exact ⟨ret_int (by rw [H.out]), rfl⟩)
  · have H := Lib.hid h2
    clear h2
    go_enter Try.func28, Try.ntmps28
    go_wp2
    all_goals (go_ret; exact ⟨ret_int (by rw [H.out]), rfl⟩)

theorem seg3 {A P : Nat → Int} {k : Nat} (h : A k < 0 ∨ 1125899906842624 < A k ∨ P k < -500000 ∨ 500000 < P k) : 3 = segE A P k := by unfold segE; rw [if_pos h]
theorem seg7 {A P : Nat → Int} {k : Nat} (h : ¬ (A k < 0 ∨ 1125899906842624 < A k ∨ P k < -500000 ∨ 500000 < P k)) (h2 : k = 0 ∧ A k ≠ 0) : 7 = segE A P k := by
  unfold segE; rw [if_neg h, if_pos h2]
theorem seg12 {A P : Nat → Int} {k : Nat} (h : ¬ (A k < 0 ∨ 1125899906842624 < A k ∨ P k < -500000 ∨ 500000 < P k)) (h2 : ¬ (k = 0 ∧ A k ≠ 0)) (h3 : 0 < k ∧ A k ≤ A (k - 1)) : 12 = segE A P k := by
  unfold segE; rw [if_neg h, if_neg h2, if_pos h3]
theorem seg0 {A P : Nat → Int} {k : Nat} (h : ¬ (A k < 0 ∨ 1125899906842624 < A k ∨ P k < -500000 ∨ 500000 < P k)) (h2 : ¬ (k = 0 ∧ A k ≠ 0)) (h3 : ¬ (0 < k ∧ A k ≤ A (k - 1))) : 0 = segE A P k := by
  unfold segE; rw [if_neg h, if_neg h2, if_neg h3]

theorem step_pass {e : Nat → Int} {k : Nat} (h : firstE e k = 0) (he : e k = 0) : firstE e (k + 1) = 0 := by unfold firstE; rw [if_pos h]; exact he

set_option maxHeartbeats 1600000 in
theorem segment_any (ph : Int) (a : Option Addr) (n cap : Nat) (A P : Nat → Int) (k : Nat) (w : World) (hr : SegsAt w a n A P) (hk : k < n) :
    Calls Try.prog 24 #[.agg #[.int .i64 ph, .slice a n cap], .int .i64 k] w fun e w' => e = .returned (.int .i64 (segE A P k)) ∧ Below w.heap.size w w' := by
  obtain ⟨b, off, rfl, hlt, hc⟩ := hr.2 (by omega)
  have hn := hr.1
  have HC := Lib.hid hc
  clear hc hr
  obtain ⟨hc0, hc1⟩ := HC.out k hk
  have hb1 : Below w.heap.size w (w.alloc (.cells #[.int .i64 ph, .slice (some ⟨b, off, none⟩) n cap] 24)) := (Below.refl _ _).alloc (Nat.le_refl _) _
  have hb2 : Below w.heap.size w ((w.alloc (.cells #[.int .i64 ph, .slice (some ⟨b, off, none⟩) n cap] 24)).alloc (.cells #[.int .i64 (A k), .int .i64 (P k)] 32)) := hb1.alloc (by simp) _
  have HB := hide hb2
  clear hb1 hb2
  by_cases hk0 : k = 0
  · subst hk0
    simp only [Nat.zero_mul, Nat.add_zero] at hc0 hc1
    go_enter Try.func24, Try.ntmps24
    go_wp2
    all_goals first
      | (go_ret; exact ⟨ret_int (seg3 (by omega)), HB.out⟩)
      | (go_ret; have hA : (A 0 != 0) = true := by assumption
         exact ⟨ret_int (seg7 (by omega) (by simp at hA; omega)), HB.out⟩)
      | (have hA : (A 0 != 0) = false := by assumption
         go_quiet (fail)
         go_wp2
         go_ret
         exact ⟨ret_int (seg0 (by omega) (by simp at hA; omega) (by omega)), below_drewN HB.out _⟩)
  · have hz1 : ((k : Int) == 0) = false := by simp; omega
    have hz2 : (0 : Int) < (k : Int) := by omega
    have hz3 : 0 < k := by omega
    have hcp := (HC.out (k - 1) (by omega)).1
    have hcp2 : ((w.alloc (.cells #[.int .i64 ph, .slice (some ⟨b, off, none⟩) n cap] 24)).alloc (.cells #[.int .i64 (A k), .int .i64 (P k)] 32)).cell? ⟨b, off + (k - 1) * 2, none⟩ = some (.int .i64 (A (k - 1))) := (HB.out.cell (p := ⟨b, off + (k - 1) * 2, none⟩) hlt).trans hcp
    go_enter Try.func24, Try.ntmps24
    go_wp2
    all_goals first
      | (go_ret; exact ⟨ret_int (seg3 (by omega)), HB.out⟩)
      | (go_quiet (fail)
         go_wp2
         · go_ret
           exact ⟨ret_int (seg12 (by omega) (by omega) (by omega)), below_drewN HB.out _⟩
         · go_ret
           exact ⟨ret_int (seg0 (by omega) (by omega) (by omega)), below_drewN HB.out _⟩)

set_option maxHeartbeats 1600000 in
theorem RCheck_loop (ph : Int) (a : Option Addr) (n cap : Nat) (A P : Nat → Int) (w : World) (hr : SegsAt w a n A P) (h1 : 0 < n) (h16 : n ≤ 16) (hp : -1125899906842624 ≤ ph) (hp2 : ph ≤ 1125899906842624) :
    Calls Try.prog 12 #[.agg #[.int .i64 ph, .slice a n cap]] w fun e w' => e = .returned (.int .i64 (firstE (segE A P) n)) ∧ Below w.heap.size w w' := by
  have HR := hide hr
  clear hr
  go_enter Try.func12, Try.ntmps12
  go_wp2
  go_loopw [3] (fun i wr => ∃ k : Nat, k ≤ n ∧ i = .int .i64 k ∧ firstE (segE A P) k = 0 ∧ Below (w.heap.size + 1) (w.alloc (.cells #[.int .i64 ph, .slice a n cap] 24)) wr) (fun i _ => n - (intOf i).toNat)
  case atStart => exact ⟨0, by omega, rfl, rfl, Below.refl _ _⟩
  case round =>
    obtain ⟨k, hk, rfl, hf, hb⟩ := hrel
    have HF := hide hf
    clear hf
    have hs : w.heap.size < wr.heap.size := by have := hb.size; simp at this; omega
    have hbx0 : wr.cell? ⟨w.heap.size, 0, none⟩ = some (.int .i64 ph) := (hb.cell (p := ⟨w.heap.size, 0, none⟩) (by simp)).trans (by simp [go_sem])
    have hbx : wr.cell? ⟨w.heap.size, 1, none⟩ = some (.slice a n cap) := (hb.cell (p := ⟨w.heap.size, 1, none⟩) (by simp)).trans (by simp [go_sem])
    have hbw : Below w.heap.size w wr := ((Below.refl _ _).alloc (Nat.le_refl _) _).trans (hb.mono (by omega))
    by_cases hlt' : k < n
    · have C := segment_any ph a n cap A P k wr (HR.out.below hbw) hlt'
      have HC := hide C
      clear C
      by_cases hz : segE A P k = 0
      · have HZ := hide hz
        have hz' : (segE A P k != 0) = false := by simp [hz]
        clear hz
        go_wp2_with (go_at_call 24; refine HC.out.mono ?_; rintro e w' ⟨rfl, hb'⟩)
        go_roundw
        case rel => exact ⟨k + 1, by omega, by go_num, step_pass HF.out HZ.out, hb.trans (Below.mono (by assumption : Below wr.heap.size wr _) (by omega))⟩
        case measure => simp [intOf]; omega
      · have hz' : (segE A P k != 0) = true := by simp [hz]
        have HZ := hide hz
        clear hz
        go_wp2_with (go_at_call 24; refine HC.out.mono ?_; rintro e w' ⟨rfl, hb'⟩)
        go_ret
        exact ⟨ret_int (firstE_hit HF.out hlt' HZ.out).symm, hbw.trans (Below.mono (by assumption : Below wr.heap.size wr _) (by omega))⟩
    · go_wp2
      go_ret
      have : k = n := by omega
      rw [this] at HF
      exact ⟨ret_int HF.out.symm, hbw⟩
theorem RCheck_short (ph : Int) (a : Option Addr) (cap : Nat) (A P : Nat → Int) (w : World) :
    Calls Try.prog 12 #[.agg #[.int .i64 ph, .slice a 0 cap]] w fun e w' => e = .returned (.int .i64 (chk ph A P 0)) ∧ Below w.heap.size w w' := by
  go_enter Try.func12, Try.ntmps12
  go_wp2
  go_ret
  exact ⟨rfl, (Below.refl _ _).alloc (Nat.le_refl _) _⟩
theorem RCheck_long (ph : Int) (a : Option Addr) (n cap : Nat) (A P : Nat → Int) (w : World) (hn : 16 < n) (hn2 : n ≤ 9223372036854775807) :
    Calls Try.prog 12 #[.agg #[.int .i64 ph, .slice a n cap]] w fun e w' => e = .returned (.int .i64 (chk ph A P n)) ∧ Below w.heap.size w w' := by
  have hfin : chk ph A P n = 6 := by unfold chk; rw [if_neg (by omega), if_pos hn]
  rw [hfin]
  go_enter Try.func12, Try.ntmps12
  go_wp2
  go_ret
  exact ⟨rfl, (Below.refl _ _).alloc (Nat.le_refl _) _⟩
theorem RCheck_far (ph : Int) (a : Option Addr) (n cap : Nat) (A P : Nat → Int) (w : World) (h1 : 0 < n) (h16 : n ≤ 16) (hp : ph < -1125899906842624 ∨ 1125899906842624 < ph) :
    Calls Try.prog 12 #[.agg #[.int .i64 ph, .slice a n cap]] w fun e w' => e = .returned (.int .i64 (chk ph A P n)) ∧ Below w.heap.size w w' := by
  have hfin : chk ph A P n = 3 := by unfold chk; rw [if_neg (by omega), if_neg (by omega), if_pos hp]
  rw [hfin]
  go_enter Try.func12, Try.ntmps12
  rcases hp with hp | hp
  all_goals
    go_wp2
    go_ret
    exact ⟨rfl, (Below.refl _ _).alloc (Nat.le_refl _) _⟩
theorem Check_far (ph : Int) (a : Option Addr) (n cap : Nat) (A P : Nat → Int) (w : World) (h1 : 0 < n) (h16 : n ≤ 16) (hp : ph < -1125899906842624 ∨ 1125899906842624 < ph) :
    Calls Try.prog 11 #[.agg #[.int .i64 ph, .slice a n cap]] w fun e w' => e = .returned (.int .i64 (chk ph A P n)) ∧ Below w.heap.size w w' := by
  have hfin : chk ph A P n = 3 := by unfold chk; rw [if_neg (by omega), if_neg (by omega), if_pos hp]
  rw [hfin]
  go_enter Try.func11, Try.ntmps11
  rcases hp with hp | hp
  all_goals
    go_wp2
    go_ret
    exact ⟨rfl, (Below.refl _ _).alloc (Nat.le_refl _) _⟩

theorem Check_any (ph : Int) (a : Option Addr) (n cap : Nat) (A P : Nat → Int) (w : World) (hr : SegsAt w a n A P) :
    Calls Try.prog 11 #[.agg #[.int .i64 ph, .slice a n cap]] w fun e w' => e = .returned (.int .i64 (chk ph A P n)) ∧ Below w.heap.size w w' := by
  by_cases h0 : n = 0
  · subst h0; exact Check_short ph a cap A P w
  by_cases h1 : 16 < n
  · exact Check_long ph a n cap A P w h1 hr.1
  by_cases h2 : ph < -1125899906842624 ∨ 1125899906842624 < ph
  · exact Check_far ph a n cap A P w (by omega) (by omega) h2
  · have : chk ph A P n = firstE (segE A P) n := by unfold chk; rw [if_neg h0, if_neg h1, if_neg h2]
    rw [this]
    exact Check_loop ph a n cap A P w hr (by omega) (by omega) (by omega) (by omega)
theorem RCheck_any (ph : Int) (a : Option Addr) (n cap : Nat) (A P : Nat → Int) (w : World) (hr : SegsAt w a n A P) :
    Calls Try.prog 12 #[.agg #[.int .i64 ph, .slice a n cap]] w fun e w' => e = .returned (.int .i64 (chk ph A P n)) ∧ Below w.heap.size w w' := by
  by_cases h0 : n = 0
  · subst h0; exact RCheck_short ph a cap A P w
  by_cases h1 : 16 < n
  · exact RCheck_long ph a n cap A P w h1 hr.1
  by_cases h2 : ph < -1125899906842624 ∨ 1125899906842624 < ph
  · exact RCheck_far ph a n cap A P w (by omega) (by omega) h2
  · have : chk ph A P n = firstE (segE A P) n := by unfold chk; rw [if_neg h0, if_neg h1, if_neg h2]
    rw [this]
    exact RCheck_loop ph a n cap A P w hr (by omega) (by omega) (by omega) (by omega)
end Go.Proofs.Ytcfmjoadbamdiaa.OscW
