/- The walk of the law OscSplits where nothing is divided: it returns true. -/
import Derived.Test.YtcfmjoadbamdiaaOscH
import Derived.Test.YtcfmjoadbamdiaaSplitPlain
namespace Go.Proofs.Ytcfmjoadbamdiaa.OscW
open Go.RowKit OscP Aid
set_option maxHeartbeats 1600000 in
theorem Splits_out (ph : Int) (a : Option Addr) (n cap : Nat) (A P : Nat → Int) (at_ t : Int) (w : World) (hr : SegsAt w a n A P) (ho : at_ < 1 ∨ 1125899906842624 < at_) :
    Calls Try.prog 4 #[.agg #[.int .i64 ph, .slice a n cap], .int .i64 at_, .int .i64 t] w fun e w' => e = .returned (.bool true) ∧ Below w.heap.size w w' := by
  have hB : w.heap.size + 1 ≤ (w.alloc (.cells #[.int .i64 ph, .slice a n cap] 24)).heap.size := by simp
  have C5 := hide (based hB fun W _ => awake_any W)
  have hb := Below.refl (w.heap.size + 1) (w.alloc (.cells #[.int .i64 ph, .slice a n cap] 24))
  clear hr hB
  rcases ho with ho | ho
  all_goals
    go_enter Try.func4, Try.ntmps4
    go_wp2_with (go_at_call 13; refine (C5.out _ (by assumption)).mono ?_; rintro e w' ⟨rfl, hb'⟩)
    go_ret
    exact ⟨rfl, box_below (by assumption)⟩
set_option maxHeartbeats 1600000 in
theorem Splits_bad (ph : Int) (a : Option Addr) (n cap : Nat) (A P : Nat → Int) (at_ t : Int) (w : World) (hr : SegsAt w a n A P) (h1 : 1 ≤ at_) (h2 : at_ ≤ 1125899906842624) (hz : chk ph A P n ≠ 0 ∨ 16 ≤ n) :
    Calls Try.prog 4 #[.agg #[.int .i64 ph, .slice a n cap], .int .i64 at_, .int .i64 t] w fun e w' => e = .returned (.bool true) ∧ Below w.heap.size w w' := by
  have hn := hr.1
  have hB : w.heap.size + 1 ≤ (w.alloc (.cells #[.int .i64 ph, .slice a n cap] 24)).heap.size := by simp
  have C5 := hide (based hB fun W _ => awake_any W)
  have C3 := hide (based hB fun W h => Check_any ph a n cap A P W (hr.below (box_below h)))
  have K := hide (box_cells (w := w) (x := .int .i64 ph) (y := .slice a n cap) (T := 24))
  clear hr hB
  by_cases hz1 : chk ph A P n = 0
  · have h16 : 16 ≤ n := by rcases hz with h | h <;> first | exact h | exact absurd hz1 h
    rw [hz1] at C3
    clear hz hz1
    go_enter Try.func4, Try.ntmps4
    go_wp2_with fail
    refine (C3.out _ (Below.refl _ _)).mono ?_
    rintro e w1 ⟨rfl, hb1⟩
    obtain ⟨k0, k1, hb⟩ := K.out _ hb1
    clear hb1
    go_wp2_with (go_at_call 13; refine (C5.out _ (by assumption)).mono ?_; rintro e w' ⟨rfl, hb'⟩)
    go_ret
    exact ⟨rfl, box_below (by assumption)⟩
  · have hz' : (chk ph A P n != 0) = true := by simp [hz1]
    clear hz hz1
    go_enter Try.func4, Try.ntmps4
    go_wp2_with fail
    refine (C3.out _ (Below.refl _ _)).mono ?_
    rintro e w1 ⟨rfl, hb1⟩
    obtain ⟨k0, k1, hb⟩ := K.out _ hb1
    clear hb1
    go_wp2_with (go_at_call 13; refine (C5.out _ (by assumption)).mono ?_; rintro e w' ⟨rfl, hb'⟩)
    go_ret
    exact ⟨rfl, box_below (by assumption)⟩
set_option maxHeartbeats 1600000 in
theorem Splits_at (ph : Int) (a : Option Addr) (n cap : Nat) (A P : Nat → Int) (at_ t : Int) (w : World) (hr : SegsAt w a n A P) (h1 : 1 ≤ at_) (h2 : at_ ≤ 1125899906842624) (hz : chk ph A P n = 0) (hn16 : n < 16)
    (K : Nat) (hK : K < n) (hK2 : ∀ j, j < K → A j < at_) (hK3 : A K = at_) :
    Calls Try.prog 4 #[.agg #[.int .i64 ph, .slice a n cap], .int .i64 at_, .int .i64 t] w fun e w' => e = .returned (.bool true) ∧ Below w.heap.size w w' := by
  have hn := hr.1
  have hB : w.heap.size + 1 ≤ (w.alloc (.cells #[.int .i64 ph, .slice a n cap] 24)).heap.size := by simp
  have C5 := hide (based hB fun W _ => awake_any W)
  have C3 := hide (based hB fun W h => Check_any ph a n cap A P W (hr.below (box_below h)))
  have KK := hide (box_cells (w := w) (x := .int .i64 ph) (y := .slice a n cap) (T := 24))
  have hK0 : ((K : Int) == 0) = false := by
    have a0 := (chk_ok hz).a0
    have : K ≠ 0 := fun h => by subst h; omega
    simp; omega
  obtain ⟨b, off, rfl, hlt, hc⟩ := hr.at_ (by omega)
  rw [hz] at C3
  have HC := hide hc
  have H2 := hide hK2
  have e1 : (A K == at_) = true := by simp [hK3]
  have e2 : ¬ A K < at_ := by omega
  clear hr hB hc hK2 hz hK3
  go_enter Try.func4, Try.ntmps4
  go_wp2_with fail
  refine (C3.out _ (Below.refl _ _)).mono ?_
  rintro e w1 ⟨rfl, hb1⟩
  obtain ⟨k0, k1, hb⟩ := KK.out _ hb1
  clear hb1
  go_wp2
  go_loop [7] (fun i => ∃ k : Nat, k ≤ K ∧ i = .int .i64 k) (fun i => K - (intOf i).toNat)
  case atStart => exact ⟨0, by omega, rfl⟩
  case round =>
    obtain ⟨k, hk, rfl⟩ := hrel
    have hc0 := ((box_below hb).cell (p := ⟨b, off + k * 2, none⟩) hlt).trans (HC.out k (by omega)).1
    by_cases hk2 : k < K
    · have hA := H2.out k hk2
      have hkn : k < n := by omega
      go_wp2
      go_round
      case rel => exact ⟨k + 1, by omega, by go_num⟩
      case measure => simp [intOf]; omega
    · have e : k = K := by omega
      subst e
      go_wp2_with (go_at_call 13; refine (C5.out _ (by assumption)).mono ?_; rintro e w' ⟨rfl, hb'⟩)
      go_ret
      exact ⟨rfl, box_below (by assumption)⟩
end Go.Proofs.Ytcfmjoadbamdiaa.OscW
