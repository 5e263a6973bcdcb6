/- The contracts of Rate of package osc and of its reference (layer 9). -/
import Derived.Test.YtcfmjoadbamdiaaOscC
namespace Go.Proofs.Ytcfmjoadbamdiaa.OscW
open Go.RowKit OscP Aid

theorem rate_yes {A P : Nat → Int} {t : Int} {k : Nat} (h : A k ≤ t) : Value.int .i64 (P k) = .int .i64 (rate A P t (k + 1)) := by
  have : rate A P t (k + 1) = P k := by show (if A k ≤ t then P k else rate A P t k) = _; rw [if_pos h]
  rw [this]
theorem rate_no {A P : Nat → Int} {t : Int} {k : Nat} (h : ¬ A k ≤ t) : Value.int .i64 (rate A P t k) = .int .i64 (rate A P t (k + 1)) := by
  have : rate A P t (k + 1) = rate A P t k := by show (if A k ≤ t then P k else rate A P t k) = _; rw [if_neg h]
  rw [this]
theorem rate_one {A P : Nat → Int} {t : Int} : rate A P t 1 = P 0 := by
  show (if A 0 ≤ t then P 0 else rate A P t 0) = _
  split <;> rfl

set_option maxHeartbeats 1600000 in
theorem Rate_any (ph : Int) (a : Option Addr) (n cap : Nat) (A P : Nat → Int) (t : Int) (w : World) (hr : SegsAt w a n A P) :
    Calls Try.prog 16 #[.agg #[.int .i64 ph, .slice a n cap], .int .i64 t] w fun e w' => e = .returned (.int .i64 (if chk ph A P n = 0 then rate A P t n else 0)) ∧ Below w.heap.size w w' := by
  have hb0 : Below w.heap.size w (w.alloc (.cells #[.int .i64 ph, .slice a n cap] 24)) := (Below.refl _ _).alloc (Nat.le_refl _) _
  have C := Check_any ph a n cap A P _ (hr.below hb0)
  have HC := hide C
  have HR := hide hr
  have HB := hide hb0
  clear C hr hb0
  by_cases hz : chk ph A P n = 0
  · rw [if_pos hz]
    have ok := chk_ok hz
    have hn1 := ok.n1
    have hn16 := ok.n16
    clear ok
    have HZ := hide hz
    have hz' : (chk ph A P n != 0) = false := by simp [hz]
    clear hz
    obtain ⟨b, off, rfl, hlt, hc⟩ := HR.out.at_ hn1
    have HCC := hide hc
    clear hc
    go_enter Try.func16, Try.ntmps16
    go_wp2_with fail
    refine HC.out.mono ?_
    rintro e w1 ⟨rfl, hb1⟩
    have hs1 : w.heap.size < w1.heap.size := by have := hb1.size; simp at this; omega
    have hbx : w1.cell? ⟨w.heap.size, 1, none⟩ = some (.slice (some ⟨b, off, none⟩) n cap) := (hb1.cell (p := ⟨w.heap.size, 1, none⟩) (by simp)).trans (by simp [go_sem])
    have hbw1 := HB.out.trans (hb1.mono (by simp))
    have HB1 := hide hbw1
    have hc01 : w1.cell? ⟨b, off + 1, none⟩ = some (.int .i64 (P 0)) := (hbw1.cell (p := ⟨b, off + 1, none⟩) hlt).trans (by simpa using (HCC.out 0 hn1).2)
    clear hb1 hbw1
    go_wp2
    go_loopw [5, 19] (fun m i wr => ∃ k : Nat, k ≤ n ∧ i = .int .i64 k ∧ m = .int .i64 (rate A P t k) ∧ Below w1.heap.size w1 wr) (fun _ i _ => n - (intOf i).toNat)
    case atStart => exact ⟨0, by omega, rfl, rfl, Below.refl _ _⟩
    case round =>
      obtain ⟨k, hk, rfl, rfl, hb⟩ := hrel
      have hs : w1.heap.size ≤ wr.heap.size := hb.size
      by_cases hlt' : k < n
      · have hbl := Nat.lt_of_lt_of_le hlt (Nat.le_trans (Nat.le_of_lt hs1) hs)
        have hbwr := HB1.out.trans (hb.mono (by omega))
        obtain ⟨c0, c1⟩ := HCC.out k hlt'
        have hc0 := (hbwr.cell (p := ⟨b, off + k * 2, none⟩) hlt).trans c0
        have hc1 := (hbwr.cell (p := ⟨b, off + k * 2 + 1, none⟩) hlt).trans c1
        clear c0 c1 hbwr
        by_cases hA : A k ≤ t
        · go_wp2
          go_roundw
          case rel => exact ⟨k + 1, by omega, by go_num, rate_yes hA, hb.alloc hs _⟩
          case measure => simp [intOf]; omega
        · go_wp2
          go_roundw
          case rel => exact ⟨k + 1, by omega, by go_num, rate_no hA, hb.alloc hs _⟩
          case measure => simp [intOf]; omega
      · go_wp2
        go_ret
        have : k = n := by omega
        subst this
        exact ⟨rfl, HB1.out.trans (hb.mono (by omega))⟩
  · rw [if_neg hz]
    have hz' : (chk ph A P n != 0) = true := by simp [hz]
    clear hz
    go_enter Try.func16, Try.ntmps16
    go_wp2_with fail
    refine HC.out.mono ?_
    rintro e w1 ⟨rfl, hb1⟩
    have hbw1 := HB.out.trans (hb1.mono (by simp))
    clear hb1
    go_wp2
    go_ret
    exact ⟨rfl, hbw1⟩

set_option maxHeartbeats 1600000 in
theorem RRate_any (ph : Int) (a : Option Addr) (n cap : Nat) (A P : Nat → Int) (t : Int) (w : World) (hr : SegsAt w a n A P) :
    Calls Try.prog 17 #[.agg #[.int .i64 ph, .slice a n cap], .int .i64 t] w fun e w' => e = .returned (.int .i64 (if chk ph A P n = 0 then rate A P t n else 0)) ∧ Below w.heap.size w w' := by
  have hb0 : Below w.heap.size w (w.alloc (.cells #[.int .i64 ph, .slice a n cap] 24)) := (Below.refl _ _).alloc (Nat.le_refl _) _
  have C := RCheck_any ph a n cap A P _ (hr.below hb0)
  have HC := hide C
  have HR := hide hr
  have HB := hide hb0
  clear C hr hb0
  by_cases hz : chk ph A P n = 0
  · rw [if_pos hz]
    have ok := chk_ok hz
    have hn1 := ok.n1
    have hn16 := ok.n16
    clear ok
    have HZ := hide hz
    have hz' : (chk ph A P n != 0) = false := by simp [hz]
    clear hz
    obtain ⟨b, off, rfl, hlt, hc⟩ := HR.out.at_ hn1
    have HCC := hide hc
    clear hc
    go_enter Try.func17, Try.ntmps17
    go_wp2_with fail
    refine HC.out.mono ?_
    rintro e w1 ⟨rfl, hb1⟩
    have hs1 : w.heap.size < w1.heap.size := by have := hb1.size; simp at this; omega
    have hbx : w1.cell? ⟨w.heap.size, 1, none⟩ = some (.slice (some ⟨b, off, none⟩) n cap) := (hb1.cell (p := ⟨w.heap.size, 1, none⟩) (by simp)).trans (by simp [go_sem])
    have hbw1 := HB.out.trans (hb1.mono (by simp))
    have HB1 := hide hbw1
    have hc01 : w1.cell? ⟨b, off + 1, none⟩ = some (.int .i64 (P 0)) := (hbw1.cell (p := ⟨b, off + 1, none⟩) hlt).trans (by simpa using (HCC.out 0 hn1).2)
    clear hb1 hbw1
    go_wp2
    go_loopw [5, 6] (fun m i wr => ∃ k : Nat, k ≤ n ∧ i = .int .i64 k ∧ m = .int .i64 (rate A P t k) ∧ w1 = wr) (fun _ i _ => n - (intOf i).toNat)
    case atStart => exact ⟨1, by omega, rfl, by rw [rate_one], rfl⟩
    case round =>
      obtain ⟨k, hk, rfl, rfl, rfl⟩ := hrel
      by_cases hlt' : k < n
      · have hbl := Nat.lt_trans hlt hs1
        have hbwr := HB1.out
        obtain ⟨c0, c1⟩ := HCC.out k hlt'
        have hc0 := (hbwr.cell (p := ⟨b, off + k * 2, none⟩) hlt).trans c0
        have hc1 := (hbwr.cell (p := ⟨b, off + k * 2 + 1, none⟩) hlt).trans c1
        clear c0 c1 hbwr
        by_cases hA : A k ≤ t
        · go_wp2
          go_roundw
          case rel => exact ⟨k + 1, by omega, by go_num, rate_yes hA, trivial⟩
          case measure => simp [intOf]; omega
        · go_wp2
          go_roundw
          case rel => exact ⟨k + 1, by omega, by go_num, rate_no hA, trivial⟩
          case measure => simp [intOf]; omega
      · go_wp2
        go_ret
        have : k = n := by omega
        subst this
        exact ⟨rfl, HB1.out⟩
  · rw [if_neg hz]
    have hz' : (chk ph A P n != 0) = true := by simp [hz]
    clear hz
    go_enter Try.func17, Try.ntmps17
    go_wp2_with fail
    refine HC.out.mono ?_
    rintro e w1 ⟨rfl, hb1⟩
    have hbw1 := HB.out.trans (hb1.mono (by simp))
    clear hb1
    go_wp2
    go_ret
    exact ⟨rfl, hbw1⟩
end Go.Proofs.Ytcfmjoadbamdiaa.OscW
