/- The contracts of Rate and Bound of package osc and of its reference (layer 9). -/
import Derived.Test.YtcfmjoadbamdiaaOscB
namespace Go.Proofs.Ytcfmjoadbamdiaa.OscW
open Go.RowKit OscP Aid

theorem SegsAt.at_ {w : World} {a : Option Addr} {n : Nat} {A P : Nat → Int} (h : SegsAt w a n A P) (h0 : 0 < n) : ∃ b off, a = some ⟨b, off, none⟩ ∧ b < w.heap.size ∧ ∀ i, i < n → w.cell? ⟨b, off + i * 2, none⟩ = some (.int .i64 (A i)) ∧ w.cell? ⟨b, off + i * 2 + 1, none⟩ = some (.int .i64 (P i)) := h.2 h0

set_option maxHeartbeats 1600000 in
theorem Bound_any (ph : Int) (a : Option Addr) (n cap : Nat) (A P : Nat → Int) (w : World) (hr : SegsAt w a n A P) :
    Calls Try.prog 15 #[.agg #[.int .i64 ph, .slice a n cap]] w fun e w' => e = .returned (.int .i64 (if chk ph A P n = 0 then most P n else 0)) ∧ Below w.heap.size w w' := by
  have hb0 : Below w.heap.size w (w.alloc (.cells #[.int .i64 ph, .slice a n cap] 24)) := (Below.refl _ _).alloc (Nat.le_refl _) _
  have C := Check_any ph a n cap A P _ (hr.below hb0)
  have HC := hide C
  have HR := hide hr
  have HB := hide hb0
  clear C hr hb0
  by_cases hz : chk ph A P n = 0
  · rw [if_pos hz]
    have ok := chk_ok hz
    have hn1 := ok.n1
    have hn16 := ok.n16
    have HO := hide ok
    clear ok
    have HZ := hide hz
    have hz' : (chk ph A P n != 0) = false := by simp [hz]
    clear hz
    obtain ⟨b, off, rfl, hlt, hc⟩ := HR.out.at_ hn1
    have HCC := hide hc
    clear hc
    go_enter Try.func15, Try.ntmps15
    go_wp2_with fail
    refine HC.out.mono ?_
    rintro e w1 ⟨rfl, hb1⟩
    have hs1 : w.heap.size < w1.heap.size := by have := hb1.size; simp at this; omega
    have hbx : w1.cell? ⟨w.heap.size, 1, none⟩ = some (.slice (some ⟨b, off, none⟩) n cap) := (hb1.cell (p := ⟨w.heap.size, 1, none⟩) (by simp)).trans (by simp [go_sem])
    have hbw1 := HB.out.trans (hb1.mono (by simp))
    have HB1 := hide hbw1
    clear hb1 hbw1
    go_wp2
    go_loopw [3, 12] (fun m i wr => ∃ k : Nat, k ≤ n ∧ i = .int .i64 k ∧ m = .int .i64 (most P k) ∧ Below w1.heap.size w1 wr) (fun _ i _ => n - (intOf i).toNat)
    case atStart => exact ⟨0, by omega, rfl, rfl, Below.refl _ _⟩
    case round =>
      obtain ⟨k, hk, rfl, rfl, hb⟩ := hrel
      have hs : w1.heap.size ≤ wr.heap.size := hb.size
      by_cases hlt' : k < n
      · have hbl := Nat.lt_of_lt_of_le hlt (Nat.le_trans (Nat.le_of_lt hs1) hs)
        have hbwr := HB1.out.trans (hb.mono (by omega))
        obtain ⟨c0, c1⟩ := HCC.out k hlt'
        have hc0 := (hbwr.cell (p := ⟨b, off + k * 2, none⟩) hlt).trans c0
        have hc1 := (hbwr.cell (p := ⟨b, off + k * 2 + 1, none⟩) hlt).trans c1
        have hp := HO.out.pin k hlt'
        clear c0 c1 hbwr
        go_wp2
        go_roundw
        case rel => exact ⟨k + 1, by omega, by go_num, by congr 1; show _ = max (max (most P k) (P k)) (-P k); omega, hb.alloc hs _⟩
        case measure => simp [intOf]; omega
      · go_wp2
        go_ret
        have : k = n := by omega
        subst this
        exact ⟨rfl, HB1.out.trans (hb.mono (by omega))⟩
  · rw [if_neg hz]
    have hz' : (chk ph A P n != 0) = true := by simp [hz]
    clear hz
    go_enter Try.func15, Try.ntmps15
    go_wp2_with fail
    refine HC.out.mono ?_
    rintro e w1 ⟨rfl, hb1⟩
    have hbw1 := HB.out.trans (hb1.mono (by simp))
    clear hb1
    go_wp2
    go_ret
    exact ⟨rfl, hbw1⟩
set_option maxHeartbeats 1600000 in
theorem RBound_any (ph : Int) (a : Option Addr) (n cap : Nat) (A P : Nat → Int) (w : World) (hr : SegsAt w a n A P) :
    Calls Try.prog 18 #[.agg #[.int .i64 ph, .slice a n cap]] w fun e w' => e = .returned (.int .i64 (if chk ph A P n = 0 then most P n else 0)) ∧ Below w.heap.size w w' := by
  have hb0 : Below w.heap.size w (w.alloc (.cells #[.int .i64 ph, .slice a n cap] 24)) := (Below.refl _ _).alloc (Nat.le_refl _) _
  have C := RCheck_any ph a n cap A P _ (hr.below hb0)
  have HC := hide C
  have HR := hide hr
  have HB := hide hb0
  clear C hr hb0
  by_cases hz : chk ph A P n = 0
  · rw [if_pos hz]
    have ok := chk_ok hz
    have hn1 := ok.n1
    have hn16 := ok.n16
    have HO := hide ok
    clear ok
    have HZ := hide hz
    have hz' : (chk ph A P n != 0) = false := by simp [hz]
    clear hz
    obtain ⟨b, off, rfl, hlt, hc⟩ := HR.out.at_ hn1
    have HCC := hide hc
    clear hc
    go_enter Try.func18, Try.ntmps18
    go_wp2_with fail
    refine HC.out.mono ?_
    rintro e w1 ⟨rfl, hb1⟩
    have hs1 : w.heap.size < w1.heap.size := by have := hb1.size; simp at this; omega
    have hbx : w1.cell? ⟨w.heap.size, 1, none⟩ = some (.slice (some ⟨b, off, none⟩) n cap) := (hb1.cell (p := ⟨w.heap.size, 1, none⟩) (by simp)).trans (by simp [go_sem])
    have hbw1 := HB.out.trans (hb1.mono (by simp))
    have HB1 := hide hbw1
    clear hb1 hbw1
    go_wp2
    go_loopw [3, 4] (fun m i wr => ∃ k : Nat, k ≤ n ∧ i = .int .i64 k ∧ m = .int .i64 (most P k) ∧ Below w1.heap.size w1 wr) (fun _ i _ => n - (intOf i).toNat)
    case atStart => exact ⟨0, by omega, rfl, rfl, Below.refl _ _⟩
    case round =>
      obtain ⟨k, hk, rfl, rfl, hb⟩ := hrel
      have hs : w1.heap.size ≤ wr.heap.size := hb.size
      by_cases hlt' : k < n
      · have hbl := Nat.lt_of_lt_of_le hlt (Nat.le_trans (Nat.le_of_lt hs1) hs)
        have hbwr := HB1.out.trans (hb.mono (by omega))
        obtain ⟨c0, c1⟩ := HCC.out k hlt'
        have hc0 := (hbwr.cell (p := ⟨b, off + k * 2, none⟩) hlt).trans c0
        have hc1 := (hbwr.cell (p := ⟨b, off + k * 2 + 1, none⟩) hlt).trans c1
        have hp := HO.out.pin k hlt'
        clear c0 c1 hbwr
        have hbx' := (hb.cell (p := ⟨w.heap.size, 1, none⟩) hs1).trans hbx
        go_wp2
        go_quiet (fail)
        go_wp2
        go_roundw
        case rel => exact ⟨k + 1, by omega, by go_num, by congr 1; show _ = max (max (most P k) (P k)) (-P k); omega, below_drewN hb _⟩
        case measure => simp [intOf]; omega
      · have hbx' := (hb.cell (p := ⟨w.heap.size, 1, none⟩) hs1).trans hbx
        go_wp2
        go_ret
        have : k = n := by omega
        subst this
        exact ⟨rfl, HB1.out.trans (hb.mono (by omega))⟩
  · rw [if_neg hz]
    have hz' : (chk ph A P n != 0) = true := by simp [hz]
    clear hz
    go_enter Try.func18, Try.ntmps18
    go_wp2_with fail
    refine HC.out.mono ?_
    rintro e w1 ⟨rfl, hb1⟩
    have hbw1 := HB.out.trans (hb1.mono (by simp))
    clear hb1
    go_wp2
    go_ret
    exact ⟨rfl, hbw1⟩
end Go.Proofs.Ytcfmjoadbamdiaa.OscW
