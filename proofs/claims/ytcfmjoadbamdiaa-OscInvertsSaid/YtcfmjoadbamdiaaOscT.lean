/- The contract of the reference's When (layer 9). -/
import Derived.Test.YtcfmjoadbamdiaaOscS
namespace Go.Proofs.Ytcfmjoadbamdiaa.OscW
open Go.RowKit OscP Aid
set_option maxHeartbeats 1600000 in
theorem RWhen_any (ph : Int) (a : Option Addr) (n cap : Nat) (A P : Nat → Int) (x r : Int) (w : World) (hr : SegsAt w a n A P) (hf : chk ph A P n = 0 → First ph A P n x r) :
    Calls Try.prog 20 #[.agg #[.int .i64 ph, .slice a n cap], .int .i64 x] w fun e w' => e = .returned (.tuple #[.int .i64 (whV (chk ph A P n) r), .int .i64 (whE (chk ph A P n) r)]) ∧ Below w.heap.size w w' := by
  have hB : w.heap.size + 1 ≤ (w.alloc (.cells #[.int .i64 ph, .slice a n cap] 24)).heap.size := by simp
  have C4 := hide (based hB fun W h => RCheck_any ph a n cap A P W (hr.below (box_below h)))
  have K := hide (box_cells (w := w) (x := .int .i64 ph) (y := .slice a n cap) (T := 24))
  by_cases hz : chk ph A P n = 0
  · have ok := chk_ok hz
    obtain ⟨F0, F1, F2⟩ := hf hz
    have CR := hide fun (i : Int) (hi : 0 ≤ i ∧ i ≤ 1125899906842624) => based hB fun W h => Rread_any ph a n cap A P i W (hr.below (box_below h)) ok hi
    rw [hz] at C4 ⊢
    clear hz hf hr hB
    have HF2 := hide F2
    clear F2
    by_cases hl : 1125899906842624 < r
    · have ev : whV 0 r = 0 := by unfold whV; rw [if_neg (by omega), if_pos hl]
      have ee : whE 0 r = 11 := by unfold whE; rw [if_neg (by omega), if_pos hl]
      have hlt : rd ph A P n 1125899906842624 < x := by
        have := HF2.out 1125899906842624 (by omega) (by omega)
        omega
      rw [ev, ee]
      clear ev ee
      have CR1 := hide (CR.out 1125899906842624 ⟨by omega, by omega⟩)
      generalize rd ph A P n 1125899906842624 = y at CR1 hlt
      go_enter Try.func20, Try.ntmps20
      go_wp2_with fail
      refine (C4.out _ (Below.refl _ _)).mono ?_
      rintro e w1 ⟨rfl, hb1⟩
      obtain ⟨k0, k1, hb⟩ := K.out _ hb1
      clear hb1
      go_wp2_with fail
      refine (CR1.out _ hb).mono ?_
      rintro e w2 ⟨rfl, hb2⟩
      clear k0 k1 hb
      go_wp2
      go_ret2
      exact ⟨rfl, box_below (by assumption)⟩
    · have ev : whV 0 r = r := by unfold whV; rw [if_neg (by omega), if_neg hl]
      have ee : whE 0 r = 0 := by unfold whE; rw [if_neg (by omega), if_neg hl]
      have hlt : x ≤ rd ph A P n 1125899906842624 := by
        have := HF2.out 1125899906842624 (by omega) (by omega)
        omega
      rw [ev, ee]
      clear ev ee
      have CR1 := hide (CR.out 1125899906842624 ⟨by omega, by omega⟩)
      generalize rd ph A P n 1125899906842624 = y at CR1 hlt
      go_enter Try.func20, Try.ntmps20
      go_wp2_with fail
      refine (C4.out _ (Below.refl _ _)).mono ?_
      rintro e w1 ⟨rfl, hb1⟩
      obtain ⟨k0, k1, hb⟩ := K.out _ hb1
      clear hb1
      go_wp2_with fail
      refine (CR1.out _ hb).mono ?_
      rintro e w2 ⟨rfl, hb2⟩
      clear k0 k1 hb
      go_wp2
      go_loopw [7, 8] (fun i j wr => ∃ lo hi : Int, 0 ≤ lo ∧ lo ≤ r ∧ r ≤ hi ∧ hi ≤ 1125899906842624 ∧ i = .int .i64 lo ∧ j = .int .i64 hi ∧ Below (w.heap.size + 1) (w.alloc (.cells #[.int .i64 ph, .slice a n cap] 24)) wr) (fun i j _ => (intOf j - intOf i).toNat)
      case atStart => exact ⟨0, 1125899906842624, by omega, by omega, by omega, by omega, rfl, rfl, hb2⟩
      case round =>
        obtain ⟨lo, hi, h0, h1, h2, h3, rfl, rfl, hb⟩ := hrel
        obtain ⟨k0, k1, _⟩ := K.out _ hb
        have HBr := hide hb
        clear hb hb2
        by_cases hlt2 : lo < hi
        · have C := CR.out ((lo + hi) / 2) (by omega) _ HBr.out
          have F := HF2.out ((lo + hi) / 2) (by omega) (by omega)
          generalize rd ph A P n ((lo + hi) / 2) = z at C F
          have HC := hide C
          clear C
          by_cases hm : r ≤ (lo + hi) / 2
          · have hz : x ≤ z := F.2 hm
            clear F
            go_wp2_with (go_at_call 23; refine HC.out.mono ?_; rintro e w' ⟨rfl, hI'⟩; have HI' := hide hI'; clear hI')
            go_roundw
            case rel => exact ⟨lo, (lo + hi) / 2, by omega, by omega, by omega, by omega, rfl, rfl, Hid.out (by assumption)⟩
            case measure => simp [intOf]; omega
          · have hz : ¬ x ≤ z := fun h => hm (F.1 h)
            clear F
            go_wp2_with (go_at_call 23; refine HC.out.mono ?_; rintro e w' ⟨rfl, hI'⟩; have HI' := hide hI'; clear hI')
            go_roundw
            case rel => exact ⟨(lo + hi) / 2 + 1, hi, by omega, by omega, by omega, by omega, rfl, rfl, Hid.out (by assumption)⟩
            case measure => simp [intOf]; omega
        · have e : lo = r := by omega
          have E := hide e
          clear e
          go_wp2
          go_ret2
          exact ⟨by rw [← E.out]; rfl, box_below HBr.out⟩
  · have ev : whV (chk ph A P n) r = 0 := by unfold whV; rw [if_pos hz]
    have ee : whE (chk ph A P n) r = chk ph A P n := by unfold whE; rw [if_pos hz]
    rw [ev, ee]
    have hz' : (chk ph A P n != 0) = true := by simp [hz]
    clear hz ev ee hf hr hB
    go_enter Try.func20, Try.ntmps20
    go_wp2_with fail
    refine (C4.out _ (Below.refl _ _)).mono ?_
    rintro e w1 ⟨rfl, hb1⟩
    go_wp2
    go_ret2
    exact ⟨rfl, box_below hb1⟩
end Go.Proofs.Ytcfmjoadbamdiaa.OscW
