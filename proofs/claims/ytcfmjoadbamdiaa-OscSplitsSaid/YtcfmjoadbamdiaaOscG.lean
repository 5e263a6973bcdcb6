/- The contract of the reference's read (layer 9). -/
import Derived.Test.YtcfmjoadbamdiaaOscE
namespace Go.Proofs.Ytcfmjoadbamdiaa.OscW
open Go.RowKit OscP Aid

theorem dd_ref_in {A : Nat → Int} {n k : Nat} {t : Int} (h : k + 1 < n) (h2 : A (k + 1) < t) : dd A n t k = max 0 (A (k + 1) - A k) := by
  unfold dd; rw [if_pos h]; omega
theorem dd_ref_out {A : Nat → Int} {n k : Nat} {t : Int} (h : ¬ (k + 1 < n ∧ A (k + 1) < t)) : dd A n t k = max 0 (t - A k) := by
  unfold dd; split <;> omega
theorem stepw0 {A P : Nat → Int} {n k : Nat} {t : Int} (h : dd A n t k = 0) : Value.int .i64 (sumTo (wholeT A P n t) k) = .int .i64 (sumTo (wholeT A P n t) (k + 1)) := by
  have : sumTo (wholeT A P n t) (k + 1) = sumTo (wholeT A P n t) k := by rw [sumTo_succ]; unfold wholeT; rw [h]; simp
  rw [this]
theorem stepr0 {A P : Nat → Int} {n k : Nat} {t : Int} (h : dd A n t k = 0) : Value.int .i64 (sumTo (restT A P n t) k) = .int .i64 (sumTo (restT A P n t) (k + 1)) := by
  have : sumTo (restT A P n t) (k + 1) = sumTo (restT A P n t) k := by rw [sumTo_succ]; unfold restT; rw [h]; simp
  rw [this]
theorem stepw {A P : Nat → Int} {n k : Nat} {t D : Int} (h : dd A n t k = max 0 D) (hD : 0 < D ∧ D ≤ 1125899906842624) (hS : -9008000000000 ≤ sumTo (wholeT A P n t) k ∧ sumTo (wholeT A P n t) k ≤ 9008000000000) (hp : -500000 ≤ P k ∧ P k ≤ 500000) :
    Value.int .i64 (wrap64 (sumTo (wholeT A P n t) k + wrap64 (D / 1000000000 * P k))) = .int .i64 (sumTo (wholeT A P n t) (k + 1)) := by
  have h1 : dd A n t k = D := by omega
  have := mul_bd (b := 1126000) hp (show 0 ≤ D / 1000000000 ∧ D / 1000000000 ≤ 1126000 by omega)
  rw [sumTo_succ, Int.mul_comm (D / 1000000000), IntWalk.wrap64_in (P k * (D / 1000000000)) (by omega), IntWalk.wrap64_in _ (by omega)]
  unfold wholeT
  rw [h1]; rfl
theorem stepr {A P : Nat → Int} {n k : Nat} {t D : Int} (h : dd A n t k = max 0 D) (hD : 0 < D ∧ D ≤ 1125899906842624) (hS : -8000000000000000 ≤ sumTo (restT A P n t) k ∧ sumTo (restT A P n t) k ≤ 8000000000000000) (hp : -500000 ≤ P k ∧ P k ≤ 500000) :
    Value.int .i64 (wrap64 (sumTo (restT A P n t) k + wrap64 (D % 1000000000 * P k))) = .int .i64 (sumTo (restT A P n t) (k + 1)) := by
  have h1 : dd A n t k = D := by omega
  have := mul_bd (b := 1000000000) hp (show 0 ≤ D % 1000000000 ∧ D % 1000000000 ≤ 1000000000 by omega)
  rw [sumTo_succ, Int.mul_comm (D % 1000000000), IntWalk.wrap64_in (P k * (D % 1000000000)) (by omega), IntWalk.wrap64_in _ (by omega)]
  unfold restT
  rw [h1]; rfl

set_option maxHeartbeats 1600000 in
theorem Rread_any (ph : Int) (a : Option Addr) (n cap : Nat) (A P : Nat → Int) (t : Int) (w : World) (hr : SegsAt w a n A P) (ok : Ok ph A P n) (ht : 0 ≤ t ∧ t ≤ 1125899906842624) :
    Calls Try.prog 23 #[.agg #[.int .i64 ph, .slice a n cap], .int .i64 t] w fun e w' => e = .returned (.int .i64 (rd ph A P n t)) ∧ Below w.heap.size w w' := by
  have hn1 := ok.n1
  have hn16 := ok.n16
  have hp1 := ok.ph1
  have hp2 := ok.ph2
  obtain ⟨ht1, ht2⟩ := ht
  obtain ⟨b, off, rfl, hlt, hc⟩ := hr.at_ hn1
  have HO := hide ok
  have HC := hide hc
  have hb0 : Below w.heap.size w (w.alloc (.cells #[.int .i64 ph, .slice (some ⟨b, off, none⟩) n cap] 24)) := (Below.refl _ _).alloc (Nat.le_refl _) _
  have HB := hide hb0
  clear ok hc hr hb0
  go_enter Try.func23, Try.ntmps23
  go_wp2
  generalize hw1 : w.alloc (.cells #[.int .i64 ph, .slice (some ⟨b, off, none⟩) n cap] 24) = w1
  have hbx : w1.cell? ⟨w.heap.size, 1, none⟩ = some (.slice (some ⟨b, off, none⟩) n cap) := by rw [← hw1]; simp [go_sem]
  have hbx0 : w1.cell? ⟨w.heap.size, 0, none⟩ = some (.int .i64 ph) := by rw [← hw1]; simp [go_sem]
  rw [hw1] at HB
  clear hw1
  go_loop [5, 6, 7] (fun x y i => ∃ k : Nat, k ≤ n ∧ i = .int .i64 k ∧ x = .int .i64 (sumTo (wholeT A P n t) k) ∧ y = .int .i64 (sumTo (restT A P n t) k)) (fun _ _ i => n - (intOf i).toNat)
  case atStart => exact ⟨0, by omega, rfl, rfl, rfl⟩
  case round =>
    obtain ⟨k, hk, rfl, rfl, rfl⟩ := hrel
    have s1 := wsum_bd HO.out ⟨ht1, ht2⟩ k hk
    have r1 := rsum_bd HO.out ⟨ht1, ht2⟩ k hk
    by_cases hlt' : k < n
    · obtain ⟨c0, c1⟩ := HC.out k hlt'
      have hc0 := (HB.out.cell (p := ⟨b, off + k * 2, none⟩) hlt).trans c0
      have hc1 := (HB.out.cell (p := ⟨b, off + k * 2 + 1, none⟩) hlt).trans c1
      have ha := HO.out.ain k hlt'
      have hp := HO.out.pin k hlt'
      clear c0 c1
      by_cases h2 : k + 1 < n
      · obtain ⟨d0, _⟩ := HC.out (k + 1) h2
        have hd0 := (HB.out.cell (p := ⟨b, off + (k + 1) * 2, none⟩) hlt).trans d0
        have ha2 := HO.out.ain (k + 1) h2
        clear d0
        by_cases h3 : A (k + 1) < t
        · have e := hide (dd_ref_in h2 h3)
          by_cases h4 : A (k + 1) - A k ≤ 0
          · go_wp2
            go_round
            case rel => exact ⟨k + 1, by omega, by go_num, stepw0 (by have := e.out; omega), stepr0 (by have := e.out; omega)⟩
            case measure => simp [intOf]; omega
          · go_wp2
            go_round
            case rel => exact ⟨k + 1, by omega, by go_num, stepw e.out (by omega) s1 hp, stepr e.out (by omega) r1 hp⟩
            case measure => simp [intOf]; omega
        · have e := hide (dd_ref_out (A := A) (n := n) (k := k) (t := t) (by omega))
          by_cases h4 : t - A k ≤ 0
          · go_wp2
            go_round
            case rel => exact ⟨k + 1, by omega, by go_num, stepw0 (by have := e.out; omega), stepr0 (by have := e.out; omega)⟩
            case measure => simp [intOf]; omega
          · go_wp2
            go_round
            case rel => exact ⟨k + 1, by omega, by go_num, stepw e.out (by omega) s1 hp, stepr e.out (by omega) r1 hp⟩
            case measure => simp [intOf]; omega
      · have e := hide (dd_ref_out (A := A) (n := n) (k := k) (t := t) (by omega))
        by_cases h4 : t - A k ≤ 0
        · go_wp2
          go_round
          case rel => exact ⟨k + 1, by omega, by go_num, stepw0 (by have := e.out; omega), stepr0 (by have := e.out; omega)⟩
          case measure => simp [intOf]; omega
        · go_wp2
          go_round
          case rel => exact ⟨k + 1, by omega, by go_num, stepw e.out (by omega) s1 hp, stepr e.out (by omega) r1 hp⟩
          case measure => simp [intOf]; omega
    · have e : k = n := by omega
      have C := fun W => (Rfloor_any (sumTo (restT A P n t) k) W (by omega) (by omega))
      have HCC := hide C
      clear C
      have E := hide e
      clear e
      go_wp2
      go_quiet ((go_at_call 28; exact Calls.quiet_of_same ((HCC.out _).mono fun _ _ h => ⟨h.1, h.2.symm⟩)))
      go_wp2
      go_ret
      exact ⟨ret_int (by rw [E.out]; rfl), below_drewN HB.out _⟩
end Go.Proofs.Ytcfmjoadbamdiaa.OscW
