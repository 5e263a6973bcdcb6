/- The contract of right: a reduced fraction of the right size is right. -/
import Derived.Test.YtjjhdigbgmbmnaaSkxA
namespace Go.Proofs.Ytjjhdigbgmbmnaa.Skw
open Go.RowKit Aid Fx
theorem wless_any (U V : Rat) (w : World) (hu : Fit U) (hv : Fit V) :
    Calls Try.prog 27 #[.agg #[.int .i64 U.num, .int .i64 U.den], .agg #[.int .i64 V.num, .int .i64 V.den]] w fun e w' => e = .returned (.bool (decide (U < V))) ∧ Below w.heap.size w w' := by
  have h := lless_any U.num U.den V.num V.den w hu.1 hv.1 hu.2 hv.2
  rw [Rat.num_divInt_den, Rat.num_divInt_den] at h
  exact h
set_option maxRecDepth 100000 in
set_option maxHeartbeats 3200000 in
theorem right_any (U : Rat) (w : World) (h : Fit U) :
    Calls Try.prog 26 #[.agg #[.int .i64 U.num, .int .i64 U.den]] w fun e w' => e = .returned (.bool true) ∧ Below w.heap.size w w' := by
  obtain ⟨⟨d1, d2⟩, ⟨n1, n2⟩⟩ := h
  have hcop : Nat.gcd U.num.natAbs U.den = 1 := U.reduced
  have hden : (((U.den : Int).natAbs : Nat) : Int) = (U.den : Int) := by omega
  have hG0 : Nat.gcd U.num.natAbs (U.den : Int).natAbs = 1 := by rw [show (U.den : Int).natAbs = U.den by omega]; exact hcop
  generalize (U.den : Int) = d at *
  generalize U.num = n at *
  clear hcop
  obtain ⟨W0, hW0⟩ : ∃ W0, W0 = (w.alloc (.cells #[.int .i64 n, .int .i64 d] 26)) := ⟨_, rfl⟩
  have HH := hide hW0
  have HB : Hid (Below w.heap.size w W0) := hide (by rw [hW0]; exact (Below.refl _ _).alloc (Nat.le_refl _) _)
  have k0 : W0.cell? ⟨w.heap.size, 0, none⟩ = some (.int .i64 n) := by rw [hW0]; simp [go_sem]
  have k1 : W0.cell? ⟨w.heap.size, 1, none⟩ = some (.int .i64 d) := by rw [hW0]; simp [go_sem]
  have hneg : wrap64 (-n) = -n := IntWalk.wrap64_in _ (by omega)
  have hmax : max n (-n) = (n.natAbs : Int) := by omega
  have hif : (if n < -n then -n else n) = (n.natAbs : Int) := by split <;> omega
  have e1 : decide (d < 1) = false := by simp; omega
  have e2 : decide (1073741824 < d) = false := by simp; omega
  have e3 : decide (n < -4611686018427387904) = false := by simp; omega
  have e4 : decide (4611686018427387904 < n) = false := by simp; omega
  have HG := hide hG0
  clear hG0 hW0
  go_enter Try.func26, Try.ntmps26
  go_upto_region 1 with fail
  rw [← HH.out]
  go_upto_region 3 with fail
  go_quiet (fail)
  go_wp2
  go_loopw [3, 4] (fun a b wr => ∃ x y : Nat, a = .int .i64 (x : Int) ∧ b = .int .i64 (y : Int) ∧ Nat.gcd x y = 1 ∧ x ≤ 4611686018427387904 ∧ y ≤ 1073741824 ∧ ∃ z, wr = W0.drewN z) (fun _ b _ => (intOf b).toNat)
  case atStart => exact ⟨n.natAbs, d.natAbs, rfl, by rw [show ((d.natAbs : Nat) : Int) = d by omega], HG.out, by omega, by omega, by first | exact ⟨0, rfl⟩ | exact ⟨_, rfl⟩⟩
  case round =>
    obtain ⟨x, y, rfl, rfl, hgc, hx, hy, z, rfl⟩ := hrel
    by_cases h0 : y = 0
    · subst h0
      obtain rfl : x = 1 := by rw [← hgc, Nat.gcd_zero_right]
      clear hgc
      go_wp2
      go_ret
      exact ⟨rfl, below_drewN HB.out z⟩
    · have hy0 : ((y : Int) == 0) = false := by simp <;> omega
      have hy1 : ((y : Int) == -1) = false := by simp <;> omega
      have hr : ((x : Int).tmod (y : Int)) = ((x % y : Nat) : Int) := (Int.ofNat_tmod x y).symm
      have hlt := Nat.mod_lt x (show y > 0 by omega)
      obtain ⟨r, hrr⟩ : ∃ r, r = x % y := ⟨_, rfl⟩
      rw [← hrr] at hr hlt
      have HGC := hide (show Nat.gcd y r = 1 by rw [hrr, gcd_step, hgc])
      clear hgc hrr
      go_wp2
      go_quiet (fail)
      go_wp2
      go_roundw
      case rel => exact ⟨y, r, rfl, rfl, HGC.out, by omega, by omega, by first | exact ⟨_, rfl⟩ | exact ⟨_, World.drewN_drewN _ _ _⟩⟩
      case measure => (simp [intOf]) <;> omega
end Go.Proofs.Ytjjhdigbgmbmnaa.Skw
