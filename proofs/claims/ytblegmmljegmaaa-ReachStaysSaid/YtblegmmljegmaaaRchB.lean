/- The contracts of small and Wait of package reach and of its reference. -/
import Derived.Test.YtblegmmljegmaaaRchA
namespace Go.Proofs.Ytblegmmljegmaaa.Rch
open Go.RowKit Aid
def smallB (o j : Int) : Bool := decide ((o.natAbs : Int) / 4 < max j 0)
theorem neg_size {o : Int} (ho : o < 0) (ho2 : -9223372036854775808 ≤ o) : IntKind.u64.wrap ((IntKind.u64.wrap (-IntKind.u64.wrap o)).tdiv 4) = (-o) / 4 := by
  have e1 : IntKind.u64.wrap o = o + 18446744073709551616 := by rw [IntKind.wrap_u64]; omega
  have e2 : IntKind.u64.wrap (-(o + 18446744073709551616)) = -o := by rw [IntKind.wrap_u64]; omega
  rw [e1, e2, Int.tdiv_eq_ediv_of_nonneg (by omega), IntKind.wrap_u64]
  omega
theorem small_any (o j : Int) (w : World) (ho : -9223372036854775808 ≤ o) (ho2 : o ≤ 9223372036854775807) (hj : -9223372036854775808 ≤ j) (hj2 : j ≤ 9223372036854775807) :
    Calls Try.prog 26 #[.int .i64 o, .int .i64 j] w fun e w' => e = .returned (.bool (smallB o j)) ∧ w = w' := by
  by_cases h : 0 ≤ o
  · by_cases hj3 : j < 0
    · have e : smallB o j = decide (o / 4 < 0) := by unfold smallB; congr 1; apply propext; omega
      rw [e]
      clear e
      go_enter Try.func26, Try.ntmps26
      go_wp2
      go_ret
      exact ⟨rfl, rfl⟩
    · have e : smallB o j = decide (o / 4 < j) := by unfold smallB; congr 1; apply propext; omega
      rw [e]
      clear e
      go_enter Try.func26, Try.ntmps26
      go_wp2
      go_ret
      exact ⟨rfl, rfl⟩
  · have E := hide (neg_size (o := o) (by omega) ho)
    by_cases hj3 : j < 0
    · have e : smallB o j = decide (IntKind.u64.wrap ((IntKind.u64.wrap (-IntKind.u64.wrap o)).tdiv 4) < 0) := by unfold smallB; rw [E.out]; congr 1; apply propext; omega
      rw [e]
      clear e
      go_enter Try.func26, Try.ntmps26
      go_wp2
      go_ret
      exact ⟨rfl, rfl⟩
    · have e : smallB o j = decide (IntKind.u64.wrap ((IntKind.u64.wrap (-IntKind.u64.wrap o)).tdiv 4) < j) := by unfold smallB; rw [E.out]; congr 1; apply propext; omega
      rw [e]
      clear e
      go_enter Try.func26, Try.ntmps26
      go_wp2
      go_ret
      exact ⟨rfl, rfl⟩
theorem Rsmall_any (o j : Int) (w : World) (ho : -9223372036854775808 ≤ o) (ho2 : o ≤ 9223372036854775807) (hj : -9223372036854775808 ≤ j) (hj2 : j ≤ 9223372036854775807) :
    Calls Try.prog 27 #[.int .i64 o, .int .i64 j] w fun e w' => e = .returned (.bool (smallB o j)) ∧ w = w' := by
  by_cases hj3 : j ≤ 0
  · have e : smallB o j = false := by unfold smallB; simp; omega
    rw [e]
    clear e
    go_enter Try.func27, Try.ntmps27
    go_wp2
    go_ret
    exact ⟨rfl, rfl⟩
  · by_cases h : 0 ≤ o
    · have e : smallB o j = decide (o / 4 < j) := by unfold smallB; congr 1; apply propext; omega
      rw [e]
      clear e
      go_enter Try.func27, Try.ntmps27
      go_wp2
      go_ret
      exact ⟨rfl, rfl⟩
    · have E := hide (neg_size (o := o) (by omega) ho)
      have e : smallB o j = decide (IntKind.u64.wrap ((IntKind.u64.wrap (-IntKind.u64.wrap o)).tdiv 4) < j) := by unfold smallB; rw [E.out]; congr 1; apply propext; omega
      rw [e]
      clear e
      go_enter Try.func27, Try.ntmps27
      go_wp2
      go_ret
      exact ⟨rfl, rfl⟩
theorem pow_bd {p : Nat} (h : p ≤ 17) : 1 ≤ (2 : Int) ^ p ∧ (2 : Int) ^ p ≤ 131072 := by
  have : ∀ p, p < 18 → 1 ≤ (2 : Int) ^ p ∧ (2 : Int) ^ p ≤ 131072 := by decide
  exact this p (by omega)
def waitV (r : Reg) : Int := if chk r = 0 then 1000000000 * 2 ^ r.poll.toNat else 0
theorem waitV_1 {poll : Int} (h : poll ≤ 17) : wrap64 (1000000000 * 2 ^ poll.toNat) = 1000000000 * 2 ^ poll.toNat := by
  have := pow_bd (p := poll.toNat) (by omega)
  exact IntWalk.wrap64_in _ (by omega)
theorem Wait_any (bits poll mn mx cnt : Int) (w : World) :
    Calls Try.prog 20 #[.agg #[.int .i64 bits, .int .i64 poll, .int .i64 mn, .int .i64 mx, .int .i64 cnt]] w fun e w' => e = .returned (.int .i64 (waitV ⟨bits, poll, mn, mx, cnt⟩)) ∧ Below w.heap.size w w' := by
  have hb : Below w.heap.size w (w.alloc (.cells #[.int .i64 bits, .int .i64 poll, .int .i64 mn, .int .i64 mx, .int .i64 cnt] 23)) := (Below.refl _ _).alloc (Nat.le_refl _) _
  have HB := hide hb
  have C := hide (Check_any bits poll mn mx cnt)
  clear hb
  by_cases hz : chk ⟨bits, poll, mn, mx, cnt⟩ = 0
  · have ok := chk_ok hz
    have p1 : mn ≤ poll := ok.p1
    have p2 : poll ≤ mx := ok.p2
    have p3 : 3 ≤ mn := ok.n1
    have p4 : mx ≤ 17 := ok.x2
    have ew : waitV ⟨bits, poll, mn, mx, cnt⟩ = 1000000000 * 2 ^ poll.toNat := by unfold waitV; rw [if_pos hz]
    rw [hz] at C
    rw [ew, ← waitV_1 (poll := poll) (by omega)]
    clear hz ok ew
    go_enter Try.func20, Try.ntmps20
    go_wp2_with fail
    refine (C.out _).mono ?_
    rintro e w1 ⟨rfl, hb1⟩
    have k1 := (hb1.cell (p := ⟨w.heap.size, 1, none⟩) (by simp))
    simp [go_sem] at k1
    have hbw := HB.out.trans (hb1.mono (by simp))
    clear hb1
    go_wp2
    go_ret
    exact ⟨rfl, hbw⟩
  · have ew : waitV ⟨bits, poll, mn, mx, cnt⟩ = 0 := by unfold waitV; rw [if_neg hz]
    rw [ew]
    have hz' : (chk ⟨bits, poll, mn, mx, cnt⟩ != 0) = true := by simpa using hz
    clear hz ew
    generalize chk ⟨bits, poll, mn, mx, cnt⟩ = k at *
    go_enter Try.func20, Try.ntmps20
    go_wp2_with fail
    refine (C.out _).mono ?_
    rintro e w1 ⟨rfl, hb1⟩
    have hbw := HB.out.trans (hb1.mono (by simp))
    clear hb1
    go_wp2
    go_ret
    exact ⟨rfl, hbw⟩
theorem waitV_2 {poll : Int} (h : poll ≤ 17) : wrap64 (wrap64 (1 * 2 ^ poll.toNat) * 1000000000) = 1000000000 * 2 ^ poll.toNat := by
  have := pow_bd (p := poll.toNat) (by omega)
  rw [Int.one_mul, IntWalk.wrap64_in (2 ^ poll.toNat) (by omega), IntWalk.wrap64_in _ (by omega), Int.mul_comm]
theorem RWait_any (bits poll mn mx cnt : Int) (w : World) :
    Calls Try.prog 21 #[.agg #[.int .i64 bits, .int .i64 poll, .int .i64 mn, .int .i64 mx, .int .i64 cnt]] w fun e w' => e = .returned (.int .i64 (waitV ⟨bits, poll, mn, mx, cnt⟩)) ∧ Below w.heap.size w w' := by
  have hb : Below w.heap.size w (w.alloc (.cells #[.int .i64 bits, .int .i64 poll, .int .i64 mn, .int .i64 mx, .int .i64 cnt] 23)) := (Below.refl _ _).alloc (Nat.le_refl _) _
  have HB := hide hb
  have C := hide (RCheck_any bits poll mn mx cnt)
  clear hb
  by_cases hz : chk ⟨bits, poll, mn, mx, cnt⟩ = 0
  · have ok := chk_ok hz
    have p1 : mn ≤ poll := ok.p1
    have p2 : poll ≤ mx := ok.p2
    have p3 : 3 ≤ mn := ok.n1
    have p4 : mx ≤ 17 := ok.x2
    have ew : waitV ⟨bits, poll, mn, mx, cnt⟩ = 1000000000 * 2 ^ poll.toNat := by unfold waitV; rw [if_pos hz]
    rw [hz] at C
    rw [ew]
    have E := hide (waitV_2 (poll := poll) (by omega))
    clear hz ok ew
    go_enter Try.func21, Try.ntmps21
    go_wp2_with fail
    refine (C.out _).mono ?_
    rintro e w1 ⟨rfl, hb1⟩
    have k1 := (hb1.cell (p := ⟨w.heap.size, 1, none⟩) (by simp))
    simp [go_sem] at k1
    have hbw := HB.out.trans (hb1.mono (by simp))
    clear hb1
    go_wp2
    go_ret
    exact ⟨ret_int (by first | exact E.out | (rw [← E.out]; simp)), hbw⟩
  · have ew : waitV ⟨bits, poll, mn, mx, cnt⟩ = 0 := by unfold waitV; rw [if_neg hz]
    rw [ew]
    have hz' : (chk ⟨bits, poll, mn, mx, cnt⟩ != 0) = true := by simpa using hz
    clear hz ew
    generalize chk ⟨bits, poll, mn, mx, cnt⟩ = k at *
    go_enter Try.func21, Try.ntmps21
    go_wp2_with fail
    refine (C.out _).mono ?_
    rintro e w1 ⟨rfl, hb1⟩
    have hbw := HB.out.trans (hb1.mono (by simp))
    clear hb1
    go_wp2
    go_ret
    exact ⟨rfl, hbw⟩
end Go.Proofs.Ytblegmmljegmaaa.Rch
