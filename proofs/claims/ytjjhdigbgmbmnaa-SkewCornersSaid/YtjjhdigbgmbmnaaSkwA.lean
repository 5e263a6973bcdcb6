/- The contracts of layer 52: compare. -/
import Derived.Test.YtjjhdigbgmbmnaaAid
import Derived.Test.YtjjhdigbgmbmnaaFixed
import Derived.Test.YtjjhdigbgmbmnaaSkwPlain
import Derived.StillTailTactics
import Derived.Handy
namespace Go.Proofs.Ytjjhdigbgmbmnaa.Skw
open Go.RowKit Aid Fx
set_option maxRecDepth 100000 in
set_option maxHeartbeats 3200000 in
theorem compare_any (an ad bn bd : Int) (w : World) (h1 : 1 ≤ ad ∧ ad ≤ 1073741824) (h2 : 1 ≤ bd ∧ bd ≤ 1073741824) (h3 : -4611686018427387904 ≤ an ∧ an ≤ 4611686018427387904) (h4 : -4611686018427387904 ≤ bn ∧ bn ≤ 4611686018427387904) :
    Calls Try.prog 43 #[.agg #[.int .i64 an, .int .i64 ad], .agg #[.int .i64 bn, .int .i64 bd]] w fun e w' => e = .returned (.int .i64 (cmpV an ad bn bd)) ∧ Below w.heap.size w w' := by
  obtain ⟨W0, hW0⟩ : ∃ W0, W0 = ((w.alloc (.cells #[.int .i64 an, .int .i64 ad] 26)).alloc (.cells #[.int .i64 bn, .int .i64 bd] 26)) := ⟨_, rfl⟩
  have HH := hide hW0
  have HB : Hid (Below w.heap.size w W0) := hide (by rw [hW0]; exact (((Below.refl _ _).alloc (Nat.le_refl _) _).alloc (by simp) _))
  have k0 : W0.cell? ⟨w.heap.size, 0, none⟩ = some (.int .i64 an) := by rw [hW0]; simp [go_sem]
  have k1 : W0.cell? ⟨w.heap.size, 1, none⟩ = some (.int .i64 ad) := by rw [hW0]; simp [go_sem]
  have j0 : W0.cell? ⟨w.heap.size + 1, 0, none⟩ = some (.int .i64 bn) := by rw [hW0]; simp [go_sem]
  have j1 : W0.cell? ⟨w.heap.size + 1, 1, none⟩ = some (.int .i64 bd) := by rw [hW0]; simp [go_sem]
  have CF := hide (fun W => Floor_any an ad W h1.1 (by omega) (by omega))
  have CG := hide (fun W => Floor_any bn bd W h2.1 (by omega) (by omega))
  obtain ⟨a1, a2⟩ := h1
  obtain ⟨b1, b2⟩ := h2
  obtain ⟨a3, a4⟩ := h3
  obtain ⟨b3, b4⟩ := h4
  have e1 := Int.mul_ediv_add_emod an ad
  have e2 := Int.mul_ediv_add_emod bn bd
  rw [Int.mul_comm] at e1 e2
  have m1 := Int.emod_nonneg an (show ad ≠ 0 by omega)
  have m2 := Int.emod_lt_of_pos an (show 0 < ad by omega)
  have m3 := Int.emod_nonneg bn (show bd ≠ 0 by omega)
  have m4 := Int.emod_lt_of_pos bn (show 0 < bd by omega)
  obtain ⟨p1, p2⟩ := mod_bd (an := an) (show 0 < ad by omega) (show 0 < bd by omega)
  obtain ⟨p3, p4⟩ := mod_bd (an := bn) (show 0 < bd by omega) (show 0 < ad by omega)
  have hD : 0 ≤ ad * bd := Int.mul_nonneg (by omega) (by omega)
  have hD2 : ad * bd ≤ 1073741824 * 1073741824 := Int.mul_le_mul a2 b2 (by omega) (by omega)
  have hc : bd * ad = ad * bd := Int.mul_comm _ _
  unfold cmpV
  obtain ⟨qa, hqa⟩ : ∃ qa, qa = an / ad := ⟨_, rfl⟩
  obtain ⟨qb, hqb⟩ : ∃ qb, qb = bn / bd := ⟨_, rfl⟩
  rw [← hqa] at e1 CF
  rw [← hqb] at e2 CG
  rw [← hqa, ← hqb]
  have r1 : an - qa * ad = an % ad := by omega
  have r2 : bn - qb * bd = bn % bd := by omega
  obtain ⟨ra, hra⟩ : ∃ r, r = an % ad := ⟨_, rfl⟩
  obtain ⟨rb, hrb⟩ : ∃ r, r = bn % bd := ⟨_, rfl⟩
  rw [← hra] at r1 m1 m2 p1 p2 e1
  rw [← hrb] at r2 m3 m4 p3 p4 e2
  rw [r1, r2]
  have w1 : -9223372036854775808 ≤ qa * ad ∧ qa * ad ≤ 9223372036854775807 := by omega
  have w2 : -9223372036854775808 ≤ qb * bd ∧ qb * bd ≤ 9223372036854775807 := by omega
  have w3 : -9223372036854775808 ≤ ra * bd ∧ ra * bd ≤ 9223372036854775807 := by omega
  have w4 : -9223372036854775808 ≤ rb * ad ∧ rb * ad ≤ 9223372036854775807 := by omega
  have v1 : wrap64 (qa * ad) = qa * ad := IntWalk.wrap64_in _ (by omega)
  have v2 : wrap64 (qb * bd) = qb * bd := IntWalk.wrap64_in _ (by omega)
  have v3 : wrap64 (ra * bd) = ra * bd := IntWalk.wrap64_in _ (by omega)
  have v4 : wrap64 (rb * ad) = rb * ad := IntWalk.wrap64_in _ (by omega)
  have v5 : wrap64 ra = ra := IntWalk.wrap64_in _ (by omega)
  have v6 : wrap64 rb = rb := IntWalk.wrap64_in _ (by omega)
  have v7 : wrap64 (ra * bd - rb * ad) = ra * bd - rb * ad := IntWalk.wrap64_in _ (by omega)
  clear hW0 hqa hqb hra hrb e1 e2 m1 m2 m3 m4 hD hD2 hc p1 p2 p3 p4 w1 w2 w3 w4
  by_cases hq : qa = qb
  · rw [if_pos hq]
    subst hq
    go_enter Try.func43, Try.ntmps43
    go_wp2_with fail
    rw [← HH.out]
    refine (CF.out _).mono ?_
    rintro e _ ⟨rfl, n1, rfl⟩
    go_wp2_with fail
    refine (CG.out _).mono ?_
    rintro e _ ⟨rfl, n2, rfl⟩
    go_wp2
    go_ret
    exact ⟨ret_int (by simp [Act.tmps, v3, v4, v5, v6, v7]), below_drewN HB.out _⟩
  · rw [if_neg hq]
    have hq2 : (qa == qb) = false := by simpa using hq
    by_cases hl : qa < qb
    · rw [if_pos hl]
      go_enter Try.func43, Try.ntmps43
      go_wp2_with fail
      rw [← HH.out]
      refine (CF.out _).mono ?_
      rintro e _ ⟨rfl, n1, rfl⟩
      go_wp2_with fail
      refine (CG.out _).mono ?_
      rintro e _ ⟨rfl, n2, rfl⟩
      go_wp2
      go_ret
      exact ⟨rfl, below_drewN HB.out _⟩
    · rw [if_neg hl]
      have hl2 : decide (qa < qb) = false := by simpa using hl
      go_enter Try.func43, Try.ntmps43
      go_wp2_with fail
      rw [← HH.out]
      refine (CF.out _).mono ?_
      rintro e _ ⟨rfl, n1, rfl⟩
      go_wp2_with fail
      refine (CG.out _).mono ?_
      rintro e _ ⟨rfl, n2, rfl⟩
      go_wp2
      go_ret
      exact ⟨rfl, below_drewN HB.out _⟩
end Go.Proofs.Ytjjhdigbgmbmnaa.Skw
