/- The contracts of layer 52: less. -/
import Derived.Test.YtjjhdigbgmbmnaaSkwA
namespace Go.Proofs.Ytjjhdigbgmbmnaa.Skw
open Go.RowKit Aid Fx
set_option maxRecDepth 100000 in
set_option maxHeartbeats 6400000 in
theorem less_any (an ad bn bd : Int) (w : World) (h1 : 1 ≤ ad ∧ ad ≤ 1073741824) (h2 : 1 ≤ bd ∧ bd ≤ 1073741824) (h3 : -4611686018427387904 ≤ an ∧ an ≤ 4611686018427387904) (h4 : -4611686018427387904 ≤ bn ∧ bn ≤ 4611686018427387904) :
    Calls Try.prog 31 #[.agg #[.int .i64 an, .int .i64 ad], .agg #[.int .i64 bn, .int .i64 bd]] w fun e w' => e = .returned (.bool (decide (Rat.divInt an ad < Rat.divInt bn bd))) ∧ Below w.heap.size w w' := by
  obtain ⟨R, hR⟩ : ∃ R, R = decide (Rat.divInt an ad < Rat.divInt bn bd) := ⟨_, rfl⟩
  have key : R = true ↔ (an / ad < bn / bd ∨ (an / ad = bn / bd ∧ an % ad * bd < bn % bd * ad)) := by rw [hR, decide_eq_true_iff]; exact (lt_iff (show 0 < ad by omega) (show 0 < bd by omega)).trans (less_key (show 0 < ad by omega) (show 0 < bd by omega))
  rw [← hR]
  clear hR
  obtain ⟨W0, hW0⟩ : ∃ W0, W0 = ((w.alloc (.cells #[.int .i64 an, .int .i64 ad] 26)).alloc (.cells #[.int .i64 bn, .int .i64 bd] 26)) := ⟨_, rfl⟩
  have HH := hide hW0
  have HB : Hid (Below w.heap.size w W0) := hide (by rw [hW0]; exact (((Below.refl _ _).alloc (Nat.le_refl _) _).alloc (by simp) _))
  have k0 : W0.cell? ⟨w.heap.size, 0, none⟩ = some (.int .i64 an) := by rw [hW0]; simp [go_sem]
  have k1 : W0.cell? ⟨w.heap.size, 1, none⟩ = some (.int .i64 ad) := by rw [hW0]; simp [go_sem]
  have j0 : W0.cell? ⟨w.heap.size + 1, 0, none⟩ = some (.int .i64 bn) := by rw [hW0]; simp [go_sem]
  have j1 : W0.cell? ⟨w.heap.size + 1, 1, none⟩ = some (.int .i64 bd) := by rw [hW0]; simp [go_sem]
  obtain ⟨a1, a2⟩ := h1
  obtain ⟨b1, b2⟩ := h2
  obtain ⟨a3, a4⟩ := h3
  obtain ⟨b3, b4⟩ := h4
  have m1 := Int.emod_nonneg an (show ad ≠ 0 by omega)
  have m2 := Int.emod_lt_of_pos an (show 0 < ad by omega)
  have m3 := Int.emod_nonneg bn (show bd ≠ 0 by omega)
  have m4 := Int.emod_lt_of_pos bn (show 0 < bd by omega)
  obtain ⟨p1, p2⟩ := mod_bd (an := an) (show 0 < ad by omega) (show 0 < bd by omega)
  obtain ⟨p3, p4⟩ := mod_bd (an := bn) (show 0 < bd by omega) (show 0 < ad by omega)
  have hD : 0 ≤ ad * bd := Int.mul_nonneg (by omega) (by omega)
  have hD2 : ad * bd ≤ 1073741824 * 1073741824 := Int.mul_le_mul a2 b2 (by omega) (by omega)
  have hc : bd * ad = ad * bd := Int.mul_comm _ _
  have qa1 : -4611686018427387904 ≤ an / ad := (Int.le_ediv_iff_mul_le (by omega)).2 (by omega)
  have qa2 : an / ad ≤ 4611686018427387904 := by have := Int.mul_ediv_add_emod an ad; exact Int.ediv_le_of_le_mul (by omega) (by omega)
  have qb1 : -4611686018427387904 ≤ bn / bd := (Int.le_ediv_iff_mul_le (by omega)).2 (by omega)
  have qb2 : bn / bd ≤ 4611686018427387904 := by exact Int.ediv_le_of_le_mul (by omega) (by omega)
  have wa := tdiv_ways an (show 0 < ad by omega)
  have wb := tdiv_ways bn (show 0 < bd by omega)
  have na : (ad == 0) = false := by simp; omega
  have nb : (bd == 0) = false := by simp; omega
  obtain ⟨ta, hta⟩ : ∃ t, t = an.tdiv ad := ⟨_, rfl⟩
  obtain ⟨tb, htb⟩ : ∃ t, t = bn.tdiv bd := ⟨_, rfl⟩
  obtain ⟨ua, hua⟩ : ∃ t, t = an.tmod ad := ⟨_, rfl⟩
  obtain ⟨ub, hub⟩ : ∃ t, t = bn.tmod bd := ⟨_, rfl⟩
  rw [← hta, ← hua] at wa
  rw [← htb, ← hub] at wb
  obtain ⟨qa, hqa⟩ : ∃ qa, qa = an / ad := ⟨_, rfl⟩
  obtain ⟨qb, hqb⟩ : ∃ qb, qb = bn / bd := ⟨_, rfl⟩
  obtain ⟨ra, hra⟩ : ∃ r, r = an % ad := ⟨_, rfl⟩
  obtain ⟨rb, hrb⟩ : ∃ r, r = bn % bd := ⟨_, rfl⟩
  rw [← hqa] at wa qa1 qa2
  rw [← hqb] at wb qb1 qb2
  rw [← hra] at wa m1 m2 p1 p2
  rw [← hrb] at wb m3 m4 p3 p4
  rw [← hqa, ← hqb, ← hra, ← hrb] at key
  have v3 : wrap64 (ra * bd) = ra * bd := IntWalk.wrap64_in _ (by omega)
  have v4 : wrap64 (rb * ad) = rb * ad := IntWalk.wrap64_in _ (by omega)
  have hta := hta.symm
  have htb := htb.symm
  have hua := hua.symm
  have hub := hub.symm
  clear hW0 hqa hqb hra hrb hD hD2 hc p1 p2 p3 p4
  have na1 : (ad == -1) = false := by simp; omega
  have nb1 : (bd == -1) = false := by simp; omega
  have HKEY := hide key
  have HT := hide (And.intro hta (And.intro htb (And.intro hua hub)))
  have HQ := hide (And.intro qa1 (And.intro qa2 (And.intro qb1 qb2)))
  have HM := hide (And.intro m1 (And.intro m2 (And.intro m3 m4)))
  have HV := hide (And.intro v3 v4)
  have HWA := hide wa
  have HWB := hide wb
  clear key hta htb hua hub qa1 qa2 qb1 qb2 m1 m2 m3 m4 v3 v4 wa wb
  go_enter Try.func31, Try.ntmps31
  go_upto_region 1 with fail
  rw [← HH.out]
  go_wp2
  go_quiet (fail)
  go_wp2
  go_quiet (fail)
  simp only [HT.out.1, HT.out.2.1, HT.out.2.2.1, HT.out.2.2.2]
  obtain ⟨qa1, qa2, qb1, qb2⟩ := HQ.out
  obtain ⟨m1, m2, m3, m4⟩ := HM.out
  obtain ⟨v3, v4⟩ := HV.out
  rcases HWA.out with ⟨x1, x2, x3⟩ | ⟨x1, x2, x3⟩ <;> rcases HWB.out with ⟨y1, y2, y3⟩ | ⟨y1, y2, y3⟩
  · subst x2 x3 y2 y3
    go_wp2
    all_goals (go_ret; refine ⟨ret_bool ?_, below_drewN HB.out _⟩; have key := HKEY.out; obtain ⟨t1, t2, t3, t4⟩ := HT.out; clear HT HKEY HWA HWB HV HM HQ; simp only [t1, t2, t3, t4, bne_iff_ne, ne_eq, Classical.not_not, bne_eq_false_iff_eq, Bool.not_eq_true] at *; rw [Bool.eq_iff_iff, key]; (try simp only [decide_eq_true_iff, eq_self, Bool.false_eq_true, reduceCtorEq, true_iff, false_iff, Bool.and_eq_true, Bool.or_eq_true, beq_iff_eq]); first | omega | ((try rw [x3]); (try rw [y3]); rw [v3, v4]; omega))
  · subst x2 x3
    have w5 : wrap64 (tb - 1) = qb := by rw [IntWalk.wrap64_in _ (by omega)]; exact y2
    have w6 : wrap64 (ub + bd) = rb := by rw [IntWalk.wrap64_in _ (by omega)]; exact y3
    go_wp2
    all_goals (go_ret; refine ⟨ret_bool ?_, below_drewN HB.out _⟩; have key := HKEY.out; obtain ⟨t1, t2, t3, t4⟩ := HT.out; clear HT HKEY HWA HWB HV HM HQ; simp only [t1, t2, t3, t4, bne_iff_ne, ne_eq, Classical.not_not, bne_eq_false_iff_eq, Bool.not_eq_true] at *; rw [Bool.eq_iff_iff, key]; (try simp only [decide_eq_true_iff, eq_self, Bool.false_eq_true, reduceCtorEq, true_iff, false_iff, Bool.and_eq_true, Bool.or_eq_true, beq_iff_eq]); first | omega | ((try rw [x3]); (try rw [y3]); rw [v3, v4]; omega))
  · subst y2 y3
    have w5 : wrap64 (ta - 1) = qa := by rw [IntWalk.wrap64_in _ (by omega)]; exact x2
    have w6 : wrap64 (ua + ad) = ra := by rw [IntWalk.wrap64_in _ (by omega)]; exact x3
    go_wp2
    all_goals (go_ret; refine ⟨ret_bool ?_, below_drewN HB.out _⟩; have key := HKEY.out; obtain ⟨t1, t2, t3, t4⟩ := HT.out; clear HT HKEY HWA HWB HV HM HQ; simp only [t1, t2, t3, t4, bne_iff_ne, ne_eq, Classical.not_not, bne_eq_false_iff_eq, Bool.not_eq_true] at *; rw [Bool.eq_iff_iff, key]; (try simp only [decide_eq_true_iff, eq_self, Bool.false_eq_true, reduceCtorEq, true_iff, false_iff, Bool.and_eq_true, Bool.or_eq_true, beq_iff_eq]); first | omega | ((try rw [x3]); (try rw [y3]); rw [v3, v4]; omega))
  · have w5 : wrap64 (ta - 1) = qa := by rw [IntWalk.wrap64_in _ (by omega)]; exact x2
    have w6 : wrap64 (ua + ad) = ra := by rw [IntWalk.wrap64_in _ (by omega)]; exact x3
    have w7 : wrap64 (tb - 1) = qb := by rw [IntWalk.wrap64_in _ (by omega)]; exact y2
    have w8 : wrap64 (ub + bd) = rb := by rw [IntWalk.wrap64_in _ (by omega)]; exact y3
    go_wp2
    all_goals (go_ret; refine ⟨ret_bool ?_, below_drewN HB.out _⟩; have key := HKEY.out; obtain ⟨t1, t2, t3, t4⟩ := HT.out; clear HT HKEY HWA HWB HV HM HQ; simp only [t1, t2, t3, t4, bne_iff_ne, ne_eq, Classical.not_not, bne_eq_false_iff_eq, Bool.not_eq_true] at *; rw [Bool.eq_iff_iff, key]; (try simp only [decide_eq_true_iff, eq_self, Bool.false_eq_true, reduceCtorEq, true_iff, false_iff, Bool.and_eq_true, Bool.or_eq_true, beq_iff_eq]); first | omega | ((try rw [x3]); (try rw [y3]); rw [v3, v4]; omega))
set_option maxRecDepth 100000 in
set_option maxHeartbeats 6400000 in
theorem lless_any (an ad bn bd : Int) (w : World) (h1 : 1 ≤ ad ∧ ad ≤ 1073741824) (h2 : 1 ≤ bd ∧ bd ≤ 1073741824) (h3 : -4611686018427387904 ≤ an ∧ an ≤ 4611686018427387904) (h4 : -4611686018427387904 ≤ bn ∧ bn ≤ 4611686018427387904) :
    Calls Try.prog 27 #[.agg #[.int .i64 an, .int .i64 ad], .agg #[.int .i64 bn, .int .i64 bd]] w fun e w' => e = .returned (.bool (decide (Rat.divInt an ad < Rat.divInt bn bd))) ∧ Below w.heap.size w w' := by
  obtain ⟨R, hR⟩ : ∃ R, R = decide (Rat.divInt an ad < Rat.divInt bn bd) := ⟨_, rfl⟩
  have key : R = true ↔ (an / ad < bn / bd ∨ (an / ad = bn / bd ∧ an % ad * bd < bn % bd * ad)) := by rw [hR, decide_eq_true_iff]; exact (lt_iff (show 0 < ad by omega) (show 0 < bd by omega)).trans (less_key (show 0 < ad by omega) (show 0 < bd by omega))
  rw [← hR]
  clear hR
  obtain ⟨W0, hW0⟩ : ∃ W0, W0 = ((w.alloc (.cells #[.int .i64 an, .int .i64 ad] 26)).alloc (.cells #[.int .i64 bn, .int .i64 bd] 26)) := ⟨_, rfl⟩
  have HH := hide hW0
  have HB : Hid (Below w.heap.size w W0) := hide (by rw [hW0]; exact (((Below.refl _ _).alloc (Nat.le_refl _) _).alloc (by simp) _))
  have k0 : W0.cell? ⟨w.heap.size, 0, none⟩ = some (.int .i64 an) := by rw [hW0]; simp [go_sem]
  have k1 : W0.cell? ⟨w.heap.size, 1, none⟩ = some (.int .i64 ad) := by rw [hW0]; simp [go_sem]
  have j0 : W0.cell? ⟨w.heap.size + 1, 0, none⟩ = some (.int .i64 bn) := by rw [hW0]; simp [go_sem]
  have j1 : W0.cell? ⟨w.heap.size + 1, 1, none⟩ = some (.int .i64 bd) := by rw [hW0]; simp [go_sem]
  obtain ⟨a1, a2⟩ := h1
  obtain ⟨b1, b2⟩ := h2
  obtain ⟨a3, a4⟩ := h3
  obtain ⟨b3, b4⟩ := h4
  have m1 := Int.emod_nonneg an (show ad ≠ 0 by omega)
  have m2 := Int.emod_lt_of_pos an (show 0 < ad by omega)
  have m3 := Int.emod_nonneg bn (show bd ≠ 0 by omega)
  have m4 := Int.emod_lt_of_pos bn (show 0 < bd by omega)
  obtain ⟨p1, p2⟩ := mod_bd (an := an) (show 0 < ad by omega) (show 0 < bd by omega)
  obtain ⟨p3, p4⟩ := mod_bd (an := bn) (show 0 < bd by omega) (show 0 < ad by omega)
  have hD : 0 ≤ ad * bd := Int.mul_nonneg (by omega) (by omega)
  have hD2 : ad * bd ≤ 1073741824 * 1073741824 := Int.mul_le_mul a2 b2 (by omega) (by omega)
  have hc : bd * ad = ad * bd := Int.mul_comm _ _
  have qa1 : -4611686018427387904 ≤ an / ad := (Int.le_ediv_iff_mul_le (by omega)).2 (by omega)
  have qa2 : an / ad ≤ 4611686018427387904 := by have := Int.mul_ediv_add_emod an ad; exact Int.ediv_le_of_le_mul (by omega) (by omega)
  have qb1 : -4611686018427387904 ≤ bn / bd := (Int.le_ediv_iff_mul_le (by omega)).2 (by omega)
  have qb2 : bn / bd ≤ 4611686018427387904 := by exact Int.ediv_le_of_le_mul (by omega) (by omega)
  have wa := tdiv_ways an (show 0 < ad by omega)
  have wb := tdiv_ways bn (show 0 < bd by omega)
  have na : (ad == 0) = false := by simp; omega
  have nb : (bd == 0) = false := by simp; omega
  obtain ⟨ta, hta⟩ : ∃ t, t = an.tdiv ad := ⟨_, rfl⟩
  obtain ⟨tb, htb⟩ : ∃ t, t = bn.tdiv bd := ⟨_, rfl⟩
  obtain ⟨ua, hua⟩ : ∃ t, t = an.tmod ad := ⟨_, rfl⟩
  obtain ⟨ub, hub⟩ : ∃ t, t = bn.tmod bd := ⟨_, rfl⟩
  rw [← hta, ← hua] at wa
  rw [← htb, ← hub] at wb
  obtain ⟨qa, hqa⟩ : ∃ qa, qa = an / ad := ⟨_, rfl⟩
  obtain ⟨qb, hqb⟩ : ∃ qb, qb = bn / bd := ⟨_, rfl⟩
  obtain ⟨ra, hra⟩ : ∃ r, r = an % ad := ⟨_, rfl⟩
  obtain ⟨rb, hrb⟩ : ∃ r, r = bn % bd := ⟨_, rfl⟩
  rw [← hqa] at wa qa1 qa2
  rw [← hqb] at wb qb1 qb2
  rw [← hra] at wa m1 m2 p1 p2
  rw [← hrb] at wb m3 m4 p3 p4
  rw [← hqa, ← hqb, ← hra, ← hrb] at key
  have v3 : wrap64 (ra * bd) = ra * bd := IntWalk.wrap64_in _ (by omega)
  have v4 : wrap64 (rb * ad) = rb * ad := IntWalk.wrap64_in _ (by omega)
  have hta := hta.symm
  have htb := htb.symm
  have hua := hua.symm
  have hub := hub.symm
  clear hW0 hqa hqb hra hrb hD hD2 hc p1 p2 p3 p4
  have na1 : (ad == -1) = false := by simp; omega
  have nb1 : (bd == -1) = false := by simp; omega
  have HKEY := hide key
  have HT := hide (And.intro hta (And.intro htb (And.intro hua hub)))
  have HQ := hide (And.intro qa1 (And.intro qa2 (And.intro qb1 qb2)))
  have HM := hide (And.intro m1 (And.intro m2 (And.intro m3 m4)))
  have HV := hide (And.intro v3 v4)
  have HWA := hide wa
  have HWB := hide wb
  clear key hta htb hua hub qa1 qa2 qb1 qb2 m1 m2 m3 m4 v3 v4 wa wb
  go_enter Try.func27, Try.ntmps27
  go_upto_region 1 with fail
  rw [← HH.out]
  go_wp2
  go_quiet (fail)
  go_wp2
  go_quiet (fail)
  simp only [HT.out.1, HT.out.2.1, HT.out.2.2.1, HT.out.2.2.2]
  obtain ⟨qa1, qa2, qb1, qb2⟩ := HQ.out
  obtain ⟨m1, m2, m3, m4⟩ := HM.out
  obtain ⟨v3, v4⟩ := HV.out
  rcases HWA.out with ⟨x1, x2, x3⟩ | ⟨x1, x2, x3⟩ <;> rcases HWB.out with ⟨y1, y2, y3⟩ | ⟨y1, y2, y3⟩
  · subst x2 x3 y2 y3
    go_wp2
    all_goals (go_ret; refine ⟨ret_bool ?_, below_drewN HB.out _⟩; have key := HKEY.out; obtain ⟨t1, t2, t3, t4⟩ := HT.out; clear HT HKEY HWA HWB HV HM HQ; simp only [t1, t2, t3, t4, bne_iff_ne, ne_eq, Classical.not_not, bne_eq_false_iff_eq, Bool.not_eq_true] at *; rw [Bool.eq_iff_iff, key]; (try simp only [decide_eq_true_iff, eq_self, Bool.false_eq_true, reduceCtorEq, true_iff, false_iff, Bool.and_eq_true, Bool.or_eq_true, beq_iff_eq]); first | omega | ((try rw [x3]); (try rw [y3]); rw [v3, v4]; omega))
  · subst x2 x3
    have w5 : wrap64 (tb - 1) = qb := by rw [IntWalk.wrap64_in _ (by omega)]; exact y2
    have w6 : wrap64 (ub + bd) = rb := by rw [IntWalk.wrap64_in _ (by omega)]; exact y3
    go_wp2
    all_goals (go_ret; refine ⟨ret_bool ?_, below_drewN HB.out _⟩; have key := HKEY.out; obtain ⟨t1, t2, t3, t4⟩ := HT.out; clear HT HKEY HWA HWB HV HM HQ; simp only [t1, t2, t3, t4, bne_iff_ne, ne_eq, Classical.not_not, bne_eq_false_iff_eq, Bool.not_eq_true] at *; rw [Bool.eq_iff_iff, key]; (try simp only [decide_eq_true_iff, eq_self, Bool.false_eq_true, reduceCtorEq, true_iff, false_iff, Bool.and_eq_true, Bool.or_eq_true, beq_iff_eq]); first | omega | ((try rw [x3]); (try rw [y3]); rw [v3, v4]; omega))
  · subst y2 y3
    have w5 : wrap64 (ta - 1) = qa := by rw [IntWalk.wrap64_in _ (by omega)]; exact x2
    have w6 : wrap64 (ua + ad) = ra := by rw [IntWalk.wrap64_in _ (by omega)]; exact x3
    go_wp2
    all_goals (go_ret; refine ⟨ret_bool ?_, below_drewN HB.out _⟩; have key := HKEY.out; obtain ⟨t1, t2, t3, t4⟩ := HT.out; clear HT HKEY HWA HWB HV HM HQ; simp only [t1, t2, t3, t4, bne_iff_ne, ne_eq, Classical.not_not, bne_eq_false_iff_eq, Bool.not_eq_true] at *; rw [Bool.eq_iff_iff, key]; (try simp only [decide_eq_true_iff, eq_self, Bool.false_eq_true, reduceCtorEq, true_iff, false_iff, Bool.and_eq_true, Bool.or_eq_true, beq_iff_eq]); first | omega | ((try rw [x3]); (try rw [y3]); rw [v3, v4]; omega))
  · have w5 : wrap64 (ta - 1) = qa := by rw [IntWalk.wrap64_in _ (by omega)]; exact x2
    have w6 : wrap64 (ua + ad) = ra := by rw [IntWalk.wrap64_in _ (by omega)]; exact x3
    have w7 : wrap64 (tb - 1) = qb := by rw [IntWalk.wrap64_in _ (by omega)]; exact y2
    have w8 : wrap64 (ub + bd) = rb := by rw [IntWalk.wrap64_in _ (by omega)]; exact y3
    go_wp2
    all_goals (go_ret; refine ⟨ret_bool ?_, below_drewN HB.out _⟩; have key := HKEY.out; obtain ⟨t1, t2, t3, t4⟩ := HT.out; clear HT HKEY HWA HWB HV HM HQ; simp only [t1, t2, t3, t4, bne_iff_ne, ne_eq, Classical.not_not, bne_eq_false_iff_eq, Bool.not_eq_true] at *; rw [Bool.eq_iff_iff, key]; (try simp only [decide_eq_true_iff, eq_self, Bool.false_eq_true, reduceCtorEq, true_iff, false_iff, Bool.and_eq_true, Bool.or_eq_true, beq_iff_eq]); first | omega | ((try rw [x3]); (try rw [y3]); rw [v3, v4]; omega))
end Go.Proofs.Ytjjhdigbgmbmnaa.Skw
