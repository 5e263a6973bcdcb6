/- The walk of the law CivilCycle. -/
import Derived.Test.YtbhpceghgjognaaDoorCivY
import Derived.Test.YtbhpceghgjognaaDoorCivW
namespace Go.Proofs.YtbhpceghgjognaaDoor.Civ
open Go.RowKit Aid
theorem ms_bd (y : Int) : ∀ k : Nat, 0 ≤ ms y k ∧ ms y k ≤ 31 * (k : Int) := by
  intro k
  induction k with
  | zero => simp [ms]
  | succ k ih =>
    have := md_bd y (k : Int)
    show 0 ≤ ms y k + md y (k : Int) ∧ ms y k + md y (k : Int) ≤ 31 * ((k + 1 : Nat) : Int)
    omega
theorem leap_ways (y : Int) : ((y.tmod 4 == 0) = true ∧ (y.tmod 100 != 0) = true ∧ yd y = 366) ∨ ((y.tmod 4 == 0) = true ∧ (y.tmod 100 != 0) = false ∧ (y.tmod 400 == 0) = true ∧ yd y = 366) ∨ ((y.tmod 4 == 0) = true ∧ (y.tmod 100 != 0) = false ∧ (y.tmod 400 == 0) = false ∧ yd y = 365) ∨ ((y.tmod 4 == 0) = false ∧ yd y = 365) := by
  have t4 := tmod_zero y 4
  have t100 := tmod_zero y 100
  have t400 := tmod_zero y 400
  have h := yd_cases y
  by_cases h4 : y % 4 = 0
  · have e4 : (y.tmod 4 == 0) = true := by simpa using t4.2 h4
    by_cases h100 : y % 100 = 0
    · have e100 : (y.tmod 100 != 0) = false := by simpa using t100.2 h100
      by_cases h400 : y % 400 = 0
      · exact .inr (.inl ⟨e4, e100, by simpa using t400.2 h400, by omega⟩)
      · exact .inr (.inr (.inl ⟨e4, e100, by simpa using fun h => h400 (t400.1 h), by omega⟩))
    · exact .inl ⟨e4, by simpa using fun h => h100 (t100.1 h), by omega⟩
  · exact .inr (.inr (.inr ⟨by simpa using fun h => h4 (t4.1 h), by omega⟩))
-- by program
set_option maxRecDepth 100000 in
set_option maxHeartbeats 6400000 in
theorem Cycle_low (sec year y : Int) (w : World) (l : Laid5 w) (hy : year.tmod 1099511627776 = y) (y1 : -1099511627776 ≤ y) (y2 : y ≤ 1099511627776) (hr : sec < -8000000000) :
    Calls Tryd.prog 8 #[.int .i64 sec, .int .i64 year] w fun e w' => e = .returned (.bool true) ∧ Below w.heap.size w w' := by
  have HL := hide (fun W (q : Below w.heap.size w W) => l.step q)
  have CA := hide awake_any
  have CM := hide (fun (k : Nat) => MonthDays_any y (k : Int) w l.laid)
  have CN := hide (fun (k : Nat) => show Calls Tryd.prog 22 #[.int .i64 (y + 400), .int .i64 (k : Int)] w fun e w' => e = .returned (.int .i64 (md y (k : Int))) ∧ w = w' from (md_400 y (k : Int)) ▸ MonthDays_any (y + 400) (k : Int) w l.laid)
  have HW := hide (leap_ways y)
  have HB := hide (ms_bd y)
  have HD := hide (md_bd y)
  have H14 : Hid (ms y 14 = yd y) := hide (by show ms y 13 + md y ((13 : Nat) : Int) = _; rw [ms_13, md_none (by omega)]; omega)
  clear l
  go_enter Tryd.func8, Tryd.ntmps8
  go_wp2
  go_loopw [5, 15] (fun a i wr => ∃ (k : Nat) (v : Int), k ≤ 14 ∧ i = .int .i64 k ∧ a = .int .i64 v ∧ v = ms y k ∧ wr = w) (fun _ i _ => 14 - (intOf i).toNat)
  case atStart => exact ⟨0, 0, by omega, rfl, rfl, rfl, rfl⟩
  case round =>
    obtain ⟨k, v, hk, rfl, rfl, hv, rfl⟩ := hrel
    have b1 := HB.out k
    rw [← hv] at b1
    obtain ⟨v1, v2⟩ := b1
    have HV := hide hv
    clear hv
    by_cases hlt : k < 14
    · have C1 := hide (CM.out k)
      have C2 := hide (CN.out k)
      obtain ⟨g1, g2⟩ := HD.out (k : Int)
      have HM : Hid (ms y (k + 1) = ms y k + md y (k : Int)) := hide rfl
      have HZ : Hid ((k = 0 ∨ k = 13) → md y (k : Int) = 0) := hide (fun h => md_none (by omega))
      generalize md y (k : Int) = x at *
      rcases (show k = 0 ∨ k = 13 ∨ (¬ k = 0 ∧ ¬ k = 13) by omega) with h | h | ⟨h, h2⟩
      · obtain rfl := HZ.out (.inl h)
        subst h
        rw [show ((0 : Nat) : Int) = 0 from rfl] at C1 C2
        go_wp2_with fail
        with_reducible refine C1.out.mono ?_
        rintro e w1 ⟨rfl, rfl⟩
        go_wp2_with fail
        with_reducible refine C2.out.mono ?_
        rintro e w1 ⟨rfl, rfl⟩
        go_wp2
        go_roundw
        case rel => exact ⟨1, v, by omega, by first | rfl | go_num, by first | rfl | go_num, by rw [HM.out, HV.out]; simp, by first | rfl | trivial⟩
        case measure => simp [intOf]
      · obtain rfl := HZ.out (.inr h)
        subst h
        rw [show ((13 : Nat) : Int) = 13 from rfl] at C1 C2
        go_wp2_with fail
        with_reducible refine C1.out.mono ?_
        rintro e w1 ⟨rfl, rfl⟩
        go_wp2_with fail
        with_reducible refine C2.out.mono ?_
        rintro e w1 ⟨rfl, rfl⟩
        go_wp2
        go_roundw
        case rel => exact ⟨14, v, by omega, by first | rfl | go_num, by first | rfl | go_num, by rw [HM.out, HV.out]; simp, by first | rfl | trivial⟩
        case measure => simp [intOf]
      · have h3 : ((k : Int) == 0) = false := by simp; omega
        have h4 : ((k : Int) == 13) = false := by simp; omega
        go_wp2_with fail
        with_reducible refine C1.out.mono ?_
        rintro e w1 ⟨rfl, rfl⟩
        go_wp2_with fail
        with_reducible refine C2.out.mono ?_
        rintro e w1 ⟨rfl, rfl⟩
        go_wp2
        go_roundw
        case rel => exact ⟨k + 1, v + x, by omega, by go_num, by first | rfl | go_num, by rw [HM.out, HV.out], by first | rfl | trivial⟩
        case measure => simp [intOf]; omega
    · obtain rfl : k = 14 := by omega
      have e14 := HV.out.trans H14.out
      clear v1 v2 HV CM CN HB HD H14
      rcases HW.out with ⟨e4, e100, ed⟩ | ⟨e4, e100, e400, ed⟩ | ⟨e4, e100, e400, ed⟩ | ⟨e4, ed⟩
      all_goals
        rw [ed] at e14
        subst e14
        clear ed
        go_wp2_with fail
        with_reducible refine (CA.out _ (HL.out _ (Below.refl _ _))).mono ?_
        rintro e w9 ⟨rfl, h9⟩
        go_wp2
        go_ret
        exact ⟨rfl, h9⟩
set_option maxRecDepth 100000 in
set_option maxHeartbeats 6400000 in
theorem Cycle_high (sec year y : Int) (w : World) (l : Laid5 w) (hy : year.tmod 1099511627776 = y) (y1 : -1099511627776 ≤ y) (y2 : y ≤ 1099511627776) (hr : -4622780800 < sec) :
    Calls Tryd.prog 8 #[.int .i64 sec, .int .i64 year] w fun e w' => e = .returned (.bool true) ∧ Below w.heap.size w w' := by
  have HL := hide (fun W (q : Below w.heap.size w W) => l.step q)
  have CA := hide awake_any
  have CM := hide (fun (k : Nat) => MonthDays_any y (k : Int) w l.laid)
  have CN := hide (fun (k : Nat) => show Calls Tryd.prog 22 #[.int .i64 (y + 400), .int .i64 (k : Int)] w fun e w' => e = .returned (.int .i64 (md y (k : Int))) ∧ w = w' from (md_400 y (k : Int)) ▸ MonthDays_any (y + 400) (k : Int) w l.laid)
  have HW := hide (leap_ways y)
  have HB := hide (ms_bd y)
  have HD := hide (md_bd y)
  have H14 : Hid (ms y 14 = yd y) := hide (by show ms y 13 + md y ((13 : Nat) : Int) = _; rw [ms_13, md_none (by omega)]; omega)
  clear l
  go_enter Tryd.func8, Tryd.ntmps8
  go_wp2
  go_loopw [5, 15] (fun a i wr => ∃ (k : Nat) (v : Int), k ≤ 14 ∧ i = .int .i64 k ∧ a = .int .i64 v ∧ v = ms y k ∧ wr = w) (fun _ i _ => 14 - (intOf i).toNat)
  case atStart => exact ⟨0, 0, by omega, rfl, rfl, rfl, rfl⟩
  case round =>
    obtain ⟨k, v, hk, rfl, rfl, hv, rfl⟩ := hrel
    have b1 := HB.out k
    rw [← hv] at b1
    obtain ⟨v1, v2⟩ := b1
    have HV := hide hv
    clear hv
    by_cases hlt : k < 14
    · have C1 := hide (CM.out k)
      have C2 := hide (CN.out k)
      obtain ⟨g1, g2⟩ := HD.out (k : Int)
      have HM : Hid (ms y (k + 1) = ms y k + md y (k : Int)) := hide rfl
      have HZ : Hid ((k = 0 ∨ k = 13) → md y (k : Int) = 0) := hide (fun h => md_none (by omega))
      generalize md y (k : Int) = x at *
      rcases (show k = 0 ∨ k = 13 ∨ (¬ k = 0 ∧ ¬ k = 13) by omega) with h | h | ⟨h, h2⟩
      · obtain rfl := HZ.out (.inl h)
        subst h
        rw [show ((0 : Nat) : Int) = 0 from rfl] at C1 C2
        go_wp2_with fail
        with_reducible refine C1.out.mono ?_
        rintro e w1 ⟨rfl, rfl⟩
        go_wp2_with fail
        with_reducible refine C2.out.mono ?_
        rintro e w1 ⟨rfl, rfl⟩
        go_wp2
        go_roundw
        case rel => exact ⟨1, v, by omega, by first | rfl | go_num, by first | rfl | go_num, by rw [HM.out, HV.out]; simp, by first | rfl | trivial⟩
        case measure => simp [intOf]
      · obtain rfl := HZ.out (.inr h)
        subst h
        rw [show ((13 : Nat) : Int) = 13 from rfl] at C1 C2
        go_wp2_with fail
        with_reducible refine C1.out.mono ?_
        rintro e w1 ⟨rfl, rfl⟩
        go_wp2_with fail
        with_reducible refine C2.out.mono ?_
        rintro e w1 ⟨rfl, rfl⟩
        go_wp2
        go_roundw
        case rel => exact ⟨14, v, by omega, by first | rfl | go_num, by first | rfl | go_num, by rw [HM.out, HV.out]; simp, by first | rfl | trivial⟩
        case measure => simp [intOf]
      · have h3 : ((k : Int) == 0) = false := by simp; omega
        have h4 : ((k : Int) == 13) = false := by simp; omega
        go_wp2_with fail
        with_reducible refine C1.out.mono ?_
        rintro e w1 ⟨rfl, rfl⟩
        go_wp2_with fail
        with_reducible refine C2.out.mono ?_
        rintro e w1 ⟨rfl, rfl⟩
        go_wp2
        go_roundw
        case rel => exact ⟨k + 1, v + x, by omega, by go_num, by first | rfl | go_num, by rw [HM.out, HV.out], by first | rfl | trivial⟩
        case measure => simp [intOf]; omega
    · obtain rfl : k = 14 := by omega
      have e14 := HV.out.trans H14.out
      clear v1 v2 HV CM CN HB HD H14
      rcases HW.out with ⟨e4, e100, ed⟩ | ⟨e4, e100, e400, ed⟩ | ⟨e4, e100, e400, ed⟩ | ⟨e4, ed⟩
      all_goals
        rw [ed] at e14
        subst e14
        clear ed
        go_wp2_with fail
        with_reducible refine (CA.out _ (HL.out _ (Below.refl _ _))).mono ?_
        rintro e w9 ⟨rfl, h9⟩
        go_wp2
        go_ret
        exact ⟨rfl, h9⟩
set_option maxRecDepth 100000 in
set_option maxHeartbeats 6400000 in
theorem Cycle_in (sec year y : Int) (w : World) (l : Laid5 w) (hy : year.tmod 1099511627776 = y) (y1 : -1099511627776 ≤ y) (y2 : y ≤ 1099511627776) (hr : -8000000000 ≤ sec ∧ sec ≤ -4622780800) :
    Calls Tryd.prog 8 #[.int .i64 sec, .int .i64 year] w fun e w' => e = .returned (.bool true) ∧ Below w.heap.size w w' := by
  have HL := hide (fun W (q : Below w.heap.size w W) => l.step q)
  have CA := hide awake_any
  have CM := hide (fun (k : Nat) => MonthDays_any y (k : Int) w l.laid)
  have CN := hide (fun (k : Nat) => show Calls Tryd.prog 22 #[.int .i64 (y + 400), .int .i64 (k : Int)] w fun e w' => e = .returned (.int .i64 (md y (k : Int))) ∧ w = w' from (md_400 y (k : Int)) ▸ MonthDays_any (y + 400) (k : Int) w l.laid)
  have HW := hide (leap_ways y)
  have HB := hide (ms_bd y)
  have HD := hide (md_bd y)
  have H14 : Hid (ms y 14 = yd y) := hide (by show ms y 13 + md y ((13 : Nat) : Int) = _; rw [ms_13, md_none (by omega)]; omega)
  obtain ⟨hr1, hr2⟩ := hr
  obtain ⟨y5, d, H, I, S, M, e1, e2, v5⟩ := cycle_of (sec := sec) ⟨hr1, by omega⟩
  have c1 := fun W (q : Laid W) => Of_ok sec W q ⟨hr1, by omega⟩
  have c2 := fun W (q : Laid W) => Of_ok (sec + 12622780800) W q ⟨by omega, by omega⟩
  rw [e1] at c1
  rw [e2] at c2
  have m1 := fun W => MJD_any (sec + 12622780800) W (by omega) (by omega)
  have m0 := fun W => MJD_any sec W (by omega) (by omega)
  have k1 := fun W => Weekday_any (sec + 12622780800) W (by omega) (by omega)
  have k0 := fun W => Weekday_any sec W (by omega) (by omega)
  have q1 : (sec + 12622780800) / 86400 + 15020 = sec / 86400 + 15020 + 146097 := by omega
  have q2 : wkV (sec + 12622780800) = wkV sec := by unfold wkV; omega
  have q3 : -200000 ≤ sec / 86400 + 15020 := by omega
  have q4 : sec / 86400 + 15020 ≤ 200000 := by omega
  rw [q1] at m1
  rw [q2] at k1
  have z1 := v5.y1
  have z2 := v5.y2
  generalize sec / 86400 + 15020 = mm at *
  generalize wkV sec = kk at *
  have C1 := hide c1
  have C2 := hide c2
  have M1 := hide m1
  have M0 := hide m0
  have K1 := hide k1
  have K0 := hide k0
  clear c1 c2 m1 m0 k1 k0 e1 e2 v5 q1 q2
  clear l
  go_enter Tryd.func8, Tryd.ntmps8
  go_wp2
  go_loopw [5, 15] (fun a i wr => ∃ (k : Nat) (v : Int), k ≤ 14 ∧ i = .int .i64 k ∧ a = .int .i64 v ∧ v = ms y k ∧ wr = w) (fun _ i _ => 14 - (intOf i).toNat)
  case atStart => exact ⟨0, 0, by omega, rfl, rfl, rfl, rfl⟩
  case round =>
    obtain ⟨k, v, hk, rfl, rfl, hv, rfl⟩ := hrel
    have b1 := HB.out k
    rw [← hv] at b1
    obtain ⟨v1, v2⟩ := b1
    have HV := hide hv
    clear hv
    by_cases hlt : k < 14
    · have C1 := hide (CM.out k)
      have C2 := hide (CN.out k)
      obtain ⟨g1, g2⟩ := HD.out (k : Int)
      have HM : Hid (ms y (k + 1) = ms y k + md y (k : Int)) := hide rfl
      have HZ : Hid ((k = 0 ∨ k = 13) → md y (k : Int) = 0) := hide (fun h => md_none (by omega))
      generalize md y (k : Int) = x at *
      rcases (show k = 0 ∨ k = 13 ∨ (¬ k = 0 ∧ ¬ k = 13) by omega) with h | h | ⟨h, h2⟩
      · obtain rfl := HZ.out (.inl h)
        subst h
        rw [show ((0 : Nat) : Int) = 0 from rfl] at C1 C2
        go_wp2_with fail
        with_reducible refine C1.out.mono ?_
        rintro e w1 ⟨rfl, rfl⟩
        go_wp2_with fail
        with_reducible refine C2.out.mono ?_
        rintro e w1 ⟨rfl, rfl⟩
        go_wp2
        go_roundw
        case rel => exact ⟨1, v, by omega, by first | rfl | go_num, by first | rfl | go_num, by rw [HM.out, HV.out]; simp, by first | rfl | trivial⟩
        case measure => simp [intOf]
      · obtain rfl := HZ.out (.inr h)
        subst h
        rw [show ((13 : Nat) : Int) = 13 from rfl] at C1 C2
        go_wp2_with fail
        with_reducible refine C1.out.mono ?_
        rintro e w1 ⟨rfl, rfl⟩
        go_wp2_with fail
        with_reducible refine C2.out.mono ?_
        rintro e w1 ⟨rfl, rfl⟩
        go_wp2
        go_roundw
        case rel => exact ⟨14, v, by omega, by first | rfl | go_num, by first | rfl | go_num, by rw [HM.out, HV.out]; simp, by first | rfl | trivial⟩
        case measure => simp [intOf]
      · have h3 : ((k : Int) == 0) = false := by simp; omega
        have h4 : ((k : Int) == 13) = false := by simp; omega
        go_wp2_with fail
        with_reducible refine C1.out.mono ?_
        rintro e w1 ⟨rfl, rfl⟩
        go_wp2_with fail
        with_reducible refine C2.out.mono ?_
        rintro e w1 ⟨rfl, rfl⟩
        go_wp2
        go_roundw
        case rel => exact ⟨k + 1, v + x, by omega, by go_num, by first | rfl | go_num, by rw [HM.out, HV.out], by first | rfl | trivial⟩
        case measure => simp [intOf]; omega
    · obtain rfl : k = 14 := by omega
      have e14 := HV.out.trans H14.out
      clear v1 v2 HV CM CN HB HD H14
      rcases HW.out with ⟨e4, e100, ed⟩ | ⟨e4, e100, e400, ed⟩ | ⟨e4, e100, e400, ed⟩ | ⟨e4, ed⟩
      all_goals
        rw [ed] at e14
        subst e14
        clear ed
        go_wp2_with fail
        with_reducible refine (C1.out _ (HL.out _ (Below.refl _ _)).laid).mono ?_
        rintro e w1 ⟨rfl, h1⟩
        have a1 := h1.alloc h1.size (.cells #[.int .i64 y5, .int .i64 (M : Int), .int .i64 d, .int .i64 H, .int .i64 I, .int .i64 S, .int .i64 0] 23)
        have A1 := hide a1
        have P1 := hide (Box7.new w1 y5 (M : Int) d H I S 0)
        have G2 := hide (C2.out _ (HL.out _ a1).laid)
        clear a1
        go_wp2_with fail
        with_reducible refine G2.out.mono ?_
        rintro e w2 ⟨rfl, h2⟩
        have b2 := A1.out.trans (h2.mono A1.out.size)
        have b3 := b2.alloc b2.size (.cells #[.int .i64 (y5 + 400), .int .i64 (M : Int), .int .i64 d, .int .i64 H, .int .i64 I, .int .i64 S, .int .i64 0] 23)
        have P2 := step_alloc (P1.out.step h2) (.cells #[.int .i64 (y5 + 400), .int .i64 (M : Int), .int .i64 d, .int .i64 H, .int .i64 I, .int .i64 S, .int .i64 0] 23)
        have Q2 := Box7.new w2 (y5 + 400) (M : Int) d H I S 0
        have hpq : w1.heap.size < w2.heap.size := by have := h2.size; simp at this; omega
        have hp := h1.size
        clear h2 b2 A1 P1 G2 h1
        go_upto_region 20 with fail
        generalize w2.alloc (.cells #[.int .i64 (y5 + 400), .int .i64 (M : Int), .int .i64 d, .int .i64 H, .int .i64 I, .int .i64 S, .int .i64 0] 23) = W3 at *
        generalize w2.heap.size = q at *
        generalize w1.heap.size = p at *
        obtain ⟨x0, x1, x2, x3, x4, x5, x6, xf, xlt⟩ := P2
        obtain ⟨u0, u1, u2, u3, u4, u5, u6, uf, ult⟩ := Q2
        have hne : ¬ p = q := by omega
        have hne2 : ¬ q = p := by omega
        have HB4 := hide (fun n => below_drewN (b3.setCell (p := ⟨p, 0, none⟩) hp (.int .i64 (y5 + 400))) n)
        clear b3 hp hpq
        go_wp2_with fail
        with_reducible refine (K0.out _).mono ?_
        rintro e w4 ⟨rfl, n1, rfl⟩
        go_wp2_with fail
        with_reducible refine (K1.out _).mono ?_
        rintro e w4 ⟨rfl, n2, rfl⟩
        go_wp2_with fail
        with_reducible refine (M1.out _).mono ?_
        rintro e w4 ⟨rfl, n3, rfl⟩
        go_wp2_with fail
        with_reducible refine (M0.out _).mono ?_
        rintro e w4 ⟨rfl, n4, rfl⟩
        have B5 := hide (HB4.out (n1 + n2 + n3 + n4))
        go_wp2_with fail
        with_reducible refine (CA.out _ (HL.out _ B5.out)).mono ?_
        rintro e w9 ⟨rfl, h9⟩
        have B6 := hide (B5.out.trans (h9.mono B5.out.size))
        go_wp2
        go_ret
        exact ⟨rfl, B6.out⟩
theorem CivilCycle_walk (sec year : Int) (w : World) (l : Laid5 w) : Calls Tryd.prog 8 #[.int .i64 sec, .int .i64 year] w fun e w' => e = .returned (.bool true) ∧ Below w.heap.size w w' := by
  have h1 := Int.tmod_lt_of_pos year (show (0 : Int) < 1099511627776 by omega)
  have h2 : -1099511627776 < year.tmod 1099511627776 := Int.lt_tmod_of_pos year (by omega)
  by_cases a : sec < -8000000000
  · exact Cycle_low sec year _ w l rfl (by omega) (by omega) a
  · by_cases b : -4622780800 < sec
    · exact Cycle_high sec year _ w l rfl (by omega) (by omega) b
    · exact Cycle_in sec year _ w l rfl (by omega) (by omega) ⟨by omega, by omega⟩
end Go.Proofs.YtbhpceghgjognaaDoor.Civ
