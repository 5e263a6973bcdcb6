
/- The contract of layer 5: Seconds of the reference. -/
import Derived.Test.YtbekfofakpbhiaaDoorCivG
namespace Go.Proofs.YtbekfofakpbhiaaDoor.Civ
open Go.RowKit Aid
set_option maxRecDepth 100000 in
set_option maxHeartbeats 3200000 in
theorem RSeconds_any (y m d h mi s n : Int) (w : World) :
    Calls Tryd.prog 40 #[.agg #[.int .i64 y, .int .i64 m, .int .i64 d, .int .i64 h, .int .i64 mi, .int .i64 s, .int .i64 n]] w fun e w' => e = .returned (.tuple #[.int .i64 (secV y m d h mi s n), .int .i64 (secE y m d h mi s n)]) ∧ Below w.heap.size w w' := by
  have hb0 : Below w.heap.size w (w.alloc (.cells #[.int .i64 y, .int .i64 m, .int .i64 d, .int .i64 h, .int .i64 mi, .int .i64 s, .int .i64 n] 71)) := (Below.refl _ _).alloc (Nat.le_refl _) _
  have C := hide fun W => RCheck_any y m d h mi s n W
  have HB := hide hb0
  clear hb0
  rcases chkC_two y m d h mi s n with hz | hz
  · have V := chkC_ok hz
    obtain ⟨a1, a2, b1, b2, c1, c2, d1, d2, f1, f2, g1, g2, k1, k2⟩ := V
    obtain ⟨M, rfl⟩ : ∃ M : Nat, m = (M : Int) := ⟨m.toNat, by omega⟩
    have md31 := md_bd y (M : Int)
    have HS : Hid (secN y (M : Int) d h mi s = 86400 * (ys y + ms y M + d - 1) + 3600 * h + 60 * mi + s) := hide (by unfold secN; simp)
    have HZ := hide hz
    rw [hz] at C
    have c3 : d ≤ 31 := by omega
    have z0 : ys 1900 = 0 := by decide
    have HZ0 := hide z0
    clear hz c2 z0 md31
    go_enter Tryd.func40, Tryd.ntmps40
    go_wp2_with fail
    refine (C.out _).mono ?_
    rintro e w1 ⟨rfl, hb⟩
    obtain ⟨x0, x1, x2, x3, x4, x5, _, hb2⟩ := cells7 (hb.mono (by simp))
    have HB1 := hide (box_below hb2)
    clear hb hb2 HB C
    go_wp2
    go_loopw [4, 5] (fun a i wr => ∃ z : Int, i = .int .i64 z ∧ a = .int .i64 (d - 1 + ys z) ∧ 1900 ≤ z ∧ z ≤ 2200 ∧ (z = 1900 ∨ z ≤ y) ∧ w1 = wr) (fun _ i _ => 3000 - (intOf i).toNat)
    case atStart => exact ⟨1900, rfl, by rw [HZ0.out]; simp, by omega, by omega, .inl rfl, rfl⟩
    case round =>
      obtain ⟨z, rfl, rfl, z1, z2, z3, rfl⟩ := hrel
      have Y := hide fun W => yearDays_any z W
      have e1 := ys_next z
      have e2 := yd_cases z
      have e4 : -200000 ≤ ys z ∧ ys z ≤ 200000 := by unfold ys; omega
      obtain ⟨e6, e7⟩ := e4
      by_cases hlt : z < y
      · have e8 : 0 ≤ yd z := by omega
        have e9 : yd z ≤ 366 := by omega
        have hd : decide (z < y) = true := decide_eq_true hlt
        have HE := hide e1
        generalize ys z = p at *
        generalize yd z = q at *
        clear e1 e2
        go_wp2_with fail
        refine (Y.out _).mono ?_
        rintro e w' ⟨rfl, rfl⟩
        go_wp2
        go_roundw
        case rel => exact ⟨z + 1, by simp, by rw [HE.out]; congr 1; omega, by omega, by omega, .inr (by omega), by first | rfl | trivial⟩
        case measure => (simp [intOf]) <;> omega
      · have hd : decide (z < y) = false := decide_eq_false hlt
        obtain ⟨D, hD⟩ : ∃ D, d - 1 + ys z = D := ⟨_, rfl⟩
        have HD : Hid (D = d - 1 + ys (max y 1900)) := hide (by rw [← hD, show max y 1900 = z by omega])
        have b5 : -200100 ≤ D := by omega
        have b6 : D ≤ 200100 := by omega
        rw [hD]
        clear hD e1 e2 e6 e7
        go_wp2
        go_loopw [4, 6] (fun a i wr => ∃ z : Int, i = .int .i64 z ∧ a = .int .i64 (D - (ys z - ys y)) ∧ y ≤ z ∧ z ≤ 2200 ∧ (z = y ∨ z ≤ 1900) ∧ w1 = wr) (fun _ i _ => 3000 - (intOf i).toNat)
        case atStart => exact ⟨y, rfl, by simp, by omega, by omega, .inl rfl, rfl⟩
        case round =>
          clear hd hlt z1 z2 z3
          obtain ⟨z, rfl, rfl, z1, z2, z3, rfl⟩ := hrel
          have Y := hide fun W => yearDays_any z W
          have e1 := ys_next z
          have e2 := yd_cases z
          have e4 : -200000 ≤ ys z ∧ ys z ≤ 200000 := by unfold ys; omega
          obtain ⟨e6, e7⟩ := e4
          have e5 : -200000 ≤ ys y ∧ ys y ≤ 200000 := by unfold ys; omega
          obtain ⟨e10, e11⟩ := e5
          by_cases hlt : z < 1900
          · have e8 : 0 ≤ yd z := by omega
            have e9 : yd z ≤ 366 := by omega
            have hd : decide (z < 1900) = true := decide_eq_true hlt
            have HE : Hid (D - (ys z - ys y) - yd z = D - (ys (z + 1) - ys y)) := hide (by omega)
            obtain ⟨p, hp⟩ : ∃ p, D - (ys z - ys y) = p := ⟨_, rfl⟩
            rw [hp] at HE ⊢
            have e12 : -700000 ≤ p := by omega
            have e13 : p ≤ 700000 := by omega
            generalize yd z = q at *
            clear e1 e2 e6 e7 e10 e11 hp
            go_wp2_with fail
            refine (Y.out _).mono ?_
            rintro e w' ⟨rfl, rfl⟩
            go_wp2
            go_roundw
            case rel => exact ⟨z + 1, by simp, by rw [HE.out], by omega, by omega, .inr (by omega), by first | rfl | trivial⟩
            case measure => (simp [intOf]) <;> omega
          · have hd : decide (z < 1900) = false := decide_eq_false hlt
            have e14 : D - (ys z - ys y) = d - 1 + ys y := by
              have h1 := HD.out
              have h2 : z = max y 1900 := by omega
              rw [h1, h2]; omega
            obtain ⟨Y0, hY0⟩ : ∃ Y0, ys y = Y0 := ⟨_, rfl⟩
            have HY := hide hY0
            rw [e14, hY0]
            rw [hY0] at e10 e11
            clear e1 e2 e14 hY0 e6 e7 HD b5 b6
            go_wp2
            go_loopw [4, 7] (fun a i wr => ∃ k : Nat, 1 ≤ k ∧ k ≤ M ∧ i = .int .i64 k ∧ a = .int .i64 (d - 1 + Y0 + ms y k) ∧ w1 = wr) (fun _ i _ => 13 - (intOf i).toNat)
            case atStart => exact ⟨1, by omega, by omega, rfl, by rw [ms_1]; simp, rfl⟩
            case round =>
              clear hd hlt z1 z2 z3
              obtain ⟨k, j1, j2, rfl, rfl, rfl⟩ := hrel
              have HM := hide fun W => RMonthDays_any y (k : Int) W
              have e1 : ms y (k + 1) = ms y k + md y (k : Int) := rfl
              have g1 := md_bd y (k : Int)
              obtain ⟨g3, g4⟩ := g1
              have g5 := ms_mono (y := y) j1
              rw [ms_1] at g5
              have g6 := ms_mono (y := y) (show k ≤ 13 by omega)
              rw [ms_13] at g6
              have g7 := yd_cases y
              have g8 : ms y k ≤ 366 := by omega
              clear g6 g7
              by_cases hlt : k < M
              · have hd : decide ((k : Int) < (M : Int)) = true := decide_eq_true (by omega)
                have HE := hide e1
                generalize md y (k : Int) = p at *
                generalize hq : ms y k = q at *
                clear e1 hq
                go_wp2_with fail
                refine (HM.out _).mono ?_
                rintro e w' ⟨rfl, rfl⟩
                go_wp2
                go_roundw
                case rel => exact ⟨k + 1, by omega, by omega, by go_num, by rw [HE.out]; congr 1; omega, by first | rfl | trivial⟩
                case measure => (simp [intOf]) <;> omega
              · have hd : decide ((k : Int) < (M : Int)) = false := decide_eq_false (by omega)
                have hk2 : k = M := by omega
                subst hk2
                have HS2 : Hid (secN y (k : Int) d h mi s = (d - 1 + Y0 + ms y k) * 86400 + h * 3600 + mi * 60 + s) := hide (by rw [HS.out, HY.out]; omega)
                obtain ⟨q, hq⟩ : ∃ q, ms y k = q := ⟨_, rfl⟩
                rw [hq] at HS2 g5 g8 ⊢
                obtain ⟨t, ht⟩ : ∃ t, (d - 1 + Y0 + q) * 86400 + h * 3600 + mi * 60 + s = t := ⟨_, rfl⟩
                rw [ht] at HS2
                clear e1 HM g3 g4 hq
                by_cases hr1 : t < -8000000000
                · have EV : Hid (secV y (k : Int) d h mi s n = 0) := hide (by unfold secV; rw [HS2.out, if_neg (fun k => by omega)])
                  have EE : Hid (secE y (k : Int) d h mi s n = 3) := hide (by unfold secE; rw [HS2.out, if_neg (fun k => by omega)])
                  have hd2 : decide (t < -8000000000) = true := decide_eq_true hr1
                  go_wp2
                  go_ret2
                  exact ⟨by rw [EV.out, EE.out]; rfl, HB1.out⟩
                · have hd2 : decide (t < -8000000000) = false := decide_eq_false hr1
                  by_cases hr2 : 8000000000 < t
                  · have EV : Hid (secV y (k : Int) d h mi s n = 0) := hide (by unfold secV; rw [HS2.out, if_neg (fun k => by omega)])
                    have EE : Hid (secE y (k : Int) d h mi s n = 3) := hide (by unfold secE; rw [HS2.out, if_neg (fun k => by omega)])
                    have hd3 : decide (8000000000 < t) = true := decide_eq_true hr2
                    go_wp2
                    go_ret2
                    exact ⟨by rw [EV.out, EE.out]; rfl, HB1.out⟩
                  · have hd3 : decide (8000000000 < t) = false := decide_eq_false hr2
                    have EV : Hid (secV y (k : Int) d h mi s n = t) := hide (by unfold secV; rw [HS2.out, if_pos ⟨HZ.out, by omega⟩])
                    have EE : Hid (secE y (k : Int) d h mi s n = 0) := hide (by unfold secE; rw [HS2.out, if_pos ⟨HZ.out, by omega⟩])
                    go_wp2
                    go_ret2
                    exact ⟨by rw [EV.out, EE.out]; rfl, HB1.out⟩
  · have ev : secV y m d h mi s n = 0 := by unfold secV; rw [if_neg (by rw [hz]; simp)]
    have ee : secE y m d h mi s n = 3 := by unfold secE; rw [if_neg (by rw [hz]; simp)]
    rw [ev, ee]
    rw [hz] at C
    clear hz ev ee
    go_enter Tryd.func40, Tryd.ntmps40
    go_wp2_with fail
    refine (C.out _).mono ?_
    rintro e w1 ⟨rfl, hb⟩
    go_wp2
    go_ret2
    exact ⟨rfl, HB.out.trans (hb.mono (by simp))⟩
end Go.Proofs.YtbekfofakpbhiaaDoor.Civ
