
/- The contract of layer 5: Of of the package. -/
import Derived.Test.YtnmpoeljjajdiaaDoorCivC0
namespace Go.Proofs.YtnmpoeljjajdiaaDoor.Civ
open Go.RowKit Aid
theorem date_ex (n : Int) : ∃ t : Int × Nat × Int, ys 1 ≤ n → Date n t.1 t.2.1 t.2.2 := by
  by_cases h : ys 1 ≤ n
  · obtain ⟨y, m, d, k⟩ := date_exists n h
    exact ⟨(y, m, d), fun _ => k⟩
  · exact ⟨(0, 0, 0), fun k => absurd k h⟩
noncomputable def dateOf (n : Int) : Int × Nat × Int := Classical.choose (date_ex n)
theorem dateOf_spec {n : Int} (h : ys 1 ≤ n) : Date n (dateOf n).1 (dateOf n).2.1 (dateOf n).2.2 := Classical.choose_spec (date_ex n) h
theorem dateOf_eq {n y d : Int} {m : Nat} (h : ys 1 ≤ n) (k : Date n y m d) : dateOf n = (y, m, d) := by
  obtain ⟨a, b, c⟩ := (dateOf_spec h).unique k
  have : dateOf n = ((dateOf n).1, (dateOf n).2.1, (dateOf n).2.2) := rfl
  rw [this, a, b, c]
noncomputable def ofV (sec : Int) : Value := .agg #[.int .i64 (dateOf (sec / 86400)).1, .int .i64 ((dateOf (sec / 86400)).2.1 : Int), .int .i64 (dateOf (sec / 86400)).2.2, .int .i64 (sec % 86400 / 3600), .int .i64 (sec % 86400 / 60 % 60), .int .i64 (sec % 86400 % 60), .int .i64 0]
def zeroV : Value := .agg #[.int .i64 0, .int .i64 0, .int .i64 0, .int .i64 0, .int .i64 0, .int .i64 0, .int .i64 0]
theorem Of_bad (sec : Int) (w : World) (h : ¬ (-8000000000 ≤ sec ∧ sec ≤ 8000000000)) :
    Calls Tryd.prog 18 #[.int .i64 sec] w fun e w' => e = .returned (.tuple #[zeroV, .int .i64 3]) ∧ Below w.heap.size w w' := by
  have C := hide fun W => within_any sec (-8000000000) 8000000000 W
  rw [inB_f h] at C
  have hb0 : Below w.heap.size w (w.alloc (.cells #[.int .i64 0, .int .i64 0, .int .i64 0, .int .i64 0, .int .i64 0, .int .i64 0, .int .i64 0] 51)) := (Below.refl _ _).alloc (Nat.le_refl _) _
  have HB := hide hb0
  clear hb0
  go_enter Tryd.func18, Tryd.ntmps18
  go_wp2_with fail
  refine (C.out _).mono ?_
  rintro e w' ⟨rfl, rfl⟩
  go_wp2
  refine bodyPost_ret (v := .tuple #[zeroV, .int .i64 3]) (by simp [results, Tryd.results18, go_sem, zeroV]) rfl ?_
  exact ⟨rfl, HB.out⟩
abbrev Z7 : Obj := .cells #[.int .i64 0, .int .i64 0, .int .i64 0, .int .i64 0, .int .i64 0, .int .i64 0, .int .i64 0] 51
theorem ys_1646 {y n : Int} (hn : -92593 ≤ n) (h : n < ys y) : 1646 < y := by unfold ys at h; omega
theorem ys_2153 {y n : Int} (hn : n ≤ 92592) (h : ys (y + 1) ≤ n) : y < 2153 := by unfold ys at h; omega
set_option maxRecDepth 100000 in
set_option maxHeartbeats 3200000 in
theorem Of_ok (sec : Int) (w : World) (l : Laid w) (h : -8000000000 ≤ sec ∧ sec ≤ 8000000000) :
    Calls Tryd.prog 18 #[.int .i64 sec] w fun e w' => e = .returned (.tuple #[ofV sec, .int .i64 0]) ∧ Below w.heap.size w w' := by
  have C := hide fun W => within_any sec (-8000000000) 8000000000 W
  rw [inB_t h] at C
  have D := hide fun W => day_any sec W (by omega) (by omega)
  have hb0 : Below w.heap.size w (w.alloc Z7) := (Below.refl _ _).alloc (Nat.le_refl _) _
  have HB := hide hb0
  have L0 := hide (l.step hb0)
  have n1 : -92593 ≤ sec / 86400 := by omega
  have n2 : sec / 86400 ≤ 92592 := by omega
  have r1 : sec - sec / 86400 * 86400 = sec % 86400 := by omega
  have r2 : 0 ≤ sec % 86400 := by omega
  have r3 : sec % 86400 < 86400 := by omega
  have DO := hide (fun (y d : Int) (m : Nat) (k : Date (sec / 86400) y m d) => dateOf_eq (n := sec / 86400) (by unfold ys; omega) k)
  obtain ⟨v, hv⟩ : ∃ v, v = ofV sec := ⟨_, rfl⟩
  have HV := hide hv
  rw [← hv]
  clear hb0 l hv
  unfold ofV at HV
  generalize hn : sec / 86400 = n at *
  generalize hr : sec % 86400 = r at *
  clear hn hr
  have q1 : -254 ≤ n.tdiv 366 ∧ n.tdiv 366 ≤ 253 := by
    rw [Int.tdiv_eq_ediv]
    split
    · omega
    · rw [show Int.sign 366 = 1 from rfl]; omega
  obtain ⟨q, hq⟩ : ∃ q, n.tdiv 366 = q := ⟨_, rfl⟩
  rw [hq] at q1
  obtain ⟨q1, q2⟩ := q1
  go_enter Tryd.func18, Tryd.ntmps18
  go_wp2_with fail
  refine (C.out _).mono ?_
  rintro e w' ⟨rfl, rfl⟩
  go_wp2_with fail
  refine (D.out _).mono ?_
  rintro e w1 ⟨rfl, k, rfl⟩
  have HL : Hid (Laid ((w.alloc Z7).drewN k)) := hide (L0.out.step (below_drewN (Below.refl _ _) k))
  go_wp2
  go_loopw [6] (fun a wr => ∃ y : Int, a = .int .i64 y ∧ 1646 ≤ y ∧ y ≤ 2153 ∧ wr = (w.alloc Z7).drewN k) (fun a _ => (intOf a).toNat)
  case atStart => exact ⟨_, rfl, by omega, by omega, rfl⟩
  case round =>
    obtain ⟨y, rfl, y1, y2, rfl⟩ := hrel
    have Y := hide fun W => yearStart_any y W (by omega) (by omega)
    by_cases hlt : n < ys y
    · have y3 := ys_1646 n1 hlt
      have hd : decide (n < ys y) = true := decide_eq_true hlt
      generalize ys y = a at *
      clear hlt
      go_wp2_with fail
      refine (Y.out _).mono ?_
      rintro e w' ⟨rfl, rfl⟩
      go_wp2
      go_roundw
      case rel => exact ⟨y - 1, rfl, by omega, by omega, by first | rfl | trivial⟩
      case measure => (simp [intOf]) <;> omega
    · have hd : decide (n < ys y) = false := decide_eq_false hlt
      have HY := hide hlt
      generalize hA : ys y = a at *
      have HA := hide hA
      clear hlt hA
      go_wp2_with fail
      refine (Y.out _).mono ?_
      rintro e w' ⟨rfl, rfl⟩
      go_wp2
      go_loopw [6] (fun a wr => ∃ y : Int, a = .int .i64 y ∧ 1646 ≤ y ∧ y ≤ 2153 ∧ ys y ≤ n ∧ wr = (w.alloc Z7).drewN k) (fun a _ => 3000 - (intOf a).toNat)
      case atStart => exact ⟨_, rfl, by omega, by omega, by have := HY.out; have := HA.out; omega, rfl⟩
      case round =>
        clear y1 y2 Y hd HY HA
        obtain ⟨y, rfl, y1, y2, y3, rfl⟩ := hrel
        have Y := hide fun W => yearStart_any (y + 1) W (by omega) (by omega)
        by_cases hlt : ys (y + 1) ≤ n
        · have y4 := ys_2153 n2 hlt
          have hd : decide (ys (y + 1) ≤ n) = true := decide_eq_true hlt
          have HY := hide hlt
          generalize hA : ys (y + 1) = a at *
          have HA := hide hA
          clear hlt hA y3
          go_wp2_with fail
          refine (Y.out _).mono ?_
          rintro e w' ⟨rfl, rfl⟩
          go_wp2
          go_roundw
          case rel => exact ⟨y + 1, rfl, by omega, by omega, by rw [HA.out]; exact HY.out, by first | rfl | trivial⟩
          case measure => (simp [intOf]) <;> omega
        · have hd : decide (ys (y + 1) ≤ n) = false := decide_eq_false hlt
          have Y2 := hide fun W => yearStart_any y W (by omega) (by omega)
          have hy := ys_next y
          have hyd := yd_cases y
          have hz : 0 ≤ n - ys y := by omega
          have hz2 : n - ys y < yd y := by omega
          have hz3 : n - ys y ≤ 366 := by omega
          have HYY := hide (And.intro y3 hlt)
          have HM := hide (fun m (_ : True) => md_bd y m)
          have hys : -200000 ≤ ys y ∧ ys y ≤ 200000 := by omega
          clear hy hyd y3
          generalize hA : ys (y + 1) = a at *
          generalize hB : ys y = b at *
          have HA := hide (And.intro hA hB)
          obtain ⟨z, hzz⟩ : ∃ z, z = n - b := ⟨_, rfl⟩
          have hzw : n - b = z := hzz.symm
          rw [hzw] at hz hz2 hz3
          have HZ := hide hzw
          clear hlt hA hB hzz
          go_wp2_with fail
          refine (Y.out _).mono ?_
          rintro e w' ⟨rfl, rfl⟩
          go_wp2_with fail
          refine (Y2.out _).mono ?_
          rintro e w' ⟨rfl, rfl⟩
          go_wp2
          go_loopw [4, 7] (fun a c wr => ∃ m : Nat, 1 ≤ m ∧ m ≤ 12 ∧ a = .int .i64 (z - ms y m) ∧ c = .int .i64 m ∧ ms y m ≤ z ∧ wr = (w.alloc Z7).drewN k) (fun _ c _ => 13 - (intOf c).toNat)
          case atStart => exact ⟨1, by omega, by omega, by rw [ms_1]; simp, rfl, by rw [ms_1]; exact hz, rfl⟩
          case round =>
            clear hd Y Y2
            obtain ⟨m, m1, m2, rfl, rfl, m3, rfl⟩ := hrel
            have M := hide (MonthDays_any y m _ HL.out)
            have e2 : ms y (m + 1) = ms y m + md y (m : Int) := rfl
            have g1 := md_bd y (m : Int)
            have g2 := ms_mono (y := y) (show 1 ≤ m by omega)
            rw [ms_1] at g2
            by_cases hc : md y (m : Int) ≤ z - ms y m
            · have m4 : m < 12 := by
                rcases Nat.lt_or_ge m 12 with h | h
                · exact h
                · obtain rfl : m = 12 := by omega
                  have := ms_13 y
                  have e3 : ms y (12 + 1) = ms y 13 := rfl
                  omega
              have hcd : decide (md y (m : Int) ≤ z - ms y m) = true := decide_eq_true hc
              have HE := hide e2
              generalize hq : md y (m : Int) = p at *
              clear e2 hq
              go_wp2_with fail
              refine M.out.mono ?_
              rintro e w' ⟨rfl, rfl⟩
              go_wp2_with fail
              refine M.out.mono ?_
              rintro e w' ⟨rfl, rfl⟩
              go_wp2
              go_roundw
              case rel => exact ⟨m + 1, by omega, by omega, by rw [HE.out]; congr 1; omega, by go_num, by rw [HE.out]; omega, by first | rfl | trivial⟩
              case measure => (simp [intOf]) <;> omega
            · have hcd : decide (md y (m : Int) ≤ z - ms y m) = false := decide_eq_false hc
              have hdate : Date n y m (z - ms y m + 1) := by
                have A := HA.out
                have B := HYY.out
                have Z := HZ.out
                exact ⟨by rw [A.2]; exact B.1, by rw [A.1]; omega, m1, m2, by rw [A.2]; omega, by omega, by omega⟩
              have HD := hide (DO.out _ _ _ hdate)
              obtain ⟨dd, hdd⟩ : ∃ dd, dd = z - ms y m := ⟨_, rfl⟩
              have b1 : 0 ≤ dd := by omega
              have b2 : dd ≤ 366 := by omega
              rw [← hdd] at HD hcd ⊢
              clear hdate hc e2 g1 g2 m3 hdd
              generalize hq : md y (m : Int) = p at *
              clear hq
              go_wp2_with fail
              refine M.out.mono ?_
              rintro e w' ⟨rfl, rfl⟩
              go_wp2
              have hv2 : v = .agg #[.int .i64 y, .int .i64 (m : Int), .int .i64 (dd + 1), .int .i64 (r / 3600), .int .i64 (r / 60 % 60), .int .i64 (r % 60), .int .i64 0] := by rw [HV.out, HD.out]
              refine bodyPost_ret (v := .tuple #[v, .int .i64 0]) (by simp [results, Tryd.results18, go_sem, hv2]) rfl ?_
              refine ⟨rfl, ?_⟩
              repeat (with_reducible refine Below.setCell ?_ (by simp) _)
              exact below_drewN HB.out _
end Go.Proofs.YtnmpoeljjajdiaaDoor.Civ
