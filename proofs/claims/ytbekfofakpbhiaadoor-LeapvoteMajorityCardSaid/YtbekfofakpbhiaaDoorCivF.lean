
/- The contract of layer 5: Of of the reference. -/
import Derived.Test.YtbekfofakpbhiaaDoorCivE
namespace Go.Proofs.YtbekfofakpbhiaaDoor.Civ
open Go.RowKit Aid
theorem ROf_bad (sec : Int) (w : World) (h : ¬ (-8000000000 ≤ sec ∧ sec ≤ 8000000000)) :
    Calls Tryd.prog 39 #[.int .i64 sec] w fun e w' => e = .returned (.tuple #[zeroV, .int .i64 3]) ∧ Below w.heap.size w w' := by
  have hb0 : Below w.heap.size w (w.alloc Z7) := (Below.refl _ _).alloc (Nat.le_refl _) _
  have HB := hide hb0
  clear hb0
  by_cases h1 : sec < -8000000000
  · go_enter Tryd.func39, Tryd.ntmps39
    go_wp2
    refine bodyPost_ret (v := .tuple #[zeroV, .int .i64 3]) (by simp [results, Tryd.results39, go_sem, zeroV]) rfl ?_
    exact ⟨rfl, HB.out⟩
  · have h2 : 8000000000 < sec := by omega
    go_enter Tryd.func39, Tryd.ntmps39
    go_wp2
    refine bodyPost_ret (v := .tuple #[zeroV, .int .i64 3]) (by simp [results, Tryd.results39, go_sem, zeroV]) rfl ?_
    exact ⟨rfl, HB.out⟩
abbrev B7 (y m d h mi s : Int) : Obj := .cells #[.int .i64 y, .int .i64 m, .int .i64 d, .int .i64 h, .int .i64 mi, .int .i64 s, .int .i64 0] 71
set_option maxRecDepth 100000 in
set_option maxHeartbeats 3200000 in
theorem ROf_ok (sec : Int) (w : World) (h : -8000000000 ≤ sec ∧ sec ≤ 8000000000) :
    Calls Tryd.prog 39 #[.int .i64 sec] w fun e w' => e = .returned (.tuple #[ofV sec, .int .i64 0]) ∧ Below w.heap.size w w' := by
  obtain ⟨h0, h9⟩ := h
  have D := hide fun W => dayOf_any sec W (by omega) (by omega)
  have hb0 : Below w.heap.size w (w.alloc Z7) := (Below.refl _ _).alloc (Nat.le_refl _) _
  have HB := hide hb0
  have n1 : -92593 ≤ sec / 86400 := by omega
  have n2 : sec / 86400 ≤ 92592 := by omega
  have r1 : sec - sec / 86400 * 86400 = sec % 86400 := by omega
  have r2 : 0 ≤ sec % 86400 := by omega
  have r3 : sec % 86400 < 86400 := by omega
  have DO := hide (fun (y d : Int) (m : Nat) (k : Date (sec / 86400) y m d) => dateOf_eq (n := sec / 86400) (by unfold ys; omega) k)
  obtain ⟨v, hv⟩ : ∃ v, v = ofV sec := ⟨_, rfl⟩
  have HV := hide hv
  rw [← hv]
  clear hb0 hv
  unfold ofV at HV
  generalize hn : sec / 86400 = n at *
  generalize hr : sec % 86400 = r at *
  clear hn hr
  go_enter Tryd.func39, Tryd.ntmps39
  go_wp2_with fail
  refine (D.out _).mono ?_
  rintro e w' ⟨rfl, rfl⟩
  go_wp2
  have z0 : ys 1900 = 0 := by decide
  have HZ0 := hide z0
  clear z0
  go_loopw [4] (fun a wr => ∃ y : Int, a = .int .i64 (n - ys y) ∧ 1646 ≤ y ∧ y ≤ 1900 ∧ (y = 1900 ∨ n < ys (y + 1)) ∧ wr = (w.alloc Z7).alloc (B7 y 1 0 (r / 3600) (r / 60 % 60) (r % 60))) (fun a _ => (1 - intOf a).toNat)
  case atStart => exact ⟨1900, by rw [HZ0.out]; simp, by omega, by omega, .inl rfl, rfl⟩
  case round =>
    obtain ⟨y, rfl, y1, y2, y3, rfl⟩ := hrel
    have Y := hide fun W => yearDays_any (y - 1) W
    have e1 := ys_next (y - 1)
    rw [show y - 1 + 1 = y by omega] at e1
    have e2 := yd_cases (y - 1)
    by_cases hlt : n - ys y < 0
    · have y4 := ys_1646 (y := y) n1 (by omega)
      have e3 : n - ys y + yd (y - 1) = n - ys (y - 1) := by omega
      have e4 : -200000 ≤ n - ys y ∧ n - ys y ≤ 200000 := by unfold ys; omega
      have e5 : 365 ≤ yd (y - 1) ∧ yd (y - 1) ≤ 366 := by omega
      obtain ⟨e6, e7⟩ := e4
      obtain ⟨e8, e9⟩ := e5
      have HE := hide e3
      have HL : Hid (n < ys y) := hide (by omega)
      generalize hA : n - ys y = a at *
      generalize hB : yd (y - 1) = b at *
      clear hA hB e1 e2 e3 y3
      go_wp2_with fail
      refine (Y.out _).mono ?_
      rintro e w' ⟨rfl, rfl⟩
      go_wp2
      go_roundw
      case rel => exact ⟨y - 1, by rw [HE.out], by omega, by omega, .inr (by rw [show y - 1 + 1 = y by omega]; exact HL.out), rfl⟩
      case measure => (simp [intOf]) <;> omega
    · have y5 : ys y ≤ n := by omega
      have HY := hide y5
      have hd : decide (n - ys y < 0) = false := decide_eq_false hlt
      have e4 : -200000 ≤ n - ys y ∧ n - ys y ≤ 200000 := by unfold ys; omega
      obtain ⟨e6, e7⟩ := e4
      obtain ⟨a, hA⟩ : ∃ a, n - ys y = a := ⟨_, rfl⟩
      have HA := hide hA
      rw [hA] at hd hlt e6 e7
      rw [hA]
      clear e1 e2 hA y5 Y
      go_wp2
      go_loopw [4] (fun a wr => ∃ y : Int, a = .int .i64 (n - ys y) ∧ 1646 ≤ y ∧ y ≤ 2153 ∧ ys y ≤ n ∧ wr = (w.alloc Z7).alloc (B7 y 1 0 (r / 3600) (r / 60 % 60) (r % 60))) (fun a _ => (intOf a).toNat)
      case atStart => exact ⟨y, by rw [HA.out], by omega, by omega, HY.out, rfl⟩
      case round =>
        clear y1 y2 y3 hd HY HA e6 e7 hlt
        obtain ⟨y, rfl, y1, y2, y3, rfl⟩ := hrel
        have Y := hide fun W => yearDays_any y W
        have e1 := ys_next y
        have e2 := yd_cases y
        have e4 : 0 ≤ n - ys y ∧ n - ys y ≤ 200000 := by constructor; omega; unfold ys; omega
        obtain ⟨e6, e7⟩ := e4
        have e5 : 365 ≤ yd y ∧ yd y ≤ 366 := by omega
        obtain ⟨e8, e9⟩ := e5
        by_cases hlt : yd y ≤ n - ys y
        · have y4 := ys_2153 (y := y) n2 (by omega)
          have e3 : n - ys y - yd y = n - ys (y + 1) := by omega
          have HE := hide e3
          have HN : Hid (ys (y + 1) ≤ n) := hide (by omega)
          have hd : decide (yd y ≤ n - ys y) = true := decide_eq_true hlt
          generalize hA : n - ys y = a at *
          generalize hB : yd y = b at *
          clear hA hB e1 e2 e3 y3
          go_wp2_with fail
          refine (Y.out _).mono ?_
          rintro e w' ⟨rfl, rfl⟩
          go_wp2_with fail
          refine (Y.out _).mono ?_
          rintro e w' ⟨rfl, rfl⟩
          go_wp2
          go_roundw
          case rel => exact ⟨y + 1, by rw [HE.out], by omega, by omega, HN.out, rfl⟩
          case measure => (simp [intOf]) <;> omega
        · have hd : decide (yd y ≤ n - ys y) = false := decide_eq_false hlt
          have HN : Hid (n < ys (y + 1)) := hide (by omega)
          have HS := hide y3
          obtain ⟨z, hz⟩ : ∃ z, n - ys y = z := ⟨_, rfl⟩
          have HZ := hide hz
          have hz2 : z < yd y := by omega
          have HZ2 := hide hz2
          rw [hz] at hd hlt e6 e7
          rw [hz]
          obtain ⟨b, hb⟩ : ∃ b, yd y = b := ⟨_, rfl⟩
          rw [hb] at hd hlt e8 e9 Y
          clear hz hz2 e1 e2 y3 hb
          go_wp2_with fail
          refine (Y.out _).mono ?_
          rintro e w' ⟨rfl, rfl⟩
          go_wp2
          go_loopw [4] (fun a wr => ∃ m : Nat, 1 ≤ m ∧ m ≤ 12 ∧ a = .int .i64 (z - ms y m) ∧ ms y m ≤ z ∧ wr = (w.alloc Z7).alloc (B7 y m 0 (r / 3600) (r / 60 % 60) (r % 60))) (fun a _ => (intOf a).toNat)
          case atStart => exact ⟨1, by omega, by omega, by rw [ms_1]; simp, by rw [ms_1]; exact e6, rfl⟩
          case round =>
            clear hd hlt e8 e9 Y
            obtain ⟨m, m1, m2, rfl, m3, rfl⟩ := hrel
            have M := hide fun W => RMonthDays_any y m W
            have e2 : ms y (m + 1) = ms y m + md y (m : Int) := rfl
            have g1 := md_bd y (m : Int)
            have g3 := md_pos (y := y) (m := (m : Int)) (by omega) (by omega)
            have g2 := ms_mono (y := y) (show 1 ≤ m by omega)
            rw [ms_1] at g2
            have b1 : 0 ≤ z - ms y m := by omega
            have b2 : z - ms y m ≤ 200000 := by omega
            by_cases hc : md y (m : Int) ≤ z - ms y m
            · have m4 : m < 12 := by
                rcases Nat.lt_or_ge m 12 with h | h
                · exact h
                · obtain rfl : m = 12 := by omega
                  have := ms_13 y
                  have e3 : ms y (12 + 1) = ms y 13 := rfl
                  have := HZ2.out
                  omega
              have hcd : decide (md y (m : Int) ≤ z - ms y m) = true := decide_eq_true hc
              have e3 : z - ms y m - md y (m : Int) = z - ms y (m + 1) := by omega
              have HE := hide e3
              have HE2 : Hid (ms y (m + 1) ≤ z) := hide (by omega)
              generalize hq : md y (m : Int) = p at *
              generalize hq2 : z - ms y m = c at *
              clear e2 hq hq2 e3 m3 g2
              go_wp2_with fail
              refine (M.out _).mono ?_
              rintro e w' ⟨rfl, rfl⟩
              go_wp2_with fail
              refine (M.out _).mono ?_
              rintro e w' ⟨rfl, rfl⟩
              go_wp2
              go_roundw
              case rel => exact ⟨m + 1, by omega, by omega, by rw [HE.out], HE2.out, by simp⟩
              case measure => (simp [intOf]) <;> omega
            · have hcd : decide (md y (m : Int) ≤ z - ms y m) = false := decide_eq_false hc
              have hdate : Date n y m (z - ms y m + 1) := by
                have Z := HZ.out
                exact ⟨HS.out, HN.out, m1, m2, by omega, by omega, by omega⟩
              have HD := hide (DO.out _ _ _ hdate)
              generalize hq : md y (m : Int) = p at *
              generalize hq2 : z - ms y m = dd at *
              clear hdate hc e2 g1 g2 g3 m3 hq hq2
              have hv2 : v = .agg #[.int .i64 y, .int .i64 (m : Int), .int .i64 (dd + 1), .int .i64 (r / 3600), .int .i64 (r / 60 % 60), .int .i64 (r % 60), .int .i64 0] := by rw [HV.out, HD.out]
              have HV2 := hide hv2
              clear hv2
              go_wp2_with fail
              refine (M.out _).mono ?_
              rintro e w' ⟨rfl, rfl⟩
              go_wp2
              refine bodyPost_ret (v := .tuple #[v, .int .i64 0]) (by simp [results, Tryd.results39, go_sem, HV2.out]) rfl ?_
              refine ⟨rfl, ?_⟩
              repeat (with_reducible refine Below.setCell ?_ (by simp) _)
              exact ((Below.refl _ _).alloc (Nat.le_refl _) _).alloc (by simp) _
end Go.Proofs.YtbekfofakpbhiaaDoor.Civ
