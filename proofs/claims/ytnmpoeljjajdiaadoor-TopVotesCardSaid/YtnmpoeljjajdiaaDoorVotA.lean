
/- The contracts of layer 54: the functions of seconds. -/
import Derived.Test.YtnmpoeljjajdiaaDoorLeapA
import Derived.Test.YtnmpoeljjajdiaaDoorCivH
namespace Go.Proofs.YtnmpoeljjajdiaaDoor.Vot
open Go.RowKit Aid Civ Leap
theorem isSecond_any (n : Int) (w : World) : Calls Tryd.prog 30 #[.int .i64 n] w fun e w' => e = .returned (.bool (inB n (-8000000000) 8000000000)) ∧ w = w' := by
  by_cases hc : -8000000000 ≤ n
  · have hd : decide (-8000000000 ≤ n) = true := decide_eq_true hc
    go_enter Tryd.func30, Tryd.ntmps30
    go_wp2
    go_ret
    exact ⟨ret_bool (by simp [inB, hc]), by first | rfl | trivial⟩
  · have hd : decide (-8000000000 ≤ n) = false := decide_eq_false hc
    go_enter Tryd.func30, Tryd.ntmps30
    go_wp2
    go_ret
    exact ⟨ret_bool (by unfold inB; simp; omega), by first | rfl | trivial⟩
set_option maxHeartbeats 1600000 in
theorem startsMonth_any (sec : Int) (w : World) (l : Laid w) : Calls Tryd.prog 33 #[.int .i64 sec] w fun e w' => e = .returned (.bool (begB sec)) ∧ Below w.heap.size w w' := by
  by_cases h : -8000000000 ≤ sec ∧ sec ≤ 8000000000
  · have c := Of_ok sec w l h
    unfold ofV at c
    rw [begB_in h]
    generalize (dateOf (sec / 86400)).1 = y at *
    generalize ((dateOf (sec / 86400)).2.1 : Int) = m at *
    generalize (dateOf (sec / 86400)).2.2 = d at *
    generalize sec % 86400 / 3600 = H at *
    generalize sec % 86400 / 60 % 60 = I at *
    generalize sec % 86400 % 60 = S at *
    have C := hide c
    clear c h l
    rcases @five (d == 1) (H == 0) (I == 0) (S == 0) with h1 | ⟨h1, h2⟩ | ⟨h1, h2, h3⟩ | ⟨h1, h2, h3, h4⟩ | ⟨h1, h2, h3, h4⟩
    all_goals
      go_enter Tryd.func33, Tryd.ntmps33
      go_wp2_with fail
      refine C.out.mono ?_
      rintro e w1 ⟨rfl, hb⟩
      go_wp2
      go_ret
      exact ⟨ret_bool (by simp [*]), hb.alloc hb.size _⟩
  · have C := hide (Of_bad sec w h)
    rw [begB_out h]
    unfold zeroV at C
    clear h l
    go_enter Tryd.func33, Tryd.ntmps33
    go_wp2_with fail
    refine C.out.mono ?_
    rintro e w1 ⟨rfl, hb⟩
    go_wp2
    go_ret
    exact ⟨rfl, hb.alloc hb.size _⟩
theorem begB_agg {sec : Int} (h : -8000000000 ≤ sec ∧ sec ≤ 8000000000) : begB sec = ((dateOf (sec / 86400)).2.2 == 1 && (sec % 86400 / 3600 == 0 && (sec % 86400 / 60 % 60 == 0 && sec % 86400 % 60 == 0))) := by rw [begB_in h]; simp [Bool.and_assoc]
/-- the first second of the next month, and whether it is in the calendar -/
noncomputable def nxY (sec : Int) : Int := if (dateOf (sec / 86400)).2.1 = 12 then (dateOf (sec / 86400)).1 + 1 else (dateOf (sec / 86400)).1
noncomputable def nxM (sec : Int) : Int := if (dateOf (sec / 86400)).2.1 = 12 then 1 else ((dateOf (sec / 86400)).2.1 : Int) + 1
noncomputable def nxV (sec : Int) : Int := if -8000000000 ≤ sec ∧ sec ≤ 8000000000 then secV (nxY sec) (nxM sec) 1 0 0 0 0 else 0
noncomputable def nxB (sec : Int) : Bool := decide (-8000000000 ≤ sec ∧ sec ≤ 8000000000) && secE (nxY sec) (nxM sec) 1 0 0 0 0 == 0
theorem date_bd {sec : Int} (h : -8000000000 ≤ sec ∧ sec ≤ 8000000000) : (1600 ≤ (dateOf (sec / 86400)).1 ∧ (dateOf (sec / 86400)).1 ≤ 2200) ∧ 1 ≤ (dateOf (sec / 86400)).2.1 ∧ (dateOf (sec / 86400)).2.1 ≤ 12 := by
  have D := dateOf_spec (n := sec / 86400) (by unfold ys; omega)
  have a := D.y1
  have b := D.y2
  have h1 : 1646 < (dateOf (sec / 86400)).1 + 1 := ys_1646 (n := sec / 86400) (by omega) b
  have h2 : (dateOf (sec / 86400)).1 - 1 < 2153 := ys_2153 (n := sec / 86400) (by omega) (by rw [Int.sub_add_cancel]; exact a)
  exact ⟨⟨by omega, by omega⟩, D.m1, D.m2⟩
theorem nxV_out {sec : Int} (h : ¬ (-8000000000 ≤ sec ∧ sec ≤ 8000000000)) : nxV sec = 0 ∧ nxB sec = false := by unfold nxV nxB; rw [if_neg h, decide_eq_false h]; exact ⟨rfl, rfl⟩
theorem nxV_in {sec : Int} (h : -8000000000 ≤ sec ∧ sec ≤ 8000000000) : nxV sec = secV (nxY sec) (nxM sec) 1 0 0 0 0 ∧ nxB sec = (secE (nxY sec) (nxM sec) 1 0 0 0 0 == 0) := by unfold nxV nxB; rw [if_pos h, decide_eq_true h]; exact ⟨rfl, rfl⟩
set_option maxRecDepth 100000 in
set_option maxHeartbeats 3200000 in
theorem nextMonth_any (sec : Int) (w : World) (l : Laid w) : Calls Tryd.prog 32 #[.int .i64 sec] w fun e w' => e = .returned (.tuple #[.int .i64 (nxV sec), .bool (nxB sec)]) ∧ Below w.heap.size w w' := by
  by_cases h : -8000000000 ≤ sec ∧ sec ≤ 8000000000
  · have c := Of_ok sec w l h
    have HS := hide fun W (L : Laid W) => Seconds_any (nxY sec) (nxM sec) 1 0 0 0 0 W L
    obtain ⟨⟨y1, y2⟩, m1, m2⟩ := date_bd h
    obtain ⟨q1, q2⟩ := nxV_in h
    rw [q1, q2]
    unfold ofV at c
    unfold nxY nxM at HS ⊢
    generalize (dateOf (sec / 86400)).1 = y at *
    generalize (dateOf (sec / 86400)).2.1 = m at *
    generalize (dateOf (sec / 86400)).2.2 = d at *
    generalize sec % 86400 / 3600 = H at *
    generalize sec % 86400 / 60 % 60 = I at *
    generalize sec % 86400 % 60 = S at *
    have C := hide c
    have HL := hide l
    clear c h q1 q2 l
    rcases Nat.lt_or_ge m 12 with k | k
    · have k0 : (m : Int) ≠ 12 := by omega
      rw [if_neg (show ¬ m = 12 by omega), if_neg (show ¬ m = 12 by omega)] at HS ⊢
      generalize secV y ((m : Int) + 1) 1 0 0 0 0 = r at *
      generalize secE y ((m : Int) + 1) 1 0 0 0 0 = q at *
      go_enter Tryd.func32, Tryd.ntmps32
      go_wp2_with fail
      with_reducible refine C.out.mono ?_
      rintro e w1 ⟨rfl, hb⟩
      have HB := hide hb
      have hs := hb.size
      clear hb
      go_wp2_with fail
      with_reducible refine (HS.out _ (HL.out.step (by (repeat (first | (with_reducible refine Below.setCell ?_ (by first | (dsimp only; omega) | (simp; omega)) _) | (with_reducible refine Below.alloc ?_ (by first | omega | (simp; omega)) _))); exact HB.out))).mono ?_
      rintro e w2 ⟨rfl, hb2⟩
      have HF : Hid (Below w.heap.size w w2) := hide (by
        refine Below.trans ?_ (hb2.mono (by simp; omega))
        repeat (first | (with_reducible refine Below.setCell ?_ (by first | (dsimp only; omega) | (simp; omega)) _) | (with_reducible refine Below.alloc ?_ (by first | omega | (simp; omega)) _))
        exact HB.out)
      clear hb2
      go_wp2
      go_ret2
      exact ⟨rfl, HF.out⟩
    · obtain rfl : m = 12 := by omega
      rw [if_pos rfl, if_pos rfl] at HS ⊢
      generalize secV (y + 1) 1 1 0 0 0 0 = r at *
      generalize secE (y + 1) 1 1 0 0 0 0 = q at *
      go_enter Tryd.func32, Tryd.ntmps32
      go_wp2_with fail
      with_reducible refine C.out.mono ?_
      rintro e w1 ⟨rfl, hb⟩
      have HB := hide hb
      have hs := hb.size
      clear hb
      go_wp2_with fail
      with_reducible refine (HS.out _ (HL.out.step (by (repeat (first | (with_reducible refine Below.setCell ?_ (by first | (dsimp only; omega) | (simp; omega)) _) | (with_reducible refine Below.alloc ?_ (by first | omega | (simp; omega)) _))); exact HB.out))).mono ?_
      rintro e w2 ⟨rfl, hb2⟩
      have HF : Hid (Below w.heap.size w w2) := hide (by
        refine Below.trans ?_ (hb2.mono (by simp; omega))
        repeat (first | (with_reducible refine Below.setCell ?_ (by first | (dsimp only; omega) | (simp; omega)) _) | (with_reducible refine Below.alloc ?_ (by first | omega | (simp; omega)) _))
        exact HB.out)
      clear hb2
      go_wp2
      go_ret2
      exact ⟨rfl, HF.out⟩
  · have C := hide (Of_bad sec w h)
    rw [(nxV_out h).1, (nxV_out h).2]
    unfold zeroV at C
    clear h l
    go_enter Tryd.func32, Tryd.ntmps32
    go_wp2_with fail
    refine C.out.mono ?_
    rintro e w1 ⟨rfl, hb⟩
    go_wp2
    go_ret2
    exact ⟨rfl, hb.alloc hb.size _⟩
end Go.Proofs.YtnmpoeljjajdiaaDoor.Vot
