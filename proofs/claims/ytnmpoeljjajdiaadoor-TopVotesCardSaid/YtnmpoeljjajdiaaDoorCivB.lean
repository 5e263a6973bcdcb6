
/- The contracts of layer 5: MonthDays of the package and of its reference. -/
import Derived.Test.YtnmpoeljjajdiaaDoorCivA
namespace Go.Proofs.YtnmpoeljjajdiaaDoor.Civ
open Go.RowKit Aid
/-- the table of the months' days lies in the package's variable -/
structure Laid (w : World) : Prop where
  c0 : w.cell? ⟨0, 0, none⟩ = some (.int .i64 31)
  c1 : w.cell? ⟨0, 1, none⟩ = some (.int .i64 28)
  c2 : w.cell? ⟨0, 2, none⟩ = some (.int .i64 31)
  c3 : w.cell? ⟨0, 3, none⟩ = some (.int .i64 30)
  c4 : w.cell? ⟨0, 4, none⟩ = some (.int .i64 31)
  c5 : w.cell? ⟨0, 5, none⟩ = some (.int .i64 30)
  c6 : w.cell? ⟨0, 6, none⟩ = some (.int .i64 31)
  c7 : w.cell? ⟨0, 7, none⟩ = some (.int .i64 31)
  c8 : w.cell? ⟨0, 8, none⟩ = some (.int .i64 30)
  c9 : w.cell? ⟨0, 9, none⟩ = some (.int .i64 31)
  c10 : w.cell? ⟨0, 10, none⟩ = some (.int .i64 30)
  c11 : w.cell? ⟨0, 11, none⟩ = some (.int .i64 31)
  lt : 0 < w.heap.size
theorem Laid.under {B : Nat} {w w' : World} (l : Laid w) (h : Below B w w') (hb : 0 < B) : Laid w' := by
  have c : ∀ o, w'.cell? ⟨0, o, none⟩ = w.cell? ⟨0, o, none⟩ := fun o => h.cell (p := ⟨0, o, none⟩) hb
  exact ⟨(c 0).trans l.c0, (c 1).trans l.c1, (c 2).trans l.c2, (c 3).trans l.c3, (c 4).trans l.c4, (c 5).trans l.c5, (c 6).trans l.c6, (c 7).trans l.c7, (c 8).trans l.c8, (c 9).trans l.c9, (c 10).trans l.c10, (c 11).trans l.c11, Nat.lt_of_lt_of_le l.lt h.size⟩
theorem Laid.step {w w' : World} (l : Laid w) (h : Below w.heap.size w w') : Laid w' := l.under h l.lt
set_option maxRecDepth 100000 in
set_option maxHeartbeats 1600000 in
theorem MonthDays_any (y m : Int) (w : World) (l : Laid w) : Calls Tryd.prog 37 #[.int .i64 y, .int .i64 m] w fun e w' => e = .returned (.int .i64 (md y m)) ∧ w = w' := by
  have C := hide (within_any m 1 12 w)
  by_cases hm : 1 ≤ m ∧ m ≤ 12
  · have hb : inB m 1 12 = true := by unfold inB; simpa using hm
    rw [hb] at C
    clear hb
    obtain ⟨k0, k1, k2, k3, k4, k5, k6, k7, k8, k9, k10, k11, _⟩ := l
    by_cases h2 : m = 2
    · subst h2
      have t4 := tmod_zero y 4
      have t100 := tmod_zero y 100
      have t400 := tmod_zero y 400
      clear hm
      by_cases h4 : y % 4 = 0
      · have e4 : (y.tmod 4 == 0) = true := by simpa using t4.2 h4
        by_cases h100 : y % 100 = 0
        · have e100 : (y.tmod 100 != 0) = false := by simpa using t100.2 h100
          by_cases h400 : y % 400 = 0
          · have e400 : (y.tmod 400 == 0) = true := by simpa using t400.2 h400
            rw [show md y 2 = 29 by unfold md leap; simp [h4, h100, h400]]
            clear t4 t100 t400 h4 h100 h400
            go_enter Tryd.func37, Tryd.ntmps37
            go_wp2_with fail
            refine C.out.mono ?_
            rintro e w' ⟨rfl, rfl⟩
            go_wp2
            go_ret
            exact ⟨rfl, rfl⟩
          · have e400 : (y.tmod 400 == 0) = false := by simpa using fun h => h400 (t400.1 h)
            rw [show md y 2 = 28 by unfold md leap; simp [h4, h100, h400]]
            clear t4 t100 t400 h4 h100 h400
            go_enter Tryd.func37, Tryd.ntmps37
            go_wp2_with fail
            refine C.out.mono ?_
            rintro e w' ⟨rfl, rfl⟩
            go_wp2
            go_ret
            exact ⟨rfl, rfl⟩
        · have e100 : (y.tmod 100 != 0) = true := by simpa using fun h => h100 (t100.1 h)
          rw [show md y 2 = 29 by unfold md leap; simp [h4, h100]]
          clear t4 t100 t400 h4 h100
          go_enter Tryd.func37, Tryd.ntmps37
          go_wp2_with fail
          refine C.out.mono ?_
          rintro e w' ⟨rfl, rfl⟩
          go_wp2
          go_ret
          exact ⟨rfl, rfl⟩
      · have e4 : (y.tmod 4 == 0) = false := by simpa using fun h => h4 (t4.1 h)
        rw [show md y 2 = 28 by unfold md leap; simp [h4]]
        clear t4 t100 t400 h4
        go_enter Tryd.func37, Tryd.ntmps37
        go_wp2_with fail
        refine C.out.mono ?_
        rintro e w' ⟨rfl, rfl⟩
        go_wp2
        go_ret
        exact ⟨rfl, rfl⟩
    · have key : (m = 1 ∧ md y m = 31) ∨ (m = 3 ∧ md y m = 31) ∨ (m = 4 ∧ md y m = 30) ∨ (m = 5 ∧ md y m = 31) ∨ (m = 6 ∧ md y m = 30) ∨ (m = 7 ∧ md y m = 31) ∨ (m = 8 ∧ md y m = 31) ∨ (m = 9 ∧ md y m = 30) ∨ (m = 10 ∧ md y m = 31) ∨ (m = 11 ∧ md y m = 30) ∨ (m = 12 ∧ md y m = 31) := by
        unfold md
        rw [if_neg h2]
        split
        · omega
        · omega
      clear hm h2
      rcases key with ⟨rfl, h⟩ | ⟨rfl, h⟩ | ⟨rfl, h⟩ | ⟨rfl, h⟩ | ⟨rfl, h⟩ | ⟨rfl, h⟩ | ⟨rfl, h⟩ | ⟨rfl, h⟩ | ⟨rfl, h⟩ | ⟨rfl, h⟩ | ⟨rfl, h⟩
      all_goals
        rw [h]
        clear h
        go_enter Tryd.func37, Tryd.ntmps37
        go_wp2_with fail
        refine C.out.mono ?_
        rintro e w' ⟨rfl, rfl⟩
        go_wp2
        go_ret
        exact ⟨rfl, rfl⟩
  · have hb : inB m 1 12 = false := by unfold inB; simpa using hm
    rw [hb] at C
    rw [md_none hm]
    clear hm hb
    go_enter Tryd.func37, Tryd.ntmps37
    go_wp2_with fail
    refine C.out.mono ?_
    rintro e w' ⟨rfl, rfl⟩
    go_wp2
    go_ret
    exact ⟨rfl, rfl⟩
end Go.Proofs.YtnmpoeljjajdiaaDoor.Civ
