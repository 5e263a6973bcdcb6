
/- The contracts of layer 5: Check of the package and of its reference. -/
import Derived.Test.YtnmpoeljjajdiaaDoorCivC0
namespace Go.Proofs.YtnmpoeljjajdiaaDoor.Civ
open Go.RowKit Aid
set_option maxRecDepth 100000 in
set_option maxHeartbeats 3200000 in
theorem Check_any (y m d h mi s n : Int) (w : World) (l : Laid w) :
    Calls Tryd.prog 41 #[.agg #[.int .i64 y, .int .i64 m, .int .i64 d, .int .i64 h, .int .i64 mi, .int .i64 s, .int .i64 n]] w fun e w' => e = .returned (.int .i64 (chkC y m d h mi s n)) ∧ Below w.heap.size w w' := by
  have hb0 : Below w.heap.size w (w.alloc (.cells #[.int .i64 y, .int .i64 m, .int .i64 d, .int .i64 h, .int .i64 mi, .int .i64 s, .int .i64 n] 51)) := (Below.refl _ _).alloc (Nat.le_refl _) _
  have L0 := hide (fun k => MonthDays_any y m ((w.alloc (.cells #[.int .i64 y, .int .i64 m, .int .i64 d, .int .i64 h, .int .i64 mi, .int .i64 s, .int .i64 n] 51)).drewN k) ((l.step hb0).step (below_drewN (Below.refl _ _) k)))
  have HB := hide hb0
  clear hb0 l
  unfold chkC okB
  rcases Bool.eq_false_or_eq_true (inB y 1600 2200) with c0 | c0
  · rw [c0]
    rcases Bool.eq_false_or_eq_true (inB m 1 12) with c1 | c1
    · rw [c1]
      rcases Bool.eq_false_or_eq_true (inB d 1 (md y m)) with c2 | c2
      · rw [c2]
        rcases Bool.eq_false_or_eq_true (inB h 0 23) with c3 | c3
        · rw [c3]
          rcases Bool.eq_false_or_eq_true (inB mi 0 59) with c4 | c4
          · rw [c4]
            rcases Bool.eq_false_or_eq_true (inB s 0 59) with c5 | c5
            · rw [c5]
              rcases Bool.eq_false_or_eq_true (inB n 0 999999999) with c6 | c6
              · rw [c6]
                rw [show (if (true && true && true && true && true && true && true) = true then (0 : Int) else 3) = 0 from rfl]
                go_enter Tryd.func41, Tryd.ntmps41
                go_wp2
                go_quiet (first | (go_at_call 34; exact quietC (within_any _ _ _ _)) | (go_at_call 37; exact quietC (L0.out _)))
                go_wp2
                go_ret
                exact ⟨rfl, below_drewN HB.out _⟩
              · rw [c6, show (if (true && true && true && true && true && true && false) = true then (0 : Int) else 3) = 3 by simp]
                go_enter Tryd.func41, Tryd.ntmps41
                go_wp2
                go_quiet (first | (go_at_call 34; exact quietC (within_any _ _ _ _)) | (go_at_call 37; exact quietC (L0.out _)))
                go_wp2
                go_ret
                exact ⟨rfl, below_drewN HB.out _⟩
            · rw [c5, show (if (true && true && true && true && true && false && inB n 0 999999999) = true then (0 : Int) else 3) = 3 by simp]
              go_enter Tryd.func41, Tryd.ntmps41
              go_wp2
              go_quiet (first | (go_at_call 34; exact quietC (within_any _ _ _ _)) | (go_at_call 37; exact quietC (L0.out _)))
              go_wp2
              go_ret
              exact ⟨rfl, below_drewN HB.out _⟩
          · rw [c4, show (if (true && true && true && true && false && inB s 0 59 && inB n 0 999999999) = true then (0 : Int) else 3) = 3 by simp]
            go_enter Tryd.func41, Tryd.ntmps41
            go_wp2
            go_quiet (first | (go_at_call 34; exact quietC (within_any _ _ _ _)) | (go_at_call 37; exact quietC (L0.out _)))
            go_wp2
            go_ret
            exact ⟨rfl, below_drewN HB.out _⟩
        · rw [c3, show (if (true && true && true && false && inB mi 0 59 && inB s 0 59 && inB n 0 999999999) = true then (0 : Int) else 3) = 3 by simp]
          go_enter Tryd.func41, Tryd.ntmps41
          go_wp2
          go_quiet (first | (go_at_call 34; exact quietC (within_any _ _ _ _)) | (go_at_call 37; exact quietC (L0.out _)))
          go_wp2
          go_ret
          exact ⟨rfl, below_drewN HB.out _⟩
      · rw [c2, show (if (true && true && false && inB h 0 23 && inB mi 0 59 && inB s 0 59 && inB n 0 999999999) = true then (0 : Int) else 3) = 3 by simp]
        go_enter Tryd.func41, Tryd.ntmps41
        go_wp2
        go_quiet (first | (go_at_call 34; exact quietC (within_any _ _ _ _)) | (go_at_call 37; exact quietC (L0.out _)))
        go_wp2
        go_ret
        exact ⟨rfl, below_drewN HB.out _⟩
    · rw [c1, show (if (true && false && inB d 1 (md y m) && inB h 0 23 && inB mi 0 59 && inB s 0 59 && inB n 0 999999999) = true then (0 : Int) else 3) = 3 by simp]
      go_enter Tryd.func41, Tryd.ntmps41
      go_wp2
      go_quiet (first | (go_at_call 34; exact quietC (within_any _ _ _ _)) | (go_at_call 37; exact quietC (L0.out _)))
      go_wp2
      go_ret
      exact ⟨rfl, below_drewN HB.out _⟩
  · rw [c0, show (if (false && inB m 1 12 && inB d 1 (md y m) && inB h 0 23 && inB mi 0 59 && inB s 0 59 && inB n 0 999999999) = true then (0 : Int) else 3) = 3 by simp]
    go_enter Tryd.func41, Tryd.ntmps41
    go_wp2
    go_quiet (first | (go_at_call 34; exact quietC (within_any _ _ _ _)) | (go_at_call 37; exact quietC (L0.out _)))
    go_wp2
    go_ret
    exact ⟨rfl, below_drewN HB.out _⟩
end Go.Proofs.YtnmpoeljjajdiaaDoor.Civ
