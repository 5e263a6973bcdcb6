
/- The contracts of layer 5: Check of the reference. -/
import Derived.Test.YtbekfofakpbhiaaDoorCivC
namespace Go.Proofs.YtbekfofakpbhiaaDoor.Civ
open Go.RowKit Aid
theorem chkC_bad {y m d h mi s n : Int} (k : ¬ Valid y m d h mi s n) : chkC y m d h mi s n = 3 := by
  unfold chkC; rw [if_neg (fun e => k (okB_valid.1 e))]
set_option maxRecDepth 100000 in
set_option maxHeartbeats 3200000 in
theorem RCheck_any (y m d h mi s n : Int) (w : World) :
    Calls Tryd.prog 52 #[.agg #[.int .i64 y, .int .i64 m, .int .i64 d, .int .i64 h, .int .i64 mi, .int .i64 s, .int .i64 n]] w fun e w' => e = .returned (.int .i64 (chkC y m d h mi s n)) ∧ Below w.heap.size w w' := by
  have hb0 : Below w.heap.size w (w.alloc (.cells #[.int .i64 y, .int .i64 m, .int .i64 d, .int .i64 h, .int .i64 mi, .int .i64 s, .int .i64 n] 71)) := (Below.refl _ _).alloc (Nat.le_refl _) _
  have HB := hide hb0
  clear hb0
  by_cases t0 : y < 1600
  · rw [chkC_bad (fun v => by have := v.y1; omega)]
    have u0 : decide (y < 1600) = true := decide_eq_true t0
    go_enter Tryd.func52, Tryd.ntmps52
    go_wp2
    go_quiet (first | (go_at_call 51; exact quietC (RMonthDays_any _ _ _)))
    go_wp2
    go_ret
    exact ⟨rfl, below_drewN HB.out _⟩
  have u0 : decide (y < 1600) = false := decide_eq_false t0
  by_cases t1 : 2200 < y
  · rw [chkC_bad (fun v => by have := v.y2; omega)]
    have u1 : decide (2200 < y) = true := decide_eq_true t1
    go_enter Tryd.func52, Tryd.ntmps52
    go_wp2
    go_quiet (first | (go_at_call 51; exact quietC (RMonthDays_any _ _ _)))
    go_wp2
    go_ret
    exact ⟨rfl, below_drewN HB.out _⟩
  have u1 : decide (2200 < y) = false := decide_eq_false t1
  by_cases t2 : m < 1
  · rw [chkC_bad (fun v => by have := v.m1; omega)]
    have u2 : decide (m < 1) = true := decide_eq_true t2
    go_enter Tryd.func52, Tryd.ntmps52
    go_wp2
    go_quiet (first | (go_at_call 51; exact quietC (RMonthDays_any _ _ _)))
    go_wp2
    go_ret
    exact ⟨rfl, below_drewN HB.out _⟩
  have u2 : decide (m < 1) = false := decide_eq_false t2
  by_cases t3 : 12 < m
  · rw [chkC_bad (fun v => by have := v.m2; omega)]
    have u3 : decide (12 < m) = true := decide_eq_true t3
    go_enter Tryd.func52, Tryd.ntmps52
    go_wp2
    go_quiet (first | (go_at_call 51; exact quietC (RMonthDays_any _ _ _)))
    go_wp2
    go_ret
    exact ⟨rfl, below_drewN HB.out _⟩
  have u3 : decide (12 < m) = false := decide_eq_false t3
  by_cases t4 : d < 1
  · rw [chkC_bad (fun v => by have := v.d1; omega)]
    have u4 : decide (d < 1) = true := decide_eq_true t4
    go_enter Tryd.func52, Tryd.ntmps52
    go_wp2
    go_quiet (first | (go_at_call 51; exact quietC (RMonthDays_any _ _ _)))
    go_wp2
    go_ret
    exact ⟨rfl, below_drewN HB.out _⟩
  have u4 : decide (d < 1) = false := decide_eq_false t4
  by_cases t5 : md y m < d
  · rw [chkC_bad (fun v => by have := v.d2; omega)]
    have u5 : decide (md y m < d) = true := decide_eq_true t5
    go_enter Tryd.func52, Tryd.ntmps52
    go_wp2
    go_quiet (first | (go_at_call 51; exact quietC (RMonthDays_any _ _ _)))
    go_wp2
    go_ret
    exact ⟨rfl, below_drewN HB.out _⟩
  have u5 : decide (md y m < d) = false := decide_eq_false t5
  by_cases t6 : h < 0
  · rw [chkC_bad (fun v => by have := v.h1; omega)]
    have u6 : decide (h < 0) = true := decide_eq_true t6
    go_enter Tryd.func52, Tryd.ntmps52
    go_wp2
    go_quiet (first | (go_at_call 51; exact quietC (RMonthDays_any _ _ _)))
    go_wp2
    go_ret
    exact ⟨rfl, below_drewN HB.out _⟩
  have u6 : decide (h < 0) = false := decide_eq_false t6
  by_cases t7 : 23 < h
  · rw [chkC_bad (fun v => by have := v.h2; omega)]
    have u7 : decide (23 < h) = true := decide_eq_true t7
    go_enter Tryd.func52, Tryd.ntmps52
    go_wp2
    go_quiet (first | (go_at_call 51; exact quietC (RMonthDays_any _ _ _)))
    go_wp2
    go_ret
    exact ⟨rfl, below_drewN HB.out _⟩
  have u7 : decide (23 < h) = false := decide_eq_false t7
  by_cases t8 : mi < 0
  · rw [chkC_bad (fun v => by have := v.i1; omega)]
    have u8 : decide (mi < 0) = true := decide_eq_true t8
    go_enter Tryd.func52, Tryd.ntmps52
    go_wp2
    go_quiet (first | (go_at_call 51; exact quietC (RMonthDays_any _ _ _)))
    go_wp2
    go_ret
    exact ⟨rfl, below_drewN HB.out _⟩
  have u8 : decide (mi < 0) = false := decide_eq_false t8
  by_cases t9 : 59 < mi
  · rw [chkC_bad (fun v => by have := v.i2; omega)]
    have u9 : decide (59 < mi) = true := decide_eq_true t9
    go_enter Tryd.func52, Tryd.ntmps52
    go_wp2
    go_quiet (first | (go_at_call 51; exact quietC (RMonthDays_any _ _ _)))
    go_wp2
    go_ret
    exact ⟨rfl, below_drewN HB.out _⟩
  have u9 : decide (59 < mi) = false := decide_eq_false t9
  by_cases t10 : s < 0
  · rw [chkC_bad (fun v => by have := v.s1; omega)]
    have u10 : decide (s < 0) = true := decide_eq_true t10
    go_enter Tryd.func52, Tryd.ntmps52
    go_wp2
    go_quiet (first | (go_at_call 51; exact quietC (RMonthDays_any _ _ _)))
    go_wp2
    go_ret
    exact ⟨rfl, below_drewN HB.out _⟩
  have u10 : decide (s < 0) = false := decide_eq_false t10
  by_cases t11 : 59 < s
  · rw [chkC_bad (fun v => by have := v.s2; omega)]
    have u11 : decide (59 < s) = true := decide_eq_true t11
    go_enter Tryd.func52, Tryd.ntmps52
    go_wp2
    go_quiet (first | (go_at_call 51; exact quietC (RMonthDays_any _ _ _)))
    go_wp2
    go_ret
    exact ⟨rfl, below_drewN HB.out _⟩
  have u11 : decide (59 < s) = false := decide_eq_false t11
  by_cases t12 : n < 0
  · rw [chkC_bad (fun v => by have := v.n1; omega)]
    have u12 : decide (n < 0) = true := decide_eq_true t12
    go_enter Tryd.func52, Tryd.ntmps52
    go_wp2
    go_quiet (first | (go_at_call 51; exact quietC (RMonthDays_any _ _ _)))
    go_wp2
    go_ret
    exact ⟨rfl, below_drewN HB.out _⟩
  have u12 : decide (n < 0) = false := decide_eq_false t12
  by_cases t13 : 999999999 < n
  · rw [chkC_bad (fun v => by have := v.n2; omega)]
    have u13 : decide (999999999 < n) = true := decide_eq_true t13
    go_enter Tryd.func52, Tryd.ntmps52
    go_wp2
    go_quiet (first | (go_at_call 51; exact quietC (RMonthDays_any _ _ _)))
    go_wp2
    go_ret
    exact ⟨rfl, below_drewN HB.out _⟩
  have u13 : decide (999999999 < n) = false := decide_eq_false t13
  rw [chkC_of ⟨by omega, by omega, by omega, by omega, by omega, by omega, by omega, by omega, by omega, by omega, by omega, by omega, by omega, by omega⟩]
  go_enter Tryd.func52, Tryd.ntmps52
  go_wp2
  go_quiet (first | (go_at_call 51; exact quietC (RMonthDays_any _ _ _)))
  go_wp2
  go_ret
  exact ⟨rfl, below_drewN HB.out _⟩
end Go.Proofs.YtbekfofakpbhiaaDoor.Civ
