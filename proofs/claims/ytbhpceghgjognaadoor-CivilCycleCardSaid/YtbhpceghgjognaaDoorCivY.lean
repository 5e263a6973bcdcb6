/- The contract of the law's after: the next second of a civil time. -/
import Derived.Test.YtbhpceghgjognaaDoorCivX
import Derived.Test.YtbhpceghgjognaaDoorCivN
namespace Go.Proofs.YtbhpceghgjognaaDoor.Civ
open Go.RowKit Aid
theorem bb2 {w : World} (a b : Obj) (k : Nat) : Below w.heap.size w (((w.alloc a).alloc b).drewN k) :=
  below_drewN (((Below.refl _ _).alloc (Nat.le_refl _) a).alloc (by simp) b) k
set_option maxRecDepth 100000 in
set_option maxHeartbeats 3200000 in
theorem after_sec (y M d H I S : Int) (w : World) (l : Laid w) (c2 : d ≤ md y M) (s1 : 0 ≤ S) (h : S < 59) (i2 : I ≤ 59) (h2 : H ≤ 23) (m2 : M ≤ 12) :
    Calls Tryd.prog 24 #[.agg #[.int .i64 y, .int .i64 M, .int .i64 d, .int .i64 H, .int .i64 I, .int .i64 S, .int .i64 0]] w fun e w' => e = .returned (.agg #[.int .i64 y, .int .i64 M, .int .i64 d, .int .i64 H, .int .i64 I, .int .i64 (S + 1), .int .i64 0]) ∧ Below w.heap.size w w' := by
  have CM := hide (fun W (g : Below w.heap.size w W) => MonthDays_any y M W (l.step g))
  clear l
  generalize md y M = q at *
  have e1 : decide (q < d) = false := decide_eq_false (by omega)
  go_enter Tryd.func24, Tryd.ntmps24
  go_wp2
  go_quiet (first | (go_at_call 22; exact quietC (CM.out _ (bb2 _ _ _))))
  go_wp2
  refine bodyPost_ret (v := .agg #[.int .i64 y, .int .i64 M, .int .i64 d, .int .i64 H, .int .i64 I, .int .i64 (S + 1), .int .i64 0]) (by simp [results, Tryd.results24, go_sem]) rfl ?_
  refine ⟨rfl, ?_⟩
  repeat (with_reducible refine Below.setCell ?_ (by simp) _)
  with_reducible exact bb2 _ _ _
set_option maxRecDepth 100000 in
set_option maxHeartbeats 3200000 in
theorem after_min (y M d H I : Int) (w : World) (l : Laid w) (c2 : d ≤ md y M) (s1 : 0 ≤ I) (h : I < 59) (h2 : H ≤ 23) (m2 : M ≤ 12) :
    Calls Tryd.prog 24 #[.agg #[.int .i64 y, .int .i64 M, .int .i64 d, .int .i64 H, .int .i64 I, .int .i64 59, .int .i64 0]] w fun e w' => e = .returned (.agg #[.int .i64 y, .int .i64 M, .int .i64 d, .int .i64 H, .int .i64 (I + 1), .int .i64 0, .int .i64 0]) ∧ Below w.heap.size w w' := by
  have CM := hide (fun W (g : Below w.heap.size w W) => MonthDays_any y M W (l.step g))
  clear l
  generalize md y M = q at *
  have e1 : decide (q < d) = false := decide_eq_false (by omega)
  go_enter Tryd.func24, Tryd.ntmps24
  go_wp2
  go_quiet (first | (go_at_call 22; exact quietC (CM.out _ (bb2 _ _ _))))
  go_wp2
  refine bodyPost_ret (v := .agg #[.int .i64 y, .int .i64 M, .int .i64 d, .int .i64 H, .int .i64 (I + 1), .int .i64 0, .int .i64 0]) (by simp [results, Tryd.results24, go_sem]) rfl ?_
  refine ⟨rfl, ?_⟩
  repeat (with_reducible refine Below.setCell ?_ (by simp) _)
  with_reducible exact bb2 _ _ _
set_option maxRecDepth 100000 in
set_option maxHeartbeats 3200000 in
theorem after_hour (y M d H : Int) (w : World) (l : Laid w) (c2 : d ≤ md y M) (s1 : 0 ≤ H) (h : H < 23) (m2 : M ≤ 12) :
    Calls Tryd.prog 24 #[.agg #[.int .i64 y, .int .i64 M, .int .i64 d, .int .i64 H, .int .i64 59, .int .i64 59, .int .i64 0]] w fun e w' => e = .returned (.agg #[.int .i64 y, .int .i64 M, .int .i64 d, .int .i64 (H + 1), .int .i64 0, .int .i64 0, .int .i64 0]) ∧ Below w.heap.size w w' := by
  have CM := hide (fun W (g : Below w.heap.size w W) => MonthDays_any y M W (l.step g))
  clear l
  generalize md y M = q at *
  have e1 : decide (q < d) = false := decide_eq_false (by omega)
  go_enter Tryd.func24, Tryd.ntmps24
  go_wp2
  go_quiet (first | (go_at_call 22; exact quietC (CM.out _ (bb2 _ _ _))))
  go_wp2
  refine bodyPost_ret (v := .agg #[.int .i64 y, .int .i64 M, .int .i64 d, .int .i64 (H + 1), .int .i64 0, .int .i64 0, .int .i64 0]) (by simp [results, Tryd.results24, go_sem]) rfl ?_
  refine ⟨rfl, ?_⟩
  repeat (with_reducible refine Below.setCell ?_ (by simp) _)
  with_reducible exact bb2 _ _ _
set_option maxRecDepth 100000 in
set_option maxHeartbeats 3200000 in
theorem after_day (y M d : Int) (w : World) (l : Laid w) (c2 : d < md y M) (s1 : 1 ≤ d) (h : md y M ≤ 31) (m2 : M ≤ 12) :
    Calls Tryd.prog 24 #[.agg #[.int .i64 y, .int .i64 M, .int .i64 d, .int .i64 23, .int .i64 59, .int .i64 59, .int .i64 0]] w fun e w' => e = .returned (.agg #[.int .i64 y, .int .i64 M, .int .i64 (d + 1), .int .i64 0, .int .i64 0, .int .i64 0, .int .i64 0]) ∧ Below w.heap.size w w' := by
  have CM := hide (fun W (g : Below w.heap.size w W) => MonthDays_any y M W (l.step g))
  clear l
  generalize md y M = q at *
  have e1 : decide (q < d + 1) = false := decide_eq_false (by omega)
  go_enter Tryd.func24, Tryd.ntmps24
  go_wp2
  go_quiet (first | (go_at_call 22; exact quietC (CM.out _ (bb2 _ _ _))))
  go_wp2
  refine bodyPost_ret (v := .agg #[.int .i64 y, .int .i64 M, .int .i64 (d + 1), .int .i64 0, .int .i64 0, .int .i64 0, .int .i64 0]) (by simp [results, Tryd.results24, go_sem]) rfl ?_
  refine ⟨rfl, ?_⟩
  repeat (with_reducible refine Below.setCell ?_ (by simp) _)
  with_reducible exact bb2 _ _ _
set_option maxRecDepth 100000 in
set_option maxHeartbeats 3200000 in
theorem after_month (y M d : Int) (w : World) (l : Laid w) (c2 : d = md y M) (s1 : 1 ≤ d) (h : d ≤ 31) (m2 : M < 12) (m1 : 1 ≤ M) :
    Calls Tryd.prog 24 #[.agg #[.int .i64 y, .int .i64 M, .int .i64 d, .int .i64 23, .int .i64 59, .int .i64 59, .int .i64 0]] w fun e w' => e = .returned (.agg #[.int .i64 y, .int .i64 (M + 1), .int .i64 1, .int .i64 0, .int .i64 0, .int .i64 0, .int .i64 0]) ∧ Below w.heap.size w w' := by
  have CM := hide (fun W (g : Below w.heap.size w W) => MonthDays_any y M W (l.step g))
  clear l
  generalize md y M = q at *
  subst c2
  have e1 : decide (d < d + 1) = true := decide_eq_true (by omega)
  go_enter Tryd.func24, Tryd.ntmps24
  go_wp2
  go_quiet (first | (go_at_call 22; exact quietC (CM.out _ (bb2 _ _ _))))
  go_wp2
  refine bodyPost_ret (v := .agg #[.int .i64 y, .int .i64 (M + 1), .int .i64 1, .int .i64 0, .int .i64 0, .int .i64 0, .int .i64 0]) (by simp [results, Tryd.results24, go_sem]) rfl ?_
  refine ⟨rfl, ?_⟩
  repeat (with_reducible refine Below.setCell ?_ (by simp) _)
  with_reducible exact bb2 _ _ _
set_option maxRecDepth 100000 in
set_option maxHeartbeats 3200000 in
theorem after_year (y M d : Int) (w : World) (l : Laid w) (c2 : d = md y M) (m1 : 12 ≤ M) (m2 : M ≤ 12) (s1 : 1 ≤ d) (h : d ≤ 31) (y1 : 1600 ≤ y) (y2 : y ≤ 2200) :
    Calls Tryd.prog 24 #[.agg #[.int .i64 y, .int .i64 M, .int .i64 d, .int .i64 23, .int .i64 59, .int .i64 59, .int .i64 0]] w fun e w' => e = .returned (.agg #[.int .i64 (y + 1), .int .i64 1, .int .i64 1, .int .i64 0, .int .i64 0, .int .i64 0, .int .i64 0]) ∧ Below w.heap.size w w' := by
  have CM := hide (fun W (g : Below w.heap.size w W) => MonthDays_any y M W (l.step g))
  clear l
  generalize md y M = q at *
  subst c2
  have e1 : decide (d < d + 1) = true := decide_eq_true (by omega)
  go_enter Tryd.func24, Tryd.ntmps24
  go_wp2
  go_quiet (first | (go_at_call 22; exact quietC (CM.out _ (bb2 _ _ _))))
  go_upto_if 46 with fail
  go_cut [1] (fun a wx => a = .pointer (some ⟨w.heap.size, 0, none⟩) ∧ Box7 wx w.heap.size (y + 1) 1 1 0 0 0 0 ∧ Box7 wx (w.heap.size + 1) 0 0 0 0 0 0 0 ∧ Below w.heap.size w wx)
  case first =>
    go_wp2_with fail
    go_meet
    refine ⟨rfl, ?_, ?_, ?_⟩
    · constructor
      all_goals first | (simp [go_sem]; done) | (simp [go_sem]; exact World.cell?_setCell_same' _ _ _ (by rw [World.cell?_setCell_same' _ _ _ (by simp [go_sem])]; rfl))
    · constructor <;> simp [go_sem]
    · repeat (with_reducible refine Below.setCell ?_ (by simp) _)
      with_reducible exact bb2 _ _ _
  case rest =>
    obtain ⟨rfl, T, U, hb⟩ := hcut
    obtain ⟨x0, x1, x2, x3, x4, x5, x6, xf, xlt⟩ := T
    obtain ⟨y0, y1, y2, y3, y4, y5, y6, yf, ylt⟩ := U
    have HB := hide hb
    clear hb
    go_wp2
    refine bodyPost_ret (v := .agg #[.int .i64 (y + 1), .int .i64 1, .int .i64 1, .int .i64 0, .int .i64 0, .int .i64 0, .int .i64 0]) (by simp [results, Tryd.results24, go_sem, y0, y1, y2, y3, y4, y5, y6, yf]) rfl ?_
    refine ⟨rfl, ?_⟩
    repeat (with_reducible refine Below.setCell ?_ (by simp) _)
    exact HB.out
theorem after_any {y d H I S y' d' H' I' S' : Int} {M M' : Nat} (N : Next y d H I S M y' d' H' I' S' M') (v : Valid y (M : Int) d H I S 0) (w : World) (l : Laid w) :
    Calls Tryd.prog 24 #[.agg #[.int .i64 y, .int .i64 (M : Int), .int .i64 d, .int .i64 H, .int .i64 I, .int .i64 S, .int .i64 0]] w fun e w' => e = .returned (.agg #[.int .i64 y', .int .i64 (M' : Int), .int .i64 d', .int .i64 H', .int .i64 I', .int .i64 S', .int .i64 0]) ∧ Below w.heap.size w w' := by
  obtain ⟨a1, a2, b1, b2, c1, c2, d1, d2, f1, f2, g1, g2, k1, k2⟩ := v
  have q31 := (md_bd y (M : Int)).2
  cases N with
  | sec h => exact after_sec y M d H I S w l c2 g1 h f2 d2 b2
  | min h h2 => subst h; exact after_min y M d H I w l c2 f1 h2 d2 b2
  | hour h h2 h3 => subst h h2; exact after_hour y M d H w l c2 d1 h3 b2
  | day h h2 h3 h4 => subst h h2 h3; exact after_day y M d w l h4 c1 q31 b2
  | month h h2 h3 h4 h5 => subst h h2 h3; exact after_month y M d w l h4 c1 (by omega) (by omega) b1
  | year h h2 h3 h4 h5 => subst h h2 h3 h5; exact after_year y (12 : Nat) d w l h4 (by omega) (by omega) c1 (by rw [h4]; exact q31) a1 a2
end Go.Proofs.YtbhpceghgjognaaDoor.Civ
