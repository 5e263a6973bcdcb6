/- The walk of the law CivilChecks. -/
import Derived.Test.YtbhpceghgjognaaDoorCivP
namespace Go.Proofs.YtbhpceghgjognaaDoor.Civ
open Go.RowKit Aid
set_option maxRecDepth 100000 in
set_option maxHeartbeats 6400000 in
theorem CivilChecks_walk (y m d h mi s n : Int) (w : World) (l : Laid5 w) :
    Calls Tryd.prog 9 #[.agg #[.int .i64 y, .int .i64 m, .int .i64 d, .int .i64 h, .int .i64 mi, .int .i64 s, .int .i64 n]] w fun e w' => e = .returned (.bool true) ∧ Below w.heap.size w w' := by
  have hB : w.heap.size + 1 ≤ (w.alloc (.cells #[.int .i64 y, .int .i64 m, .int .i64 d, .int .i64 h, .int .i64 mi, .int .i64 s, .int .i64 n] 23)).heap.size := by simp
  have HL : ∀ W, Below (w.heap.size + 1) (w.alloc (.cells #[.int .i64 y, .int .i64 m, .int .i64 d, .int .i64 h, .int .i64 mi, .int .i64 s, .int .i64 n] 23)) W → Laid5 W := fun W h => l.step (box_below h)
  have C0 := hide (based hB fun W k => Seconds_any y m d h mi s n W (HL W k).laid)
  have C1 := hide (based hB fun W _ => RSeconds_any y m d h mi s n W)
  have C2 := hide (based hB fun W k => Check_any y m d h mi s n W (HL W k).laid)
  have C3 := hide (based hB fun W _ => RCheck_any y m d h mi s n W)
  have C4 := hide (based hB fun W k => awake_any W (HL W k))
  have K := hide (fun W q => cells7 (w := w) (x0 := .int .i64 y) (x1 := .int .i64 m) (x2 := .int .i64 d) (x3 := .int .i64 h) (x4 := .int .i64 mi) (x5 := .int .i64 s) (x6 := .int .i64 n) (T := 23) (W := W) q)
  have hb0 := Below.refl (w.heap.size + 1) (w.alloc (.cells #[.int .i64 y, .int .i64 m, .int .i64 d, .int .i64 h, .int .i64 mi, .int .i64 s, .int .i64 n] 23))
  clear hB HL l
  generalize secV y m d h mi s n = a at *
  generalize secE y m d h mi s n = b at *
  generalize chkC y m d h mi s n = c at *
  go_enter Tryd.func9, Tryd.ntmps9
  go_wp2_with fail
  refine (C0.out _ hb0).mono ?_
  rintro e w1 ⟨rfl, hb1⟩
  obtain ⟨k0, k1, k2, k3, k4, k5, k6, _⟩ := K.out _ hb1
  go_wp2_with fail
  refine (C1.out _ hb1).mono ?_
  rintro e w2 ⟨rfl, hb2⟩
  clear k0 k1 k2 k3 k4 k5 k6
  obtain ⟨k0, k1, k2, k3, k4, k5, k6, _⟩ := K.out _ hb2
  go_wp2
  go_region_held3 (fun W => W.cell? ⟨w.heap.size, 0, none⟩ = some (.int .i64 y) ∧ W.cell? ⟨w.heap.size, 1, none⟩ = some (.int .i64 m) ∧ W.cell? ⟨w.heap.size, 2, none⟩ = some (.int .i64 d) ∧ W.cell? ⟨w.heap.size, 3, none⟩ = some (.int .i64 h) ∧ W.cell? ⟨w.heap.size, 4, none⟩ = some (.int .i64 mi) ∧ W.cell? ⟨w.heap.size, 5, none⟩ = some (.int .i64 s) ∧ W.cell? ⟨w.heap.size, 6, none⟩ = some (.int .i64 n) ∧ Below (w.heap.size + 1) (w.alloc (.cells #[.int .i64 y, .int .i64 m, .int .i64 d, .int .i64 h, .int .i64 mi, .int .i64 s, .int .i64 n] 23)) W) (first | exact K.out _ (by assumption) | exact K.out _ (Below.drew (by assumption))) (first | (go_at_call 27; with_reducible refine (C2.out _ (by first | assumption | exact And.right (And.right (And.right (And.right (And.right (And.right (And.right (by assumption))))))))).mono ?_; rintro e w' ⟨rfl, hb⟩) | (go_at_call 28; with_reducible refine (C3.out _ (by first | assumption | exact And.right (And.right (And.right (And.right (And.right (And.right (And.right (by assumption))))))))).mono ?_; rintro e w' ⟨rfl, hb⟩) | (go_at_call 13; with_reducible refine (C4.out _ (by first | assumption | exact And.right (And.right (And.right (And.right (And.right (And.right (And.right (by assumption))))))))).mono ?_; rintro e w' ⟨rfl, hb⟩))
  go_wp2
  go_ret
  exact ⟨rfl, box_below (by assumption)⟩
end Go.Proofs.YtbhpceghgjognaaDoor.Civ
