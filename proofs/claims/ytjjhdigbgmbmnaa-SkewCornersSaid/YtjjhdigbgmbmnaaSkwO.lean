/- The contracts of skew.values and its closure: the bounds at x of the lines that pass two gates. -/
import Derived.Test.YtjjhdigbgmbmnaaSkwN
namespace Go.Proofs.Ytjjhdigbgmbmnaa.Skw
open Go.RowKit Aid Fx
theorem mul_bd {a b : Int} (h1 : -1073741824 ≤ a) (h2 : a ≤ 1073741824) (h3 : -1073741824 ≤ b) (h4 : b ≤ 1073741824) : -1152921504606846976 ≤ a * b ∧ a * b ≤ 1152921504606846976 := by
  have e : (a * b).natAbs = a.natAbs * b.natAbs := Int.natAbs_mul a b
  have h : a.natAbs * b.natAbs ≤ 1073741824 * 1073741824 := Nat.mul_le_mul (by omega) (by omega)
  omega
set_option maxRecDepth 100000 in
set_option maxHeartbeats 3200000 in
theorem vals1_any (ya yb bx ax x : Int) (gb gx ga : Nat) (w : World) (c1 : w.cell? ⟨gb, 0, none⟩ = some (.int .i64 bx)) (c2 : w.cell? ⟨gx, 0, none⟩ = some (.int .i64 x)) (c3 : w.cell? ⟨ga, 0, none⟩ = some (.int .i64 ax))
    (l1 : gb < w.heap.size) (l2 : gx < w.heap.size) (l3 : ga < w.heap.size)
    (hy : -1073741824 ≤ ya ∧ ya ≤ 1073741824) (hz : -1073741824 ≤ yb ∧ yb ≤ 1073741824) (hb : 0 ≤ bx ∧ bx ≤ 1073741824) (ha : 0 ≤ ax ∧ ax ≤ 1073741824) (hx : 0 ≤ x ∧ x ≤ 1073741824) :
    Calls Try.prog 45 #[.int .i64 ya, .int .i64 yb, .pointer (some ⟨gb, 0, none⟩), .pointer (some ⟨gx, 0, none⟩), .pointer (some ⟨ga, 0, none⟩)] w fun e w' => e = .returned (.agg #[.int .i64 (ya * (bx - x) + yb * (x - ax)), .int .i64 (bx - ax)]) ∧ Below w.heap.size w w' := by
  have m1 := mul_bd (a := ya) (b := bx - x) hy.1 hy.2 (by omega) (by omega)
  have m2 := mul_bd (a := yb) (b := x - ax) hz.1 hz.2 (by omega) (by omega)
  have v1 : IntKind.i64.wrap (bx - x) = bx - x := IntWalk.i64_in _ (by omega)
  have v2 : IntKind.i64.wrap (ya * (bx - x)) = ya * (bx - x) := IntWalk.i64_in _ (by omega)
  have v3 : IntKind.i64.wrap (x - ax) = x - ax := IntWalk.i64_in _ (by omega)
  have v4 : IntKind.i64.wrap (yb * (x - ax)) = yb * (x - ax) := IntWalk.i64_in _ (by omega)
  have v5 : IntKind.i64.wrap (ya * (bx - x) + yb * (x - ax)) = ya * (bx - x) + yb * (x - ax) := IntWalk.i64_in _ (by omega)
  have v6 : IntKind.i64.wrap (bx - ax) = bx - ax := IntWalk.i64_in _ (by omega)
  clear m1 m2
  go_enter Try.func45, Try.ntmps45
  go_wp2
  all_goals
    refine bodyPost_ret (v := .agg #[.int .i64 (ya * (bx - x) + yb * (x - ax)), .int .i64 (bx - ax)]) (by simp [results, Try.results45, go_sem, *]; try omega) rfl ?_
    refine ⟨rfl, ?_⟩
    repeat (first | with_reducible refine Below.drew ?_ | with_reducible refine below_drewN ?_ _ | with_reducible refine Below.setCell ?_ (by first | (dsimp only; omega) | (simp; omega)) _ | with_reducible refine rat_up ?_ _ | exact Below.refl _ _)
end Go.Proofs.Ytjjhdigbgmbmnaa.Skw
