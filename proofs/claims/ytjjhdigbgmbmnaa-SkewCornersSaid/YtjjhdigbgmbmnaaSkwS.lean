/- The contracts of skew.turn and of the closures of Lower and Upper. -/
import Derived.Test.YtjjhdigbgmbmnaaSkwO
import Derived.Test.YtjjhdigbgmbmnaaQuiet
namespace Go.Proofs.Ytjjhdigbgmbmnaa.Skw
open Go.RowKit Aid Fx
def turnV (x0 y0 x1 y1 x2 y2 : Int) : Int := (x1 - x0) * (y2 - y1) - (y1 - y0) * (x2 - x1)
theorem mul_bd2 {a b : Int} (h1 : -1073741824 ≤ a) (h2 : a ≤ 1073741824) (h3 : -2147483648 ≤ b) (h4 : b ≤ 2147483648) : -2305843009213693952 ≤ a * b ∧ a * b ≤ 2305843009213693952 := by
  have e : (a * b).natAbs = a.natAbs * b.natAbs := Int.natAbs_mul a b
  have h : a.natAbs * b.natAbs ≤ 1073741824 * 2147483648 := Nat.mul_le_mul (by omega) (by omega)
  omega
set_option maxRecDepth 100000 in
set_option maxHeartbeats 3200000 in
theorem turn_any (x0 y0 x1 y1 x2 y2 : Int) (w : World) (h0 : 0 ≤ x0 ∧ x0 ≤ 1073741824) (h1 : 0 ≤ x1 ∧ x1 ≤ 1073741824) (h2 : 0 ≤ x2 ∧ x2 ≤ 1073741824) (k0 : -1073741824 ≤ y0 ∧ y0 ≤ 1073741824) (k1 : -1073741824 ≤ y1 ∧ y1 ≤ 1073741824) (k2 : -1073741824 ≤ y2 ∧ y2 ≤ 1073741824) :
    Calls Try.prog 34 #[.int .i64 x0, .int .i64 y0, .int .i64 x1, .int .i64 y1, .int .i64 x2, .int .i64 y2] w fun e w' => e = .returned (.int .i64 (turnV x0 y0 x1 y1 x2 y2)) ∧ Below w.heap.size w w' := by
  have m1 := mul_bd2 (a := x1 - x0) (b := y2 - y1) (by omega) (by omega) (by omega) (by omega)
  have m2 := mul_bd2 (a := x2 - x1) (b := y1 - y0) (by omega) (by omega) (by omega) (by omega)
  rw [Int.mul_comm] at m2
  unfold turnV
  have v1 : IntKind.i64.wrap (x1 - x0) = x1 - x0 := IntWalk.i64_in _ (by omega)
  have v2 : IntKind.i64.wrap (y2 - y1) = y2 - y1 := IntWalk.i64_in _ (by omega)
  have v3 : IntKind.i64.wrap (y1 - y0) = y1 - y0 := IntWalk.i64_in _ (by omega)
  have v4 : IntKind.i64.wrap (x2 - x1) = x2 - x1 := IntWalk.i64_in _ (by omega)
  have v5 : IntKind.i64.wrap ((x1 - x0) * (y2 - y1)) = (x1 - x0) * (y2 - y1) := IntWalk.i64_in _ (by omega)
  have v6 : IntKind.i64.wrap ((y1 - y0) * (x2 - x1)) = (y1 - y0) * (x2 - x1) := IntWalk.i64_in _ (by omega)
  have v7 : IntKind.i64.wrap ((x1 - x0) * (y2 - y1) - (y1 - y0) * (x2 - x1)) = (x1 - x0) * (y2 - y1) - (y1 - y0) * (x2 - x1) := IntWalk.i64_in _ (by omega)
  clear m1 m2
  go_enter Try.func34, Try.ntmps34
  go_wp2
  go_ret
  exact ⟨rfl, Below.refl _ _⟩
set_option maxRecDepth 100000 in
set_option maxHeartbeats 6400000 in
theorem lower1_any (b off n cap : Nat) (X L H : Nat → Int) (gl i j k : Nat) (w : World) (hg : GatesAt w (some ⟨b, off, none⟩) n X L H) (hn : n ≤ 1024) (cl : w.cell? ⟨gl, 0, none⟩ = some (.slice (some ⟨b, off, none⟩) n cap)) (ll : gl < w.heap.size)
    (hR : ∀ i, i < n → InR (X i) (L i) (H i)) (hi : i < n) (hj : j < n) (hk : k < n) :
    Calls Try.prog 33 #[.int .i64 i, .int .i64 j, .int .i64 k, .pointer (some ⟨gl, 0, none⟩)] w fun e w' => e = .returned (.bool (decide (0 < turnV (X i) (H i) (X j) (H j) (X k) (H k)))) ∧ Below w.heap.size w w' := by
  obtain ⟨b', off', e, hlt, hc⟩ := hg.at_ (by omega)
  cases e
  have HH : Hid (∀ W, Below w.heap.size w W → W.cell? ⟨gl, 0, none⟩ = some (.slice (some ⟨b, off, none⟩) n cap) ∧ W.cell? ⟨b, off + i * 3, none⟩ = some (.int .i64 (X i)) ∧ W.cell? ⟨b, off + i * 3 + 2, none⟩ = some (.int .i64 (H i)) ∧ W.cell? ⟨b, off + j * 3, none⟩ = some (.int .i64 (X j)) ∧ W.cell? ⟨b, off + j * 3 + 2, none⟩ = some (.int .i64 (H j)) ∧ W.cell? ⟨b, off + k * 3, none⟩ = some (.int .i64 (X k)) ∧ W.cell? ⟨b, off + k * 3 + 2, none⟩ = some (.int .i64 (H k))) :=
    hide fun W h => ⟨(h.cell (p := ⟨gl, 0, none⟩) ll).trans cl, (h.cell (p := ⟨b, _, none⟩) hlt).trans (hc i hi).1, (h.cell (p := ⟨b, _, none⟩) hlt).trans (hc i hi).2.2, (h.cell (p := ⟨b, _, none⟩) hlt).trans (hc j hj).1, (h.cell (p := ⟨b, _, none⟩) hlt).trans (hc j hj).2.2, (h.cell (p := ⟨b, _, none⟩) hlt).trans (hc k hk).1, (h.cell (p := ⟨b, _, none⟩) hlt).trans (hc k hk).2.2⟩
  obtain ⟨a1, a2, a3, a4, a5, a6⟩ := hR i hi
  obtain ⟨b1, b2, b3, b4, b5, b6⟩ := hR j hj
  obtain ⟨c1, c2, c3, c4, c5, c6⟩ := hR k hk
  have CT : Hid (∀ W, Below w.heap.size w W → Calls Try.prog 34 #[.int .i64 (X i), .int .i64 (H i), .int .i64 (X j), .int .i64 (H j), .int .i64 (X k), .int .i64 (H k)] W fun e w' => e = .returned (.int .i64 (turnV (X i) (H i) (X j) (H j) (X k) (H k))) ∧ Below w.heap.size w w') := hide (fun W (h : Below w.heap.size w W) => (turn_any (X i) (H i) (X j) (H j) (X k) (H k) W (by omega) (by omega) (by omega) (by omega) (by omega) (by omega)).mono fun _ _ q => ⟨q.1, rat_trans h q.2⟩)
  generalize turnV (X i) (H i) (X j) (H j) (X k) (H k) = c at CT ⊢
  generalize X i = xi at HH CT
  generalize H i = yi at HH CT
  generalize X j = xj at HH CT
  generalize H j = yj at HH CT
  generalize X k = xk at HH CT
  generalize H k = yk at HH CT
  have i1 : (i : Int) < (n : Int) := by omega
  have i2 : (j : Int) < (n : Int) := by omega
  have i3 : (k : Int) < (n : Int) := by omega
  clear hg hc cl hR a1 a2 a3 a4 a5 a6 b1 b2 b3 b4 b5 b6 c1 c2 c3 c4 c5 c6
  go_enter Try.func33, Try.ntmps33
  go_upto_region 1 with fail
  have hne := lt_some w
  have hb0 : Below w.heap.size w w := Below.refl _ _
  have y0 := fun V : Lt w => (HH.out _ V.h).1
  have y1 := fun V : Lt w => (HH.out _ V.h).2.1
  have y2 := fun V : Lt w => (HH.out _ V.h).2.2.1
  have y3 := fun V : Lt w => (HH.out _ V.h).2.2.2.1
  have y4 := fun V : Lt w => (HH.out _ V.h).2.2.2.2.1
  have y5 := fun V : Lt w => (HH.out _ V.h).2.2.2.2.2.1
  have y6 := fun V : Lt w => (HH.out _ V.h).2.2.2.2.2.2
  refine region_lt w (by kernel_rfl) (by kernel_rfl) (by assumption) ?_
  repeat (first | go_big_quiet_step (first | (go_at_call 34; with_reducible exact call_lt (CT.out _ (Lt.h _)))) | quiet_step (first | (go_at_call 34; with_reducible exact call_lt (CT.out _ (Lt.h _)))))
  refine wpQuiet_nil ?_
  intro _ hw'
  obtain ⟨V, rfl⟩ := hw'
  go_wp2
  go_ret
  exact ⟨rfl, V.h⟩
set_option maxRecDepth 100000 in
set_option maxHeartbeats 6400000 in
theorem upper1_any (b off n cap : Nat) (X L H : Nat → Int) (gl i j k : Nat) (w : World) (hg : GatesAt w (some ⟨b, off, none⟩) n X L H) (hn : n ≤ 1024) (cl : w.cell? ⟨gl, 0, none⟩ = some (.slice (some ⟨b, off, none⟩) n cap)) (ll : gl < w.heap.size)
    (hR : ∀ i, i < n → InR (X i) (L i) (H i)) (hi : i < n) (hj : j < n) (hk : k < n) :
    Calls Try.prog 36 #[.int .i64 i, .int .i64 j, .int .i64 k, .pointer (some ⟨gl, 0, none⟩)] w fun e w' => e = .returned (.bool (decide (turnV (X i) (L i) (X j) (L j) (X k) (L k) < 0))) ∧ Below w.heap.size w w' := by
  obtain ⟨b', off', e, hlt, hc⟩ := hg.at_ (by omega)
  cases e
  have HH : Hid (∀ W, Below w.heap.size w W → W.cell? ⟨gl, 0, none⟩ = some (.slice (some ⟨b, off, none⟩) n cap) ∧ W.cell? ⟨b, off + i * 3, none⟩ = some (.int .i64 (X i)) ∧ W.cell? ⟨b, off + i * 3 + 1, none⟩ = some (.int .i64 (L i)) ∧ W.cell? ⟨b, off + j * 3, none⟩ = some (.int .i64 (X j)) ∧ W.cell? ⟨b, off + j * 3 + 1, none⟩ = some (.int .i64 (L j)) ∧ W.cell? ⟨b, off + k * 3, none⟩ = some (.int .i64 (X k)) ∧ W.cell? ⟨b, off + k * 3 + 1, none⟩ = some (.int .i64 (L k))) :=
    hide fun W h => ⟨(h.cell (p := ⟨gl, 0, none⟩) ll).trans cl, (h.cell (p := ⟨b, _, none⟩) hlt).trans (hc i hi).1, (h.cell (p := ⟨b, _, none⟩) hlt).trans (hc i hi).2.1, (h.cell (p := ⟨b, _, none⟩) hlt).trans (hc j hj).1, (h.cell (p := ⟨b, _, none⟩) hlt).trans (hc j hj).2.1, (h.cell (p := ⟨b, _, none⟩) hlt).trans (hc k hk).1, (h.cell (p := ⟨b, _, none⟩) hlt).trans (hc k hk).2.1⟩
  obtain ⟨a1, a2, a3, a4, a5, a6⟩ := hR i hi
  obtain ⟨b1, b2, b3, b4, b5, b6⟩ := hR j hj
  obtain ⟨c1, c2, c3, c4, c5, c6⟩ := hR k hk
  have CT : Hid (∀ W, Below w.heap.size w W → Calls Try.prog 34 #[.int .i64 (X i), .int .i64 (L i), .int .i64 (X j), .int .i64 (L j), .int .i64 (X k), .int .i64 (L k)] W fun e w' => e = .returned (.int .i64 (turnV (X i) (L i) (X j) (L j) (X k) (L k))) ∧ Below w.heap.size w w') := hide (fun W (h : Below w.heap.size w W) => (turn_any (X i) (L i) (X j) (L j) (X k) (L k) W (by omega) (by omega) (by omega) (by omega) (by omega) (by omega)).mono fun _ _ q => ⟨q.1, rat_trans h q.2⟩)
  generalize turnV (X i) (L i) (X j) (L j) (X k) (L k) = c at CT ⊢
  generalize X i = xi at HH CT
  generalize L i = yi at HH CT
  generalize X j = xj at HH CT
  generalize L j = yj at HH CT
  generalize X k = xk at HH CT
  generalize L k = yk at HH CT
  have i1 : (i : Int) < (n : Int) := by omega
  have i2 : (j : Int) < (n : Int) := by omega
  have i3 : (k : Int) < (n : Int) := by omega
  clear hg hc cl hR a1 a2 a3 a4 a5 a6 b1 b2 b3 b4 b5 b6 c1 c2 c3 c4 c5 c6
  go_enter Try.func36, Try.ntmps36
  go_upto_region 1 with fail
  have hne := lt_some w
  have hb0 : Below w.heap.size w w := Below.refl _ _
  have y0 := fun V : Lt w => (HH.out _ V.h).1
  have y1 := fun V : Lt w => (HH.out _ V.h).2.1
  have y2 := fun V : Lt w => (HH.out _ V.h).2.2.1
  have y3 := fun V : Lt w => (HH.out _ V.h).2.2.2.1
  have y4 := fun V : Lt w => (HH.out _ V.h).2.2.2.2.1
  have y5 := fun V : Lt w => (HH.out _ V.h).2.2.2.2.2.1
  have y6 := fun V : Lt w => (HH.out _ V.h).2.2.2.2.2.2
  refine region_lt w (by kernel_rfl) (by kernel_rfl) (by assumption) ?_
  repeat (first | go_big_quiet_step (first | (go_at_call 34; with_reducible exact call_lt (CT.out _ (Lt.h _)))) | quiet_step (first | (go_at_call 34; with_reducible exact call_lt (CT.out _ (Lt.h _)))))
  refine wpQuiet_nil ?_
  intro _ hw'
  obtain ⟨V, rfl⟩ := hw'
  go_wp2
  go_ret
  exact ⟨rfl, V.h⟩
end Go.Proofs.Ytjjhdigbgmbmnaa.Skw
