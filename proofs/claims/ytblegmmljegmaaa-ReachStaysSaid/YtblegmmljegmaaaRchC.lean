/- The contracts of Shift, Backoff, Adapt of package reach and of its reference. -/
import Derived.Test.YtblegmmljegmaaaRchB
namespace Go.Proofs.Ytblegmmljegmaaa.Rch
open Go.RowKit Aid
def zeroR : Reg := ⟨0, 0, 0, 0, 0⟩
def regV (r : Reg) : Value := .agg #[.int .i64 r.bits, .int .i64 r.poll, .int .i64 r.mn, .int .i64 r.mx, .int .i64 r.cnt]
def shift (r : Reg) (h : Bool) : Reg := if chk r = 0 then { r with bits := r.bits * 2 % 256 + (if h = true then 1 else 0) } else zeroR
def backoff (r : Reg) : Reg := if chk r = 0 then { r with poll := min (r.poll + 2) r.mx, cnt := 0 } else zeroR
def adapt (r : Reg) (o j : Int) : Reg :=
  if chk r = 0 then
    if smallB o j = true then (if 30 < r.cnt + r.poll then { r with cnt := 0, poll := min (r.poll + 1) r.mx } else { r with cnt := r.cnt + r.poll })
    else (if r.cnt - 2 * r.poll < -30 then { r with cnt := 0, poll := max (r.poll - 1) r.mn } else { r with cnt := r.cnt - 2 * r.poll })
  else zeroR
theorem least_any (a b : Int) (w : World) : Calls Try.prog 28 #[.int .i64 a, .int .i64 b] w fun e w' => e = .returned (.int .i64 (min a b)) ∧ w = w' := by
  by_cases h : a < b
  · rw [show min a b = a by omega]
    go_enter Try.func28, Try.ntmps28
    go_wp2
    go_ret
    exact ⟨rfl, rfl⟩
  · rw [show min a b = b by omega]
    go_enter Try.func28, Try.ntmps28
    go_wp2
    go_ret
    exact ⟨rfl, rfl⟩
set_option maxHeartbeats 3200000 in
theorem Shift_any (bits poll mn mx cnt : Int) (h : Bool) (w : World) :
    Calls Try.prog 22 #[.agg #[.int .i64 bits, .int .i64 poll, .int .i64 mn, .int .i64 mx, .int .i64 cnt], .bool h] w fun e w' => e = .returned (regV (shift ⟨bits, poll, mn, mx, cnt⟩ h)) ∧ Below w.heap.size w w' := by
  have C := hide (Check_any bits poll mn mx cnt)
  by_cases hz : chk ⟨bits, poll, mn, mx, cnt⟩ = 0
  · have ok := chk_ok hz
    have q1 : 0 ≤ bits := ok.b1
    have q2 : bits ≤ 255 := ok.b2
    have q3 : 3 ≤ mn := ok.n1
    have q4 : mx ≤ 17 := ok.x2
    have q5 : mn ≤ poll := ok.p1
    have q6 : poll ≤ mx := ok.p2
    have q7 : -30 ≤ cnt := ok.c1
    have q8 : cnt ≤ 30 := ok.c2
    have HZ := hide hz
    rw [hz] at C
    clear hz ok
    cases h
    · have er : shift ⟨bits, poll, mn, mx, cnt⟩ false = ⟨bits * 2 % 256, poll, mn, mx, cnt⟩ := by unfold shift; rw [if_pos HZ.out]; simp
      rw [er]
      clear er
      go_enter Try.func22, Try.ntmps22
      go_wp2_with fail
      refine (C.out _).mono ?_
      rintro e w1 ⟨rfl, hb1⟩
      have hs1 : w.heap.size + 1 < w1.heap.size := by have := hb1.size; simp at this; omega
      have hs0 : w.heap.size < w1.heap.size := by omega
      have k0 := (hb1.cell (p := ⟨w.heap.size, 0, none⟩) (by simp; omega))
      have k1 := (hb1.cell (p := ⟨w.heap.size, 1, none⟩) (by simp; omega))
      have k2 := (hb1.cell (p := ⟨w.heap.size, 2, none⟩) (by simp; omega))
      have k3 := (hb1.cell (p := ⟨w.heap.size, 3, none⟩) (by simp; omega))
      have k4 := (hb1.cell (p := ⟨w.heap.size, 4, none⟩) (by simp; omega))
      have r0 := (hb1.cell (p := ⟨w.heap.size + 1, 0, none⟩) (by simp))
      have r1 := (hb1.cell (p := ⟨w.heap.size + 1, 1, none⟩) (by simp))
      have r2 := (hb1.cell (p := ⟨w.heap.size + 1, 2, none⟩) (by simp))
      have r3 := (hb1.cell (p := ⟨w.heap.size + 1, 3, none⟩) (by simp))
      have r4 := (hb1.cell (p := ⟨w.heap.size + 1, 4, none⟩) (by simp))
      have f0 := (hb1.frozen (p := ⟨w.heap.size, 0, none⟩) (by simp; omega))
      have f1 := (hb1.frozen (p := ⟨w.heap.size, 1, none⟩) (by simp; omega))
      have f4 := (hb1.frozen (p := ⟨w.heap.size, 4, none⟩) (by simp; omega))
      have g0 := (hb1.frozen (p := ⟨w.heap.size + 1, 0, none⟩) (by simp))
      have g1 := (hb1.frozen (p := ⟨w.heap.size + 1, 1, none⟩) (by simp))
      have g2 := (hb1.frozen (p := ⟨w.heap.size + 1, 2, none⟩) (by simp))
      have g3 := (hb1.frozen (p := ⟨w.heap.size + 1, 3, none⟩) (by simp))
      have g4 := (hb1.frozen (p := ⟨w.heap.size + 1, 4, none⟩) (by simp))
      simp [go_sem] at k0 k1 k2 k3 k4 r0 r1 r2 r3 r4 f0 f1 f4 g0 g1 g2 g3 g4
      have hbw : Below w.heap.size w w1 := (((Below.refl _ _).alloc (Nat.le_refl _) _).alloc (by simp) _).trans (hb1.mono (by simp; omega))
      have HB := hide hbw
      clear hb1 hbw
      go_wp2_with (first | (go_at_call 27; refine (CS.out _).mono ?_; rintro e w' ⟨rfl, rfl⟩) | (go_at_call 28; refine (CL.out _ _ _).mono ?_; rintro e w' ⟨rfl, rfl⟩))
      refine bodyPost_ret (v := regV (⟨bits * 2 % 256, poll, mn, mx, cnt⟩)) (by simp [results, Try.results22, go_sem, regV, r0, r1, r2, r3, r4]) rfl ?_
      refine ⟨rfl, ?_⟩
      repeat (with_reducible refine Below.setCell ?_ (by simp) _)
      exact HB.out
    · have er : shift ⟨bits, poll, mn, mx, cnt⟩ true = ⟨bits * 2 % 256 + 1, poll, mn, mx, cnt⟩ := by unfold shift; rw [if_pos HZ.out]; rfl
      rw [er]
      clear er
      go_enter Try.func22, Try.ntmps22
      go_wp2_with fail
      refine (C.out _).mono ?_
      rintro e w1 ⟨rfl, hb1⟩
      have hs1 : w.heap.size + 1 < w1.heap.size := by have := hb1.size; simp at this; omega
      have hs0 : w.heap.size < w1.heap.size := by omega
      have k0 := (hb1.cell (p := ⟨w.heap.size, 0, none⟩) (by simp; omega))
      have k1 := (hb1.cell (p := ⟨w.heap.size, 1, none⟩) (by simp; omega))
      have k2 := (hb1.cell (p := ⟨w.heap.size, 2, none⟩) (by simp; omega))
      have k3 := (hb1.cell (p := ⟨w.heap.size, 3, none⟩) (by simp; omega))
      have k4 := (hb1.cell (p := ⟨w.heap.size, 4, none⟩) (by simp; omega))
      have r0 := (hb1.cell (p := ⟨w.heap.size + 1, 0, none⟩) (by simp))
      have r1 := (hb1.cell (p := ⟨w.heap.size + 1, 1, none⟩) (by simp))
      have r2 := (hb1.cell (p := ⟨w.heap.size + 1, 2, none⟩) (by simp))
      have r3 := (hb1.cell (p := ⟨w.heap.size + 1, 3, none⟩) (by simp))
      have r4 := (hb1.cell (p := ⟨w.heap.size + 1, 4, none⟩) (by simp))
      have f0 := (hb1.frozen (p := ⟨w.heap.size, 0, none⟩) (by simp; omega))
      have f1 := (hb1.frozen (p := ⟨w.heap.size, 1, none⟩) (by simp; omega))
      have f4 := (hb1.frozen (p := ⟨w.heap.size, 4, none⟩) (by simp; omega))
      have g0 := (hb1.frozen (p := ⟨w.heap.size + 1, 0, none⟩) (by simp))
      have g1 := (hb1.frozen (p := ⟨w.heap.size + 1, 1, none⟩) (by simp))
      have g2 := (hb1.frozen (p := ⟨w.heap.size + 1, 2, none⟩) (by simp))
      have g3 := (hb1.frozen (p := ⟨w.heap.size + 1, 3, none⟩) (by simp))
      have g4 := (hb1.frozen (p := ⟨w.heap.size + 1, 4, none⟩) (by simp))
      simp [go_sem] at k0 k1 k2 k3 k4 r0 r1 r2 r3 r4 f0 f1 f4 g0 g1 g2 g3 g4
      have hbw : Below w.heap.size w w1 := (((Below.refl _ _).alloc (Nat.le_refl _) _).alloc (by simp) _).trans (hb1.mono (by simp; omega))
      have HB := hide hbw
      clear hb1 hbw
      go_wp2_with (first | (go_at_call 27; refine (CS.out _).mono ?_; rintro e w' ⟨rfl, rfl⟩) | (go_at_call 28; refine (CL.out _ _ _).mono ?_; rintro e w' ⟨rfl, rfl⟩))
      refine bodyPost_ret (v := regV (⟨bits * 2 % 256 + 1, poll, mn, mx, cnt⟩)) (by simp [results, Try.results22, go_sem, regV, r0, r1, r2, r3, r4]) rfl ?_
      refine ⟨rfl, ?_⟩
      repeat (with_reducible refine Below.setCell ?_ (by simp) _)
      exact HB.out
  · have er : shift ⟨bits, poll, mn, mx, cnt⟩ h = zeroR := by unfold shift; rw [if_neg hz]
    rw [er]
    have hz' : (chk ⟨bits, poll, mn, mx, cnt⟩ != 0) = true := by simpa using hz
    clear hz er
    generalize chk ⟨bits, poll, mn, mx, cnt⟩ = k at *
    go_enter Try.func22, Try.ntmps22
    go_wp2_with fail
    refine (C.out _).mono ?_
    rintro e w1 ⟨rfl, hb1⟩
    have hs1 : w.heap.size + 1 < w1.heap.size := by have := hb1.size; simp at this; omega
    have hs0 : w.heap.size < w1.heap.size := by omega
    have k0 := (hb1.cell (p := ⟨w.heap.size, 0, none⟩) (by simp; omega))
    have k1 := (hb1.cell (p := ⟨w.heap.size, 1, none⟩) (by simp; omega))
    have k2 := (hb1.cell (p := ⟨w.heap.size, 2, none⟩) (by simp; omega))
    have k3 := (hb1.cell (p := ⟨w.heap.size, 3, none⟩) (by simp; omega))
    have k4 := (hb1.cell (p := ⟨w.heap.size, 4, none⟩) (by simp; omega))
    have r0 := (hb1.cell (p := ⟨w.heap.size + 1, 0, none⟩) (by simp))
    have r1 := (hb1.cell (p := ⟨w.heap.size + 1, 1, none⟩) (by simp))
    have r2 := (hb1.cell (p := ⟨w.heap.size + 1, 2, none⟩) (by simp))
    have r3 := (hb1.cell (p := ⟨w.heap.size + 1, 3, none⟩) (by simp))
    have r4 := (hb1.cell (p := ⟨w.heap.size + 1, 4, none⟩) (by simp))
    have f0 := (hb1.frozen (p := ⟨w.heap.size, 0, none⟩) (by simp; omega))
    have f1 := (hb1.frozen (p := ⟨w.heap.size, 1, none⟩) (by simp; omega))
    have f4 := (hb1.frozen (p := ⟨w.heap.size, 4, none⟩) (by simp; omega))
    have g0 := (hb1.frozen (p := ⟨w.heap.size + 1, 0, none⟩) (by simp))
    have g1 := (hb1.frozen (p := ⟨w.heap.size + 1, 1, none⟩) (by simp))
    have g2 := (hb1.frozen (p := ⟨w.heap.size + 1, 2, none⟩) (by simp))
    have g3 := (hb1.frozen (p := ⟨w.heap.size + 1, 3, none⟩) (by simp))
    have g4 := (hb1.frozen (p := ⟨w.heap.size + 1, 4, none⟩) (by simp))
    simp [go_sem] at k0 k1 k2 k3 k4 r0 r1 r2 r3 r4 f0 f1 f4 g0 g1 g2 g3 g4
    have hbw : Below w.heap.size w w1 := (((Below.refl _ _).alloc (Nat.le_refl _) _).alloc (by simp) _).trans (hb1.mono (by simp; omega))
    have HB := hide hbw
    clear hb1 hbw
    go_wp2_with (first | (go_at_call 27; refine (CS.out _).mono ?_; rintro e w' ⟨rfl, rfl⟩) | (go_at_call 28; refine (CL.out _ _ _).mono ?_; rintro e w' ⟨rfl, rfl⟩))
    refine bodyPost_ret (v := regV (zeroR)) (by simp [results, Try.results22, go_sem, regV, zeroR, r0, r1, r2, r3, r4]) rfl ?_
    refine ⟨rfl, ?_⟩
    repeat (with_reducible refine Below.setCell ?_ (by simp) _)
    exact HB.out
set_option maxHeartbeats 3200000 in
theorem RShift_any (bits poll mn mx cnt : Int) (h : Bool) (w : World) :
    Calls Try.prog 23 #[.agg #[.int .i64 bits, .int .i64 poll, .int .i64 mn, .int .i64 mx, .int .i64 cnt], .bool h] w fun e w' => e = .returned (regV (shift ⟨bits, poll, mn, mx, cnt⟩ h)) ∧ Below w.heap.size w w' := by
  have C := hide (RCheck_any bits poll mn mx cnt)
  by_cases hz : chk ⟨bits, poll, mn, mx, cnt⟩ = 0
  · have ok := chk_ok hz
    have q1 : 0 ≤ bits := ok.b1
    have q2 : bits ≤ 255 := ok.b2
    have q3 : 3 ≤ mn := ok.n1
    have q4 : mx ≤ 17 := ok.x2
    have q5 : mn ≤ poll := ok.p1
    have q6 : poll ≤ mx := ok.p2
    have q7 : -30 ≤ cnt := ok.c1
    have q8 : cnt ≤ 30 := ok.c2
    have HZ := hide hz
    rw [hz] at C
    clear hz ok
    cases h
    · have er : shift ⟨bits, poll, mn, mx, cnt⟩ false = ⟨2 * bits % 256, poll, mn, mx, cnt⟩ := by unfold shift; rw [if_pos HZ.out, Int.mul_comm 2 bits]; simp
      rw [er]
      clear er
      go_enter Try.func23, Try.ntmps23
      go_wp2_with fail
      refine (C.out _).mono ?_
      rintro e w1 ⟨rfl, hb1⟩
      have hs1 : w.heap.size + 1 < w1.heap.size := by have := hb1.size; simp at this; omega
      have hs0 : w.heap.size < w1.heap.size := by omega
      have k0 := (hb1.cell (p := ⟨w.heap.size, 0, none⟩) (by simp; omega))
      have k1 := (hb1.cell (p := ⟨w.heap.size, 1, none⟩) (by simp; omega))
      have k2 := (hb1.cell (p := ⟨w.heap.size, 2, none⟩) (by simp; omega))
      have k3 := (hb1.cell (p := ⟨w.heap.size, 3, none⟩) (by simp; omega))
      have k4 := (hb1.cell (p := ⟨w.heap.size, 4, none⟩) (by simp; omega))
      have r0 := (hb1.cell (p := ⟨w.heap.size + 1, 0, none⟩) (by simp))
      have r1 := (hb1.cell (p := ⟨w.heap.size + 1, 1, none⟩) (by simp))
      have r2 := (hb1.cell (p := ⟨w.heap.size + 1, 2, none⟩) (by simp))
      have r3 := (hb1.cell (p := ⟨w.heap.size + 1, 3, none⟩) (by simp))
      have r4 := (hb1.cell (p := ⟨w.heap.size + 1, 4, none⟩) (by simp))
      have f0 := (hb1.frozen (p := ⟨w.heap.size, 0, none⟩) (by simp; omega))
      have f1 := (hb1.frozen (p := ⟨w.heap.size, 1, none⟩) (by simp; omega))
      have f4 := (hb1.frozen (p := ⟨w.heap.size, 4, none⟩) (by simp; omega))
      have g0 := (hb1.frozen (p := ⟨w.heap.size + 1, 0, none⟩) (by simp))
      have g1 := (hb1.frozen (p := ⟨w.heap.size + 1, 1, none⟩) (by simp))
      have g2 := (hb1.frozen (p := ⟨w.heap.size + 1, 2, none⟩) (by simp))
      have g3 := (hb1.frozen (p := ⟨w.heap.size + 1, 3, none⟩) (by simp))
      have g4 := (hb1.frozen (p := ⟨w.heap.size + 1, 4, none⟩) (by simp))
      simp [go_sem] at k0 k1 k2 k3 k4 r0 r1 r2 r3 r4 f0 f1 f4 g0 g1 g2 g3 g4
      have hbw : Below w.heap.size w w1 := (((Below.refl _ _).alloc (Nat.le_refl _) _).alloc (by simp) _).trans (hb1.mono (by simp; omega))
      have HB := hide hbw
      clear hb1 hbw
      go_wp2_with (first | (go_at_call 27; refine (CS.out _).mono ?_; rintro e w' ⟨rfl, rfl⟩) | (go_at_call 28; refine (CL.out _ _ _).mono ?_; rintro e w' ⟨rfl, rfl⟩))
      refine bodyPost_ret (v := regV (⟨2 * bits % 256, poll, mn, mx, cnt⟩)) (by simp [results, Try.results23, go_sem, regV, r0, r1, r2, r3, r4]) rfl ?_
      refine ⟨rfl, ?_⟩
      repeat (with_reducible refine Below.setCell ?_ (by simp) _)
      exact HB.out
    · have er : shift ⟨bits, poll, mn, mx, cnt⟩ true = ⟨2 * bits % 256 + 1, poll, mn, mx, cnt⟩ := by unfold shift; rw [if_pos HZ.out, Int.mul_comm 2 bits]; rfl
      rw [er]
      clear er
      go_enter Try.func23, Try.ntmps23
      go_wp2_with fail
      refine (C.out _).mono ?_
      rintro e w1 ⟨rfl, hb1⟩
      have hs1 : w.heap.size + 1 < w1.heap.size := by have := hb1.size; simp at this; omega
      have hs0 : w.heap.size < w1.heap.size := by omega
      have k0 := (hb1.cell (p := ⟨w.heap.size, 0, none⟩) (by simp; omega))
      have k1 := (hb1.cell (p := ⟨w.heap.size, 1, none⟩) (by simp; omega))
      have k2 := (hb1.cell (p := ⟨w.heap.size, 2, none⟩) (by simp; omega))
      have k3 := (hb1.cell (p := ⟨w.heap.size, 3, none⟩) (by simp; omega))
      have k4 := (hb1.cell (p := ⟨w.heap.size, 4, none⟩) (by simp; omega))
      have r0 := (hb1.cell (p := ⟨w.heap.size + 1, 0, none⟩) (by simp))
      have r1 := (hb1.cell (p := ⟨w.heap.size + 1, 1, none⟩) (by simp))
      have r2 := (hb1.cell (p := ⟨w.heap.size + 1, 2, none⟩) (by simp))
      have r3 := (hb1.cell (p := ⟨w.heap.size + 1, 3, none⟩) (by simp))
      have r4 := (hb1.cell (p := ⟨w.heap.size + 1, 4, none⟩) (by simp))
      have f0 := (hb1.frozen (p := ⟨w.heap.size, 0, none⟩) (by simp; omega))
      have f1 := (hb1.frozen (p := ⟨w.heap.size, 1, none⟩) (by simp; omega))
      have f4 := (hb1.frozen (p := ⟨w.heap.size, 4, none⟩) (by simp; omega))
      have g0 := (hb1.frozen (p := ⟨w.heap.size + 1, 0, none⟩) (by simp))
      have g1 := (hb1.frozen (p := ⟨w.heap.size + 1, 1, none⟩) (by simp))
      have g2 := (hb1.frozen (p := ⟨w.heap.size + 1, 2, none⟩) (by simp))
      have g3 := (hb1.frozen (p := ⟨w.heap.size + 1, 3, none⟩) (by simp))
      have g4 := (hb1.frozen (p := ⟨w.heap.size + 1, 4, none⟩) (by simp))
      simp [go_sem] at k0 k1 k2 k3 k4 r0 r1 r2 r3 r4 f0 f1 f4 g0 g1 g2 g3 g4
      have hbw : Below w.heap.size w w1 := (((Below.refl _ _).alloc (Nat.le_refl _) _).alloc (by simp) _).trans (hb1.mono (by simp; omega))
      have HB := hide hbw
      clear hb1 hbw
      go_wp2_with (first | (go_at_call 27; refine (CS.out _).mono ?_; rintro e w' ⟨rfl, rfl⟩) | (go_at_call 28; refine (CL.out _ _ _).mono ?_; rintro e w' ⟨rfl, rfl⟩))
      refine bodyPost_ret (v := regV (⟨2 * bits % 256 + 1, poll, mn, mx, cnt⟩)) (by simp [results, Try.results23, go_sem, regV, r0, r1, r2, r3, r4]) rfl ?_
      refine ⟨rfl, ?_⟩
      repeat (with_reducible refine Below.setCell ?_ (by simp) _)
      exact HB.out
  · have er : shift ⟨bits, poll, mn, mx, cnt⟩ h = zeroR := by unfold shift; rw [if_neg hz]
    rw [er]
    have hz' : (chk ⟨bits, poll, mn, mx, cnt⟩ != 0) = true := by simpa using hz
    clear hz er
    generalize chk ⟨bits, poll, mn, mx, cnt⟩ = k at *
    go_enter Try.func23, Try.ntmps23
    go_wp2_with fail
    refine (C.out _).mono ?_
    rintro e w1 ⟨rfl, hb1⟩
    have hs1 : w.heap.size + 1 < w1.heap.size := by have := hb1.size; simp at this; omega
    have hs0 : w.heap.size < w1.heap.size := by omega
    have k0 := (hb1.cell (p := ⟨w.heap.size, 0, none⟩) (by simp; omega))
    have k1 := (hb1.cell (p := ⟨w.heap.size, 1, none⟩) (by simp; omega))
    have k2 := (hb1.cell (p := ⟨w.heap.size, 2, none⟩) (by simp; omega))
    have k3 := (hb1.cell (p := ⟨w.heap.size, 3, none⟩) (by simp; omega))
    have k4 := (hb1.cell (p := ⟨w.heap.size, 4, none⟩) (by simp; omega))
    have r0 := (hb1.cell (p := ⟨w.heap.size + 1, 0, none⟩) (by simp))
    have r1 := (hb1.cell (p := ⟨w.heap.size + 1, 1, none⟩) (by simp))
    have r2 := (hb1.cell (p := ⟨w.heap.size + 1, 2, none⟩) (by simp))
    have r3 := (hb1.cell (p := ⟨w.heap.size + 1, 3, none⟩) (by simp))
    have r4 := (hb1.cell (p := ⟨w.heap.size + 1, 4, none⟩) (by simp))
    have f0 := (hb1.frozen (p := ⟨w.heap.size, 0, none⟩) (by simp; omega))
    have f1 := (hb1.frozen (p := ⟨w.heap.size, 1, none⟩) (by simp; omega))
    have f4 := (hb1.frozen (p := ⟨w.heap.size, 4, none⟩) (by simp; omega))
    have g0 := (hb1.frozen (p := ⟨w.heap.size + 1, 0, none⟩) (by simp))
    have g1 := (hb1.frozen (p := ⟨w.heap.size + 1, 1, none⟩) (by simp))
    have g2 := (hb1.frozen (p := ⟨w.heap.size + 1, 2, none⟩) (by simp))
    have g3 := (hb1.frozen (p := ⟨w.heap.size + 1, 3, none⟩) (by simp))
    have g4 := (hb1.frozen (p := ⟨w.heap.size + 1, 4, none⟩) (by simp))
    simp [go_sem] at k0 k1 k2 k3 k4 r0 r1 r2 r3 r4 f0 f1 f4 g0 g1 g2 g3 g4
    have hbw : Below w.heap.size w w1 := (((Below.refl _ _).alloc (Nat.le_refl _) _).alloc (by simp) _).trans (hb1.mono (by simp; omega))
    have HB := hide hbw
    clear hb1 hbw
    go_wp2_with (first | (go_at_call 27; refine (CS.out _).mono ?_; rintro e w' ⟨rfl, rfl⟩) | (go_at_call 28; refine (CL.out _ _ _).mono ?_; rintro e w' ⟨rfl, rfl⟩))
    refine bodyPost_ret (v := regV (zeroR)) (by simp [results, Try.results23, go_sem, regV, zeroR, r0, r1, r2, r3, r4]) rfl ?_
    refine ⟨rfl, ?_⟩
    repeat (with_reducible refine Below.setCell ?_ (by simp) _)
    exact HB.out
set_option maxHeartbeats 3200000 in
theorem Backoff_any (bits poll mn mx cnt : Int) (w : World) :
    Calls Try.prog 24 #[.agg #[.int .i64 bits, .int .i64 poll, .int .i64 mn, .int .i64 mx, .int .i64 cnt]] w fun e w' => e = .returned (regV (backoff ⟨bits, poll, mn, mx, cnt⟩)) ∧ Below w.heap.size w w' := by
  have C := hide (Check_any bits poll mn mx cnt)
  by_cases hz : chk ⟨bits, poll, mn, mx, cnt⟩ = 0
  · have ok := chk_ok hz
    have q1 : 0 ≤ bits := ok.b1
    have q2 : bits ≤ 255 := ok.b2
    have q3 : 3 ≤ mn := ok.n1
    have q4 : mx ≤ 17 := ok.x2
    have q5 : mn ≤ poll := ok.p1
    have q6 : poll ≤ mx := ok.p2
    have q7 : -30 ≤ cnt := ok.c1
    have q8 : cnt ≤ 30 := ok.c2
    have HZ := hide hz
    rw [hz] at C
    clear hz ok
    by_cases h : mx < poll + 2
    · have er : backoff ⟨bits, poll, mn, mx, cnt⟩ = ⟨bits, mx, mn, mx, 0⟩ := by unfold backoff; rw [if_pos HZ.out]; simp; omega
      rw [er]
      clear er
      go_enter Try.func24, Try.ntmps24
      go_wp2_with fail
      refine (C.out _).mono ?_
      rintro e w1 ⟨rfl, hb1⟩
      have hs1 : w.heap.size + 1 < w1.heap.size := by have := hb1.size; simp at this; omega
      have hs0 : w.heap.size < w1.heap.size := by omega
      have k0 := (hb1.cell (p := ⟨w.heap.size, 0, none⟩) (by simp; omega))
      have k1 := (hb1.cell (p := ⟨w.heap.size, 1, none⟩) (by simp; omega))
      have k2 := (hb1.cell (p := ⟨w.heap.size, 2, none⟩) (by simp; omega))
      have k3 := (hb1.cell (p := ⟨w.heap.size, 3, none⟩) (by simp; omega))
      have k4 := (hb1.cell (p := ⟨w.heap.size, 4, none⟩) (by simp; omega))
      have r0 := (hb1.cell (p := ⟨w.heap.size + 1, 0, none⟩) (by simp))
      have r1 := (hb1.cell (p := ⟨w.heap.size + 1, 1, none⟩) (by simp))
      have r2 := (hb1.cell (p := ⟨w.heap.size + 1, 2, none⟩) (by simp))
      have r3 := (hb1.cell (p := ⟨w.heap.size + 1, 3, none⟩) (by simp))
      have r4 := (hb1.cell (p := ⟨w.heap.size + 1, 4, none⟩) (by simp))
      have f0 := (hb1.frozen (p := ⟨w.heap.size, 0, none⟩) (by simp; omega))
      have f1 := (hb1.frozen (p := ⟨w.heap.size, 1, none⟩) (by simp; omega))
      have f4 := (hb1.frozen (p := ⟨w.heap.size, 4, none⟩) (by simp; omega))
      have g0 := (hb1.frozen (p := ⟨w.heap.size + 1, 0, none⟩) (by simp))
      have g1 := (hb1.frozen (p := ⟨w.heap.size + 1, 1, none⟩) (by simp))
      have g2 := (hb1.frozen (p := ⟨w.heap.size + 1, 2, none⟩) (by simp))
      have g3 := (hb1.frozen (p := ⟨w.heap.size + 1, 3, none⟩) (by simp))
      have g4 := (hb1.frozen (p := ⟨w.heap.size + 1, 4, none⟩) (by simp))
      simp [go_sem] at k0 k1 k2 k3 k4 r0 r1 r2 r3 r4 f0 f1 f4 g0 g1 g2 g3 g4
      have hbw : Below w.heap.size w w1 := (((Below.refl _ _).alloc (Nat.le_refl _) _).alloc (by simp) _).trans (hb1.mono (by simp; omega))
      have HB := hide hbw
      clear hb1 hbw
      go_wp2_with (first | (go_at_call 27; refine (CS.out _).mono ?_; rintro e w' ⟨rfl, rfl⟩) | (go_at_call 28; refine (CL.out _ _ _).mono ?_; rintro e w' ⟨rfl, rfl⟩))
      refine bodyPost_ret (v := regV (⟨bits, mx, mn, mx, 0⟩)) (by simp [results, Try.results24, go_sem, regV, r0, r1, r2, r3, r4]) rfl ?_
      refine ⟨rfl, ?_⟩
      repeat (with_reducible refine Below.setCell ?_ (by simp) _)
      exact HB.out
    · have er : backoff ⟨bits, poll, mn, mx, cnt⟩ = ⟨bits, poll + 2, mn, mx, 0⟩ := by unfold backoff; rw [if_pos HZ.out]; simp; omega
      rw [er]
      clear er
      go_enter Try.func24, Try.ntmps24
      go_wp2_with fail
      refine (C.out _).mono ?_
      rintro e w1 ⟨rfl, hb1⟩
      have hs1 : w.heap.size + 1 < w1.heap.size := by have := hb1.size; simp at this; omega
      have hs0 : w.heap.size < w1.heap.size := by omega
      have k0 := (hb1.cell (p := ⟨w.heap.size, 0, none⟩) (by simp; omega))
      have k1 := (hb1.cell (p := ⟨w.heap.size, 1, none⟩) (by simp; omega))
      have k2 := (hb1.cell (p := ⟨w.heap.size, 2, none⟩) (by simp; omega))
      have k3 := (hb1.cell (p := ⟨w.heap.size, 3, none⟩) (by simp; omega))
      have k4 := (hb1.cell (p := ⟨w.heap.size, 4, none⟩) (by simp; omega))
      have r0 := (hb1.cell (p := ⟨w.heap.size + 1, 0, none⟩) (by simp))
      have r1 := (hb1.cell (p := ⟨w.heap.size + 1, 1, none⟩) (by simp))
      have r2 := (hb1.cell (p := ⟨w.heap.size + 1, 2, none⟩) (by simp))
      have r3 := (hb1.cell (p := ⟨w.heap.size + 1, 3, none⟩) (by simp))
      have r4 := (hb1.cell (p := ⟨w.heap.size + 1, 4, none⟩) (by simp))
      have f0 := (hb1.frozen (p := ⟨w.heap.size, 0, none⟩) (by simp; omega))
      have f1 := (hb1.frozen (p := ⟨w.heap.size, 1, none⟩) (by simp; omega))
      have f4 := (hb1.frozen (p := ⟨w.heap.size, 4, none⟩) (by simp; omega))
      have g0 := (hb1.frozen (p := ⟨w.heap.size + 1, 0, none⟩) (by simp))
      have g1 := (hb1.frozen (p := ⟨w.heap.size + 1, 1, none⟩) (by simp))
      have g2 := (hb1.frozen (p := ⟨w.heap.size + 1, 2, none⟩) (by simp))
      have g3 := (hb1.frozen (p := ⟨w.heap.size + 1, 3, none⟩) (by simp))
      have g4 := (hb1.frozen (p := ⟨w.heap.size + 1, 4, none⟩) (by simp))
      simp [go_sem] at k0 k1 k2 k3 k4 r0 r1 r2 r3 r4 f0 f1 f4 g0 g1 g2 g3 g4
      have hbw : Below w.heap.size w w1 := (((Below.refl _ _).alloc (Nat.le_refl _) _).alloc (by simp) _).trans (hb1.mono (by simp; omega))
      have HB := hide hbw
      clear hb1 hbw
      go_wp2_with (first | (go_at_call 27; refine (CS.out _).mono ?_; rintro e w' ⟨rfl, rfl⟩) | (go_at_call 28; refine (CL.out _ _ _).mono ?_; rintro e w' ⟨rfl, rfl⟩))
      refine bodyPost_ret (v := regV (⟨bits, poll + 2, mn, mx, 0⟩)) (by simp [results, Try.results24, go_sem, regV, r0, r1, r2, r3, r4]) rfl ?_
      refine ⟨rfl, ?_⟩
      repeat (with_reducible refine Below.setCell ?_ (by simp) _)
      exact HB.out
  · have er : backoff ⟨bits, poll, mn, mx, cnt⟩ = zeroR := by unfold backoff; rw [if_neg hz]
    rw [er]
    have hz' : (chk ⟨bits, poll, mn, mx, cnt⟩ != 0) = true := by simpa using hz
    clear hz er
    generalize chk ⟨bits, poll, mn, mx, cnt⟩ = k at *
    go_enter Try.func24, Try.ntmps24
    go_wp2_with fail
    refine (C.out _).mono ?_
    rintro e w1 ⟨rfl, hb1⟩
    have hs1 : w.heap.size + 1 < w1.heap.size := by have := hb1.size; simp at this; omega
    have hs0 : w.heap.size < w1.heap.size := by omega
    have k0 := (hb1.cell (p := ⟨w.heap.size, 0, none⟩) (by simp; omega))
    have k1 := (hb1.cell (p := ⟨w.heap.size, 1, none⟩) (by simp; omega))
    have k2 := (hb1.cell (p := ⟨w.heap.size, 2, none⟩) (by simp; omega))
    have k3 := (hb1.cell (p := ⟨w.heap.size, 3, none⟩) (by simp; omega))
    have k4 := (hb1.cell (p := ⟨w.heap.size, 4, none⟩) (by simp; omega))
    have r0 := (hb1.cell (p := ⟨w.heap.size + 1, 0, none⟩) (by simp))
    have r1 := (hb1.cell (p := ⟨w.heap.size + 1, 1, none⟩) (by simp))
    have r2 := (hb1.cell (p := ⟨w.heap.size + 1, 2, none⟩) (by simp))
    have r3 := (hb1.cell (p := ⟨w.heap.size + 1, 3, none⟩) (by simp))
    have r4 := (hb1.cell (p := ⟨w.heap.size + 1, 4, none⟩) (by simp))
    have f0 := (hb1.frozen (p := ⟨w.heap.size, 0, none⟩) (by simp; omega))
    have f1 := (hb1.frozen (p := ⟨w.heap.size, 1, none⟩) (by simp; omega))
    have f4 := (hb1.frozen (p := ⟨w.heap.size, 4, none⟩) (by simp; omega))
    have g0 := (hb1.frozen (p := ⟨w.heap.size + 1, 0, none⟩) (by simp))
    have g1 := (hb1.frozen (p := ⟨w.heap.size + 1, 1, none⟩) (by simp))
    have g2 := (hb1.frozen (p := ⟨w.heap.size + 1, 2, none⟩) (by simp))
    have g3 := (hb1.frozen (p := ⟨w.heap.size + 1, 3, none⟩) (by simp))
    have g4 := (hb1.frozen (p := ⟨w.heap.size + 1, 4, none⟩) (by simp))
    simp [go_sem] at k0 k1 k2 k3 k4 r0 r1 r2 r3 r4 f0 f1 f4 g0 g1 g2 g3 g4
    have hbw : Below w.heap.size w w1 := (((Below.refl _ _).alloc (Nat.le_refl _) _).alloc (by simp) _).trans (hb1.mono (by simp; omega))
    have HB := hide hbw
    clear hb1 hbw
    go_wp2_with (first | (go_at_call 27; refine (CS.out _).mono ?_; rintro e w' ⟨rfl, rfl⟩) | (go_at_call 28; refine (CL.out _ _ _).mono ?_; rintro e w' ⟨rfl, rfl⟩))
    refine bodyPost_ret (v := regV (zeroR)) (by simp [results, Try.results24, go_sem, regV, zeroR, r0, r1, r2, r3, r4]) rfl ?_
    refine ⟨rfl, ?_⟩
    repeat (with_reducible refine Below.setCell ?_ (by simp) _)
    exact HB.out
set_option maxHeartbeats 3200000 in
theorem RBackoff_any (bits poll mn mx cnt : Int) (w : World) :
    Calls Try.prog 25 #[.agg #[.int .i64 bits, .int .i64 poll, .int .i64 mn, .int .i64 mx, .int .i64 cnt]] w fun e w' => e = .returned (regV (backoff ⟨bits, poll, mn, mx, cnt⟩)) ∧ Below w.heap.size w w' := by
  have C := hide (RCheck_any bits poll mn mx cnt)
  have CL := hide least_any
  by_cases hz : chk ⟨bits, poll, mn, mx, cnt⟩ = 0
  · have ok := chk_ok hz
    have q1 : 0 ≤ bits := ok.b1
    have q2 : bits ≤ 255 := ok.b2
    have q3 : 3 ≤ mn := ok.n1
    have q4 : mx ≤ 17 := ok.x2
    have q5 : mn ≤ poll := ok.p1
    have q6 : poll ≤ mx := ok.p2
    have q7 : -30 ≤ cnt := ok.c1
    have q8 : cnt ≤ 30 := ok.c2
    have HZ := hide hz
    rw [hz] at C
    clear hz ok
    by_cases h : mx < poll + 2
    · have er : backoff ⟨bits, poll, mn, mx, cnt⟩ = ⟨bits, mx, mn, mx, 0⟩ := by unfold backoff; rw [if_pos HZ.out]; simp; omega
      rw [er]
      clear er
      have em : min (poll + 2) mx = mx := by omega
      go_enter Try.func25, Try.ntmps25
      go_wp2_with fail
      refine (C.out _).mono ?_
      rintro e w1 ⟨rfl, hb1⟩
      have hs1 : w.heap.size + 1 < w1.heap.size := by have := hb1.size; simp at this; omega
      have hs0 : w.heap.size < w1.heap.size := by omega
      have k0 := (hb1.cell (p := ⟨w.heap.size, 0, none⟩) (by simp; omega))
      have k1 := (hb1.cell (p := ⟨w.heap.size, 1, none⟩) (by simp; omega))
      have k2 := (hb1.cell (p := ⟨w.heap.size, 2, none⟩) (by simp; omega))
      have k3 := (hb1.cell (p := ⟨w.heap.size, 3, none⟩) (by simp; omega))
      have k4 := (hb1.cell (p := ⟨w.heap.size, 4, none⟩) (by simp; omega))
      have r0 := (hb1.cell (p := ⟨w.heap.size + 1, 0, none⟩) (by simp))
      have r1 := (hb1.cell (p := ⟨w.heap.size + 1, 1, none⟩) (by simp))
      have r2 := (hb1.cell (p := ⟨w.heap.size + 1, 2, none⟩) (by simp))
      have r3 := (hb1.cell (p := ⟨w.heap.size + 1, 3, none⟩) (by simp))
      have r4 := (hb1.cell (p := ⟨w.heap.size + 1, 4, none⟩) (by simp))
      have f0 := (hb1.frozen (p := ⟨w.heap.size, 0, none⟩) (by simp; omega))
      have f1 := (hb1.frozen (p := ⟨w.heap.size, 1, none⟩) (by simp; omega))
      have f4 := (hb1.frozen (p := ⟨w.heap.size, 4, none⟩) (by simp; omega))
      have g0 := (hb1.frozen (p := ⟨w.heap.size + 1, 0, none⟩) (by simp))
      have g1 := (hb1.frozen (p := ⟨w.heap.size + 1, 1, none⟩) (by simp))
      have g2 := (hb1.frozen (p := ⟨w.heap.size + 1, 2, none⟩) (by simp))
      have g3 := (hb1.frozen (p := ⟨w.heap.size + 1, 3, none⟩) (by simp))
      have g4 := (hb1.frozen (p := ⟨w.heap.size + 1, 4, none⟩) (by simp))
      simp [go_sem] at k0 k1 k2 k3 k4 r0 r1 r2 r3 r4 f0 f1 f4 g0 g1 g2 g3 g4
      have hbw : Below w.heap.size w w1 := (((Below.refl _ _).alloc (Nat.le_refl _) _).alloc (by simp) _).trans (hb1.mono (by simp; omega))
      have HB := hide hbw
      clear hb1 hbw
      go_wp2_with (first | (go_at_call 27; refine (CS.out _).mono ?_; rintro e w' ⟨rfl, rfl⟩) | (go_at_call 28; refine (CL.out _ _ _).mono ?_; rintro e w' ⟨rfl, rfl⟩))
      refine bodyPost_ret (v := regV (⟨bits, mx, mn, mx, 0⟩)) (by simp [results, Try.results25, go_sem, regV, r0, r1, r2, r3, r4]) rfl ?_
      refine ⟨rfl, ?_⟩
      repeat (with_reducible refine Below.setCell ?_ (by simp) _)
      exact HB.out
    · have er : backoff ⟨bits, poll, mn, mx, cnt⟩ = ⟨bits, poll + 2, mn, mx, 0⟩ := by unfold backoff; rw [if_pos HZ.out]; simp; omega
      rw [er]
      clear er
      have em : min (poll + 2) mx = poll + 2 := by omega
      go_enter Try.func25, Try.ntmps25
      go_wp2_with fail
      refine (C.out _).mono ?_
      rintro e w1 ⟨rfl, hb1⟩
      have hs1 : w.heap.size + 1 < w1.heap.size := by have := hb1.size; simp at this; omega
      have hs0 : w.heap.size < w1.heap.size := by omega
      have k0 := (hb1.cell (p := ⟨w.heap.size, 0, none⟩) (by simp; omega))
      have k1 := (hb1.cell (p := ⟨w.heap.size, 1, none⟩) (by simp; omega))
      have k2 := (hb1.cell (p := ⟨w.heap.size, 2, none⟩) (by simp; omega))
      have k3 := (hb1.cell (p := ⟨w.heap.size, 3, none⟩) (by simp; omega))
      have k4 := (hb1.cell (p := ⟨w.heap.size, 4, none⟩) (by simp; omega))
      have r0 := (hb1.cell (p := ⟨w.heap.size + 1, 0, none⟩) (by simp))
      have r1 := (hb1.cell (p := ⟨w.heap.size + 1, 1, none⟩) (by simp))
      have r2 := (hb1.cell (p := ⟨w.heap.size + 1, 2, none⟩) (by simp))
      have r3 := (hb1.cell (p := ⟨w.heap.size + 1, 3, none⟩) (by simp))
      have r4 := (hb1.cell (p := ⟨w.heap.size + 1, 4, none⟩) (by simp))
      have f0 := (hb1.frozen (p := ⟨w.heap.size, 0, none⟩) (by simp; omega))
      have f1 := (hb1.frozen (p := ⟨w.heap.size, 1, none⟩) (by simp; omega))
      have f4 := (hb1.frozen (p := ⟨w.heap.size, 4, none⟩) (by simp; omega))
      have g0 := (hb1.frozen (p := ⟨w.heap.size + 1, 0, none⟩) (by simp))
      have g1 := (hb1.frozen (p := ⟨w.heap.size + 1, 1, none⟩) (by simp))
      have g2 := (hb1.frozen (p := ⟨w.heap.size + 1, 2, none⟩) (by simp))
      have g3 := (hb1.frozen (p := ⟨w.heap.size + 1, 3, none⟩) (by simp))
      have g4 := (hb1.frozen (p := ⟨w.heap.size + 1, 4, none⟩) (by simp))
      simp [go_sem] at k0 k1 k2 k3 k4 r0 r1 r2 r3 r4 f0 f1 f4 g0 g1 g2 g3 g4
      have hbw : Below w.heap.size w w1 := (((Below.refl _ _).alloc (Nat.le_refl _) _).alloc (by simp) _).trans (hb1.mono (by simp; omega))
      have HB := hide hbw
      clear hb1 hbw
      go_wp2_with (first | (go_at_call 27; refine (CS.out _).mono ?_; rintro e w' ⟨rfl, rfl⟩) | (go_at_call 28; refine (CL.out _ _ _).mono ?_; rintro e w' ⟨rfl, rfl⟩))
      refine bodyPost_ret (v := regV (⟨bits, poll + 2, mn, mx, 0⟩)) (by simp [results, Try.results25, go_sem, regV, r0, r1, r2, r3, r4]) rfl ?_
      refine ⟨rfl, ?_⟩
      repeat (with_reducible refine Below.setCell ?_ (by simp) _)
      exact HB.out
  · have er : backoff ⟨bits, poll, mn, mx, cnt⟩ = zeroR := by unfold backoff; rw [if_neg hz]
    rw [er]
    have hz' : (chk ⟨bits, poll, mn, mx, cnt⟩ != 0) = true := by simpa using hz
    clear hz er
    generalize chk ⟨bits, poll, mn, mx, cnt⟩ = k at *
    go_enter Try.func25, Try.ntmps25
    go_wp2_with fail
    refine (C.out _).mono ?_
    rintro e w1 ⟨rfl, hb1⟩
    have hs1 : w.heap.size + 1 < w1.heap.size := by have := hb1.size; simp at this; omega
    have hs0 : w.heap.size < w1.heap.size := by omega
    have k0 := (hb1.cell (p := ⟨w.heap.size, 0, none⟩) (by simp; omega))
    have k1 := (hb1.cell (p := ⟨w.heap.size, 1, none⟩) (by simp; omega))
    have k2 := (hb1.cell (p := ⟨w.heap.size, 2, none⟩) (by simp; omega))
    have k3 := (hb1.cell (p := ⟨w.heap.size, 3, none⟩) (by simp; omega))
    have k4 := (hb1.cell (p := ⟨w.heap.size, 4, none⟩) (by simp; omega))
    have r0 := (hb1.cell (p := ⟨w.heap.size + 1, 0, none⟩) (by simp))
    have r1 := (hb1.cell (p := ⟨w.heap.size + 1, 1, none⟩) (by simp))
    have r2 := (hb1.cell (p := ⟨w.heap.size + 1, 2, none⟩) (by simp))
    have r3 := (hb1.cell (p := ⟨w.heap.size + 1, 3, none⟩) (by simp))
    have r4 := (hb1.cell (p := ⟨w.heap.size + 1, 4, none⟩) (by simp))
    have f0 := (hb1.frozen (p := ⟨w.heap.size, 0, none⟩) (by simp; omega))
    have f1 := (hb1.frozen (p := ⟨w.heap.size, 1, none⟩) (by simp; omega))
    have f4 := (hb1.frozen (p := ⟨w.heap.size, 4, none⟩) (by simp; omega))
    have g0 := (hb1.frozen (p := ⟨w.heap.size + 1, 0, none⟩) (by simp))
    have g1 := (hb1.frozen (p := ⟨w.heap.size + 1, 1, none⟩) (by simp))
    have g2 := (hb1.frozen (p := ⟨w.heap.size + 1, 2, none⟩) (by simp))
    have g3 := (hb1.frozen (p := ⟨w.heap.size + 1, 3, none⟩) (by simp))
    have g4 := (hb1.frozen (p := ⟨w.heap.size + 1, 4, none⟩) (by simp))
    simp [go_sem] at k0 k1 k2 k3 k4 r0 r1 r2 r3 r4 f0 f1 f4 g0 g1 g2 g3 g4
    have hbw : Below w.heap.size w w1 := (((Below.refl _ _).alloc (Nat.le_refl _) _).alloc (by simp) _).trans (hb1.mono (by simp; omega))
    have HB := hide hbw
    clear hb1 hbw
    go_wp2_with (first | (go_at_call 27; refine (CS.out _).mono ?_; rintro e w' ⟨rfl, rfl⟩) | (go_at_call 28; refine (CL.out _ _ _).mono ?_; rintro e w' ⟨rfl, rfl⟩))
    refine bodyPost_ret (v := regV (zeroR)) (by simp [results, Try.results25, go_sem, regV, zeroR, r0, r1, r2, r3, r4]) rfl ?_
    refine ⟨rfl, ?_⟩
    repeat (with_reducible refine Below.setCell ?_ (by simp) _)
    exact HB.out
end Go.Proofs.Ytblegmmljegmaaa.Rch
