/- The contracts of Adapt of package reach and of its reference. -/
import Derived.Test.YtblegmmljegmaaaRchC
namespace Go.Proofs.Ytblegmmljegmaaa.Rch
open Go.RowKit Aid
set_option maxHeartbeats 3200000 in
theorem Adapt_any (bits poll mn mx cnt : Int) (o j : Int) (ho : -9223372036854775808 ≤ o) (ho2 : o ≤ 9223372036854775807) (hj : -9223372036854775808 ≤ j) (hj2 : j ≤ 9223372036854775807) (w : World) :
    Calls Try.prog 9 #[.agg #[.int .i64 bits, .int .i64 poll, .int .i64 mn, .int .i64 mx, .int .i64 cnt], .int .i64 o, .int .i64 j] w fun e w' => e = .returned (regV (adapt ⟨bits, poll, mn, mx, cnt⟩ o j)) ∧ Below w.heap.size w w' := by
  have C := hide (Check_any bits poll mn mx cnt)
  have CS := hide fun W => small_any o j W ho ho2 hj hj2
  by_cases hz : chk ⟨bits, poll, mn, mx, cnt⟩ = 0
  · have ok := chk_ok hz
    have q1 : 0 ≤ bits := ok.b1
    have q2 : bits ≤ 255 := ok.b2
    have q3 : 3 ≤ mn := ok.n1
    have q4 : mx ≤ 17 := ok.x2
    have q5 : mn ≤ poll := ok.p1
    have q6 : poll ≤ mx := ok.p2
    have q7 : -30 ≤ cnt := ok.c1
    have q8 : cnt ≤ 30 := ok.c2
    have HZ := hide hz
    rw [hz] at C
    clear hz ok
    rcases Bool.eq_false_or_eq_true (smallB o j) with hsm | hsm
    · rw [hsm] at CS
      by_cases h1 : 30 < cnt + poll
      · by_cases h2 : mx < poll + 1
        · have er : adapt ⟨bits, poll, mn, mx, cnt⟩ o j = ⟨bits, mx, mn, mx, 0⟩ := by unfold adapt; rw [if_pos HZ.out]; simp [hsm, h1]; omega
          rw [er]
          clear er
          clear hsm
          go_enter Try.func9, Try.ntmps9
          go_wp2_with fail
          refine (C.out _).mono ?_
          rintro e w1 ⟨rfl, hb1⟩
          have hs1 : w.heap.size + 1 < w1.heap.size := by have := hb1.size; simp at this; omega
          have hs0 : w.heap.size < w1.heap.size := by omega
          have k0 := (hb1.cell (p := ⟨w.heap.size, 0, none⟩) (by simp; omega))
          have k1 := (hb1.cell (p := ⟨w.heap.size, 1, none⟩) (by simp; omega))
          have k2 := (hb1.cell (p := ⟨w.heap.size, 2, none⟩) (by simp; omega))
          have k3 := (hb1.cell (p := ⟨w.heap.size, 3, none⟩) (by simp; omega))
          have k4 := (hb1.cell (p := ⟨w.heap.size, 4, none⟩) (by simp; omega))
          have r0 := (hb1.cell (p := ⟨w.heap.size + 1, 0, none⟩) (by simp))
          have r1 := (hb1.cell (p := ⟨w.heap.size + 1, 1, none⟩) (by simp))
          have r2 := (hb1.cell (p := ⟨w.heap.size + 1, 2, none⟩) (by simp))
          have r3 := (hb1.cell (p := ⟨w.heap.size + 1, 3, none⟩) (by simp))
          have r4 := (hb1.cell (p := ⟨w.heap.size + 1, 4, none⟩) (by simp))
          have f0 := (hb1.frozen (p := ⟨w.heap.size, 0, none⟩) (by simp; omega))
          have f1 := (hb1.frozen (p := ⟨w.heap.size, 1, none⟩) (by simp; omega))
          have f4 := (hb1.frozen (p := ⟨w.heap.size, 4, none⟩) (by simp; omega))
          have g0 := (hb1.frozen (p := ⟨w.heap.size + 1, 0, none⟩) (by simp))
          have g1 := (hb1.frozen (p := ⟨w.heap.size + 1, 1, none⟩) (by simp))
          have g2 := (hb1.frozen (p := ⟨w.heap.size + 1, 2, none⟩) (by simp))
          have g3 := (hb1.frozen (p := ⟨w.heap.size + 1, 3, none⟩) (by simp))
          have g4 := (hb1.frozen (p := ⟨w.heap.size + 1, 4, none⟩) (by simp))
          simp [go_sem] at k0 k1 k2 k3 k4 r0 r1 r2 r3 r4 f0 f1 f4 g0 g1 g2 g3 g4
          have hbw : Below w.heap.size w w1 := (((Below.refl _ _).alloc (Nat.le_refl _) _).alloc (by simp) _).trans (hb1.mono (by simp; omega))
          have HB := hide hbw
          clear hb1 hbw
          go_wp2_with (first | (go_at_call 26; refine (CS.out _).mono ?_; rintro e w' ⟨rfl, rfl⟩) | (go_at_call 28; refine (CL.out _ _ _).mono ?_; rintro e w' ⟨rfl, rfl⟩))
          refine bodyPost_ret (v := regV (⟨bits, mx, mn, mx, 0⟩)) (by simp [results, Try.results9, go_sem, regV, r0, r1, r2, r3, r4]) rfl ?_
          refine ⟨rfl, ?_⟩
          repeat (with_reducible refine Below.setCell ?_ (by simp) _)
          exact HB.out
        · have er : adapt ⟨bits, poll, mn, mx, cnt⟩ o j = ⟨bits, poll + 1, mn, mx, 0⟩ := by unfold adapt; rw [if_pos HZ.out]; simp [hsm, h1]; omega
          rw [er]
          clear er
          clear hsm
          go_enter Try.func9, Try.ntmps9
          go_wp2_with fail
          refine (C.out _).mono ?_
          rintro e w1 ⟨rfl, hb1⟩
          have hs1 : w.heap.size + 1 < w1.heap.size := by have := hb1.size; simp at this; omega
          have hs0 : w.heap.size < w1.heap.size := by omega
          have k0 := (hb1.cell (p := ⟨w.heap.size, 0, none⟩) (by simp; omega))
          have k1 := (hb1.cell (p := ⟨w.heap.size, 1, none⟩) (by simp; omega))
          have k2 := (hb1.cell (p := ⟨w.heap.size, 2, none⟩) (by simp; omega))
          have k3 := (hb1.cell (p := ⟨w.heap.size, 3, none⟩) (by simp; omega))
          have k4 := (hb1.cell (p := ⟨w.heap.size, 4, none⟩) (by simp; omega))
          have r0 := (hb1.cell (p := ⟨w.heap.size + 1, 0, none⟩) (by simp))
          have r1 := (hb1.cell (p := ⟨w.heap.size + 1, 1, none⟩) (by simp))
          have r2 := (hb1.cell (p := ⟨w.heap.size + 1, 2, none⟩) (by simp))
          have r3 := (hb1.cell (p := ⟨w.heap.size + 1, 3, none⟩) (by simp))
          have r4 := (hb1.cell (p := ⟨w.heap.size + 1, 4, none⟩) (by simp))
          have f0 := (hb1.frozen (p := ⟨w.heap.size, 0, none⟩) (by simp; omega))
          have f1 := (hb1.frozen (p := ⟨w.heap.size, 1, none⟩) (by simp; omega))
          have f4 := (hb1.frozen (p := ⟨w.heap.size, 4, none⟩) (by simp; omega))
          have g0 := (hb1.frozen (p := ⟨w.heap.size + 1, 0, none⟩) (by simp))
          have g1 := (hb1.frozen (p := ⟨w.heap.size + 1, 1, none⟩) (by simp))
          have g2 := (hb1.frozen (p := ⟨w.heap.size + 1, 2, none⟩) (by simp))
          have g3 := (hb1.frozen (p := ⟨w.heap.size + 1, 3, none⟩) (by simp))
          have g4 := (hb1.frozen (p := ⟨w.heap.size + 1, 4, none⟩) (by simp))
          simp [go_sem] at k0 k1 k2 k3 k4 r0 r1 r2 r3 r4 f0 f1 f4 g0 g1 g2 g3 g4
          have hbw : Below w.heap.size w w1 := (((Below.refl _ _).alloc (Nat.le_refl _) _).alloc (by simp) _).trans (hb1.mono (by simp; omega))
          have HB := hide hbw
          clear hb1 hbw
          go_wp2_with (first | (go_at_call 26; refine (CS.out _).mono ?_; rintro e w' ⟨rfl, rfl⟩) | (go_at_call 28; refine (CL.out _ _ _).mono ?_; rintro e w' ⟨rfl, rfl⟩))
          refine bodyPost_ret (v := regV (⟨bits, poll + 1, mn, mx, 0⟩)) (by simp [results, Try.results9, go_sem, regV, r0, r1, r2, r3, r4]) rfl ?_
          refine ⟨rfl, ?_⟩
          repeat (with_reducible refine Below.setCell ?_ (by simp) _)
          exact HB.out
      · have er : adapt ⟨bits, poll, mn, mx, cnt⟩ o j = ⟨bits, poll, mn, mx, cnt + poll⟩ := by unfold adapt; rw [if_pos HZ.out]; simp [hsm, h1]
        rw [er]
        clear er
        clear hsm
        go_enter Try.func9, Try.ntmps9
        go_wp2_with fail
        refine (C.out _).mono ?_
        rintro e w1 ⟨rfl, hb1⟩
        have hs1 : w.heap.size + 1 < w1.heap.size := by have := hb1.size; simp at this; omega
        have hs0 : w.heap.size < w1.heap.size := by omega
        have k0 := (hb1.cell (p := ⟨w.heap.size, 0, none⟩) (by simp; omega))
        have k1 := (hb1.cell (p := ⟨w.heap.size, 1, none⟩) (by simp; omega))
        have k2 := (hb1.cell (p := ⟨w.heap.size, 2, none⟩) (by simp; omega))
        have k3 := (hb1.cell (p := ⟨w.heap.size, 3, none⟩) (by simp; omega))
        have k4 := (hb1.cell (p := ⟨w.heap.size, 4, none⟩) (by simp; omega))
        have r0 := (hb1.cell (p := ⟨w.heap.size + 1, 0, none⟩) (by simp))
        have r1 := (hb1.cell (p := ⟨w.heap.size + 1, 1, none⟩) (by simp))
        have r2 := (hb1.cell (p := ⟨w.heap.size + 1, 2, none⟩) (by simp))
        have r3 := (hb1.cell (p := ⟨w.heap.size + 1, 3, none⟩) (by simp))
        have r4 := (hb1.cell (p := ⟨w.heap.size + 1, 4, none⟩) (by simp))
        have f0 := (hb1.frozen (p := ⟨w.heap.size, 0, none⟩) (by simp; omega))
        have f1 := (hb1.frozen (p := ⟨w.heap.size, 1, none⟩) (by simp; omega))
        have f4 := (hb1.frozen (p := ⟨w.heap.size, 4, none⟩) (by simp; omega))
        have g0 := (hb1.frozen (p := ⟨w.heap.size + 1, 0, none⟩) (by simp))
        have g1 := (hb1.frozen (p := ⟨w.heap.size + 1, 1, none⟩) (by simp))
        have g2 := (hb1.frozen (p := ⟨w.heap.size + 1, 2, none⟩) (by simp))
        have g3 := (hb1.frozen (p := ⟨w.heap.size + 1, 3, none⟩) (by simp))
        have g4 := (hb1.frozen (p := ⟨w.heap.size + 1, 4, none⟩) (by simp))
        simp [go_sem] at k0 k1 k2 k3 k4 r0 r1 r2 r3 r4 f0 f1 f4 g0 g1 g2 g3 g4
        have hbw : Below w.heap.size w w1 := (((Below.refl _ _).alloc (Nat.le_refl _) _).alloc (by simp) _).trans (hb1.mono (by simp; omega))
        have HB := hide hbw
        clear hb1 hbw
        go_wp2_with (first | (go_at_call 26; refine (CS.out _).mono ?_; rintro e w' ⟨rfl, rfl⟩) | (go_at_call 28; refine (CL.out _ _ _).mono ?_; rintro e w' ⟨rfl, rfl⟩))
        refine bodyPost_ret (v := regV (⟨bits, poll, mn, mx, cnt + poll⟩)) (by simp [results, Try.results9, go_sem, regV, r0, r1, r2, r3, r4]) rfl ?_
        refine ⟨rfl, ?_⟩
        repeat (with_reducible refine Below.setCell ?_ (by simp) _)
        exact HB.out
    · rw [hsm] at CS
      by_cases h1 : cnt - 2 * poll < -30
      · by_cases h2 : poll - 1 < mn
        · have er : adapt ⟨bits, poll, mn, mx, cnt⟩ o j = ⟨bits, mn, mn, mx, 0⟩ := by unfold adapt; rw [if_pos HZ.out]; simp [hsm, h1]; omega
          rw [er]
          clear er
          clear hsm
          go_enter Try.func9, Try.ntmps9
          go_wp2_with fail
          refine (C.out _).mono ?_
          rintro e w1 ⟨rfl, hb1⟩
          have hs1 : w.heap.size + 1 < w1.heap.size := by have := hb1.size; simp at this; omega
          have hs0 : w.heap.size < w1.heap.size := by omega
          have k0 := (hb1.cell (p := ⟨w.heap.size, 0, none⟩) (by simp; omega))
          have k1 := (hb1.cell (p := ⟨w.heap.size, 1, none⟩) (by simp; omega))
          have k2 := (hb1.cell (p := ⟨w.heap.size, 2, none⟩) (by simp; omega))
          have k3 := (hb1.cell (p := ⟨w.heap.size, 3, none⟩) (by simp; omega))
          have k4 := (hb1.cell (p := ⟨w.heap.size, 4, none⟩) (by simp; omega))
          have r0 := (hb1.cell (p := ⟨w.heap.size + 1, 0, none⟩) (by simp))
          have r1 := (hb1.cell (p := ⟨w.heap.size + 1, 1, none⟩) (by simp))
          have r2 := (hb1.cell (p := ⟨w.heap.size + 1, 2, none⟩) (by simp))
          have r3 := (hb1.cell (p := ⟨w.heap.size + 1, 3, none⟩) (by simp))
          have r4 := (hb1.cell (p := ⟨w.heap.size + 1, 4, none⟩) (by simp))
          have f0 := (hb1.frozen (p := ⟨w.heap.size, 0, none⟩) (by simp; omega))
          have f1 := (hb1.frozen (p := ⟨w.heap.size, 1, none⟩) (by simp; omega))
          have f4 := (hb1.frozen (p := ⟨w.heap.size, 4, none⟩) (by simp; omega))
          have g0 := (hb1.frozen (p := ⟨w.heap.size + 1, 0, none⟩) (by simp))
          have g1 := (hb1.frozen (p := ⟨w.heap.size + 1, 1, none⟩) (by simp))
          have g2 := (hb1.frozen (p := ⟨w.heap.size + 1, 2, none⟩) (by simp))
          have g3 := (hb1.frozen (p := ⟨w.heap.size + 1, 3, none⟩) (by simp))
          have g4 := (hb1.frozen (p := ⟨w.heap.size + 1, 4, none⟩) (by simp))
          simp [go_sem] at k0 k1 k2 k3 k4 r0 r1 r2 r3 r4 f0 f1 f4 g0 g1 g2 g3 g4
          have hbw : Below w.heap.size w w1 := (((Below.refl _ _).alloc (Nat.le_refl _) _).alloc (by simp) _).trans (hb1.mono (by simp; omega))
          have HB := hide hbw
          clear hb1 hbw
          go_wp2_with (first | (go_at_call 26; refine (CS.out _).mono ?_; rintro e w' ⟨rfl, rfl⟩) | (go_at_call 28; refine (CL.out _ _ _).mono ?_; rintro e w' ⟨rfl, rfl⟩))
          refine bodyPost_ret (v := regV (⟨bits, mn, mn, mx, 0⟩)) (by simp [results, Try.results9, go_sem, regV, r0, r1, r2, r3, r4]) rfl ?_
          refine ⟨rfl, ?_⟩
          repeat (with_reducible refine Below.setCell ?_ (by simp) _)
          exact HB.out
        · have er : adapt ⟨bits, poll, mn, mx, cnt⟩ o j = ⟨bits, poll - 1, mn, mx, 0⟩ := by unfold adapt; rw [if_pos HZ.out]; simp [hsm, h1]; omega
          rw [er]
          clear er
          clear hsm
          go_enter Try.func9, Try.ntmps9
          go_wp2_with fail
          refine (C.out _).mono ?_
          rintro e w1 ⟨rfl, hb1⟩
          have hs1 : w.heap.size + 1 < w1.heap.size := by have := hb1.size; simp at this; omega
          have hs0 : w.heap.size < w1.heap.size := by omega
          have k0 := (hb1.cell (p := ⟨w.heap.size, 0, none⟩) (by simp; omega))
          have k1 := (hb1.cell (p := ⟨w.heap.size, 1, none⟩) (by simp; omega))
          have k2 := (hb1.cell (p := ⟨w.heap.size, 2, none⟩) (by simp; omega))
          have k3 := (hb1.cell (p := ⟨w.heap.size, 3, none⟩) (by simp; omega))
          have k4 := (hb1.cell (p := ⟨w.heap.size, 4, none⟩) (by simp; omega))
          have r0 := (hb1.cell (p := ⟨w.heap.size + 1, 0, none⟩) (by simp))
          have r1 := (hb1.cell (p := ⟨w.heap.size + 1, 1, none⟩) (by simp))
          have r2 := (hb1.cell (p := ⟨w.heap.size + 1, 2, none⟩) (by simp))
          have r3 := (hb1.cell (p := ⟨w.heap.size + 1, 3, none⟩) (by simp))
          have r4 := (hb1.cell (p := ⟨w.heap.size + 1, 4, none⟩) (by simp))
          have f0 := (hb1.frozen (p := ⟨w.heap.size, 0, none⟩) (by simp; omega))
          have f1 := (hb1.frozen (p := ⟨w.heap.size, 1, none⟩) (by simp; omega))
          have f4 := (hb1.frozen (p := ⟨w.heap.size, 4, none⟩) (by simp; omega))
          have g0 := (hb1.frozen (p := ⟨w.heap.size + 1, 0, none⟩) (by simp))
          have g1 := (hb1.frozen (p := ⟨w.heap.size + 1, 1, none⟩) (by simp))
          have g2 := (hb1.frozen (p := ⟨w.heap.size + 1, 2, none⟩) (by simp))
          have g3 := (hb1.frozen (p := ⟨w.heap.size + 1, 3, none⟩) (by simp))
          have g4 := (hb1.frozen (p := ⟨w.heap.size + 1, 4, none⟩) (by simp))
          simp [go_sem] at k0 k1 k2 k3 k4 r0 r1 r2 r3 r4 f0 f1 f4 g0 g1 g2 g3 g4
          have hbw : Below w.heap.size w w1 := (((Below.refl _ _).alloc (Nat.le_refl _) _).alloc (by simp) _).trans (hb1.mono (by simp; omega))
          have HB := hide hbw
          clear hb1 hbw
          go_wp2_with (first | (go_at_call 26; refine (CS.out _).mono ?_; rintro e w' ⟨rfl, rfl⟩) | (go_at_call 28; refine (CL.out _ _ _).mono ?_; rintro e w' ⟨rfl, rfl⟩))
          refine bodyPost_ret (v := regV (⟨bits, poll - 1, mn, mx, 0⟩)) (by simp [results, Try.results9, go_sem, regV, r0, r1, r2, r3, r4]) rfl ?_
          refine ⟨rfl, ?_⟩
          repeat (with_reducible refine Below.setCell ?_ (by simp) _)
          exact HB.out
      · have er : adapt ⟨bits, poll, mn, mx, cnt⟩ o j = ⟨bits, poll, mn, mx, cnt - 2 * poll⟩ := by unfold adapt; rw [if_pos HZ.out]; simp [hsm, h1]
        rw [er]
        clear er
        clear hsm
        go_enter Try.func9, Try.ntmps9
        go_wp2_with fail
        refine (C.out _).mono ?_
        rintro e w1 ⟨rfl, hb1⟩
        have hs1 : w.heap.size + 1 < w1.heap.size := by have := hb1.size; simp at this; omega
        have hs0 : w.heap.size < w1.heap.size := by omega
        have k0 := (hb1.cell (p := ⟨w.heap.size, 0, none⟩) (by simp; omega))
        have k1 := (hb1.cell (p := ⟨w.heap.size, 1, none⟩) (by simp; omega))
        have k2 := (hb1.cell (p := ⟨w.heap.size, 2, none⟩) (by simp; omega))
        have k3 := (hb1.cell (p := ⟨w.heap.size, 3, none⟩) (by simp; omega))
        have k4 := (hb1.cell (p := ⟨w.heap.size, 4, none⟩) (by simp; omega))
        have r0 := (hb1.cell (p := ⟨w.heap.size + 1, 0, none⟩) (by simp))
        have r1 := (hb1.cell (p := ⟨w.heap.size + 1, 1, none⟩) (by simp))
        have r2 := (hb1.cell (p := ⟨w.heap.size + 1, 2, none⟩) (by simp))
        have r3 := (hb1.cell (p := ⟨w.heap.size + 1, 3, none⟩) (by simp))
        have r4 := (hb1.cell (p := ⟨w.heap.size + 1, 4, none⟩) (by simp))
        have f0 := (hb1.frozen (p := ⟨w.heap.size, 0, none⟩) (by simp; omega))
        have f1 := (hb1.frozen (p := ⟨w.heap.size, 1, none⟩) (by simp; omega))
        have f4 := (hb1.frozen (p := ⟨w.heap.size, 4, none⟩) (by simp; omega))
        have g0 := (hb1.frozen (p := ⟨w.heap.size + 1, 0, none⟩) (by simp))
        have g1 := (hb1.frozen (p := ⟨w.heap.size + 1, 1, none⟩) (by simp))
        have g2 := (hb1.frozen (p := ⟨w.heap.size + 1, 2, none⟩) (by simp))
        have g3 := (hb1.frozen (p := ⟨w.heap.size + 1, 3, none⟩) (by simp))
        have g4 := (hb1.frozen (p := ⟨w.heap.size + 1, 4, none⟩) (by simp))
        simp [go_sem] at k0 k1 k2 k3 k4 r0 r1 r2 r3 r4 f0 f1 f4 g0 g1 g2 g3 g4
        have hbw : Below w.heap.size w w1 := (((Below.refl _ _).alloc (Nat.le_refl _) _).alloc (by simp) _).trans (hb1.mono (by simp; omega))
        have HB := hide hbw
        clear hb1 hbw
        go_wp2_with (first | (go_at_call 26; refine (CS.out _).mono ?_; rintro e w' ⟨rfl, rfl⟩) | (go_at_call 28; refine (CL.out _ _ _).mono ?_; rintro e w' ⟨rfl, rfl⟩))
        refine bodyPost_ret (v := regV (⟨bits, poll, mn, mx, cnt - 2 * poll⟩)) (by simp [results, Try.results9, go_sem, regV, r0, r1, r2, r3, r4]) rfl ?_
        refine ⟨rfl, ?_⟩
        repeat (with_reducible refine Below.setCell ?_ (by simp) _)
        exact HB.out
  · have er : adapt ⟨bits, poll, mn, mx, cnt⟩ o j = zeroR := by unfold adapt; rw [if_neg hz]
    rw [er]
    have hz' : (chk ⟨bits, poll, mn, mx, cnt⟩ != 0) = true := by simpa using hz
    clear hz er
    generalize chk ⟨bits, poll, mn, mx, cnt⟩ = k at *
    go_enter Try.func9, Try.ntmps9
    go_wp2_with fail
    refine (C.out _).mono ?_
    rintro e w1 ⟨rfl, hb1⟩
    have hs1 : w.heap.size + 1 < w1.heap.size := by have := hb1.size; simp at this; omega
    have hs0 : w.heap.size < w1.heap.size := by omega
    have k0 := (hb1.cell (p := ⟨w.heap.size, 0, none⟩) (by simp; omega))
    have k1 := (hb1.cell (p := ⟨w.heap.size, 1, none⟩) (by simp; omega))
    have k2 := (hb1.cell (p := ⟨w.heap.size, 2, none⟩) (by simp; omega))
    have k3 := (hb1.cell (p := ⟨w.heap.size, 3, none⟩) (by simp; omega))
    have k4 := (hb1.cell (p := ⟨w.heap.size, 4, none⟩) (by simp; omega))
    have r0 := (hb1.cell (p := ⟨w.heap.size + 1, 0, none⟩) (by simp))
    have r1 := (hb1.cell (p := ⟨w.heap.size + 1, 1, none⟩) (by simp))
    have r2 := (hb1.cell (p := ⟨w.heap.size + 1, 2, none⟩) (by simp))
    have r3 := (hb1.cell (p := ⟨w.heap.size + 1, 3, none⟩) (by simp))
    have r4 := (hb1.cell (p := ⟨w.heap.size + 1, 4, none⟩) (by simp))
    have f0 := (hb1.frozen (p := ⟨w.heap.size, 0, none⟩) (by simp; omega))
    have f1 := (hb1.frozen (p := ⟨w.heap.size, 1, none⟩) (by simp; omega))
    have f4 := (hb1.frozen (p := ⟨w.heap.size, 4, none⟩) (by simp; omega))
    have g0 := (hb1.frozen (p := ⟨w.heap.size + 1, 0, none⟩) (by simp))
    have g1 := (hb1.frozen (p := ⟨w.heap.size + 1, 1, none⟩) (by simp))
    have g2 := (hb1.frozen (p := ⟨w.heap.size + 1, 2, none⟩) (by simp))
    have g3 := (hb1.frozen (p := ⟨w.heap.size + 1, 3, none⟩) (by simp))
    have g4 := (hb1.frozen (p := ⟨w.heap.size + 1, 4, none⟩) (by simp))
    simp [go_sem] at k0 k1 k2 k3 k4 r0 r1 r2 r3 r4 f0 f1 f4 g0 g1 g2 g3 g4
    have hbw : Below w.heap.size w w1 := (((Below.refl _ _).alloc (Nat.le_refl _) _).alloc (by simp) _).trans (hb1.mono (by simp; omega))
    have HB := hide hbw
    clear hb1 hbw
    go_wp2_with (first | (go_at_call 26; refine (CS.out _).mono ?_; rintro e w' ⟨rfl, rfl⟩) | (go_at_call 28; refine (CL.out _ _ _).mono ?_; rintro e w' ⟨rfl, rfl⟩))
    refine bodyPost_ret (v := regV (zeroR)) (by simp [results, Try.results9, go_sem, regV, zeroR, r0, r1, r2, r3, r4]) rfl ?_
    refine ⟨rfl, ?_⟩
    repeat (with_reducible refine Below.setCell ?_ (by simp) _)
    exact HB.out
set_option maxHeartbeats 3200000 in
theorem RAdapt_any (bits poll mn mx cnt : Int) (o j : Int) (ho : -9223372036854775808 ≤ o) (ho2 : o ≤ 9223372036854775807) (hj : -9223372036854775808 ≤ j) (hj2 : j ≤ 9223372036854775807) (w : World) :
    Calls Try.prog 10 #[.agg #[.int .i64 bits, .int .i64 poll, .int .i64 mn, .int .i64 mx, .int .i64 cnt], .int .i64 o, .int .i64 j] w fun e w' => e = .returned (regV (adapt ⟨bits, poll, mn, mx, cnt⟩ o j)) ∧ Below w.heap.size w w' := by
  have C := hide (RCheck_any bits poll mn mx cnt)
  have CS := hide fun W => Rsmall_any o j W ho ho2 hj hj2
  have CL := hide least_any
  by_cases hz : chk ⟨bits, poll, mn, mx, cnt⟩ = 0
  · have ok := chk_ok hz
    have q1 : 0 ≤ bits := ok.b1
    have q2 : bits ≤ 255 := ok.b2
    have q3 : 3 ≤ mn := ok.n1
    have q4 : mx ≤ 17 := ok.x2
    have q5 : mn ≤ poll := ok.p1
    have q6 : poll ≤ mx := ok.p2
    have q7 : -30 ≤ cnt := ok.c1
    have q8 : cnt ≤ 30 := ok.c2
    have HZ := hide hz
    rw [hz] at C
    clear hz ok
    rcases Bool.eq_false_or_eq_true (smallB o j) with hsm | hsm
    · rw [hsm] at CS
      by_cases h1 : 30 < cnt + poll
      · by_cases h2 : mx < poll + 1
        · have er : adapt ⟨bits, poll, mn, mx, cnt⟩ o j = ⟨bits, mx, mn, mx, 0⟩ := by unfold adapt; rw [if_pos HZ.out]; simp [hsm, h1]; omega
          rw [er]
          clear er
          clear hsm
          have em : min (poll + 1) mx = mx := by omega
          go_enter Try.func10, Try.ntmps10
          go_wp2_with fail
          refine (C.out _).mono ?_
          rintro e w1 ⟨rfl, hb1⟩
          have hs1 : w.heap.size + 1 < w1.heap.size := by have := hb1.size; simp at this; omega
          have hs0 : w.heap.size < w1.heap.size := by omega
          have k0 := (hb1.cell (p := ⟨w.heap.size, 0, none⟩) (by simp; omega))
          have k1 := (hb1.cell (p := ⟨w.heap.size, 1, none⟩) (by simp; omega))
          have k2 := (hb1.cell (p := ⟨w.heap.size, 2, none⟩) (by simp; omega))
          have k3 := (hb1.cell (p := ⟨w.heap.size, 3, none⟩) (by simp; omega))
          have k4 := (hb1.cell (p := ⟨w.heap.size, 4, none⟩) (by simp; omega))
          have r0 := (hb1.cell (p := ⟨w.heap.size + 1, 0, none⟩) (by simp))
          have r1 := (hb1.cell (p := ⟨w.heap.size + 1, 1, none⟩) (by simp))
          have r2 := (hb1.cell (p := ⟨w.heap.size + 1, 2, none⟩) (by simp))
          have r3 := (hb1.cell (p := ⟨w.heap.size + 1, 3, none⟩) (by simp))
          have r4 := (hb1.cell (p := ⟨w.heap.size + 1, 4, none⟩) (by simp))
          have f0 := (hb1.frozen (p := ⟨w.heap.size, 0, none⟩) (by simp; omega))
          have f1 := (hb1.frozen (p := ⟨w.heap.size, 1, none⟩) (by simp; omega))
          have f4 := (hb1.frozen (p := ⟨w.heap.size, 4, none⟩) (by simp; omega))
          have g0 := (hb1.frozen (p := ⟨w.heap.size + 1, 0, none⟩) (by simp))
          have g1 := (hb1.frozen (p := ⟨w.heap.size + 1, 1, none⟩) (by simp))
          have g2 := (hb1.frozen (p := ⟨w.heap.size + 1, 2, none⟩) (by simp))
          have g3 := (hb1.frozen (p := ⟨w.heap.size + 1, 3, none⟩) (by simp))
          have g4 := (hb1.frozen (p := ⟨w.heap.size + 1, 4, none⟩) (by simp))
          simp [go_sem] at k0 k1 k2 k3 k4 r0 r1 r2 r3 r4 f0 f1 f4 g0 g1 g2 g3 g4
          have hbw : Below w.heap.size w w1 := (((Below.refl _ _).alloc (Nat.le_refl _) _).alloc (by simp) _).trans (hb1.mono (by simp; omega))
          have HB := hide hbw
          clear hb1 hbw
          go_wp2_with (first | (go_at_call 27; refine (CS.out _).mono ?_; rintro e w' ⟨rfl, rfl⟩) | (go_at_call 28; refine (CL.out _ _ _).mono ?_; rintro e w' ⟨rfl, rfl⟩))
          refine bodyPost_ret (v := regV (⟨bits, mx, mn, mx, 0⟩)) (by simp [results, Try.results10, go_sem, regV, r0, r1, r2, r3, r4]) rfl ?_
          refine ⟨rfl, ?_⟩
          repeat (with_reducible refine Below.setCell ?_ (by simp) _)
          exact HB.out
        · have er : adapt ⟨bits, poll, mn, mx, cnt⟩ o j = ⟨bits, poll + 1, mn, mx, 0⟩ := by unfold adapt; rw [if_pos HZ.out]; simp [hsm, h1]; omega
          rw [er]
          clear er
          clear hsm
          have em : min (poll + 1) mx = poll + 1 := by omega
          go_enter Try.func10, Try.ntmps10
          go_wp2_with fail
          refine (C.out _).mono ?_
          rintro e w1 ⟨rfl, hb1⟩
          have hs1 : w.heap.size + 1 < w1.heap.size := by have := hb1.size; simp at this; omega
          have hs0 : w.heap.size < w1.heap.size := by omega
          have k0 := (hb1.cell (p := ⟨w.heap.size, 0, none⟩) (by simp; omega))
          have k1 := (hb1.cell (p := ⟨w.heap.size, 1, none⟩) (by simp; omega))
          have k2 := (hb1.cell (p := ⟨w.heap.size, 2, none⟩) (by simp; omega))
          have k3 := (hb1.cell (p := ⟨w.heap.size, 3, none⟩) (by simp; omega))
          have k4 := (hb1.cell (p := ⟨w.heap.size, 4, none⟩) (by simp; omega))
          have r0 := (hb1.cell (p := ⟨w.heap.size + 1, 0, none⟩) (by simp))
          have r1 := (hb1.cell (p := ⟨w.heap.size + 1, 1, none⟩) (by simp))
          have r2 := (hb1.cell (p := ⟨w.heap.size + 1, 2, none⟩) (by simp))
          have r3 := (hb1.cell (p := ⟨w.heap.size + 1, 3, none⟩) (by simp))
          have r4 := (hb1.cell (p := ⟨w.heap.size + 1, 4, none⟩) (by simp))
          have f0 := (hb1.frozen (p := ⟨w.heap.size, 0, none⟩) (by simp; omega))
          have f1 := (hb1.frozen (p := ⟨w.heap.size, 1, none⟩) (by simp; omega))
          have f4 := (hb1.frozen (p := ⟨w.heap.size, 4, none⟩) (by simp; omega))
          have g0 := (hb1.frozen (p := ⟨w.heap.size + 1, 0, none⟩) (by simp))
          have g1 := (hb1.frozen (p := ⟨w.heap.size + 1, 1, none⟩) (by simp))
          have g2 := (hb1.frozen (p := ⟨w.heap.size + 1, 2, none⟩) (by simp))
          have g3 := (hb1.frozen (p := ⟨w.heap.size + 1, 3, none⟩) (by simp))
          have g4 := (hb1.frozen (p := ⟨w.heap.size + 1, 4, none⟩) (by simp))
          simp [go_sem] at k0 k1 k2 k3 k4 r0 r1 r2 r3 r4 f0 f1 f4 g0 g1 g2 g3 g4
          have hbw : Below w.heap.size w w1 := (((Below.refl _ _).alloc (Nat.le_refl _) _).alloc (by simp) _).trans (hb1.mono (by simp; omega))
          have HB := hide hbw
          clear hb1 hbw
          go_wp2_with (first | (go_at_call 27; refine (CS.out _).mono ?_; rintro e w' ⟨rfl, rfl⟩) | (go_at_call 28; refine (CL.out _ _ _).mono ?_; rintro e w' ⟨rfl, rfl⟩))
          refine bodyPost_ret (v := regV (⟨bits, poll + 1, mn, mx, 0⟩)) (by simp [results, Try.results10, go_sem, regV, r0, r1, r2, r3, r4]) rfl ?_
          refine ⟨rfl, ?_⟩
          repeat (with_reducible refine Below.setCell ?_ (by simp) _)
          exact HB.out
      · have er : adapt ⟨bits, poll, mn, mx, cnt⟩ o j = ⟨bits, poll, mn, mx, cnt + poll⟩ := by unfold adapt; rw [if_pos HZ.out]; simp [hsm, h1]
        rw [er]
        clear er
        clear hsm
        go_enter Try.func10, Try.ntmps10
        go_wp2_with fail
        refine (C.out _).mono ?_
        rintro e w1 ⟨rfl, hb1⟩
        have hs1 : w.heap.size + 1 < w1.heap.size := by have := hb1.size; simp at this; omega
        have hs0 : w.heap.size < w1.heap.size := by omega
        have k0 := (hb1.cell (p := ⟨w.heap.size, 0, none⟩) (by simp; omega))
        have k1 := (hb1.cell (p := ⟨w.heap.size, 1, none⟩) (by simp; omega))
        have k2 := (hb1.cell (p := ⟨w.heap.size, 2, none⟩) (by simp; omega))
        have k3 := (hb1.cell (p := ⟨w.heap.size, 3, none⟩) (by simp; omega))
        have k4 := (hb1.cell (p := ⟨w.heap.size, 4, none⟩) (by simp; omega))
        have r0 := (hb1.cell (p := ⟨w.heap.size + 1, 0, none⟩) (by simp))
        have r1 := (hb1.cell (p := ⟨w.heap.size + 1, 1, none⟩) (by simp))
        have r2 := (hb1.cell (p := ⟨w.heap.size + 1, 2, none⟩) (by simp))
        have r3 := (hb1.cell (p := ⟨w.heap.size + 1, 3, none⟩) (by simp))
        have r4 := (hb1.cell (p := ⟨w.heap.size + 1, 4, none⟩) (by simp))
        have f0 := (hb1.frozen (p := ⟨w.heap.size, 0, none⟩) (by simp; omega))
        have f1 := (hb1.frozen (p := ⟨w.heap.size, 1, none⟩) (by simp; omega))
        have f4 := (hb1.frozen (p := ⟨w.heap.size, 4, none⟩) (by simp; omega))
        have g0 := (hb1.frozen (p := ⟨w.heap.size + 1, 0, none⟩) (by simp))
        have g1 := (hb1.frozen (p := ⟨w.heap.size + 1, 1, none⟩) (by simp))
        have g2 := (hb1.frozen (p := ⟨w.heap.size + 1, 2, none⟩) (by simp))
        have g3 := (hb1.frozen (p := ⟨w.heap.size + 1, 3, none⟩) (by simp))
        have g4 := (hb1.frozen (p := ⟨w.heap.size + 1, 4, none⟩) (by simp))
        simp [go_sem] at k0 k1 k2 k3 k4 r0 r1 r2 r3 r4 f0 f1 f4 g0 g1 g2 g3 g4
        have hbw : Below w.heap.size w w1 := (((Below.refl _ _).alloc (Nat.le_refl _) _).alloc (by simp) _).trans (hb1.mono (by simp; omega))
        have HB := hide hbw
        clear hb1 hbw
        go_wp2_with (first | (go_at_call 27; refine (CS.out _).mono ?_; rintro e w' ⟨rfl, rfl⟩) | (go_at_call 28; refine (CL.out _ _ _).mono ?_; rintro e w' ⟨rfl, rfl⟩))
        refine bodyPost_ret (v := regV (⟨bits, poll, mn, mx, cnt + poll⟩)) (by simp [results, Try.results10, go_sem, regV, r0, r1, r2, r3, r4]) rfl ?_
        refine ⟨rfl, ?_⟩
        repeat (with_reducible refine Below.setCell ?_ (by simp) _)
        exact HB.out
    · rw [hsm] at CS
      by_cases h1 : cnt - 2 * poll < -30
      · by_cases h2 : poll - 1 < mn
        · have er : adapt ⟨bits, poll, mn, mx, cnt⟩ o j = ⟨bits, poll, mn, mx, 0⟩ := by unfold adapt; rw [if_pos HZ.out]; simp [hsm, h1]; omega
          rw [er]
          clear er
          clear hsm
          go_enter Try.func10, Try.ntmps10
          go_wp2_with fail
          refine (C.out _).mono ?_
          rintro e w1 ⟨rfl, hb1⟩
          have hs1 : w.heap.size + 1 < w1.heap.size := by have := hb1.size; simp at this; omega
          have hs0 : w.heap.size < w1.heap.size := by omega
          have k0 := (hb1.cell (p := ⟨w.heap.size, 0, none⟩) (by simp; omega))
          have k1 := (hb1.cell (p := ⟨w.heap.size, 1, none⟩) (by simp; omega))
          have k2 := (hb1.cell (p := ⟨w.heap.size, 2, none⟩) (by simp; omega))
          have k3 := (hb1.cell (p := ⟨w.heap.size, 3, none⟩) (by simp; omega))
          have k4 := (hb1.cell (p := ⟨w.heap.size, 4, none⟩) (by simp; omega))
          have r0 := (hb1.cell (p := ⟨w.heap.size + 1, 0, none⟩) (by simp))
          have r1 := (hb1.cell (p := ⟨w.heap.size + 1, 1, none⟩) (by simp))
          have r2 := (hb1.cell (p := ⟨w.heap.size + 1, 2, none⟩) (by simp))
          have r3 := (hb1.cell (p := ⟨w.heap.size + 1, 3, none⟩) (by simp))
          have r4 := (hb1.cell (p := ⟨w.heap.size + 1, 4, none⟩) (by simp))
          have f0 := (hb1.frozen (p := ⟨w.heap.size, 0, none⟩) (by simp; omega))
          have f1 := (hb1.frozen (p := ⟨w.heap.size, 1, none⟩) (by simp; omega))
          have f4 := (hb1.frozen (p := ⟨w.heap.size, 4, none⟩) (by simp; omega))
          have g0 := (hb1.frozen (p := ⟨w.heap.size + 1, 0, none⟩) (by simp))
          have g1 := (hb1.frozen (p := ⟨w.heap.size + 1, 1, none⟩) (by simp))
          have g2 := (hb1.frozen (p := ⟨w.heap.size + 1, 2, none⟩) (by simp))
          have g3 := (hb1.frozen (p := ⟨w.heap.size + 1, 3, none⟩) (by simp))
          have g4 := (hb1.frozen (p := ⟨w.heap.size + 1, 4, none⟩) (by simp))
          simp [go_sem] at k0 k1 k2 k3 k4 r0 r1 r2 r3 r4 f0 f1 f4 g0 g1 g2 g3 g4
          have hbw : Below w.heap.size w w1 := (((Below.refl _ _).alloc (Nat.le_refl _) _).alloc (by simp) _).trans (hb1.mono (by simp; omega))
          have HB := hide hbw
          clear hb1 hbw
          go_wp2_with (first | (go_at_call 27; refine (CS.out _).mono ?_; rintro e w' ⟨rfl, rfl⟩) | (go_at_call 28; refine (CL.out _ _ _).mono ?_; rintro e w' ⟨rfl, rfl⟩))
          refine bodyPost_ret (v := regV (⟨bits, poll, mn, mx, 0⟩)) (by simp [results, Try.results10, go_sem, regV, r0, r1, r2, r3, r4]) rfl ?_
          refine ⟨rfl, ?_⟩
          repeat (with_reducible refine Below.setCell ?_ (by simp) _)
          exact HB.out
        · have er : adapt ⟨bits, poll, mn, mx, cnt⟩ o j = ⟨bits, poll - 1, mn, mx, 0⟩ := by unfold adapt; rw [if_pos HZ.out]; simp [hsm, h1]; omega
          rw [er]
          clear er
          clear hsm
          go_enter Try.func10, Try.ntmps10
          go_wp2_with fail
          refine (C.out _).mono ?_
          rintro e w1 ⟨rfl, hb1⟩
          have hs1 : w.heap.size + 1 < w1.heap.size := by have := hb1.size; simp at this; omega
          have hs0 : w.heap.size < w1.heap.size := by omega
          have k0 := (hb1.cell (p := ⟨w.heap.size, 0, none⟩) (by simp; omega))
          have k1 := (hb1.cell (p := ⟨w.heap.size, 1, none⟩) (by simp; omega))
          have k2 := (hb1.cell (p := ⟨w.heap.size, 2, none⟩) (by simp; omega))
          have k3 := (hb1.cell (p := ⟨w.heap.size, 3, none⟩) (by simp; omega))
          have k4 := (hb1.cell (p := ⟨w.heap.size, 4, none⟩) (by simp; omega))
          have r0 := (hb1.cell (p := ⟨w.heap.size + 1, 0, none⟩) (by simp))
          have r1 := (hb1.cell (p := ⟨w.heap.size + 1, 1, none⟩) (by simp))
          have r2 := (hb1.cell (p := ⟨w.heap.size + 1, 2, none⟩) (by simp))
          have r3 := (hb1.cell (p := ⟨w.heap.size + 1, 3, none⟩) (by simp))
          have r4 := (hb1.cell (p := ⟨w.heap.size + 1, 4, none⟩) (by simp))
          have f0 := (hb1.frozen (p := ⟨w.heap.size, 0, none⟩) (by simp; omega))
          have f1 := (hb1.frozen (p := ⟨w.heap.size, 1, none⟩) (by simp; omega))
          have f4 := (hb1.frozen (p := ⟨w.heap.size, 4, none⟩) (by simp; omega))
          have g0 := (hb1.frozen (p := ⟨w.heap.size + 1, 0, none⟩) (by simp))
          have g1 := (hb1.frozen (p := ⟨w.heap.size + 1, 1, none⟩) (by simp))
          have g2 := (hb1.frozen (p := ⟨w.heap.size + 1, 2, none⟩) (by simp))
          have g3 := (hb1.frozen (p := ⟨w.heap.size + 1, 3, none⟩) (by simp))
          have g4 := (hb1.frozen (p := ⟨w.heap.size + 1, 4, none⟩) (by simp))
          simp [go_sem] at k0 k1 k2 k3 k4 r0 r1 r2 r3 r4 f0 f1 f4 g0 g1 g2 g3 g4
          have hbw : Below w.heap.size w w1 := (((Below.refl _ _).alloc (Nat.le_refl _) _).alloc (by simp) _).trans (hb1.mono (by simp; omega))
          have HB := hide hbw
          clear hb1 hbw
          go_wp2_with (first | (go_at_call 27; refine (CS.out _).mono ?_; rintro e w' ⟨rfl, rfl⟩) | (go_at_call 28; refine (CL.out _ _ _).mono ?_; rintro e w' ⟨rfl, rfl⟩))
          refine bodyPost_ret (v := regV (⟨bits, poll - 1, mn, mx, 0⟩)) (by simp [results, Try.results10, go_sem, regV, r0, r1, r2, r3, r4]) rfl ?_
          refine ⟨rfl, ?_⟩
          repeat (with_reducible refine Below.setCell ?_ (by simp) _)
          exact HB.out
      · have er : adapt ⟨bits, poll, mn, mx, cnt⟩ o j = ⟨bits, poll, mn, mx, cnt - 2 * poll⟩ := by unfold adapt; rw [if_pos HZ.out]; simp [hsm, h1]
        rw [er]
        clear er
        clear hsm
        go_enter Try.func10, Try.ntmps10
        go_wp2_with fail
        refine (C.out _).mono ?_
        rintro e w1 ⟨rfl, hb1⟩
        have hs1 : w.heap.size + 1 < w1.heap.size := by have := hb1.size; simp at this; omega
        have hs0 : w.heap.size < w1.heap.size := by omega
        have k0 := (hb1.cell (p := ⟨w.heap.size, 0, none⟩) (by simp; omega))
        have k1 := (hb1.cell (p := ⟨w.heap.size, 1, none⟩) (by simp; omega))
        have k2 := (hb1.cell (p := ⟨w.heap.size, 2, none⟩) (by simp; omega))
        have k3 := (hb1.cell (p := ⟨w.heap.size, 3, none⟩) (by simp; omega))
        have k4 := (hb1.cell (p := ⟨w.heap.size, 4, none⟩) (by simp; omega))
        have r0 := (hb1.cell (p := ⟨w.heap.size + 1, 0, none⟩) (by simp))
        have r1 := (hb1.cell (p := ⟨w.heap.size + 1, 1, none⟩) (by simp))
        have r2 := (hb1.cell (p := ⟨w.heap.size + 1, 2, none⟩) (by simp))
        have r3 := (hb1.cell (p := ⟨w.heap.size + 1, 3, none⟩) (by simp))
        have r4 := (hb1.cell (p := ⟨w.heap.size + 1, 4, none⟩) (by simp))
        have f0 := (hb1.frozen (p := ⟨w.heap.size, 0, none⟩) (by simp; omega))
        have f1 := (hb1.frozen (p := ⟨w.heap.size, 1, none⟩) (by simp; omega))
        have f4 := (hb1.frozen (p := ⟨w.heap.size, 4, none⟩) (by simp; omega))
        have g0 := (hb1.frozen (p := ⟨w.heap.size + 1, 0, none⟩) (by simp))
        have g1 := (hb1.frozen (p := ⟨w.heap.size + 1, 1, none⟩) (by simp))
        have g2 := (hb1.frozen (p := ⟨w.heap.size + 1, 2, none⟩) (by simp))
        have g3 := (hb1.frozen (p := ⟨w.heap.size + 1, 3, none⟩) (by simp))
        have g4 := (hb1.frozen (p := ⟨w.heap.size + 1, 4, none⟩) (by simp))
        simp [go_sem] at k0 k1 k2 k3 k4 r0 r1 r2 r3 r4 f0 f1 f4 g0 g1 g2 g3 g4
        have hbw : Below w.heap.size w w1 := (((Below.refl _ _).alloc (Nat.le_refl _) _).alloc (by simp) _).trans (hb1.mono (by simp; omega))
        have HB := hide hbw
        clear hb1 hbw
        go_wp2_with (first | (go_at_call 27; refine (CS.out _).mono ?_; rintro e w' ⟨rfl, rfl⟩) | (go_at_call 28; refine (CL.out _ _ _).mono ?_; rintro e w' ⟨rfl, rfl⟩))
        refine bodyPost_ret (v := regV (⟨bits, poll, mn, mx, cnt - 2 * poll⟩)) (by simp [results, Try.results10, go_sem, regV, r0, r1, r2, r3, r4]) rfl ?_
        refine ⟨rfl, ?_⟩
        repeat (with_reducible refine Below.setCell ?_ (by simp) _)
        exact HB.out
  · have er : adapt ⟨bits, poll, mn, mx, cnt⟩ o j = zeroR := by unfold adapt; rw [if_neg hz]
    rw [er]
    have hz' : (chk ⟨bits, poll, mn, mx, cnt⟩ != 0) = true := by simpa using hz
    clear hz er
    generalize chk ⟨bits, poll, mn, mx, cnt⟩ = k at *
    go_enter Try.func10, Try.ntmps10
    go_wp2_with fail
    refine (C.out _).mono ?_
    rintro e w1 ⟨rfl, hb1⟩
    have hs1 : w.heap.size + 1 < w1.heap.size := by have := hb1.size; simp at this; omega
    have hs0 : w.heap.size < w1.heap.size := by omega
    have k0 := (hb1.cell (p := ⟨w.heap.size, 0, none⟩) (by simp; omega))
    have k1 := (hb1.cell (p := ⟨w.heap.size, 1, none⟩) (by simp; omega))
    have k2 := (hb1.cell (p := ⟨w.heap.size, 2, none⟩) (by simp; omega))
    have k3 := (hb1.cell (p := ⟨w.heap.size, 3, none⟩) (by simp; omega))
    have k4 := (hb1.cell (p := ⟨w.heap.size, 4, none⟩) (by simp; omega))
    have r0 := (hb1.cell (p := ⟨w.heap.size + 1, 0, none⟩) (by simp))
    have r1 := (hb1.cell (p := ⟨w.heap.size + 1, 1, none⟩) (by simp))
    have r2 := (hb1.cell (p := ⟨w.heap.size + 1, 2, none⟩) (by simp))
    have r3 := (hb1.cell (p := ⟨w.heap.size + 1, 3, none⟩) (by simp))
    have r4 := (hb1.cell (p := ⟨w.heap.size + 1, 4, none⟩) (by simp))
    have f0 := (hb1.frozen (p := ⟨w.heap.size, 0, none⟩) (by simp; omega))
    have f1 := (hb1.frozen (p := ⟨w.heap.size, 1, none⟩) (by simp; omega))
    have f4 := (hb1.frozen (p := ⟨w.heap.size, 4, none⟩) (by simp; omega))
    have g0 := (hb1.frozen (p := ⟨w.heap.size + 1, 0, none⟩) (by simp))
    have g1 := (hb1.frozen (p := ⟨w.heap.size + 1, 1, none⟩) (by simp))
    have g2 := (hb1.frozen (p := ⟨w.heap.size + 1, 2, none⟩) (by simp))
    have g3 := (hb1.frozen (p := ⟨w.heap.size + 1, 3, none⟩) (by simp))
    have g4 := (hb1.frozen (p := ⟨w.heap.size + 1, 4, none⟩) (by simp))
    simp [go_sem] at k0 k1 k2 k3 k4 r0 r1 r2 r3 r4 f0 f1 f4 g0 g1 g2 g3 g4
    have hbw : Below w.heap.size w w1 := (((Below.refl _ _).alloc (Nat.le_refl _) _).alloc (by simp) _).trans (hb1.mono (by simp; omega))
    have HB := hide hbw
    clear hb1 hbw
    go_wp2_with (first | (go_at_call 27; refine (CS.out _).mono ?_; rintro e w' ⟨rfl, rfl⟩) | (go_at_call 28; refine (CL.out _ _ _).mono ?_; rintro e w' ⟨rfl, rfl⟩))
    refine bodyPost_ret (v := regV (zeroR)) (by simp [results, Try.results10, go_sem, regV, zeroR, r0, r1, r2, r3, r4]) rfl ?_
    refine ⟨rfl, ?_⟩
    repeat (with_reducible refine Below.setCell ?_ (by simp) _)
    exact HB.out
end Go.Proofs.Ytblegmmljegmaaa.Rch
