/- The contracts of layer 7: Tai of the package at the kinds with windows. -/
import Derived.Test.YtnnfaejejnfckaaDoorSmrY
namespace Go.Proofs.YtnnfaejejnfckaaDoor.Smr
open Go.RowKit Aid Civ Leap
set_option maxRecDepth 100000 in
set_option maxHeartbeats 1600000 in
theorem tai1_any (B X : Int) (a : Option Addr) (n cap : Nat) (A O : Nat → Int) (K W u x r : Int) (p : Nat) (V0 : World) (hr : Ents V0 a n A O) (T : Tab B X A O n) (hp : KW K W) (hx : -8000000000000000000 ≤ x ∧ x ≤ 8000000000000000000)
    (h : (u ≤ rdT B A O n K W x ↔ r ≤ x))
    (k : ∀ V, Below V0.heap.size V0 V → V.cell? ⟨p, 0, none⟩ = some (.int .i64 B) ∧ V.cell? ⟨p, 1, none⟩ = some (.int .i64 X) ∧ V.cell? ⟨p, 2, none⟩ = some (.slice a n cap) ∧ V.cell? ⟨p + 1, 0, none⟩ = some (.int .i64 K) ∧ V.cell? ⟨p + 1, 1, none⟩ = some (.int .i64 W) ∧ V.cell? ⟨p + 1 + 1, 0, none⟩ = some (.int .i64 u)) :
    Calls Tryd.prog 30 #[.int .i64 x, .pointer (some ⟨p, 0, none⟩), .pointer (some ⟨p + 1, 0, none⟩), .pointer (some ⟨p + 1 + 1, 0, none⟩)] V0 fun e w' => e = .returned (.bool (decide (r ≤ x))) ∧ Below V0.heap.size V0 w' := by
  have CR := hide (based (Nat.le_refl _) fun V (g : Below V0.heap.size V0 V) => show Calls Tryd.prog 25 #[.agg #[.int .i64 B, .int .i64 X, .slice a n cap], .agg #[.int .i64 K, .int .i64 W], .int .i64 x] V fun e w' => e = .returned (.int .i64 (rdT B A O n K W x)) ∧ Below V.heap.size V w' from reading_any B X a n cap A O K W x V (hr.below g) T hp hx)
  have hb0 := Below.refl V0.heap.size V0
  have hne := lt_some V0
  have HD : Hid (decide (u ≤ rdT B A O n K W x) = decide (r ≤ x)) := hide (by rw [decide_eq_decide]; exact h)
  generalize rdT B A O n K W x = y at *
  have y0 := fun V : Lt V0 => (k _ V.h).1
  have y1 := fun V : Lt V0 => (k _ V.h).2.1
  have y2 := fun V : Lt V0 => (k _ V.h).2.2.1
  have y3 := fun V : Lt V0 => (k _ V.h).2.2.2.1
  have y4 := fun V : Lt V0 => (k _ V.h).2.2.2.2.1
  have y5 := fun V : Lt V0 => (k _ V.h).2.2.2.2.2
  clear hr T hp hx h k
  go_enter Tryd.func30, Tryd.ntmps30
  go_wp2
  refine region_lt V0 (by kernel_rfl) (by kernel_rfl) (by assumption) ?_
  repeat (first | go_big_quiet_step (first | (go_at_call 25; with_reducible exact call_lt (CR.out _ (Lt.h _)))) | quiet_step (first | (go_at_call 25; with_reducible exact call_lt (CR.out _ (Lt.h _)))))
  refine wpQuiet_nil ?_
  intro _ hw'
  obtain ⟨V, rfl⟩ := hw'
  clear y0 y1 y2 y3 y4 y5 hne
  go_wp2
  go_ret
  exact ⟨ret_bool HD.out, V.h⟩
theorem loW_bd {u : Int} (hu : -8000000000000000000 ≤ u ∧ u ≤ 8000000000000000000) : -8000000000000000000 ≤ loW u ∧ loW u ≤ hiW u ∧ hiW u ≤ 8000000000000000000 ∧ hiW u - loW u ≤ 10000000000000 := by
  unfold loW hiW mxI mnI
  split <;> split <;> omega
set_option maxRecDepth 100000 in
set_option maxHeartbeats 6400000 in
theorem Tai_win (B X : Int) (a : Option Addr) (n cap : Nat) (A O : Nat → Int) (K W u r : Int) (w : World) (l : Laid w) (hr : Ents w a n A O) (hK : K ≠ 1) (hcut : chkS B X A O n K W = 0 → instB u = true → CutAt (fun t => u ≤ rdT B A O n K W t) (loW u) (hiW u + 1) r) :
    Calls Tryd.prog 16 #[.agg #[.int .i64 B, .int .i64 X, .slice a n cap], .agg #[.int .i64 K, .int .i64 W], .int .i64 u] w fun e w' => e = .returned (.tuple #[.int .i64 (taiV (chkS B X A O n K W) u (winR (rdT B A O n K W) u r)), .int .i64 (taiE (chkS B X A O n K W) u (winR (rdT B A O n K W) u r))]) ∧ Below w.heap.size w w' := by
  obtain ⟨W0, hW0⟩ : ∃ W0, W0 = ((w.alloc (.cells #[.int .i64 B, .int .i64 X, .slice a n cap] 24)).alloc (.cells #[.int .i64 K, .int .i64 W] 26)).alloc (.cells #[.int .i64 u] 3) := ⟨_, rfl⟩
  have HB0 : Hid (Below (w.heap.size + 3) (((w.alloc (.cells #[.int .i64 B, .int .i64 X, .slice a n cap] 24)).alloc (.cells #[.int .i64 K, .int .i64 W] 26)).alloc (.cells #[.int .i64 u] 3)) W0) := hide (by rw [hW0]; exact Below.refl _ _)
  have HH : Hid (W0 = ((w.alloc (.cells #[.int .i64 B, .int .i64 X, .slice a n cap] 24)).alloc (.cells #[.int .i64 K, .int .i64 W] 26)).alloc (.cells #[.int .i64 u] 3)) := hide hW0
  have HR := hide (fun V (g : Below W0.heap.size W0 V) => hr.below (boxB3 (low3 HB0.out g)))
  have HK := hide (fun (V : World) (g : Below W0.heap.size W0 V) => cells6 (low3 HB0.out g))
  have HF := hide (fun V (g : Below W0.heap.size W0 V) => boxB3 (low3 HB0.out g))
  have hb0 := Below.refl W0.heap.size W0
  have LL := hide (fun V (g : Below W0.heap.size W0 V) => l.step (HF.out V g))
  have CC := hide (based (Nat.le_refl _) fun V (g : Below W0.heap.size W0 V) => Check_any B X a n cap A O K W V (LL.out V g) (HR.out V g))
  have CI := hide (based (Nat.le_refl _) fun V (_ : Below W0.heap.size W0 V) => (instant_any u V).mono fun _ w' (h : _ ∧ V = w') => And.intro h.1 (by rw [← h.2]; exact Below.refl _ _))
  have hk1 : (K == 1) = false := by simpa using hK
  rcases tai_ways (chkS B X A O n K W) u (winR (rdT B A O n K W) u r) with ⟨h1, h2, e1, e2⟩ | ⟨h0, h1, e1, e2⟩ | ⟨h0, h1, h2, e1, e2⟩ | ⟨h0, h1, h2, e1, e2⟩
  · rw [e1, e2]
    generalize chkS B X A O n K W = c at *
    clear CI e1 e2 h2 hW0 hr l hcut hK
    go_enter Tryd.func16, Tryd.ntmps16
    go_wp2_with fail
    rw [← HH.out]
    with_reducible refine (CC.out _ hb0).mono ?_
    rintro e w1 ⟨rfl, b1⟩
    have HFF := hide (HF.out _ b1)
    obtain ⟨c0, c1, c2, d0, d1, e0, _⟩ := HK.out _ b1
    clear b1
    go_wp2
    go_ret2
    exact ⟨rfl, HFF.out⟩
  · rw [e1, e2]
    rw [h1] at CI
    rw [h0] at CC
    clear e1 e2 h1 h0 hW0 hr l hcut hK
    go_enter Tryd.func16, Tryd.ntmps16
    go_wp2_with fail
    rw [← HH.out]
    with_reducible refine (CC.out _ hb0).mono ?_
    rintro e w1 ⟨rfl, b1⟩
    obtain ⟨c0, c1, c2, d0, d1, e0, _⟩ := HK.out _ b1
    go_wp2_with fail
    with_reducible refine (CI.out _ b1).mono ?_
    rintro e w2 ⟨rfl, b2⟩
    clear c0 c1 c2 d0 d1 e0
    have HFF := hide (HF.out _ b2)
    obtain ⟨c0, c1, c2, d0, d1, e0, _⟩ := HK.out _ b2
    clear b1 b2
    go_wp2
    go_ret2
    exact ⟨rfl, HFF.out⟩
  · rw [e1, e2]
    obtain ⟨T, hp⟩ := chkS_ok h0
    obtain ⟨u1, u2⟩ := instB_iff.1 h1
    obtain ⟨q1, q2, q3, q4⟩ := loW_bd ⟨u1, u2⟩
    obtain ⟨z1, z2, z3⟩ := hcut h0 h1
    rw [h1] at CI
    rw [h0] at CC
    have CL := hide (based (Nat.le_refl _) fun V (g : Below W0.heap.size W0 V) => least_any (loW u) (hiW u) r (.pointer (some ⟨w.heap.size, 0, none⟩)) (.pointer (some ⟨w.heap.size + 1, 0, none⟩)) (.pointer (some ⟨w.heap.size + 1 + 1, 0, none⟩)) V ⟨q1, q2⟩ q3 q4 z1 z2
      (fun V2 g2 x x1 x2 => tai1_any B X a n cap A O K W u x r w.heap.size V2 (HR.out V2 (g.trans (g2.mono g.size))) T hp ⟨by omega, by omega⟩ (z3 x x1 (by omega))
        (fun V3 g3 => by
          obtain ⟨c0, c1, c2, d0, d1, e0, _⟩ := HK.out V3 ((g.trans (g2.mono g.size)).trans (g3.mono (by have := g.size; have := g2.size; omega)))
          exact ⟨c0, c1, c2, d0, d1, e0⟩)))
    have CR := hide (fun (hr1 : r ≤ hiW u) => based (Nat.le_refl _) fun V (g : Below W0.heap.size W0 V) => show Calls Tryd.prog 25 #[.agg #[.int .i64 B, .int .i64 X, .slice a n cap], .agg #[.int .i64 K, .int .i64 W], .int .i64 r] V fun e w' => e = .returned (.int .i64 (rdT B A O n K W r)) ∧ Below V.heap.size V w' from reading_any B X a n cap A O K W r V (HR.out V g) T hp ⟨by omega, by omega⟩)
    have CJ := hide (based (Nat.le_refl _) fun V (_ : Below W0.heap.size W0 V) => (instant_any (rdT B A O n K W r) V).mono fun _ w' (h : _ ∧ V = w') => And.intro h.1 (by rw [← h.2]; exact Below.refl _ _))
    by_cases hh : r ≤ hiW u
    · have hi : instB (rdT B A O n K W r) = false := by
        have q : (decide (r ≤ hiW u) && instB (rdT B A O n K W r)) = false := h2
        rw [decide_eq_true hh] at q
        simpa using q
      have CRR := hide (CR.out hh)
      rw [if_pos hh, decide_eq_true hh] at CL
      rw [hi] at CJ
      generalize rdT B A O n K W r = y at *
      clear CR z1 z2 z3 q1 q2 q3 q4 h2 hi hh e1 e2 h1 h0 hW0 hr l hcut hK T hp
      by_cases p1 : -8000000000000000000 < u - 1000000000000
      · rw [show loW u = u - 1000000000000 by unfold loW mxI; rw [if_pos p1]] at CL
        by_cases p2 : u + 1000000000000 < 8000000000000000000
        · rw [show hiW u = u + 1000000000000 by unfold hiW mnI; rw [if_pos p2]] at CL
          go_enter Tryd.func16, Tryd.ntmps16
          go_wp2_with fail
          rw [← HH.out]
          with_reducible refine (CC.out _ hb0).mono ?_
          rintro e w1 ⟨rfl, b1⟩
          obtain ⟨c0, c1, c2, d0, d1, e0, _⟩ := HK.out _ b1
          go_wp2_with fail
          with_reducible refine (CI.out _ b1).mono ?_
          rintro e w2 ⟨rfl, b2⟩
          clear c0 c1 c2 d0 d1 e0
          obtain ⟨c0, c1, c2, d0, d1, e0, _⟩ := HK.out _ b2
          go_wp2_with fail
          with_reducible refine (CL.out _ b2).mono ?_
          rintro e w3 ⟨rfl, b3⟩
          clear c0 c1 c2 d0 d1 e0
          obtain ⟨c0, c1, c2, d0, d1, e0, _⟩ := HK.out _ b3
          go_wp2_with fail
          with_reducible refine (CRR.out _ b3).mono ?_
          rintro e w4 ⟨rfl, b4⟩
          clear c0 c1 c2 d0 d1 e0
          obtain ⟨c0, c1, c2, d0, d1, e0, _⟩ := HK.out _ b4
          go_wp2_with fail
          with_reducible refine (CJ.out _ b4).mono ?_
          rintro e w5 ⟨rfl, b5⟩
          clear c0 c1 c2 d0 d1 e0
          have HFF := hide (HF.out _ b5)
          obtain ⟨c0, c1, c2, d0, d1, e0, _⟩ := HK.out _ b5
          clear b1 b2 b3 b4 b5
          go_wp2
          go_ret2
          exact ⟨rfl, HFF.out⟩
        · rw [show hiW u = 8000000000000000000 by unfold hiW mnI; rw [if_neg p2]] at CL
          go_enter Tryd.func16, Tryd.ntmps16
          go_wp2_with fail
          rw [← HH.out]
          with_reducible refine (CC.out _ hb0).mono ?_
          rintro e w1 ⟨rfl, b1⟩
          obtain ⟨c0, c1, c2, d0, d1, e0, _⟩ := HK.out _ b1
          go_wp2_with fail
          with_reducible refine (CI.out _ b1).mono ?_
          rintro e w2 ⟨rfl, b2⟩
          clear c0 c1 c2 d0 d1 e0
          obtain ⟨c0, c1, c2, d0, d1, e0, _⟩ := HK.out _ b2
          go_wp2_with fail
          with_reducible refine (CL.out _ b2).mono ?_
          rintro e w3 ⟨rfl, b3⟩
          clear c0 c1 c2 d0 d1 e0
          obtain ⟨c0, c1, c2, d0, d1, e0, _⟩ := HK.out _ b3
          go_wp2_with fail
          with_reducible refine (CRR.out _ b3).mono ?_
          rintro e w4 ⟨rfl, b4⟩
          clear c0 c1 c2 d0 d1 e0
          obtain ⟨c0, c1, c2, d0, d1, e0, _⟩ := HK.out _ b4
          go_wp2_with fail
          with_reducible refine (CJ.out _ b4).mono ?_
          rintro e w5 ⟨rfl, b5⟩
          clear c0 c1 c2 d0 d1 e0
          have HFF := hide (HF.out _ b5)
          obtain ⟨c0, c1, c2, d0, d1, e0, _⟩ := HK.out _ b5
          clear b1 b2 b3 b4 b5
          go_wp2
          go_ret2
          exact ⟨rfl, HFF.out⟩
      · rw [show loW u = -8000000000000000000 by unfold loW mxI; rw [if_neg p1]] at CL
        by_cases p2 : u + 1000000000000 < 8000000000000000000
        · rw [show hiW u = u + 1000000000000 by unfold hiW mnI; rw [if_pos p2]] at CL
          go_enter Tryd.func16, Tryd.ntmps16
          go_wp2_with fail
          rw [← HH.out]
          with_reducible refine (CC.out _ hb0).mono ?_
          rintro e w1 ⟨rfl, b1⟩
          obtain ⟨c0, c1, c2, d0, d1, e0, _⟩ := HK.out _ b1
          go_wp2_with fail
          with_reducible refine (CI.out _ b1).mono ?_
          rintro e w2 ⟨rfl, b2⟩
          clear c0 c1 c2 d0 d1 e0
          obtain ⟨c0, c1, c2, d0, d1, e0, _⟩ := HK.out _ b2
          go_wp2_with fail
          with_reducible refine (CL.out _ b2).mono ?_
          rintro e w3 ⟨rfl, b3⟩
          clear c0 c1 c2 d0 d1 e0
          obtain ⟨c0, c1, c2, d0, d1, e0, _⟩ := HK.out _ b3
          go_wp2_with fail
          with_reducible refine (CRR.out _ b3).mono ?_
          rintro e w4 ⟨rfl, b4⟩
          clear c0 c1 c2 d0 d1 e0
          obtain ⟨c0, c1, c2, d0, d1, e0, _⟩ := HK.out _ b4
          go_wp2_with fail
          with_reducible refine (CJ.out _ b4).mono ?_
          rintro e w5 ⟨rfl, b5⟩
          clear c0 c1 c2 d0 d1 e0
          have HFF := hide (HF.out _ b5)
          obtain ⟨c0, c1, c2, d0, d1, e0, _⟩ := HK.out _ b5
          clear b1 b2 b3 b4 b5
          go_wp2
          go_ret2
          exact ⟨rfl, HFF.out⟩
        · exact absurd p1 (by omega)
    · rw [if_neg hh, decide_eq_false hh] at CL
      clear CR CJ z1 z2 z3 q1 q2 q3 q4 h2 hh e1 e2 h1 h0 hW0 hr l hcut hK T hp
      by_cases p1 : -8000000000000000000 < u - 1000000000000
      · rw [show loW u = u - 1000000000000 by unfold loW mxI; rw [if_pos p1]] at CL
        by_cases p2 : u + 1000000000000 < 8000000000000000000
        · rw [show hiW u = u + 1000000000000 by unfold hiW mnI; rw [if_pos p2]] at CL
          go_enter Tryd.func16, Tryd.ntmps16
          go_wp2_with fail
          rw [← HH.out]
          with_reducible refine (CC.out _ hb0).mono ?_
          rintro e w1 ⟨rfl, b1⟩
          obtain ⟨c0, c1, c2, d0, d1, e0, _⟩ := HK.out _ b1
          go_wp2_with fail
          with_reducible refine (CI.out _ b1).mono ?_
          rintro e w2 ⟨rfl, b2⟩
          clear c0 c1 c2 d0 d1 e0
          obtain ⟨c0, c1, c2, d0, d1, e0, _⟩ := HK.out _ b2
          go_wp2_with fail
          with_reducible refine (CL.out _ b2).mono ?_
          rintro e w3 ⟨rfl, b3⟩
          clear c0 c1 c2 d0 d1 e0
          have HFF := hide (HF.out _ b3)
          obtain ⟨c0, c1, c2, d0, d1, e0, _⟩ := HK.out _ b3
          clear b1 b2 b3
          go_wp2
          go_ret2
          exact ⟨rfl, HFF.out⟩
        · rw [show hiW u = 8000000000000000000 by unfold hiW mnI; rw [if_neg p2]] at CL
          go_enter Tryd.func16, Tryd.ntmps16
          go_wp2_with fail
          rw [← HH.out]
          with_reducible refine (CC.out _ hb0).mono ?_
          rintro e w1 ⟨rfl, b1⟩
          obtain ⟨c0, c1, c2, d0, d1, e0, _⟩ := HK.out _ b1
          go_wp2_with fail
          with_reducible refine (CI.out _ b1).mono ?_
          rintro e w2 ⟨rfl, b2⟩
          clear c0 c1 c2 d0 d1 e0
          obtain ⟨c0, c1, c2, d0, d1, e0, _⟩ := HK.out _ b2
          go_wp2_with fail
          with_reducible refine (CL.out _ b2).mono ?_
          rintro e w3 ⟨rfl, b3⟩
          clear c0 c1 c2 d0 d1 e0
          have HFF := hide (HF.out _ b3)
          obtain ⟨c0, c1, c2, d0, d1, e0, _⟩ := HK.out _ b3
          clear b1 b2 b3
          go_wp2
          go_ret2
          exact ⟨rfl, HFF.out⟩
      · rw [show loW u = -8000000000000000000 by unfold loW mxI; rw [if_neg p1]] at CL
        by_cases p2 : u + 1000000000000 < 8000000000000000000
        · rw [show hiW u = u + 1000000000000 by unfold hiW mnI; rw [if_pos p2]] at CL
          go_enter Tryd.func16, Tryd.ntmps16
          go_wp2_with fail
          rw [← HH.out]
          with_reducible refine (CC.out _ hb0).mono ?_
          rintro e w1 ⟨rfl, b1⟩
          obtain ⟨c0, c1, c2, d0, d1, e0, _⟩ := HK.out _ b1
          go_wp2_with fail
          with_reducible refine (CI.out _ b1).mono ?_
          rintro e w2 ⟨rfl, b2⟩
          clear c0 c1 c2 d0 d1 e0
          obtain ⟨c0, c1, c2, d0, d1, e0, _⟩ := HK.out _ b2
          go_wp2_with fail
          with_reducible refine (CL.out _ b2).mono ?_
          rintro e w3 ⟨rfl, b3⟩
          clear c0 c1 c2 d0 d1 e0
          have HFF := hide (HF.out _ b3)
          obtain ⟨c0, c1, c2, d0, d1, e0, _⟩ := HK.out _ b3
          clear b1 b2 b3
          go_wp2
          go_ret2
          exact ⟨rfl, HFF.out⟩
        · exact absurd p1 (by omega)
  · rw [e1, e2]
    obtain ⟨T, hp⟩ := chkS_ok h0
    obtain ⟨u1, u2⟩ := instB_iff.1 h1
    obtain ⟨q1, q2, q3, q4⟩ := loW_bd ⟨u1, u2⟩
    obtain ⟨z1, z2, z3⟩ := hcut h0 h1
    rw [h1] at CI
    rw [h0] at CC
    have CL := hide (based (Nat.le_refl _) fun V (g : Below W0.heap.size W0 V) => least_any (loW u) (hiW u) r (.pointer (some ⟨w.heap.size, 0, none⟩)) (.pointer (some ⟨w.heap.size + 1, 0, none⟩)) (.pointer (some ⟨w.heap.size + 1 + 1, 0, none⟩)) V ⟨q1, q2⟩ q3 q4 z1 z2
      (fun V2 g2 x x1 x2 => tai1_any B X a n cap A O K W u x r w.heap.size V2 (HR.out V2 (g.trans (g2.mono g.size))) T hp ⟨by omega, by omega⟩ (z3 x x1 (by omega))
        (fun V3 g3 => by
          obtain ⟨c0, c1, c2, d0, d1, e0, _⟩ := HK.out V3 ((g.trans (g2.mono g.size)).trans (g3.mono (by have := g.size; have := g2.size; omega)))
          exact ⟨c0, c1, c2, d0, d1, e0⟩)))
    have CR := hide (fun (hr1 : r ≤ hiW u) => based (Nat.le_refl _) fun V (g : Below W0.heap.size W0 V) => show Calls Tryd.prog 25 #[.agg #[.int .i64 B, .int .i64 X, .slice a n cap], .agg #[.int .i64 K, .int .i64 W], .int .i64 r] V fun e w' => e = .returned (.int .i64 (rdT B A O n K W r)) ∧ Below V.heap.size V w' from reading_any B X a n cap A O K W r V (HR.out V g) T hp ⟨by omega, by omega⟩)
    have CJ := hide (based (Nat.le_refl _) fun V (_ : Below W0.heap.size W0 V) => (instant_any (rdT B A O n K W r) V).mono fun _ w' (h : _ ∧ V = w') => And.intro h.1 (by rw [← h.2]; exact Below.refl _ _))
    have q : (decide (r ≤ hiW u) && instB (rdT B A O n K W r)) = true := h2
    rw [Bool.and_eq_true, decide_eq_true_eq] at q
    obtain ⟨hh, hi⟩ := q
    have CRR := hide (CR.out hh)
    rw [if_pos hh, decide_eq_true hh] at CL
    rw [hi] at CJ
    show Calls _ _ _ _ fun e w' => e = .returned (.tuple #[.int .i64 r, .int .i64 0]) ∧ _
    generalize rdT B A O n K W r = y at *
    clear CR z1 z2 z3 q1 q2 q3 q4 h2 hi hh e1 e2 h1 h0 hW0 hr l hcut hK T hp
    by_cases p1 : -8000000000000000000 < u - 1000000000000
    · rw [show loW u = u - 1000000000000 by unfold loW mxI; rw [if_pos p1]] at CL
      by_cases p2 : u + 1000000000000 < 8000000000000000000
      · rw [show hiW u = u + 1000000000000 by unfold hiW mnI; rw [if_pos p2]] at CL
        go_enter Tryd.func16, Tryd.ntmps16
        go_wp2_with fail
        rw [← HH.out]
        with_reducible refine (CC.out _ hb0).mono ?_
        rintro e w1 ⟨rfl, b1⟩
        obtain ⟨c0, c1, c2, d0, d1, e0, _⟩ := HK.out _ b1
        go_wp2_with fail
        with_reducible refine (CI.out _ b1).mono ?_
        rintro e w2 ⟨rfl, b2⟩
        clear c0 c1 c2 d0 d1 e0
        obtain ⟨c0, c1, c2, d0, d1, e0, _⟩ := HK.out _ b2
        go_wp2_with fail
        with_reducible refine (CL.out _ b2).mono ?_
        rintro e w3 ⟨rfl, b3⟩
        clear c0 c1 c2 d0 d1 e0
        obtain ⟨c0, c1, c2, d0, d1, e0, _⟩ := HK.out _ b3
        go_wp2_with fail
        with_reducible refine (CRR.out _ b3).mono ?_
        rintro e w4 ⟨rfl, b4⟩
        clear c0 c1 c2 d0 d1 e0
        obtain ⟨c0, c1, c2, d0, d1, e0, _⟩ := HK.out _ b4
        go_wp2_with fail
        with_reducible refine (CJ.out _ b4).mono ?_
        rintro e w5 ⟨rfl, b5⟩
        clear c0 c1 c2 d0 d1 e0
        have HFF := hide (HF.out _ b5)
        obtain ⟨c0, c1, c2, d0, d1, e0, _⟩ := HK.out _ b5
        clear b1 b2 b3 b4 b5
        go_wp2
        go_ret2
        exact ⟨rfl, HFF.out⟩
      · rw [show hiW u = 8000000000000000000 by unfold hiW mnI; rw [if_neg p2]] at CL
        go_enter Tryd.func16, Tryd.ntmps16
        go_wp2_with fail
        rw [← HH.out]
        with_reducible refine (CC.out _ hb0).mono ?_
        rintro e w1 ⟨rfl, b1⟩
        obtain ⟨c0, c1, c2, d0, d1, e0, _⟩ := HK.out _ b1
        go_wp2_with fail
        with_reducible refine (CI.out _ b1).mono ?_
        rintro e w2 ⟨rfl, b2⟩
        clear c0 c1 c2 d0 d1 e0
        obtain ⟨c0, c1, c2, d0, d1, e0, _⟩ := HK.out _ b2
        go_wp2_with fail
        with_reducible refine (CL.out _ b2).mono ?_
        rintro e w3 ⟨rfl, b3⟩
        clear c0 c1 c2 d0 d1 e0
        obtain ⟨c0, c1, c2, d0, d1, e0, _⟩ := HK.out _ b3
        go_wp2_with fail
        with_reducible refine (CRR.out _ b3).mono ?_
        rintro e w4 ⟨rfl, b4⟩
        clear c0 c1 c2 d0 d1 e0
        obtain ⟨c0, c1, c2, d0, d1, e0, _⟩ := HK.out _ b4
        go_wp2_with fail
        with_reducible refine (CJ.out _ b4).mono ?_
        rintro e w5 ⟨rfl, b5⟩
        clear c0 c1 c2 d0 d1 e0
        have HFF := hide (HF.out _ b5)
        obtain ⟨c0, c1, c2, d0, d1, e0, _⟩ := HK.out _ b5
        clear b1 b2 b3 b4 b5
        go_wp2
        go_ret2
        exact ⟨rfl, HFF.out⟩
    · rw [show loW u = -8000000000000000000 by unfold loW mxI; rw [if_neg p1]] at CL
      by_cases p2 : u + 1000000000000 < 8000000000000000000
      · rw [show hiW u = u + 1000000000000 by unfold hiW mnI; rw [if_pos p2]] at CL
        go_enter Tryd.func16, Tryd.ntmps16
        go_wp2_with fail
        rw [← HH.out]
        with_reducible refine (CC.out _ hb0).mono ?_
        rintro e w1 ⟨rfl, b1⟩
        obtain ⟨c0, c1, c2, d0, d1, e0, _⟩ := HK.out _ b1
        go_wp2_with fail
        with_reducible refine (CI.out _ b1).mono ?_
        rintro e w2 ⟨rfl, b2⟩
        clear c0 c1 c2 d0 d1 e0
        obtain ⟨c0, c1, c2, d0, d1, e0, _⟩ := HK.out _ b2
        go_wp2_with fail
        with_reducible refine (CL.out _ b2).mono ?_
        rintro e w3 ⟨rfl, b3⟩
        clear c0 c1 c2 d0 d1 e0
        obtain ⟨c0, c1, c2, d0, d1, e0, _⟩ := HK.out _ b3
        go_wp2_with fail
        with_reducible refine (CRR.out _ b3).mono ?_
        rintro e w4 ⟨rfl, b4⟩
        clear c0 c1 c2 d0 d1 e0
        obtain ⟨c0, c1, c2, d0, d1, e0, _⟩ := HK.out _ b4
        go_wp2_with fail
        with_reducible refine (CJ.out _ b4).mono ?_
        rintro e w5 ⟨rfl, b5⟩
        clear c0 c1 c2 d0 d1 e0
        have HFF := hide (HF.out _ b5)
        obtain ⟨c0, c1, c2, d0, d1, e0, _⟩ := HK.out _ b5
        clear b1 b2 b3 b4 b5
        go_wp2
        go_ret2
        exact ⟨rfl, HFF.out⟩
      · exact absurd p1 (by omega)
end Go.Proofs.YtnnfaejejnfckaaDoor.Smr
