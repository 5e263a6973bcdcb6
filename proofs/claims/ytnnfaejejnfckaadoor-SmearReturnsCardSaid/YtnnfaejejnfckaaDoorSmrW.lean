/- The contract of layer 7: the law's awake. -/
import Derived.Test.YtnnfaejejnfckaaDoorSmrU
namespace Go.Proofs.YtnnfaejejnfckaaDoor.Smr
open Go.RowKit Aid Civ Leap
def exA : Nat → Int := fun _ => 2287785600
def exO : Nat → Int := fun _ => 11
theorem ex_date : dateOf 26479 = (1972, 7, 1) := dateOf_eq (by decide) (by constructor <;> decide)
theorem ex_beg : begB 2287785600 = true := beg_intro (by omega) (by rw [show (2287785600 : Int) / 86400 = 26479 by decide, ex_date]) (by decide)
theorem ex_chk : chkT 10 0 exA exO 1 = 0 := by
  have e : ordE 10 exA exO 0 = 0 := by
    unfold ordE exA
    rw [ex_beg]
    decide
  have r : rngE exA exO 0 = 0 := by decide
  unfold chkT firstE firstE
  rw [r, e]
  decide
theorem ex_chkS (K W : Int) : chkS 10 0 exA exO 1 K W = polE K W := by unfold chkS; rw [ex_chk, if_pos rfl]
theorem ex_r1 : readV (polE 1 0) 2287785610999999999 (rdT 10 exA exO 1 1 0 2287785610999999999) = 2287785600999999999 ∧ readE (polE 1 0) 2287785610999999999 (rdT 10 exA exO 1 1 0 2287785610999999999) = 0 := by decide +kernel
theorem ex_r2 : readV (polE 1 0) 2287785611000000000 (rdT 10 exA exO 1 1 0 2287785611000000000) = 2287785600000000000 ∧ readE (polE 1 0) 2287785611000000000 (rdT 10 exA exO 1 1 0 2287785611000000000) = 0 := by decide +kernel
theorem ex_r3 : readV (polE 4 1000) 2287785611000000000 (rdT 10 exA exO 1 4 1000 2287785611000000000) = 2287785601000000000 ∧ readE (polE 4 1000) 2287785611000000000 (rdT 10 exA exO 1 4 1000 2287785611000000000) = 0 := by decide +kernel
theorem ex_r4 : readV (polE 4 1000) 2287786111000000000 (rdT 10 exA exO 1 4 1000 2287786111000000000) = 2287786100500000000 ∧ readE (polE 4 1000) 2287786111000000000 (rdT 10 exA exO 1 4 1000 2287786111000000000) = 0 := by decide +kernel
theorem ex_r5 : readV (polE 3 1000) 2287785611000000000 (rdT 10 exA exO 1 3 1000 2287785611000000000) = 2287785600000000000 ∧ readE (polE 3 1000) 2287785611000000000 (rdT 10 exA exO 1 3 1000 2287785611000000000) = 0 := by decide +kernel
theorem ex_t : taiV (polE 1 0) 2287785600000000000 (steT 10 exA exO 1 2287785600000000000) = 2287785610000000000 ∧ taiE (polE 1 0) 2287785600000000000 (steT 10 exA exO 1 2287785600000000000) = 0 := by decide +kernel
theorem ex_q : rateT 10 0 exA exO 1 4 1000 2287785611000000000 = -1000000 := by unfold rateT; rw [ex_chkS]; decide +kernel
theorem ex_a : actB (polE 4 1000) 2287785610999999999 (inT exA exO 1 4 1000 2287785610999999999) = false := by decide +kernel
theorem ex_ents {w W0 : World} (h0 : W0.cell? ⟨w.heap.size, 0, none⟩ = some (.int .i64 2287785600)) (h1 : W0.cell? ⟨w.heap.size, 1, none⟩ = some (.int .i64 11)) (hs : w.heap.size < W0.heap.size) : Ents W0 (some ⟨w.heap.size, 0, none⟩) 1 exA exO :=
  ⟨by omega, fun _ => ⟨w.heap.size, 0, rfl, hs, fun i hi => by obtain rfl : i = 0 := by omega
                                                               exact ⟨h0, h1⟩⟩⟩
set_option maxRecDepth 100000 in
set_option maxHeartbeats 3200000 in
theorem awake_any (w : World) (l : Laid w) : Calls Tryd.prog 13 #[] w fun e w' => e = .returned (.bool true) ∧ Below w.heap.size w w' := by
  obtain ⟨W0, hW0⟩ : ∃ W0, W0 = (((((w.alloc (.cells #[.int .i64 2287785600, .int .i64 11] 40)).alloc (.cells #[.int .i64 10, .int .i64 0, .slice (some ⟨w.heap.size, 0, none⟩) 1 1] 24)).alloc (.cells #[.int .i64 1, .int .i64 0] 26)).alloc (.cells #[.int .i64 4, .int .i64 1000] 26)).alloc (.cells #[.int .i64 3, .int .i64 1000] 26)) := ⟨_, rfl⟩
  have HH := hide hW0
  have hz : W0.heap.size = w.heap.size + 5 := by rw [hW0]; simp
  have hb0 := Below.refl W0.heap.size W0
  have HB : Hid (Below w.heap.size w W0) := hide (by rw [hW0]; exact (bb3 _ _ _).alloc (by simp; omega) _ |>.alloc (by simp; omega) _)
  have k00 : W0.cell? ⟨w.heap.size + 1, 0, none⟩ = some (.int .i64 10) := by rw [hW0]; simp [go_sem]
  have k01 : W0.cell? ⟨w.heap.size + 1, 1, none⟩ = some (.int .i64 0) := by rw [hW0]; simp [go_sem]
  have k02 : W0.cell? ⟨w.heap.size + 1, 2, none⟩ = some (.slice (some ⟨w.heap.size, 0, none⟩) 1 1) := by rw [hW0]; simp [go_sem]
  have k10 : W0.cell? ⟨w.heap.size + 1 + 1, 0, none⟩ = some (.int .i64 1) := by rw [hW0]; simp [go_sem]
  have k11 : W0.cell? ⟨w.heap.size + 1 + 1, 1, none⟩ = some (.int .i64 0) := by rw [hW0]; simp [go_sem]
  have k20 : W0.cell? ⟨w.heap.size + 1 + 1 + 1, 0, none⟩ = some (.int .i64 4) := by rw [hW0]; simp [go_sem]
  have k21 : W0.cell? ⟨w.heap.size + 1 + 1 + 1, 1, none⟩ = some (.int .i64 1000) := by rw [hW0]; simp [go_sem]
  have k30 : W0.cell? ⟨w.heap.size + 1 + 1 + 1 + 1, 0, none⟩ = some (.int .i64 3) := by rw [hW0]; simp [go_sem]
  have k31 : W0.cell? ⟨w.heap.size + 1 + 1 + 1 + 1, 1, none⟩ = some (.int .i64 1000) := by rw [hW0]; simp [go_sem]
  have HR0 : Hid (Ents W0 (some ⟨w.heap.size, 0, none⟩) 1 exA exO) := hide (ex_ents (by rw [hW0]; simp [go_sem]) (by rw [hW0]; simp [go_sem]) (by omega))
  have HR := hide (fun V (g : Below W0.heap.size W0 V) => HR0.out.below g)
  have LL := hide (fun V (g : Below W0.heap.size W0 V) => l.step (HB.out.trans (g.mono HB.out.size)))
  have HK := hide (fun (V : World) (g : Below W0.heap.size W0 V) => (And.intro ((g.cell (p := ⟨w.heap.size + 1, 0, none⟩) (by dsimp only; omega)).trans k00) (And.intro ((g.cell (p := ⟨w.heap.size + 1, 1, none⟩) (by dsimp only; omega)).trans k01) (And.intro ((g.cell (p := ⟨w.heap.size + 1, 2, none⟩) (by dsimp only; omega)).trans k02) (And.intro ((g.cell (p := ⟨w.heap.size + 1 + 1, 0, none⟩) (by dsimp only; omega)).trans k10) (And.intro ((g.cell (p := ⟨w.heap.size + 1 + 1, 1, none⟩) (by dsimp only; omega)).trans k11) (And.intro ((g.cell (p := ⟨w.heap.size + 1 + 1 + 1, 0, none⟩) (by dsimp only; omega)).trans k20) (And.intro ((g.cell (p := ⟨w.heap.size + 1 + 1 + 1, 1, none⟩) (by dsimp only; omega)).trans k21) (And.intro ((g.cell (p := ⟨w.heap.size + 1 + 1 + 1 + 1, 0, none⟩) (by dsimp only; omega)).trans k30) (And.intro ((g.cell (p := ⟨w.heap.size + 1 + 1 + 1 + 1, 1, none⟩) (by dsimp only; omega)).trans k31) g))))))))))
  have C1 := hide (based (Nat.le_refl _) fun V (g : Below W0.heap.size W0 V) => by have q := Read_any 10 0 (some ⟨w.heap.size, 0, none⟩) 1 1 exA exO 1 0 2287785610999999999 V (LL.out V g) (HR.out V g) (by omega); rw [ex_chkS, ex_r1.1, ex_r1.2] at q; exact q)
  have C2 := hide (based (Nat.le_refl _) fun V (g : Below W0.heap.size W0 V) => by have q := Read_any 10 0 (some ⟨w.heap.size, 0, none⟩) 1 1 exA exO 1 0 2287785611000000000 V (LL.out V g) (HR.out V g) (by omega); rw [ex_chkS, ex_r2.1, ex_r2.2] at q; exact q)
  have C3 := hide (based (Nat.le_refl _) fun V (g : Below W0.heap.size W0 V) => by have q := Tai_step 10 0 (some ⟨w.heap.size, 0, none⟩) 1 1 exA exO 1 0 2287785600000000000 V (LL.out V g) (HR.out V g) rfl; rw [ex_chkS, ex_t.1, ex_t.2] at q; exact q)
  have C4 := hide (based (Nat.le_refl _) fun V (g : Below W0.heap.size W0 V) => by have q := Read_any 10 0 (some ⟨w.heap.size, 0, none⟩) 1 1 exA exO 4 1000 2287785611000000000 V (LL.out V g) (HR.out V g) (by omega); rw [ex_chkS, ex_r3.1, ex_r3.2] at q; exact q)
  have C5 := hide (based (Nat.le_refl _) fun V (g : Below W0.heap.size W0 V) => by have q := Read_any 10 0 (some ⟨w.heap.size, 0, none⟩) 1 1 exA exO 4 1000 2287786111000000000 V (LL.out V g) (HR.out V g) (by omega); rw [ex_chkS, ex_r4.1, ex_r4.2] at q; exact q)
  have C6 := hide (based (Nat.le_refl _) fun V (g : Below W0.heap.size W0 V) => by have q := Read_any 10 0 (some ⟨w.heap.size, 0, none⟩) 1 1 exA exO 3 1000 2287785611000000000 V (LL.out V g) (HR.out V g) (by omega); rw [ex_chkS, ex_r5.1, ex_r5.2] at q; exact q)
  have C7 := hide (based (Nat.le_refl _) fun V (g : Below W0.heap.size W0 V) => by have q := Rate_any 10 0 (some ⟨w.heap.size, 0, none⟩) 1 1 exA exO 4 1000 2287785611000000000 V (LL.out V g) (HR.out V g); rw [ex_q] at q; exact q)
  have C8 := hide (based (Nat.le_refl _) fun V (g : Below W0.heap.size W0 V) => by have q := Active_any 10 0 (some ⟨w.heap.size, 0, none⟩) 1 1 exA exO 4 1000 2287785610999999999 V (LL.out V g) (HR.out V g); rw [ex_chkS, ex_a] at q; exact q)
  clear hW0 k00 k01 k02 k10 k11 k20 k21 k30 k31 hz l
  go_enter Tryd.func13, Tryd.ntmps13
  go_wp2_with fail
  rw [← HH.out]
  with_reducible refine (C1.out _ hb0).mono ?_
  rintro e w1 ⟨rfl, b1⟩
  obtain ⟨k00, k01, k02, k10, k11, k20, k21, k30, k31, _⟩ := HK.out _ b1
  go_wp2_with fail
  with_reducible refine (C2.out _ b1).mono ?_
  rintro e w2 ⟨rfl, b2⟩
  clear k00 k01 k02 k10 k11 k20 k21 k30 k31
  obtain ⟨k00, k01, k02, k10, k11, k20, k21, k30, k31, _⟩ := HK.out _ b2
  go_wp2_with fail
  with_reducible refine (C3.out _ b2).mono ?_
  rintro e w3 ⟨rfl, b3⟩
  clear k00 k01 k02 k10 k11 k20 k21 k30 k31
  obtain ⟨k00, k01, k02, k10, k11, k20, k21, k30, k31, _⟩ := HK.out _ b3
  go_wp2_with fail
  with_reducible refine (C4.out _ b3).mono ?_
  rintro e w4 ⟨rfl, b4⟩
  clear k00 k01 k02 k10 k11 k20 k21 k30 k31
  obtain ⟨k00, k01, k02, k10, k11, k20, k21, k30, k31, _⟩ := HK.out _ b4
  go_wp2_with fail
  with_reducible refine (C5.out _ b4).mono ?_
  rintro e w5 ⟨rfl, b5⟩
  clear k00 k01 k02 k10 k11 k20 k21 k30 k31
  obtain ⟨k00, k01, k02, k10, k11, k20, k21, k30, k31, _⟩ := HK.out _ b5
  go_wp2_with fail
  with_reducible refine (C6.out _ b5).mono ?_
  rintro e w6 ⟨rfl, b6⟩
  clear k00 k01 k02 k10 k11 k20 k21 k30 k31
  obtain ⟨k00, k01, k02, k10, k11, k20, k21, k30, k31, _⟩ := HK.out _ b6
  go_wp2_with fail
  with_reducible refine (C7.out _ b6).mono ?_
  rintro e w7 ⟨rfl, b7⟩
  clear k00 k01 k02 k10 k11 k20 k21 k30 k31
  obtain ⟨k00, k01, k02, k10, k11, k20, k21, k30, k31, _⟩ := HK.out _ b7
  go_wp2_with fail
  with_reducible refine (C8.out _ b7).mono ?_
  rintro e w8 ⟨rfl, b8⟩
  clear k00 k01 k02 k10 k11 k20 k21 k30 k31
  have HFF := hide (HB.out.trans (b8.mono HB.out.size))
  clear b1 b2 b3 b4 b5 b6 b7 b8
  go_wp2
  go_ret
  exact ⟨rfl, HFF.out⟩
end Go.Proofs.YtnnfaejejnfckaaDoor.Smr
