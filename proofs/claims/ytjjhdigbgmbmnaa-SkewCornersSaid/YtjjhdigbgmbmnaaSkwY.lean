/- The contract of awake: the examples of the chapter hold. -/
import Derived.Test.YtjjhdigbgmbmnaaSkwX
namespace Go.Proofs.Ytjjhdigbgmbmnaa.Skw
open Go.RowKit Aid Fx
set_option maxRecDepth 100000 in
set_option maxHeartbeats 12800000 in
theorem awake_any (w : World) : Calls Try.prog 11 #[] w fun e w' => e = .returned (.bool true) ∧ Below w.heap.size w w' := by
  have HB0 : Hid (Below w.heap.size w (w.alloc (.cells #[.int .i64 0, .int .i64 0, .int .i64 10, .int .i64 10, .int .i64 5, .int .i64 20, .int .i64 20, .int .i64 0, .int .i64 12] 43))) := hide ((Below.refl _ _).alloc (Nat.le_refl _) _)
  have HG0 := hide (gates3 w 0 0 10 10 5 20 20 0 12)
  go_enter Try.func11, Try.ntmps11
  go_upto_region 2 with fail
  generalize hW : (w.alloc (.cells #[.int .i64 0, .int .i64 0, .int .i64 10, .int .i64 10, .int .i64 5, .int .i64 20, .int .i64 20, .int .i64 0, .int .i64 12] 43)) = W1 at HB0 HG0 ⊢
  clear hW
  generalize w.heap.size = a at HG0 ⊢
  have CS : Hid (∀ W, Below W1.heap.size W1 W → Calls Try.prog 12 #[.slice (some ⟨a, 0, none⟩) 3 3] W fun e w' => e = .returned (.tuple #[.agg #[.int .i64 (-1), .int .i64 2], .agg #[.int .i64 3, .int .i64 5], .int .i64 0]) ∧ Below W.heap.size W w') := hide fun W h => by
    have k := Slopes_any _ 3 3 _ _ _ W (HG0.out.below h) (by omega)
    rw [exl_sl.1, exl_sl.2.1, exl_sl.2.2] at k
    exact k
  have CA : Hid (∀ W, Below W1.heap.size W1 W → Calls Try.prog 23 #[.slice (some ⟨a, 0, none⟩) 3 3, .int .i64 10] W fun e w' => e = .returned (.tuple #[.agg #[.int .i64 5, .int .i64 1], .agg #[.int .i64 11, .int .i64 1], .int .i64 0]) ∧ Below W.heap.size W w') := hide fun W h => by
    have k := At_any _ 3 3 _ _ _ 10 W (HG0.out.below h) (by omega)
    rw [exl_10.1, exl_10.2.1, exl_10.2.2] at k
    exact k
  have CB : Hid (∀ W, Below W1.heap.size W1 W → Calls Try.prog 23 #[.slice (some ⟨a, 0, none⟩) 3 3, .int .i64 30] W fun e w' => e = .returned (.tuple #[.agg #[.int .i64 (-5), .int .i64 1], .agg #[.int .i64 18, .int .i64 1], .int .i64 0]) ∧ Below W.heap.size W w') := hide fun W h => by
    have k := At_any _ 3 3 _ _ _ 30 W (HG0.out.below h) (by omega)
    rw [exl_30.1, exl_30.2.1, exl_30.2.2] at k
    exact k
  have CC : Hid (∀ W, Below W1.heap.size W1 W → Calls Try.prog 14 #[.slice (some ⟨a, 0, none⟩) 3 3] W fun e w' => e = .returned (.int .i64 0) ∧ Below W.heap.size W w') := hide fun W h => by
    have k := Check_any _ 3 3 _ _ _ W (HG0.out.below h)
    rw [exl_chk] at k
    exact k
  have CP : Hid (∀ W, Below W1.heap.size W1 W → Calls Try.prog 16 #[.slice (some ⟨a, 0, none⟩) 3 3] W fun e w' => e = .returned (.bool true) ∧ Below W.heap.size W w') := hide fun W h => by
    have k := Passes_any _ 3 3 _ _ _ W (HG0.out.below h) (by omega)
    rw [decide_eq_true exl_pa] at k
    exact k
  have CL : Hid (∀ W, Below W1.heap.size W1 W → Calls Try.prog 19 #[.slice (some ⟨a, 0, none⟩) 3 3] W fun e w' => ∃ v, e = .returned v ∧ w'.ownsRow W.heap.size 3 1 v 2 (ints [0, 2]) ∧ Below W.heap.size W w') := hide fun W h => by
    have k := Lower_any _ 3 3 _ _ _ W (HG0.out.below h) (by omega)
    rw [exl_low] at k
    exact k
  have CU : Hid (∀ W, Below W1.heap.size W1 W → Calls Try.prog 21 #[.slice (some ⟨a, 0, none⟩) 3 3] W fun e w' => ∃ v, e = .returned v ∧ w'.ownsRow W.heap.size 3 1 v 3 (ints [0, 1, 2]) ∧ Below W.heap.size W w') := hide fun W h => by
    have k := Upper_any _ 3 3 _ _ _ W (HG0.out.below h) (by omega)
    rw [exl_upp] at k
    exact k
  clear HG0
  go_wp2_with fail
  refine (CS.out _ (Below.refl _ _)).mono ?_
  rintro e w2 ⟨rfl, hb⟩
  go_upto_region 3 with fail
  have hup := ((Below.refl w2.heap.size w2).alloc (Nat.le_refl _) (.cells #[.int .i64 (-1), .int .i64 2] 26)).alloc (by simp) (.cells #[.int .i64 (3), .int .i64 5] 26)
  have Eg2 := (RatAt.newv (n := -1) (d := 2) (W := w2) rfl).alloc (.cells #[.int .i64 (3), .int .i64 5] 26)
  have Fg2 : RatAt ((w2.alloc (.cells #[.int .i64 (-1), .int .i64 2] 26)).alloc (.cells #[.int .i64 (3), .int .i64 5] 26)) (w2.heap.size + 1) (3) 5 := RatAt.newv1 rfl
  replace hb := rat_trans hb hup
  clear hup
  generalize hW : ((w2.alloc (.cells #[.int .i64 (-1), .int .i64 2] 26)).alloc (.cells #[.int .i64 (3), .int .i64 5] 26)) = W2 at Eg2 Fg2 hb ⊢
  clear hW
  generalize w2.heap.size = g2 at Eg2 Fg2 ⊢
  go_wp2_with fail
  refine (CA.out _ hb).mono ?_
  rintro e w3 ⟨rfl, hb3⟩
  replace Eg2 := Eg2.step hb3
  replace Fg2 := Fg2.step hb3
  replace hb := rat_trans hb hb3
  clear hb3
  go_upto_region 4 with fail
  have hup := ((Below.refl w3.heap.size w3).alloc (Nat.le_refl _) (.cells #[.int .i64 (5), .int .i64 1] 26)).alloc (by simp) (.cells #[.int .i64 (11), .int .i64 1] 26)
  have Eg3 := (RatAt.newv (n := 5) (d := 1) (W := w3) rfl).alloc (.cells #[.int .i64 (11), .int .i64 1] 26)
  have Fg3 : RatAt ((w3.alloc (.cells #[.int .i64 (5), .int .i64 1] 26)).alloc (.cells #[.int .i64 (11), .int .i64 1] 26)) (w3.heap.size + 1) (11) 1 := RatAt.newv1 rfl
  replace hb := rat_trans hb hup
  replace Eg2 := Eg2.step hup
  replace Fg2 := Fg2.step hup
  clear hup
  generalize hW : ((w3.alloc (.cells #[.int .i64 (5), .int .i64 1] 26)).alloc (.cells #[.int .i64 (11), .int .i64 1] 26)) = W3 at Eg3 Fg3 Eg2 Fg2 hb ⊢
  clear hW
  generalize w3.heap.size = g3 at Eg3 Fg3 ⊢
  go_wp2_with fail
  refine (CB.out _ hb).mono ?_
  rintro e w4 ⟨rfl, hb4⟩
  replace Eg2 := Eg2.step hb4
  replace Fg2 := Fg2.step hb4
  replace Eg3 := Eg3.step hb4
  replace Fg3 := Fg3.step hb4
  replace hb := rat_trans hb hb4
  clear hb4
  go_upto_region 5 with fail
  have hup := ((Below.refl w4.heap.size w4).alloc (Nat.le_refl _) (.cells #[.int .i64 (-5), .int .i64 1] 26)).alloc (by simp) (.cells #[.int .i64 (18), .int .i64 1] 26)
  have Eg4 := (RatAt.newv (n := -5) (d := 1) (W := w4) rfl).alloc (.cells #[.int .i64 (18), .int .i64 1] 26)
  have Fg4 : RatAt ((w4.alloc (.cells #[.int .i64 (-5), .int .i64 1] 26)).alloc (.cells #[.int .i64 (18), .int .i64 1] 26)) (w4.heap.size + 1) (18) 1 := RatAt.newv1 rfl
  replace hb := rat_trans hb hup
  replace Eg2 := Eg2.step hup
  replace Fg2 := Fg2.step hup
  replace Eg3 := Eg3.step hup
  replace Fg3 := Fg3.step hup
  clear hup
  generalize hW : ((w4.alloc (.cells #[.int .i64 (-5), .int .i64 1] 26)).alloc (.cells #[.int .i64 (18), .int .i64 1] 26)) = W4 at Eg4 Fg4 Eg2 Fg2 Eg3 Fg3 hb ⊢
  clear hW
  generalize w4.heap.size = g4 at Eg4 Fg4 ⊢
  go_wp2_with fail
  refine (CC.out _ hb).mono ?_
  rintro e w5 ⟨rfl, hb5⟩
  replace hb := rat_trans hb hb5
  replace Eg2 := Eg2.step hb5
  replace Fg2 := Fg2.step hb5
  replace Eg3 := Eg3.step hb5
  replace Fg3 := Fg3.step hb5
  replace Eg4 := Eg4.step hb5
  replace Fg4 := Fg4.step hb5
  clear hb5
  go_wp2_with fail
  refine (CP.out _ hb).mono ?_
  rintro e w6 ⟨rfl, hb6⟩
  replace hb := rat_trans hb hb6
  obtain ⟨a0, a1, _⟩ := (Eg2.step hb6).cells
  obtain ⟨a2, a3, _⟩ := (Fg2.step hb6).cells
  obtain ⟨b0, b1, _⟩ := (Eg3.step hb6).cells
  obtain ⟨b2, b3, _⟩ := (Fg3.step hb6).cells
  obtain ⟨c0, c1, _⟩ := (Eg4.step hb6).cells
  obtain ⟨c2, c3, _⟩ := (Fg4.step hb6).cells
  clear hb6 Eg2 Fg2 Eg3 Fg3 Eg4 Fg4 CC CP CS CA CB
  go_upto_region 7 with fail
  clear a0 a1 a2 a3 b0 b1 b2 b3 c0 c1 c2 c3
  go_upto_region 8 with fail
  have GM := gates3 w6 0 0 0 1 1 1 2 3 3
  have hup := (Below.refl w6.heap.size w6).alloc (Nat.le_refl _) (.cells #[.int .i64 0, .int .i64 0, .int .i64 0, .int .i64 1, .int .i64 1, .int .i64 1, .int .i64 2, .int .i64 3, .int .i64 3] 43)
  replace hb := rat_trans hb hup
  clear hup
  generalize hW : w6.alloc (.cells #[.int .i64 0, .int .i64 0, .int .i64 0, .int .i64 1, .int .i64 1, .int .i64 1, .int .i64 2, .int .i64 3, .int .i64 3] 43) = W7 at GM hb ⊢
  clear hW
  generalize w6.heap.size = m0 at GM ⊢
  have HGM := hide GM
  have DS : Hid (∀ W, Below W7.heap.size W7 W → Calls Try.prog 12 #[.slice (some ⟨m0, 0, none⟩) 3 3] W fun e w' => e = .returned (.tuple #[.agg #[.int .i64 0, .int .i64 0], .agg #[.int .i64 0, .int .i64 0], .int .i64 11]) ∧ Below W.heap.size W w') := hide fun W h => by
    have k := Slopes_any _ 3 3 _ _ _ W (HGM.out.below h) (by omega)
    rw [exm_sl, (sl_bad exm_sl (by decide)).1, (sl_bad exm_sl (by decide)).2] at k
    exact k
  have DP : Hid (∀ W, Below W7.heap.size W7 W → Calls Try.prog 16 #[.slice (some ⟨m0, 0, none⟩) 3 3] W fun e w' => e = .returned (.bool false) ∧ Below W.heap.size W w') := hide fun W h => by
    have k := Passes_any _ 3 3 _ _ _ W (HGM.out.below h) (by omega)
    rw [decide_eq_false exm_pa] at k
    exact k
  have DC : Hid (∀ W, Calls Try.prog 14 #[.slice none 0 0] W fun e w' => e = .returned (.int .i64 14) ∧ Below W.heap.size W w') := hide fun W =>
    Check_any none 0 0 (t3 0 0 0) (t3 0 0 0) (t3 0 0 0) W ⟨by omega, fun h => absurd h (by omega)⟩
  clear GM HGM
  have B7 := Below.refl W7.heap.size W7
  go_wp2_with fail
  refine (DS.out _ B7).mono ?_
  rintro e w8 ⟨rfl, hb8⟩
  clear DS B7
  go_upto_region 9 with fail
  have hup := ((Below.refl w8.heap.size w8).alloc (Nat.le_refl _) (.cells #[.int .i64 0, .int .i64 0] 26)).alloc (by simp) (.cells #[.int .i64 0, .int .i64 0] 26)
  have B9 := rat_trans hb8 hup
  clear hup hb8
  generalize hW : (w8.alloc (.cells #[.int .i64 0, .int .i64 0] 26)).alloc (.cells #[.int .i64 0, .int .i64 0] 26) = W9 at B9 ⊢
  clear hW
  generalize w8.heap.size = g8
  go_wp2_with fail
  refine (CL.out _ (rat_trans hb B9)).mono ?_
  rintro e w10 ⟨v1, rfl, own1, hb10⟩
  have B10 := rat_trans B9 hb10
  clear hb10 B9 CL
  go_wp2_with fail
  refine (same_any [0, 2] [0, 2] _ _ _ w10.heap.size _ (row_step own1 ((Below.refl _ _).alloc (Nat.le_refl _) _)) (World.ownsRow_lit w10 _ 2 (Nat.le_refl _) (by unfold maxLen; omega) rfl) (by decide) (by decide)).mono ?_
  rintro e w11 ⟨he, hb11⟩
  obtain rfl := he
  have B11 := rat_trans (rat_up B10 _) hb11
  clear hb11 B10 own1
  rw [decide_eq_true (rfl : ([0, 2] : List Nat) = [0, 2])]
  go_wp2_with fail
  refine (CU.out _ (rat_trans hb B11)).mono ?_
  rintro e w12 ⟨v2, rfl, own2, hb12⟩
  have B12 := rat_trans B11 hb12
  clear hb12 B11 CU
  go_wp2_with fail
  refine (same_any [0, 1, 2] [0, 1, 2] _ _ _ w12.heap.size _ (row_step own2 ((Below.refl _ _).alloc (Nat.le_refl _) _)) (World.ownsRow_lit w12 _ 3 (Nat.le_refl _) (by unfold maxLen; omega) rfl) (by decide) (by decide)).mono ?_
  rintro e w13 ⟨he, hb13⟩
  obtain rfl := he
  have B13 := rat_trans (rat_up B12 _) hb13
  clear hb13 B12 own2
  rw [decide_eq_true (rfl : ([0, 1, 2] : List Nat) = [0, 1, 2])]
  go_wp2_with fail
  refine (DP.out _ B13).mono ?_
  rintro e w14 ⟨rfl, hb14⟩
  have B14 := rat_trans B13 hb14
  clear hb14 B13 DP
  go_wp2_with fail
  refine (DC.out _).mono ?_
  rintro e w15 ⟨rfl, hb15⟩
  have B15 := hide (HB0.out.trans ((rat_trans hb (rat_trans B14 hb15)).mono HB0.out.size))
  clear hb15 B14 hb HB0 DC
  go_wp2
  go_ret
  exact ⟨rfl, B15.out⟩
end Go.Proofs.Ytjjhdigbgmbmnaa.Skw
