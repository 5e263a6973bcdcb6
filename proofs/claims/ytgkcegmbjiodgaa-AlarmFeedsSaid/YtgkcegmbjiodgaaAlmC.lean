
/- The contracts of alarm.Feed, one for each thing that a sample causes. -/
import Derived.Test.YtgkcegmbjiodgaaAlmB
namespace Go.Proofs.Ytgkcegmbjiodgaa.AlmW
open Go.RowKit Alm Aid
set_option maxRecDepth 100000 in
set_option maxHeartbeats 3200000 in
theorem Feed_none1 (g : Nat) (c : Conf) (last high low : Int) (since noti raises clears repeats : Int) (k : Nat) (at_ v : Int) (w : World) (h : AlmAt w g c ⟨last, high, low, false, since, noti, raises, clears, repeats⟩) (hs : Sz ⟨last, high, low, false, since, noti, raises, clears, repeats⟩ k) (hk : k ≤ 1000) (i1 : 0 ≤ at_) (i2 : at_ ≤ 1125899906842624) (i3 : last ≤ at_) (hh : (ext high (decide (c.hi < v))) < c.hold) :
    Calls Try.prog 15 #[.pointer (some ⟨g, 0, none⟩), .int .i64 at_, .int .i64 v] w (Fed w g c ⟨at_, (ext high (decide (c.hi < v))), (ext low (decide (v < c.lo))), false, since, noti, raises, clears, repeats⟩ 0 0) := by
  have q1 : 0 ≤ high := hs.high1
  have q2 : high ≤ k := hs.high2
  have q3 : 0 ≤ low := hs.low1
  have q4 : low ≤ k := hs.low2
  have q5 : 0 ≤ raises := hs.ra1
  have q6 : raises ≤ k := hs.ra2
  have q7 : 0 ≤ clears := hs.cl1
  have q8 : clears ≤ k := hs.cl2
  have q9 : 0 ≤ repeats := hs.re1
  have q10 : repeats ≤ k := hs.re2
  have q11 : 0 ≤ noti := hs.noti1
  have q12 : noti ≤ last := hs.noti2
  have C1 := hide fun W => (extend_any high (decide (c.hi < v)) W q1 (by omega)).mono fun _ _ h => (⟨h.1, h.2.symm⟩ : _ ∧ _ = W)
  have C2 := hide fun W => (extend_any low (decide (v < c.lo)) W q3 (by omega)).mono fun _ _ h => (⟨h.1, h.2.symm⟩ : _ ∧ _ = W)
  generalize hH : ext high (decide (c.hi < v)) = H at *
  clear hH
  generalize hL : ext low (decide (v < c.lo)) = L at *
  clear hL
  have A1 : AlmAt (w.setCell ⟨g, 5, none⟩ (.int .i64 at_)) g c ⟨at_, high, low, false, since, noti, raises, clears, repeats⟩ := h.set 5 _ rfl
  have G1 : w.grownBy (w.setCell ⟨g, 5, none⟩ (.int .i64 at_)) (some g) := only_setCell (World.grownBy.refl _ _) (.inl rfl) _
  obtain ⟨_, _, _, _, _, c5, _, _, _, _, _, _, _, _⟩ := h.cells
  have f5 := h.free 5
  clear h hs
  go_enter Try.func15, Try.ntmps15
  go_wp2
  clear c5 f5
  generalize w.setCell ⟨g, 5, none⟩ (.int .i64 at_) = W1 at *
  obtain ⟨c0, _, _, _, _, _, c6, _, _, _, _, _, _, _⟩ := A1.cells
  have f6 := A1.free 6
  refine wp_region_still_tail 15 (by kernel_rfl) (by kernel_rfl) ?_
  change wpStill _ _ W1.drew _ _ _
  simp only [List.take_succ_cons, List.take_zero, List.drop_succ_cons, List.drop_zero]
  repeat still_step
  still_call (C1.out _)
  repeat still_step
  refine wpStill_nil ?_
  change wpList _ _ _ _ _ W1.drew
  go_wp2
  have A2 : AlmAt (W1.setCell ⟨g, 6, none⟩ (.int .i64 H)).drew g c ⟨at_, H, low, false, since, noti, raises, clears, repeats⟩ := A1.set 6 _ rfl
  have G2 : w.grownBy (W1.setCell ⟨g, 6, none⟩ (.int .i64 H)).drew (some g) := only_drewN (only_setCell G1 (.inl rfl) _) 1
  clear c0 c6 f6 A1 G1
  generalize (W1.setCell ⟨g, 6, none⟩ (.int .i64 H)).drew = W2 at *
  obtain ⟨_, c1, _, _, _, _, _, c7, _, _, _, _, _, _⟩ := A2.cells
  have f7 := A2.free 7
  refine wp_region_still_tail 15 (by kernel_rfl) (by kernel_rfl) ?_
  change wpStill _ _ W2.drew _ _ _
  simp only [List.take_succ_cons, List.take_zero, List.drop_succ_cons, List.drop_zero]
  repeat still_step
  still_call (C2.out _)
  repeat still_step
  refine wpStill_nil ?_
  change wpList _ _ _ _ _ W2.drew
  go_wp2
  have A3 : AlmAt (W2.setCell ⟨g, 7, none⟩ (.int .i64 L)).drew g c ⟨at_, H, L, false, since, noti, raises, clears, repeats⟩ := A2.set 7 _ rfl
  have G3 : w.grownBy (W2.setCell ⟨g, 7, none⟩ (.int .i64 L)).drew (some g) := only_drewN (only_setCell G2 (.inl rfl) _) 1
  clear c1 c7 f7 A2 G2 C1 C2
  generalize (W2.setCell ⟨g, 7, none⟩ (.int .i64 L)).drew = W3 at *
  obtain ⟨c0, c1, c2, c3, c4, c5, c6, c7, c8, c9, c10, c11, c12, c13⟩ := A3.cells
  have f4 := A3.free 5
  have f6 := A3.free 6
  have f7 := A3.free 7
  have f8 := A3.free 8
  have f9 := A3.free 9
  have f10 := A3.free 10
  have f11 := A3.free 11
  have f12 := A3.free 12
  have f13 := A3.free 13
  have HA := hide A3
  have HG := hide G3
  clear A3 G3
  go_wp2
  go_quiet (fail)
  go_wp2
  go_quiet (fail)
  go_wp2
  go_quiet (fail)
  go_wp2
  go_ret2
  exact ⟨rfl, (only_drewN (only_drewN (only_drewN HG.out _) _) _), (set_block_drew (set_block_drew (set_block_drew HA.out _) _) _)⟩
set_option maxRecDepth 100000 in
set_option maxHeartbeats 3200000 in
theorem Feed_none2 (g : Nat) (c : Conf) (last high low : Int) (since noti raises clears repeats : Int) (k : Nat) (at_ v : Int) (w : World) (h : AlmAt w g c ⟨last, high, low, true, since, noti, raises, clears, repeats⟩) (hs : Sz ⟨last, high, low, true, since, noti, raises, clears, repeats⟩ k) (hk : k ≤ 1000) (i1 : 0 ≤ at_) (i2 : at_ ≤ 1125899906842624) (i3 : last ≤ at_) (hh : (ext low (decide (v < c.lo))) < c.clr) (hv : ¬ c.hi < v) :
    Calls Try.prog 15 #[.pointer (some ⟨g, 0, none⟩), .int .i64 at_, .int .i64 v] w (Fed w g c ⟨at_, (ext high (decide (c.hi < v))), (ext low (decide (v < c.lo))), true, since, noti, raises, clears, repeats⟩ 0 0) := by
  have q1 : 0 ≤ high := hs.high1
  have q2 : high ≤ k := hs.high2
  have q3 : 0 ≤ low := hs.low1
  have q4 : low ≤ k := hs.low2
  have q5 : 0 ≤ raises := hs.ra1
  have q6 : raises ≤ k := hs.ra2
  have q7 : 0 ≤ clears := hs.cl1
  have q8 : clears ≤ k := hs.cl2
  have q9 : 0 ≤ repeats := hs.re1
  have q10 : repeats ≤ k := hs.re2
  have q11 : 0 ≤ noti := hs.noti1
  have q12 : noti ≤ last := hs.noti2
  have C1 := hide fun W => (extend_any high (decide (c.hi < v)) W q1 (by omega)).mono fun _ _ h => (⟨h.1, h.2.symm⟩ : _ ∧ _ = W)
  have C2 := hide fun W => (extend_any low (decide (v < c.lo)) W q3 (by omega)).mono fun _ _ h => (⟨h.1, h.2.symm⟩ : _ ∧ _ = W)
  generalize hH : ext high (decide (c.hi < v)) = H at *
  clear hH
  generalize hL : ext low (decide (v < c.lo)) = L at *
  clear hL
  have A1 : AlmAt (w.setCell ⟨g, 5, none⟩ (.int .i64 at_)) g c ⟨at_, high, low, true, since, noti, raises, clears, repeats⟩ := h.set 5 _ rfl
  have G1 : w.grownBy (w.setCell ⟨g, 5, none⟩ (.int .i64 at_)) (some g) := only_setCell (World.grownBy.refl _ _) (.inl rfl) _
  obtain ⟨_, _, _, _, _, c5, _, _, _, _, _, _, _, _⟩ := h.cells
  have f5 := h.free 5
  clear h hs
  have HV := hide hv
  clear hv
  go_enter Try.func15, Try.ntmps15
  go_wp2
  clear c5 f5
  generalize w.setCell ⟨g, 5, none⟩ (.int .i64 at_) = W1 at *
  obtain ⟨c0, _, _, _, _, _, c6, _, _, _, _, _, _, _⟩ := A1.cells
  have f6 := A1.free 6
  refine wp_region_still_tail 15 (by kernel_rfl) (by kernel_rfl) ?_
  change wpStill _ _ W1.drew _ _ _
  simp only [List.take_succ_cons, List.take_zero, List.drop_succ_cons, List.drop_zero]
  repeat still_step
  still_call (C1.out _)
  repeat still_step
  refine wpStill_nil ?_
  change wpList _ _ _ _ _ W1.drew
  go_wp2
  have A2 : AlmAt (W1.setCell ⟨g, 6, none⟩ (.int .i64 H)).drew g c ⟨at_, H, low, true, since, noti, raises, clears, repeats⟩ := A1.set 6 _ rfl
  have G2 : w.grownBy (W1.setCell ⟨g, 6, none⟩ (.int .i64 H)).drew (some g) := only_drewN (only_setCell G1 (.inl rfl) _) 1
  clear c0 c6 f6 A1 G1
  generalize (W1.setCell ⟨g, 6, none⟩ (.int .i64 H)).drew = W2 at *
  obtain ⟨_, c1, _, _, _, _, _, c7, _, _, _, _, _, _⟩ := A2.cells
  have f7 := A2.free 7
  refine wp_region_still_tail 15 (by kernel_rfl) (by kernel_rfl) ?_
  change wpStill _ _ W2.drew _ _ _
  simp only [List.take_succ_cons, List.take_zero, List.drop_succ_cons, List.drop_zero]
  repeat still_step
  still_call (C2.out _)
  repeat still_step
  refine wpStill_nil ?_
  change wpList _ _ _ _ _ W2.drew
  go_wp2
  have A3 : AlmAt (W2.setCell ⟨g, 7, none⟩ (.int .i64 L)).drew g c ⟨at_, H, L, true, since, noti, raises, clears, repeats⟩ := A2.set 7 _ rfl
  have G3 : w.grownBy (W2.setCell ⟨g, 7, none⟩ (.int .i64 L)).drew (some g) := only_drewN (only_setCell G2 (.inl rfl) _) 1
  clear c1 c7 f7 A2 G2 C1 C2
  generalize (W2.setCell ⟨g, 7, none⟩ (.int .i64 L)).drew = W3 at *
  obtain ⟨c0, c1, c2, c3, c4, c5, c6, c7, c8, c9, c10, c11, c12, c13⟩ := A3.cells
  have f4 := A3.free 5
  have f6 := A3.free 6
  have f7 := A3.free 7
  have f8 := A3.free 8
  have f9 := A3.free 9
  have f10 := A3.free 10
  have f11 := A3.free 11
  have f12 := A3.free 12
  have f13 := A3.free 13
  have hv : decide (c.hi < v) = false := by simpa using HV.out
  have HA := hide A3
  have HG := hide G3
  clear A3 G3
  go_wp2
  go_quiet (fail)
  go_wp2
  go_quiet (fail)
  go_wp2
  go_quiet (fail)
  go_wp2
  go_ret2
  exact ⟨rfl, (only_drewN (only_drewN (only_drewN HG.out _) _) _), (set_block_drew (set_block_drew (set_block_drew HA.out _) _) _)⟩
set_option maxRecDepth 100000 in
set_option maxHeartbeats 3200000 in
theorem Feed_none3 (g : Nat) (c : Conf) (last high low : Int) (since noti raises clears repeats : Int) (k : Nat) (at_ v : Int) (w : World) (h : AlmAt w g c ⟨last, high, low, true, since, noti, raises, clears, repeats⟩) (hs : Sz ⟨last, high, low, true, since, noti, raises, clears, repeats⟩ k) (hk : k ≤ 1000) (i1 : 0 ≤ at_) (i2 : at_ ≤ 1125899906842624) (i3 : last ≤ at_) (hh : (ext low (decide (v < c.lo))) < c.clr) (hv : c.hi < v) (hq : at_ - noti < c.sil) :
    Calls Try.prog 15 #[.pointer (some ⟨g, 0, none⟩), .int .i64 at_, .int .i64 v] w (Fed w g c ⟨at_, (ext high (decide (c.hi < v))), (ext low (decide (v < c.lo))), true, since, noti, raises, clears, repeats⟩ 0 0) := by
  have q1 : 0 ≤ high := hs.high1
  have q2 : high ≤ k := hs.high2
  have q3 : 0 ≤ low := hs.low1
  have q4 : low ≤ k := hs.low2
  have q5 : 0 ≤ raises := hs.ra1
  have q6 : raises ≤ k := hs.ra2
  have q7 : 0 ≤ clears := hs.cl1
  have q8 : clears ≤ k := hs.cl2
  have q9 : 0 ≤ repeats := hs.re1
  have q10 : repeats ≤ k := hs.re2
  have q11 : 0 ≤ noti := hs.noti1
  have q12 : noti ≤ last := hs.noti2
  have C1 := hide fun W => (extend_any high (decide (c.hi < v)) W q1 (by omega)).mono fun _ _ h => (⟨h.1, h.2.symm⟩ : _ ∧ _ = W)
  have C2 := hide fun W => (extend_any low (decide (v < c.lo)) W q3 (by omega)).mono fun _ _ h => (⟨h.1, h.2.symm⟩ : _ ∧ _ = W)
  generalize hH : ext high (decide (c.hi < v)) = H at *
  clear hH
  generalize hL : ext low (decide (v < c.lo)) = L at *
  clear hL
  have A1 : AlmAt (w.setCell ⟨g, 5, none⟩ (.int .i64 at_)) g c ⟨at_, high, low, true, since, noti, raises, clears, repeats⟩ := h.set 5 _ rfl
  have G1 : w.grownBy (w.setCell ⟨g, 5, none⟩ (.int .i64 at_)) (some g) := only_setCell (World.grownBy.refl _ _) (.inl rfl) _
  obtain ⟨_, _, _, _, _, c5, _, _, _, _, _, _, _, _⟩ := h.cells
  have f5 := h.free 5
  clear h hs
  have HV := hide hv
  clear hv
  go_enter Try.func15, Try.ntmps15
  go_wp2
  clear c5 f5
  generalize w.setCell ⟨g, 5, none⟩ (.int .i64 at_) = W1 at *
  obtain ⟨c0, _, _, _, _, _, c6, _, _, _, _, _, _, _⟩ := A1.cells
  have f6 := A1.free 6
  refine wp_region_still_tail 15 (by kernel_rfl) (by kernel_rfl) ?_
  change wpStill _ _ W1.drew _ _ _
  simp only [List.take_succ_cons, List.take_zero, List.drop_succ_cons, List.drop_zero]
  repeat still_step
  still_call (C1.out _)
  repeat still_step
  refine wpStill_nil ?_
  change wpList _ _ _ _ _ W1.drew
  go_wp2
  have A2 : AlmAt (W1.setCell ⟨g, 6, none⟩ (.int .i64 H)).drew g c ⟨at_, H, low, true, since, noti, raises, clears, repeats⟩ := A1.set 6 _ rfl
  have G2 : w.grownBy (W1.setCell ⟨g, 6, none⟩ (.int .i64 H)).drew (some g) := only_drewN (only_setCell G1 (.inl rfl) _) 1
  clear c0 c6 f6 A1 G1
  generalize (W1.setCell ⟨g, 6, none⟩ (.int .i64 H)).drew = W2 at *
  obtain ⟨_, c1, _, _, _, _, _, c7, _, _, _, _, _, _⟩ := A2.cells
  have f7 := A2.free 7
  refine wp_region_still_tail 15 (by kernel_rfl) (by kernel_rfl) ?_
  change wpStill _ _ W2.drew _ _ _
  simp only [List.take_succ_cons, List.take_zero, List.drop_succ_cons, List.drop_zero]
  repeat still_step
  still_call (C2.out _)
  repeat still_step
  refine wpStill_nil ?_
  change wpList _ _ _ _ _ W2.drew
  go_wp2
  have A3 : AlmAt (W2.setCell ⟨g, 7, none⟩ (.int .i64 L)).drew g c ⟨at_, H, L, true, since, noti, raises, clears, repeats⟩ := A2.set 7 _ rfl
  have G3 : w.grownBy (W2.setCell ⟨g, 7, none⟩ (.int .i64 L)).drew (some g) := only_drewN (only_setCell G2 (.inl rfl) _) 1
  clear c1 c7 f7 A2 G2 C1 C2
  generalize (W2.setCell ⟨g, 7, none⟩ (.int .i64 L)).drew = W3 at *
  obtain ⟨c0, c1, c2, c3, c4, c5, c6, c7, c8, c9, c10, c11, c12, c13⟩ := A3.cells
  have f4 := A3.free 5
  have f6 := A3.free 6
  have f7 := A3.free 7
  have f8 := A3.free 8
  have f9 := A3.free 9
  have f10 := A3.free 10
  have f11 := A3.free 11
  have f12 := A3.free 12
  have f13 := A3.free 13
  have hv := HV.out
  have HA := hide A3
  have HG := hide G3
  clear A3 G3
  go_wp2
  go_quiet (fail)
  go_wp2
  go_quiet (fail)
  go_wp2
  go_quiet (fail)
  go_wp2
  go_ret2
  exact ⟨rfl, (only_drewN (only_drewN (only_drewN HG.out _) _) _), (set_block_drew (set_block_drew (set_block_drew HA.out _) _) _)⟩
end Go.Proofs.Ytgkcegmbjiodgaa.AlmW
