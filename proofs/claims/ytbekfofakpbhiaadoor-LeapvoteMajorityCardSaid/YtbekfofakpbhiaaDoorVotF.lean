
/- The contracts of layer 54: Arm; Decision and Counts of the reference. -/
import Derived.Test.YtbekfofakpbhiaaDoorVotE
namespace Go.Proofs.YtbekfofakpbhiaaDoor.Vot
open Go.RowKit Aid Civ Leap
theorem RAt.drewN {w : World} {g : Nat} {s : Vt} (h : RAt w g s) (n : Nat) : RAt (w.drewN n) g s := h
theorem PAt.drewN {w : World} {g : Nat} {s : Vt} (h : PAt w g s) (n : Nat) : PAt (w.drewN n) g s := h
theorem PVote_nil (k i u : Int) (w : World) : Calls Tryd.prog 11 #[.pointer none, .int .i64 k, .int .i64 i, .int .i64 u] w fun e w' => e = .returned (.int .i64 1) ∧ w = w' := by
  go_enter Tryd.func11, Tryd.ntmps11
  go_wp2
  go_ret
  exact ⟨rfl, by first | rfl | trivial⟩
theorem RVote_nil (k i u : Int) (w : World) : Calls Tryd.prog 12 #[.pointer none, .int .i64 k, .int .i64 i, .int .i64 u] w fun e w' => e = .returned (.int .i64 1) ∧ w = w' := by
  go_enter Tryd.func12, Tryd.ntmps12
  go_wp2
  go_ret
  exact ⟨rfl, by first | rfl | trivial⟩
theorem RDecision_nil (u : Int) (w : World) : Calls Tryd.prog 18 #[.pointer none, .int .i64 u] w fun e w' => e = .returned (.int .i64 3) ∧ w = w' := by
  go_enter Tryd.func18, Tryd.ntmps18
  go_wp2
  go_ret
  exact ⟨rfl, by first | rfl | trivial⟩
theorem RCounts_nil (u : Int) (w : World) : Calls Tryd.prog 14 #[.pointer none, .int .i64 u] w fun e w' => e = .returned (.tuple #[.int .i64 0, .int .i64 0, .int .i64 0]) ∧ w = w' := by
  go_enter Tryd.func14, Tryd.ntmps14
  go_wp2
  go_ret3
  exact ⟨rfl, by first | rfl | trivial⟩
set_option maxRecDepth 100000 in
set_option maxHeartbeats 3200000 in
theorem RCounts_any (s : Vt) (g : Nat) (u : Int) (w : World) (h : RAt w g s) (hi : Inv s) : Calls Tryd.prog 14 #[.pointer (some ⟨g, 0, none⟩), .int .i64 u] w fun e w' => e = .returned (.tuple #[.int .i64 (cv s u 0), .int .i64 (cv s u 1), .int .i64 (cv s u 2)]) ∧ w = w' := by
  have C0 := hide (RCount_any s g 0 u w h hi)
  have C1 := hide (RCount_any s g 1 u w h hi)
  have C2 := hide (RCount_any s g 2 u w h hi)
  clear h hi
  generalize cv s u 0 = x at *
  generalize cv s u 1 = y at *
  generalize cv s u 2 = z at *
  go_enter Tryd.func14, Tryd.ntmps14
  go_wp2_with fail
  with_reducible refine C0.out.mono ?_
  rintro e _ ⟨rfl, rfl⟩
  go_wp2_with fail
  with_reducible refine C1.out.mono ?_
  rintro e _ ⟨rfl, rfl⟩
  go_wp2_with fail
  with_reducible refine C2.out.mono ?_
  rintro e _ ⟨rfl, rfl⟩
  go_wp2
  go_ret3
  exact ⟨rfl, by first | rfl | trivial⟩
set_option maxRecDepth 100000 in
set_option maxHeartbeats 3200000 in
theorem RDecision_any (s : Vt) (g : Nat) (u : Int) (w : World) (h : RAt w g s) (hi : Inv s) : Calls Tryd.prog 18 #[.pointer (some ⟨g, 0, none⟩), .int .i64 u] w fun e w' => e = .returned (.int .i64 (dec s u)) ∧ ∃ m, w' = w.drewN m := by
  have C0 := hide (fun (W : World) (e : ∃ m, W = w.drewN m) (n : Nat) => quietC (w := W) (n := n) (RCount_any s g 0 u (W.drewN n) (by obtain ⟨m, rfl⟩ := e; exact (h.drewN m).drewN n) hi))
  have C1 := hide (fun (W : World) (e : ∃ m, W = w.drewN m) (n : Nat) => quietC (w := W) (n := n) (RCount_any s g 1 u (W.drewN n) (by obtain ⟨m, rfl⟩ := e; exact (h.drewN m).drewN n) hi))
  have C2 := hide (fun (W : World) (e : ∃ m, W = w.drewN m) (n : Nat) => quietC (w := W) (n := n) (RCount_any s g 2 u (W.drewN n) (by obtain ⟨m, rfl⟩ := e; exact (h.drewN m).drewN n) hi))
  have D := dec_ways s u
  obtain ⟨x1, x2⟩ := cv_bd s u 0
  obtain ⟨y1, y2⟩ := cv_bd s u 1
  obtain ⟨z1, z2⟩ := cv_bd s u 2
  have n1 := hi.n1
  have n2 := hi.n2
  have c0 := h.cell 0 (by omega)
  change w.cell? ⟨g, 0, none⟩ = some (.int .i64 s.n) at c0
  obtain ⟨n, hn⟩ : ∃ n, n = s.n := ⟨_, rfl⟩
  obtain ⟨d, hd⟩ : ∃ d, d = dec s u := ⟨_, rfl⟩
  rw [← hn] at D n1 n2 c0
  rw [← hd] at D ⊢
  clear h hi hn hd
  generalize cv s u 0 = x at *
  generalize cv s u 1 = y at *
  generalize cv s u 2 = z at *
  have HD := hide D
  clear D
  go_enter Tryd.func18, Tryd.ntmps18
  go_wp2
  go_loopw [5] (fun i wr => ∃ k : Nat, k ≤ 3 ∧ i = .int .i64 k ∧ (0 < k → 2 * x ≤ n) ∧ (1 < k → 2 * y ≤ n) ∧ (2 < k → 2 * z ≤ n) ∧ ∃ m, wr = w.drewN m) (fun i _ => 3 - (intOf i).toNat)
  case atStart => exact ⟨0, by omega, rfl, by omega, by omega, by omega, 0, rfl⟩
  case round =>
    obtain ⟨k, hk, rfl, p0, p1, p2, hw⟩ := hrel
    have HW := hide hw
    have c1 : wr.cell? ⟨g, 0, none⟩ = some (.int .i64 n) := by obtain ⟨m, e⟩ := hw; rw [e]; exact c0
    clear c0 hw
    rcases (show k = 0 ∨ k = 1 ∨ k = 2 ∨ k = 3 by omega) with rfl | rfl | rfl | rfl
    · by_cases q : n < 2 * x
      · have HR : Hid (0 = d) := hide (by have := HD.out; omega)
        clear p0 p1 p2
        go_wp2_with fail
        go_quiet (first | (go_at_call 27; exact C0.out _ HW.out _))
        go_wp2
        go_ret
        exact ⟨ret_int HR.out, by obtain ⟨m, e⟩ := HW.out; rw [e]; first | exact ⟨_, World.drewN_drewN _ _ _⟩ | exact ⟨_, rfl⟩⟩
      · have HR : Hid ((0 < 1 → 2 * x ≤ n) ∧ (1 < 1 → 2 * y ≤ n) ∧ (2 < 1 → 2 * z ≤ n)) := hide ⟨by omega, by omega, by omega⟩
        clear p0 p1 p2
        go_wp2_with fail
        go_quiet (first | (go_at_call 27; exact C0.out _ HW.out _))
        go_wp2
        go_roundw
        case rel => exact ⟨1, by omega, rfl, HR.out.1, HR.out.2.1, HR.out.2.2, by obtain ⟨m, e⟩ := HW.out; rw [e]; exact ⟨_, World.drewN_drewN _ _ _⟩⟩
        case measure => decide
    · have p0 := p0 (by omega)
      by_cases q : n < 2 * y
      · have HR : Hid (1 = d) := hide (by have := HD.out; omega)
        clear p0 p1 p2
        go_wp2_with fail
        go_quiet (first | (go_at_call 27; exact C1.out _ HW.out _))
        go_wp2
        go_ret
        exact ⟨ret_int HR.out, by obtain ⟨m, e⟩ := HW.out; rw [e]; first | exact ⟨_, World.drewN_drewN _ _ _⟩ | exact ⟨_, rfl⟩⟩
      · have HR : Hid ((0 < 2 → 2 * x ≤ n) ∧ (1 < 2 → 2 * y ≤ n) ∧ (2 < 2 → 2 * z ≤ n)) := hide ⟨by omega, by omega, by omega⟩
        clear p0 p1 p2
        go_wp2_with fail
        go_quiet (first | (go_at_call 27; exact C1.out _ HW.out _))
        go_wp2
        go_roundw
        case rel => exact ⟨2, by omega, rfl, HR.out.1, HR.out.2.1, HR.out.2.2, by obtain ⟨m, e⟩ := HW.out; rw [e]; exact ⟨_, World.drewN_drewN _ _ _⟩⟩
        case measure => decide
    · have p0 := p0 (by omega)
      have p1 := p1 (by omega)
      by_cases q : n < 2 * z
      · have HR : Hid (2 = d) := hide (by have := HD.out; omega)
        clear p0 p1 p2
        go_wp2_with fail
        go_quiet (first | (go_at_call 27; exact C2.out _ HW.out _))
        go_wp2
        go_ret
        exact ⟨ret_int HR.out, by obtain ⟨m, e⟩ := HW.out; rw [e]; first | exact ⟨_, World.drewN_drewN _ _ _⟩ | exact ⟨_, rfl⟩⟩
      · have HR : Hid ((0 < 3 → 2 * x ≤ n) ∧ (1 < 3 → 2 * y ≤ n) ∧ (2 < 3 → 2 * z ≤ n)) := hide ⟨by omega, by omega, by omega⟩
        clear p0 p1 p2
        go_wp2_with fail
        go_quiet (first | (go_at_call 27; exact C2.out _ HW.out _))
        go_wp2
        go_roundw
        case rel => exact ⟨3, by omega, rfl, HR.out.1, HR.out.2.1, HR.out.2.2, by obtain ⟨m, e⟩ := HW.out; rw [e]; exact ⟨_, World.drewN_drewN _ _ _⟩⟩
        case measure => decide
    · have HR : Hid (3 = d) := hide (by have := HD.out; have := p0 (by omega); have := p1 (by omega); have := p2 (by omega); omega)
      clear p0 p1 p2
      go_wp2
      go_ret
      exact ⟨ret_int HR.out, by obtain ⟨m, e⟩ := HW.out; rw [e]; first | exact ⟨_, World.drewN_drewN _ _ _⟩ | exact ⟨_, rfl⟩⟩
noncomputable def armB (s : Vt) (u : Int) : Bool := (dec s u == 1 || dec s u == 2) && nxB u
noncomputable def armA (s : Vt) (u : Int) : Int := if armB s u = true then nxV u else 0
noncomputable def armO (s : Vt) (u : Int) : Int := if armB s u = true then 3 - 2 * dec s u else 0
theorem dec_four (s : Vt) (u : Int) : dec s u = 0 ∨ dec s u = 1 ∨ dec s u = 2 ∨ dec s u = 3 := by
  rcases dec_ways s u with h | h | h | h <;> omega
theorem arm_no {s : Vt} {u : Int} (h : (dec s u = 0 ∨ dec s u = 3) ∨ nxB u = false) : armA s u = 0 ∧ armO s u = 0 ∧ armB s u = false := by
  have e : armB s u = false := by
    unfold armB
    rcases h with (h | h) | h <;> rw [h] <;> simp
  refine ⟨?_, ?_, e⟩
  · unfold armA; rw [e]; rfl
  · unfold armO; rw [e]; rfl
theorem arm_yes {s : Vt} {u : Int} (h : dec s u = 1 ∨ dec s u = 2) (k : nxB u = true) : armA s u = nxV u ∧ armO s u = 3 - 2 * dec s u ∧ armB s u = true := by
  have e : armB s u = true := by
    unfold armB
    rw [k]
    rcases h with h | h <;> rw [h] <;> rfl
  refine ⟨?_, ?_, e⟩
  · unfold armA; rw [e]; rfl
  · unfold armO; rw [e]; rfl
set_option maxRecDepth 100000 in
set_option maxHeartbeats 3200000 in
theorem Arm_nil (u : Int) (w : World) : Calls Tryd.prog 15 #[.pointer none, .int .i64 u] w fun e w' => e = .returned (.tuple #[.agg #[.int .i64 0, .int .i64 0], .bool false]) ∧ Below w.heap.size w w' := by
  have CD := hide fun W => Decision_nil u W
  have hb0 : Below w.heap.size w (w.alloc (.cells #[.int .i64 0, .int .i64 0] 36)) := (Below.refl _ _).alloc (Nat.le_refl _) _
  have H0 := hide hb0
  clear hb0
  go_enter Tryd.func15, Tryd.ntmps15
  go_wp2_with fail
  with_reducible refine (CD.out _).mono ?_
  rintro e w1 ⟨rfl, hb⟩
  have H1 := hide (H0.out.trans (hb.mono (by simp)))
  obtain ⟨k0, k1⟩ : w1.cell? ⟨w.heap.size, 0, none⟩ = some (.int .i64 0) ∧ w1.cell? ⟨w.heap.size, 1, none⟩ = some (.int .i64 0) := ⟨(hb.cell (p := ⟨w.heap.size, 0, none⟩) (by simp)).trans (by simp [go_sem]), (hb.cell (p := ⟨w.heap.size, 1, none⟩) (by simp)).trans (by simp [go_sem])⟩
  have kf : ∀ i, w1.frozen? ⟨w.heap.size, i, none⟩ = false := fun i => (hb.frozen (p := ⟨w.heap.size, i, none⟩) (by simp)).trans (by simp [go_sem])
  clear hb
  go_wp2
  refine bodyPost_ret (v := .tuple #[.agg #[.int .i64 0, .int .i64 0], .bool false]) (by simp [results, Tryd.results15, go_sem, *]) rfl ?_
  refine ⟨rfl, ?_⟩
  repeat (first | (with_reducible refine Below.setCell ?_ (by first | (dsimp only; omega) | (simp; omega)) _) | (with_reducible refine Below.alloc ?_ (by first | omega | (simp; omega)) _))
  first | exact H1.out | exact Below.refl _ _
set_option maxRecDepth 100000 in
set_option maxHeartbeats 3200000 in
theorem RArm_nil (u : Int) (w : World) : Calls Tryd.prog 16 #[.pointer none, .int .i64 u] w fun e w' => e = .returned (.tuple #[.agg #[.int .i64 0, .int .i64 0], .bool false]) ∧ Below w.heap.size w w' := by
  have CD := hide fun W => RDecision_nil u W
  have hb0 : Below w.heap.size w (w.alloc (.cells #[.int .i64 0, .int .i64 0] 36)) := (Below.refl _ _).alloc (Nat.le_refl _) _
  have H0 := hide hb0
  clear hb0
  go_enter Tryd.func16, Tryd.ntmps16
  go_wp2_with fail
  with_reducible refine (CD.out _).mono ?_
  rintro e w1 ⟨rfl, hb⟩
  obtain rfl := hb
  have H1 := hide (H0.out)
  go_wp2
  refine bodyPost_ret (v := .tuple #[.agg #[.int .i64 0, .int .i64 0], .bool false]) (by simp [results, Tryd.results16, go_sem, *]) rfl ?_
  refine ⟨rfl, ?_⟩
  repeat (first | (with_reducible refine Below.setCell ?_ (by first | (dsimp only; omega) | (simp; omega)) _) | (with_reducible refine Below.alloc ?_ (by first | omega | (simp; omega)) _))
  first | exact H1.out | exact Below.refl _ _
set_option maxRecDepth 100000 in
set_option maxHeartbeats 3200000 in
theorem Arm_any (s : Vt) (g : Nat) (u : Int) (w : World) (l : Laid w) (h : PAt w g s) (hi : Inv s) : Calls Tryd.prog 15 #[.pointer (some ⟨g, 0, none⟩), .int .i64 u] w fun e w' => e = .returned (.tuple #[.agg #[.int .i64 (armA s u), .int .i64 (armO s u)], .bool (armB s u)]) ∧ Below w.heap.size w w' := by
  have CD := hide (fun W (b : Below w.heap.size w W) => Decision_any s g u W (h.below b h.lt) hi)
  have CX := hide (fun W (b : Below w.heap.size w W) => nextMonth_any u W (l.step b))
  have hb0 : Below w.heap.size w (w.alloc (.cells #[.int .i64 0, .int .i64 0] 36)) := (Below.refl _ _).alloc (Nat.le_refl _) _
  have H0 := hide hb0
  have HK := hide (fun W (b : Below (w.heap.size + 1) (w.alloc (.cells #[.int .i64 0, .int .i64 0] 36)) W) => (show (W.cell? ⟨w.heap.size, 0, none⟩ = some (.int .i64 0) ∧ W.cell? ⟨w.heap.size, 1, none⟩ = some (.int .i64 0)) ∧ (∀ i, W.frozen? ⟨w.heap.size, i, none⟩ = false) ∧ Below w.heap.size w W from ⟨⟨(b.cell (p := ⟨w.heap.size, 0, none⟩) (by simp)).trans (by simp [go_sem]), (b.cell (p := ⟨w.heap.size, 1, none⟩) (by simp)).trans (by simp [go_sem])⟩, fun i => (b.frozen (p := ⟨w.heap.size, i, none⟩) (by simp)).trans (by simp [go_sem]), hb0.trans (b.mono (by omega))⟩))
  have D4 := dec_four s u
  have DN := @arm_no s u
  have DY := @arm_yes s u
  obtain ⟨x, hx⟩ : ∃ x, x = armA s u := ⟨_, rfl⟩
  obtain ⟨y, hy⟩ : ∃ y, y = armO s u := ⟨_, rfl⟩
  obtain ⟨z, hz⟩ : ∃ z, z = armB s u := ⟨_, rfl⟩
  obtain ⟨d, hd⟩ : ∃ d, d = dec s u := ⟨_, rfl⟩
  rw [← hx, ← hy, ← hz] at DN DY ⊢
  rw [← hd] at DN DY D4 CD
  clear hx hy hz hd h hi hb0 l
  generalize nxV u = a at *
  generalize nxB u = b at *
  by_cases e0 : d = 0
  · subst e0
    obtain ⟨rfl, rfl, rfl⟩ := DN (.inl (.inl rfl))
    clear DN DY D4 CX
    go_enter Tryd.func15, Tryd.ntmps15
    go_wp2_with fail
    with_reducible refine (CD.out _ H0.out).mono ?_
    rintro e w1 ⟨rfl, hb⟩
    have B1 : Below (w.heap.size + 1) (w.alloc (.cells #[.int .i64 0, .int .i64 0] 36)) w1 := hb.mono (by simp)
    obtain ⟨⟨k0, k1⟩, kf, b1⟩ := HK.out _ B1
    have ks : w.heap.size < w1.heap.size := by have := B1.size; simp at this; omega
    have HB1 := hide b1
    have HBB := hide B1
    clear hb b1 B1
    go_wp2
    refine bodyPost_ret (v := .tuple #[.agg #[.int .i64 0, .int .i64 0], .bool false]) (by simp [results, Tryd.results15, go_sem, *]) rfl ?_
    refine ⟨rfl, ?_⟩
    repeat (first | (with_reducible refine Below.setCell ?_ (by first | (dsimp only; omega) | (simp; omega)) _) | (with_reducible refine Below.alloc ?_ (by first | omega | (simp; omega)) _))
    exact HB1.out
  by_cases e3 : d = 3
  · subst e3
    obtain ⟨rfl, rfl, rfl⟩ := DN (.inl (.inr rfl))
    clear DN DY D4 CX
    go_enter Tryd.func15, Tryd.ntmps15
    go_wp2_with fail
    with_reducible refine (CD.out _ H0.out).mono ?_
    rintro e w1 ⟨rfl, hb⟩
    have B1 : Below (w.heap.size + 1) (w.alloc (.cells #[.int .i64 0, .int .i64 0] 36)) w1 := hb.mono (by simp)
    obtain ⟨⟨k0, k1⟩, kf, b1⟩ := HK.out _ B1
    have ks : w.heap.size < w1.heap.size := by have := B1.size; simp at this; omega
    have HB1 := hide b1
    have HBB := hide B1
    clear hb b1 B1
    go_wp2
    refine bodyPost_ret (v := .tuple #[.agg #[.int .i64 0, .int .i64 0], .bool false]) (by simp [results, Tryd.results15, go_sem, *]) rfl ?_
    refine ⟨rfl, ?_⟩
    repeat (first | (with_reducible refine Below.setCell ?_ (by first | (dsimp only; omega) | (simp; omega)) _) | (with_reducible refine Below.alloc ?_ (by first | omega | (simp; omega)) _))
    exact HB1.out
  by_cases e1 : d = 1
  · subst e1
    have hn : b = false → x = 0 ∧ y = 0 ∧ z = false := fun q => DN (.inr q)
    have hy : b = true → x = a ∧ y = 1 ∧ z = true := fun q => DY (by omega) q
    clear DN DY D4 e0 e3
    cases b
    · obtain ⟨rfl, rfl, rfl⟩ := hn rfl
      clear hn hy
      go_enter Tryd.func15, Tryd.ntmps15
      go_wp2_with fail
      with_reducible refine (CD.out _ H0.out).mono ?_
      rintro e w1 ⟨rfl, hb⟩
      have B1 : Below (w.heap.size + 1) (w.alloc (.cells #[.int .i64 0, .int .i64 0] 36)) w1 := hb.mono (by simp)
      obtain ⟨⟨k0, k1⟩, kf, b1⟩ := HK.out _ B1
      have ks : w.heap.size < w1.heap.size := by have := B1.size; simp at this; omega
      have HB1 := hide b1
      have HBB := hide B1
      clear hb b1 B1
      go_wp2_with fail
      with_reducible refine (CX.out _ HB1.out).mono ?_
      rintro e w2 ⟨rfl, hb⟩
      have hs := hb.size
      clear k0 k1 kf
      obtain ⟨⟨k0, k1⟩, kf, b2⟩ := HK.out _ (HBB.out.trans (hb.mono (by omega)))
      have HB2 := hide b2
      clear hb b2
      go_wp2
      refine bodyPost_ret (v := .tuple #[.agg #[.int .i64 0, .int .i64 0], .bool false]) (by simp [results, Tryd.results15, go_sem, *]) rfl ?_
      refine ⟨rfl, ?_⟩
      repeat (first | (with_reducible refine Below.setCell ?_ (by first | (dsimp only; omega) | (simp; omega)) _) | (with_reducible refine Below.alloc ?_ (by first | omega | (simp; omega)) _))
      exact HB2.out
    · obtain ⟨rfl, rfl, rfl⟩ := hy rfl
      clear hn hy
      go_enter Tryd.func15, Tryd.ntmps15
      go_wp2_with fail
      with_reducible refine (CD.out _ H0.out).mono ?_
      rintro e w1 ⟨rfl, hb⟩
      have B1 : Below (w.heap.size + 1) (w.alloc (.cells #[.int .i64 0, .int .i64 0] 36)) w1 := hb.mono (by simp)
      obtain ⟨⟨k0, k1⟩, kf, b1⟩ := HK.out _ B1
      have ks : w.heap.size < w1.heap.size := by have := B1.size; simp at this; omega
      have HB1 := hide b1
      have HBB := hide B1
      clear hb b1 B1
      go_wp2_with fail
      with_reducible refine (CX.out _ HB1.out).mono ?_
      rintro e w2 ⟨rfl, hb⟩
      have hs := hb.size
      clear k0 k1 kf
      obtain ⟨⟨k0, k1⟩, kf, b2⟩ := HK.out _ (HBB.out.trans (hb.mono (by omega)))
      have HB2 := hide b2
      clear hb b2
      go_wp2
      refine bodyPost_ret (v := .tuple #[.agg #[.int .i64 x, .int .i64 (1)], .bool true]) (by simp [results, Tryd.results15, go_sem, *]) rfl ?_
      refine ⟨rfl, ?_⟩
      repeat (first | (with_reducible refine Below.setCell ?_ (by first | (dsimp only; omega) | (simp; omega)) _) | (with_reducible refine Below.alloc ?_ (by first | omega | (simp; omega)) _))
      exact HB2.out
  by_cases e2 : d = 2
  · subst e2
    have hn : b = false → x = 0 ∧ y = 0 ∧ z = false := fun q => DN (.inr q)
    have hy : b = true → x = a ∧ y = -1 ∧ z = true := fun q => DY (by omega) q
    clear DN DY D4 e0 e3 e1
    cases b
    · obtain ⟨rfl, rfl, rfl⟩ := hn rfl
      clear hn hy
      go_enter Tryd.func15, Tryd.ntmps15
      go_wp2_with fail
      with_reducible refine (CD.out _ H0.out).mono ?_
      rintro e w1 ⟨rfl, hb⟩
      have B1 : Below (w.heap.size + 1) (w.alloc (.cells #[.int .i64 0, .int .i64 0] 36)) w1 := hb.mono (by simp)
      obtain ⟨⟨k0, k1⟩, kf, b1⟩ := HK.out _ B1
      have ks : w.heap.size < w1.heap.size := by have := B1.size; simp at this; omega
      have HB1 := hide b1
      have HBB := hide B1
      clear hb b1 B1
      go_wp2_with fail
      with_reducible refine (CX.out _ HB1.out).mono ?_
      rintro e w2 ⟨rfl, hb⟩
      have hs := hb.size
      clear k0 k1 kf
      obtain ⟨⟨k0, k1⟩, kf, b2⟩ := HK.out _ (HBB.out.trans (hb.mono (by omega)))
      have HB2 := hide b2
      clear hb b2
      go_wp2
      refine bodyPost_ret (v := .tuple #[.agg #[.int .i64 0, .int .i64 0], .bool false]) (by simp [results, Tryd.results15, go_sem, *]) rfl ?_
      refine ⟨rfl, ?_⟩
      repeat (first | (with_reducible refine Below.setCell ?_ (by first | (dsimp only; omega) | (simp; omega)) _) | (with_reducible refine Below.alloc ?_ (by first | omega | (simp; omega)) _))
      exact HB2.out
    · obtain ⟨rfl, rfl, rfl⟩ := hy rfl
      clear hn hy
      go_enter Tryd.func15, Tryd.ntmps15
      go_wp2_with fail
      with_reducible refine (CD.out _ H0.out).mono ?_
      rintro e w1 ⟨rfl, hb⟩
      have B1 : Below (w.heap.size + 1) (w.alloc (.cells #[.int .i64 0, .int .i64 0] 36)) w1 := hb.mono (by simp)
      obtain ⟨⟨k0, k1⟩, kf, b1⟩ := HK.out _ B1
      have ks : w.heap.size < w1.heap.size := by have := B1.size; simp at this; omega
      have HB1 := hide b1
      have HBB := hide B1
      clear hb b1 B1
      go_wp2_with fail
      with_reducible refine (CX.out _ HB1.out).mono ?_
      rintro e w2 ⟨rfl, hb⟩
      have hs := hb.size
      clear k0 k1 kf
      obtain ⟨⟨k0, k1⟩, kf, b2⟩ := HK.out _ (HBB.out.trans (hb.mono (by omega)))
      have HB2 := hide b2
      clear hb b2
      go_wp2
      refine bodyPost_ret (v := .tuple #[.agg #[.int .i64 x, .int .i64 (-1)], .bool true]) (by simp [results, Tryd.results15, go_sem, *]) rfl ?_
      refine ⟨rfl, ?_⟩
      repeat (first | (with_reducible refine Below.setCell ?_ (by first | (dsimp only; omega) | (simp; omega)) _) | (with_reducible refine Below.alloc ?_ (by first | omega | (simp; omega)) _))
      exact HB2.out
  omega
set_option maxRecDepth 100000 in
set_option maxHeartbeats 3200000 in
theorem RArm_any (s : Vt) (g : Nat) (u : Int) (w : World) (h : RAt w g s) (hi : Inv s) : Calls Tryd.prog 16 #[.pointer (some ⟨g, 0, none⟩), .int .i64 u] w fun e w' => e = .returned (.tuple #[.agg #[.int .i64 (armA s u), .int .i64 (armO s u)], .bool (armB s u)]) ∧ Below w.heap.size w w' := by
  have CD := hide (fun W (b : Below w.heap.size w W) => (RDecision_any s g u W (h.below b h.lt) hi).mono fun e w2 (q : _ ∧ ∃ m, w2 = W.drewN m) => (show e = _ ∧ Below W.heap.size W w2 from ⟨q.1, by obtain ⟨m, rfl⟩ := q.2; exact below_drewN (Below.refl _ _) m⟩))
  have CX := hide (fun W (_ : Below w.heap.size w W) => next_any u W)
  have hb0 : Below w.heap.size w (w.alloc (.cells #[.int .i64 0, .int .i64 0] 36)) := (Below.refl _ _).alloc (Nat.le_refl _) _
  have H0 := hide hb0
  have HK := hide (fun W (b : Below (w.heap.size + 1) (w.alloc (.cells #[.int .i64 0, .int .i64 0] 36)) W) => (show (W.cell? ⟨w.heap.size, 0, none⟩ = some (.int .i64 0) ∧ W.cell? ⟨w.heap.size, 1, none⟩ = some (.int .i64 0)) ∧ (∀ i, W.frozen? ⟨w.heap.size, i, none⟩ = false) ∧ Below w.heap.size w W from ⟨⟨(b.cell (p := ⟨w.heap.size, 0, none⟩) (by simp)).trans (by simp [go_sem]), (b.cell (p := ⟨w.heap.size, 1, none⟩) (by simp)).trans (by simp [go_sem])⟩, fun i => (b.frozen (p := ⟨w.heap.size, i, none⟩) (by simp)).trans (by simp [go_sem]), hb0.trans (b.mono (by omega))⟩))
  have D4 := dec_four s u
  have DN := @arm_no s u
  have DY := @arm_yes s u
  obtain ⟨x, hx⟩ : ∃ x, x = armA s u := ⟨_, rfl⟩
  obtain ⟨y, hy⟩ : ∃ y, y = armO s u := ⟨_, rfl⟩
  obtain ⟨z, hz⟩ : ∃ z, z = armB s u := ⟨_, rfl⟩
  obtain ⟨d, hd⟩ : ∃ d, d = dec s u := ⟨_, rfl⟩
  rw [← hx, ← hy, ← hz] at DN DY ⊢
  rw [← hd] at DN DY D4 CD
  clear hx hy hz hd h hi hb0
  generalize nxV u = a at *
  generalize nxB u = b at *
  by_cases e0 : d = 0
  · subst e0
    obtain ⟨rfl, rfl, rfl⟩ := DN (.inl (.inl rfl))
    clear DN DY D4 CX
    go_enter Tryd.func16, Tryd.ntmps16
    go_wp2_with fail
    with_reducible refine (CD.out _ H0.out).mono ?_
    rintro e w1 ⟨rfl, hb⟩
    have B1 : Below (w.heap.size + 1) (w.alloc (.cells #[.int .i64 0, .int .i64 0] 36)) w1 := hb.mono (by simp)
    obtain ⟨⟨k0, k1⟩, kf, b1⟩ := HK.out _ B1
    have ks : w.heap.size < w1.heap.size := by have := B1.size; simp at this; omega
    have HB1 := hide b1
    have HBB := hide B1
    clear hb b1 B1
    go_wp2
    refine bodyPost_ret (v := .tuple #[.agg #[.int .i64 0, .int .i64 0], .bool false]) (by simp [results, Tryd.results16, go_sem, *]) rfl ?_
    refine ⟨rfl, ?_⟩
    repeat (first | (with_reducible refine Below.setCell ?_ (by first | (dsimp only; omega) | (simp; omega)) _) | (with_reducible refine Below.alloc ?_ (by first | omega | (simp; omega)) _))
    exact HB1.out
  by_cases e3 : d = 3
  · subst e3
    obtain ⟨rfl, rfl, rfl⟩ := DN (.inl (.inr rfl))
    clear DN DY D4 CX
    go_enter Tryd.func16, Tryd.ntmps16
    go_wp2_with fail
    with_reducible refine (CD.out _ H0.out).mono ?_
    rintro e w1 ⟨rfl, hb⟩
    have B1 : Below (w.heap.size + 1) (w.alloc (.cells #[.int .i64 0, .int .i64 0] 36)) w1 := hb.mono (by simp)
    obtain ⟨⟨k0, k1⟩, kf, b1⟩ := HK.out _ B1
    have ks : w.heap.size < w1.heap.size := by have := B1.size; simp at this; omega
    have HB1 := hide b1
    have HBB := hide B1
    clear hb b1 B1
    go_wp2
    refine bodyPost_ret (v := .tuple #[.agg #[.int .i64 0, .int .i64 0], .bool false]) (by simp [results, Tryd.results16, go_sem, *]) rfl ?_
    refine ⟨rfl, ?_⟩
    repeat (first | (with_reducible refine Below.setCell ?_ (by first | (dsimp only; omega) | (simp; omega)) _) | (with_reducible refine Below.alloc ?_ (by first | omega | (simp; omega)) _))
    exact HB1.out
  by_cases e1 : d = 1
  · subst e1
    have hn : b = false → x = 0 ∧ y = 0 ∧ z = false := fun q => DN (.inr q)
    have hy : b = true → x = a ∧ y = 1 ∧ z = true := fun q => DY (by omega) q
    clear DN DY D4 e0 e3
    cases b
    · obtain ⟨rfl, rfl, rfl⟩ := hn rfl
      clear hn hy
      go_enter Tryd.func16, Tryd.ntmps16
      go_wp2_with fail
      with_reducible refine (CD.out _ H0.out).mono ?_
      rintro e w1 ⟨rfl, hb⟩
      have B1 : Below (w.heap.size + 1) (w.alloc (.cells #[.int .i64 0, .int .i64 0] 36)) w1 := hb.mono (by simp)
      obtain ⟨⟨k0, k1⟩, kf, b1⟩ := HK.out _ B1
      have ks : w.heap.size < w1.heap.size := by have := B1.size; simp at this; omega
      have HB1 := hide b1
      have HBB := hide B1
      clear hb b1 B1
      go_wp2_with fail
      with_reducible refine (CX.out _ HB1.out).mono ?_
      rintro e w2 ⟨rfl, hb⟩
      have hs := hb.size
      clear k0 k1 kf
      obtain ⟨⟨k0, k1⟩, kf, b2⟩ := HK.out _ (HBB.out.trans (hb.mono (by omega)))
      have HB2 := hide b2
      clear hb b2
      go_wp2
      refine bodyPost_ret (v := .tuple #[.agg #[.int .i64 0, .int .i64 0], .bool false]) (by simp [results, Tryd.results16, go_sem, *]) rfl ?_
      refine ⟨rfl, ?_⟩
      repeat (first | (with_reducible refine Below.setCell ?_ (by first | (dsimp only; omega) | (simp; omega)) _) | (with_reducible refine Below.alloc ?_ (by first | omega | (simp; omega)) _))
      exact HB2.out
    · obtain ⟨rfl, rfl, rfl⟩ := hy rfl
      clear hn hy
      go_enter Tryd.func16, Tryd.ntmps16
      go_wp2_with fail
      with_reducible refine (CD.out _ H0.out).mono ?_
      rintro e w1 ⟨rfl, hb⟩
      have B1 : Below (w.heap.size + 1) (w.alloc (.cells #[.int .i64 0, .int .i64 0] 36)) w1 := hb.mono (by simp)
      obtain ⟨⟨k0, k1⟩, kf, b1⟩ := HK.out _ B1
      have ks : w.heap.size < w1.heap.size := by have := B1.size; simp at this; omega
      have HB1 := hide b1
      have HBB := hide B1
      clear hb b1 B1
      go_wp2_with fail
      with_reducible refine (CX.out _ HB1.out).mono ?_
      rintro e w2 ⟨rfl, hb⟩
      have hs := hb.size
      clear k0 k1 kf
      obtain ⟨⟨k0, k1⟩, kf, b2⟩ := HK.out _ (HBB.out.trans (hb.mono (by omega)))
      have HB2 := hide b2
      clear hb b2
      go_wp2
      refine bodyPost_ret (v := .tuple #[.agg #[.int .i64 x, .int .i64 (1)], .bool true]) (by simp [results, Tryd.results16, go_sem, *]) rfl ?_
      refine ⟨rfl, ?_⟩
      repeat (first | (with_reducible refine Below.setCell ?_ (by first | (dsimp only; omega) | (simp; omega)) _) | (with_reducible refine Below.alloc ?_ (by first | omega | (simp; omega)) _))
      exact HB2.out
  by_cases e2 : d = 2
  · subst e2
    have hn : b = false → x = 0 ∧ y = 0 ∧ z = false := fun q => DN (.inr q)
    have hy : b = true → x = a ∧ y = -1 ∧ z = true := fun q => DY (by omega) q
    clear DN DY D4 e0 e3 e1
    cases b
    · obtain ⟨rfl, rfl, rfl⟩ := hn rfl
      clear hn hy
      go_enter Tryd.func16, Tryd.ntmps16
      go_wp2_with fail
      with_reducible refine (CD.out _ H0.out).mono ?_
      rintro e w1 ⟨rfl, hb⟩
      have B1 : Below (w.heap.size + 1) (w.alloc (.cells #[.int .i64 0, .int .i64 0] 36)) w1 := hb.mono (by simp)
      obtain ⟨⟨k0, k1⟩, kf, b1⟩ := HK.out _ B1
      have ks : w.heap.size < w1.heap.size := by have := B1.size; simp at this; omega
      have HB1 := hide b1
      have HBB := hide B1
      clear hb b1 B1
      go_wp2_with fail
      with_reducible refine (CX.out _ HB1.out).mono ?_
      rintro e w2 ⟨rfl, hb⟩
      have hs := hb.size
      clear k0 k1 kf
      obtain ⟨⟨k0, k1⟩, kf, b2⟩ := HK.out _ (HBB.out.trans (hb.mono (by omega)))
      have HB2 := hide b2
      clear hb b2
      go_wp2
      refine bodyPost_ret (v := .tuple #[.agg #[.int .i64 0, .int .i64 0], .bool false]) (by simp [results, Tryd.results16, go_sem, *]) rfl ?_
      refine ⟨rfl, ?_⟩
      repeat (first | (with_reducible refine Below.setCell ?_ (by first | (dsimp only; omega) | (simp; omega)) _) | (with_reducible refine Below.alloc ?_ (by first | omega | (simp; omega)) _))
      exact HB2.out
    · obtain ⟨rfl, rfl, rfl⟩ := hy rfl
      clear hn hy
      go_enter Tryd.func16, Tryd.ntmps16
      go_wp2_with fail
      with_reducible refine (CD.out _ H0.out).mono ?_
      rintro e w1 ⟨rfl, hb⟩
      have B1 : Below (w.heap.size + 1) (w.alloc (.cells #[.int .i64 0, .int .i64 0] 36)) w1 := hb.mono (by simp)
      obtain ⟨⟨k0, k1⟩, kf, b1⟩ := HK.out _ B1
      have ks : w.heap.size < w1.heap.size := by have := B1.size; simp at this; omega
      have HB1 := hide b1
      have HBB := hide B1
      clear hb b1 B1
      go_wp2_with fail
      with_reducible refine (CX.out _ HB1.out).mono ?_
      rintro e w2 ⟨rfl, hb⟩
      have hs := hb.size
      clear k0 k1 kf
      obtain ⟨⟨k0, k1⟩, kf, b2⟩ := HK.out _ (HBB.out.trans (hb.mono (by omega)))
      have HB2 := hide b2
      clear hb b2
      go_wp2
      refine bodyPost_ret (v := .tuple #[.agg #[.int .i64 x, .int .i64 (-1)], .bool true]) (by simp [results, Tryd.results16, go_sem, *]) rfl ?_
      refine ⟨rfl, ?_⟩
      repeat (first | (with_reducible refine Below.setCell ?_ (by first | (dsimp only; omega) | (simp; omega)) _) | (with_reducible refine Below.alloc ?_ (by first | omega | (simp; omega)) _))
      exact HB2.out
  omega
end Go.Proofs.YtbekfofakpbhiaaDoor.Vot
