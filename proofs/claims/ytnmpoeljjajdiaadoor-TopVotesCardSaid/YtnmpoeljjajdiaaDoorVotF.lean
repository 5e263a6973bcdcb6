
/- The contracts of layer 54: Arm; Decision and Counts of the reference. -/
import Derived.Test.YtnmpoeljjajdiaaDoorVotE
namespace Go.Proofs.YtnmpoeljjajdiaaDoor.Vot
open Go.RowKit Aid Civ Leap
theorem PAt.drewN {w : World} {g : Nat} {s : Vt} (h : PAt w g s) (n : Nat) : PAt (w.drewN n) g s := h
theorem PVote_nil (k i u : Int) (w : World) : Calls Tryd.prog 13 #[.pointer none, .int .i64 k, .int .i64 i, .int .i64 u] w fun e w' => e = .returned (.int .i64 1) ∧ w = w' := by
  go_enter Tryd.func13, Tryd.ntmps13
  go_wp2
  go_ret
  exact ⟨rfl, by first | rfl | trivial⟩
noncomputable def armB (s : Vt) (u : Int) : Bool := (dec s u == 1 || dec s u == 2) && nxB u
noncomputable def armA (s : Vt) (u : Int) : Int := if armB s u = true then nxV u else 0
noncomputable def armO (s : Vt) (u : Int) : Int := if armB s u = true then 3 - 2 * dec s u else 0
theorem dec_four (s : Vt) (u : Int) : dec s u = 0 ∨ dec s u = 1 ∨ dec s u = 2 ∨ dec s u = 3 := by
  rcases dec_ways s u with h | h | h | h <;> omega
theorem arm_no {s : Vt} {u : Int} (h : (dec s u = 0 ∨ dec s u = 3) ∨ nxB u = false) : armA s u = 0 ∧ armO s u = 0 ∧ armB s u = false := by
  have e : armB s u = false := by
    unfold armB
    rcases h with (h | h) | h <;> rw [h] <;> simp
  refine ⟨?_, ?_, e⟩
  · unfold armA; rw [e]; rfl
  · unfold armO; rw [e]; rfl
theorem arm_yes {s : Vt} {u : Int} (h : dec s u = 1 ∨ dec s u = 2) (k : nxB u = true) : armA s u = nxV u ∧ armO s u = 3 - 2 * dec s u ∧ armB s u = true := by
  have e : armB s u = true := by
    unfold armB
    rw [k]
    rcases h with h | h <;> rw [h] <;> rfl
  refine ⟨?_, ?_, e⟩
  · unfold armA; rw [e]; rfl
  · unfold armO; rw [e]; rfl
set_option maxRecDepth 100000 in
set_option maxHeartbeats 3200000 in
theorem Arm_nil (u : Int) (w : World) : Calls Tryd.prog 15 #[.pointer none, .int .i64 u] w fun e w' => e = .returned (.tuple #[.agg #[.int .i64 0, .int .i64 0], .bool false]) ∧ Below w.heap.size w w' := by
  have CD := hide fun W => Decision_nil u W
  have hb0 : Below w.heap.size w (w.alloc (.cells #[.int .i64 0, .int .i64 0] 44)) := (Below.refl _ _).alloc (Nat.le_refl _) _
  have H0 := hide hb0
  clear hb0
  go_enter Tryd.func15, Tryd.ntmps15
  go_wp2_with fail
  with_reducible refine (CD.out _).mono ?_
  rintro e w1 ⟨rfl, hb⟩
  have H1 := hide (H0.out.trans (hb.mono (by simp)))
  obtain ⟨k0, k1⟩ : w1.cell? ⟨w.heap.size, 0, none⟩ = some (.int .i64 0) ∧ w1.cell? ⟨w.heap.size, 1, none⟩ = some (.int .i64 0) := ⟨(hb.cell (p := ⟨w.heap.size, 0, none⟩) (by simp)).trans (by simp [go_sem]), (hb.cell (p := ⟨w.heap.size, 1, none⟩) (by simp)).trans (by simp [go_sem])⟩
  have kf : ∀ i, w1.frozen? ⟨w.heap.size, i, none⟩ = false := fun i => (hb.frozen (p := ⟨w.heap.size, i, none⟩) (by simp)).trans (by simp [go_sem])
  clear hb
  go_wp2
  refine bodyPost_ret (v := .tuple #[.agg #[.int .i64 0, .int .i64 0], .bool false]) (by simp [results, Tryd.results15, go_sem, *]) rfl ?_
  refine ⟨rfl, ?_⟩
  repeat (first | (with_reducible refine Below.setCell ?_ (by first | (dsimp only; omega) | (simp; omega)) _) | (with_reducible refine Below.alloc ?_ (by first | omega | (simp; omega)) _))
  first | exact H1.out | exact Below.refl _ _
set_option maxRecDepth 100000 in
set_option maxHeartbeats 3200000 in
theorem Arm_any (s : Vt) (g : Nat) (u : Int) (w : World) (l : Laid w) (h : PAt w g s) (hi : Inv s) : Calls Tryd.prog 15 #[.pointer (some ⟨g, 0, none⟩), .int .i64 u] w fun e w' => e = .returned (.tuple #[.agg #[.int .i64 (armA s u), .int .i64 (armO s u)], .bool (armB s u)]) ∧ Below w.heap.size w w' := by
  have CD := hide (fun W (b : Below w.heap.size w W) => Decision_any s g u W (h.below b h.lt) hi)
  have CX := hide (fun W (b : Below w.heap.size w W) => nextMonth_any u W (l.step b))
  have hb0 : Below w.heap.size w (w.alloc (.cells #[.int .i64 0, .int .i64 0] 44)) := (Below.refl _ _).alloc (Nat.le_refl _) _
  have H0 := hide hb0
  have HK := hide (fun W (b : Below (w.heap.size + 1) (w.alloc (.cells #[.int .i64 0, .int .i64 0] 44)) W) => (show (W.cell? ⟨w.heap.size, 0, none⟩ = some (.int .i64 0) ∧ W.cell? ⟨w.heap.size, 1, none⟩ = some (.int .i64 0)) ∧ (∀ i, W.frozen? ⟨w.heap.size, i, none⟩ = false) ∧ Below w.heap.size w W from ⟨⟨(b.cell (p := ⟨w.heap.size, 0, none⟩) (by simp)).trans (by simp [go_sem]), (b.cell (p := ⟨w.heap.size, 1, none⟩) (by simp)).trans (by simp [go_sem])⟩, fun i => (b.frozen (p := ⟨w.heap.size, i, none⟩) (by simp)).trans (by simp [go_sem]), hb0.trans (b.mono (by omega))⟩))
  have D4 := dec_four s u
  have DN := @arm_no s u
  have DY := @arm_yes s u
  obtain ⟨x, hx⟩ : ∃ x, x = armA s u := ⟨_, rfl⟩
  obtain ⟨y, hy⟩ : ∃ y, y = armO s u := ⟨_, rfl⟩
  obtain ⟨z, hz⟩ : ∃ z, z = armB s u := ⟨_, rfl⟩
  obtain ⟨d, hd⟩ : ∃ d, d = dec s u := ⟨_, rfl⟩
  rw [← hx, ← hy, ← hz] at DN DY ⊢
  rw [← hd] at DN DY D4 CD
  clear hx hy hz hd h hi hb0 l
  generalize nxV u = a at *
  generalize nxB u = b at *
  by_cases e0 : d = 0
  · subst e0
    obtain ⟨rfl, rfl, rfl⟩ := DN (.inl (.inl rfl))
    clear DN DY D4 CX
    go_enter Tryd.func15, Tryd.ntmps15
    go_wp2_with fail
    with_reducible refine (CD.out _ H0.out).mono ?_
    rintro e w1 ⟨rfl, hb⟩
    have B1 : Below (w.heap.size + 1) (w.alloc (.cells #[.int .i64 0, .int .i64 0] 44)) w1 := hb.mono (by simp)
    obtain ⟨⟨k0, k1⟩, kf, b1⟩ := HK.out _ B1
    have ks : w.heap.size < w1.heap.size := by have := B1.size; simp at this; omega
    have HB1 := hide b1
    have HBB := hide B1
    clear hb b1 B1
    go_wp2
    refine bodyPost_ret (v := .tuple #[.agg #[.int .i64 0, .int .i64 0], .bool false]) (by simp [results, Tryd.results15, go_sem, *]) rfl ?_
    refine ⟨rfl, ?_⟩
    repeat (first | (with_reducible refine Below.setCell ?_ (by first | (dsimp only; omega) | (simp; omega)) _) | (with_reducible refine Below.alloc ?_ (by first | omega | (simp; omega)) _))
    exact HB1.out
  by_cases e3 : d = 3
  · subst e3
    obtain ⟨rfl, rfl, rfl⟩ := DN (.inl (.inr rfl))
    clear DN DY D4 CX
    go_enter Tryd.func15, Tryd.ntmps15
    go_wp2_with fail
    with_reducible refine (CD.out _ H0.out).mono ?_
    rintro e w1 ⟨rfl, hb⟩
    have B1 : Below (w.heap.size + 1) (w.alloc (.cells #[.int .i64 0, .int .i64 0] 44)) w1 := hb.mono (by simp)
    obtain ⟨⟨k0, k1⟩, kf, b1⟩ := HK.out _ B1
    have ks : w.heap.size < w1.heap.size := by have := B1.size; simp at this; omega
    have HB1 := hide b1
    have HBB := hide B1
    clear hb b1 B1
    go_wp2
    refine bodyPost_ret (v := .tuple #[.agg #[.int .i64 0, .int .i64 0], .bool false]) (by simp [results, Tryd.results15, go_sem, *]) rfl ?_
    refine ⟨rfl, ?_⟩
    repeat (first | (with_reducible refine Below.setCell ?_ (by first | (dsimp only; omega) | (simp; omega)) _) | (with_reducible refine Below.alloc ?_ (by first | omega | (simp; omega)) _))
    exact HB1.out
  by_cases e1 : d = 1
  · subst e1
    have hn : b = false → x = 0 ∧ y = 0 ∧ z = false := fun q => DN (.inr q)
    have hy : b = true → x = a ∧ y = 1 ∧ z = true := fun q => DY (by omega) q
    clear DN DY D4 e0 e3
    cases b
    · obtain ⟨rfl, rfl, rfl⟩ := hn rfl
      clear hn hy
      go_enter Tryd.func15, Tryd.ntmps15
      go_wp2_with fail
      with_reducible refine (CD.out _ H0.out).mono ?_
      rintro e w1 ⟨rfl, hb⟩
      have B1 : Below (w.heap.size + 1) (w.alloc (.cells #[.int .i64 0, .int .i64 0] 44)) w1 := hb.mono (by simp)
      obtain ⟨⟨k0, k1⟩, kf, b1⟩ := HK.out _ B1
      have ks : w.heap.size < w1.heap.size := by have := B1.size; simp at this; omega
      have HB1 := hide b1
      have HBB := hide B1
      clear hb b1 B1
      go_wp2_with fail
      with_reducible refine (CX.out _ HB1.out).mono ?_
      rintro e w2 ⟨rfl, hb⟩
      have hs := hb.size
      clear k0 k1 kf
      obtain ⟨⟨k0, k1⟩, kf, b2⟩ := HK.out _ (HBB.out.trans (hb.mono (by omega)))
      have HB2 := hide b2
      clear hb b2
      go_wp2
      refine bodyPost_ret (v := .tuple #[.agg #[.int .i64 0, .int .i64 0], .bool false]) (by simp [results, Tryd.results15, go_sem, *]) rfl ?_
      refine ⟨rfl, ?_⟩
      repeat (first | (with_reducible refine Below.setCell ?_ (by first | (dsimp only; omega) | (simp; omega)) _) | (with_reducible refine Below.alloc ?_ (by first | omega | (simp; omega)) _))
      exact HB2.out
    · obtain ⟨rfl, rfl, rfl⟩ := hy rfl
      clear hn hy
      go_enter Tryd.func15, Tryd.ntmps15
      go_wp2_with fail
      with_reducible refine (CD.out _ H0.out).mono ?_
      rintro e w1 ⟨rfl, hb⟩
      have B1 : Below (w.heap.size + 1) (w.alloc (.cells #[.int .i64 0, .int .i64 0] 44)) w1 := hb.mono (by simp)
      obtain ⟨⟨k0, k1⟩, kf, b1⟩ := HK.out _ B1
      have ks : w.heap.size < w1.heap.size := by have := B1.size; simp at this; omega
      have HB1 := hide b1
      have HBB := hide B1
      clear hb b1 B1
      go_wp2_with fail
      with_reducible refine (CX.out _ HB1.out).mono ?_
      rintro e w2 ⟨rfl, hb⟩
      have hs := hb.size
      clear k0 k1 kf
      obtain ⟨⟨k0, k1⟩, kf, b2⟩ := HK.out _ (HBB.out.trans (hb.mono (by omega)))
      have HB2 := hide b2
      clear hb b2
      go_wp2
      refine bodyPost_ret (v := .tuple #[.agg #[.int .i64 x, .int .i64 (1)], .bool true]) (by simp [results, Tryd.results15, go_sem, *]) rfl ?_
      refine ⟨rfl, ?_⟩
      repeat (first | (with_reducible refine Below.setCell ?_ (by first | (dsimp only; omega) | (simp; omega)) _) | (with_reducible refine Below.alloc ?_ (by first | omega | (simp; omega)) _))
      exact HB2.out
  by_cases e2 : d = 2
  · subst e2
    have hn : b = false → x = 0 ∧ y = 0 ∧ z = false := fun q => DN (.inr q)
    have hy : b = true → x = a ∧ y = -1 ∧ z = true := fun q => DY (by omega) q
    clear DN DY D4 e0 e3 e1
    cases b
    · obtain ⟨rfl, rfl, rfl⟩ := hn rfl
      clear hn hy
      go_enter Tryd.func15, Tryd.ntmps15
      go_wp2_with fail
      with_reducible refine (CD.out _ H0.out).mono ?_
      rintro e w1 ⟨rfl, hb⟩
      have B1 : Below (w.heap.size + 1) (w.alloc (.cells #[.int .i64 0, .int .i64 0] 44)) w1 := hb.mono (by simp)
      obtain ⟨⟨k0, k1⟩, kf, b1⟩ := HK.out _ B1
      have ks : w.heap.size < w1.heap.size := by have := B1.size; simp at this; omega
      have HB1 := hide b1
      have HBB := hide B1
      clear hb b1 B1
      go_wp2_with fail
      with_reducible refine (CX.out _ HB1.out).mono ?_
      rintro e w2 ⟨rfl, hb⟩
      have hs := hb.size
      clear k0 k1 kf
      obtain ⟨⟨k0, k1⟩, kf, b2⟩ := HK.out _ (HBB.out.trans (hb.mono (by omega)))
      have HB2 := hide b2
      clear hb b2
      go_wp2
      refine bodyPost_ret (v := .tuple #[.agg #[.int .i64 0, .int .i64 0], .bool false]) (by simp [results, Tryd.results15, go_sem, *]) rfl ?_
      refine ⟨rfl, ?_⟩
      repeat (first | (with_reducible refine Below.setCell ?_ (by first | (dsimp only; omega) | (simp; omega)) _) | (with_reducible refine Below.alloc ?_ (by first | omega | (simp; omega)) _))
      exact HB2.out
    · obtain ⟨rfl, rfl, rfl⟩ := hy rfl
      clear hn hy
      go_enter Tryd.func15, Tryd.ntmps15
      go_wp2_with fail
      with_reducible refine (CD.out _ H0.out).mono ?_
      rintro e w1 ⟨rfl, hb⟩
      have B1 : Below (w.heap.size + 1) (w.alloc (.cells #[.int .i64 0, .int .i64 0] 44)) w1 := hb.mono (by simp)
      obtain ⟨⟨k0, k1⟩, kf, b1⟩ := HK.out _ B1
      have ks : w.heap.size < w1.heap.size := by have := B1.size; simp at this; omega
      have HB1 := hide b1
      have HBB := hide B1
      clear hb b1 B1
      go_wp2_with fail
      with_reducible refine (CX.out _ HB1.out).mono ?_
      rintro e w2 ⟨rfl, hb⟩
      have hs := hb.size
      clear k0 k1 kf
      obtain ⟨⟨k0, k1⟩, kf, b2⟩ := HK.out _ (HBB.out.trans (hb.mono (by omega)))
      have HB2 := hide b2
      clear hb b2
      go_wp2
      refine bodyPost_ret (v := .tuple #[.agg #[.int .i64 x, .int .i64 (-1)], .bool true]) (by simp [results, Tryd.results15, go_sem, *]) rfl ?_
      refine ⟨rfl, ?_⟩
      repeat (first | (with_reducible refine Below.setCell ?_ (by first | (dsimp only; omega) | (simp; omega)) _) | (with_reducible refine Below.alloc ?_ (by first | omega | (simp; omega)) _))
      exact HB2.out
  omega
end Go.Proofs.YtnmpoeljjajdiaaDoor.Vot
