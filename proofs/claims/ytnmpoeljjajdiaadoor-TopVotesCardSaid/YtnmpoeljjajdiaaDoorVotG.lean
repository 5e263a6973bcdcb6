
/- The contracts of layer 54: the errors of Extend. -/
import Derived.Test.YtnmpoeljjajdiaaDoorVotP
namespace Go.Proofs.YtnmpoeljjajdiaaDoor.Vot
open Go.RowKit Aid Civ Leap App
set_option maxRecDepth 100000 in
set_option maxHeartbeats 3200000 in
theorem PExt_chk (B X : Int) (a : Option Addr) (n cap : Nat) (A O : Nat → Int) (ea ef : Int) (w : World) (l : Laid w) (hr : Ents w a n A O) (h : chkT B X A O n ≠ 0) :
    Calls Tryd.prog 16 #[.agg #[.int .i64 B, .int .i64 X, .slice a n cap], .agg #[.int .i64 ea, .int .i64 ef]] w fun e w' => e = .returned (.tuple #[.agg #[.int .i64 0, .int .i64 0, .slice none 0 0], .int .i64 (chkT B X A O n)]) ∧ Below w.heap.size w w' := by
  obtain ⟨W0, hW0⟩ : ∃ W0, W0 = (((w.alloc (.cells #[.int .i64 B, .int .i64 X, .slice a n cap] 24)).alloc (.cells #[.int .i64 ea, .int .i64 ef] 44)).alloc (.cells #[.int .i64 0, .int .i64 0, .slice none 0 0] 24)) := ⟨_, rfl⟩
  have HH := hide hW0
  have hz : W0.heap.size = w.heap.size + 3 := by rw [hW0]; simp
  have hb0 := Below.refl W0.heap.size W0
  have HB : Hid (Below w.heap.size w W0) := hide (by rw [hW0]; exact ((((Below.refl _ _).alloc (Nat.le_refl _) _).alloc (by simp) _).alloc (by simp; omega) _))
  have k00 : W0.cell? ⟨w.heap.size, 0, none⟩ = some (.int .i64 B) := by rw [hW0]; simp [go_sem]
  have k01 : W0.cell? ⟨w.heap.size, 1, none⟩ = some (.int .i64 X) := by rw [hW0]; simp [go_sem]
  have k02 : W0.cell? ⟨w.heap.size, 2, none⟩ = some (.slice a n cap) := by rw [hW0]; simp [go_sem]
  have k10 : W0.cell? ⟨w.heap.size + 1, 0, none⟩ = some (.int .i64 ea) := by rw [hW0]; simp [go_sem]
  have k11 : W0.cell? ⟨w.heap.size + 1, 1, none⟩ = some (.int .i64 ef) := by rw [hW0]; simp [go_sem]
  have k20 : W0.cell? ⟨w.heap.size + 1 + 1, 0, none⟩ = some (.int .i64 0) := by rw [hW0]; simp [go_sem]
  have k21 : W0.cell? ⟨w.heap.size + 1 + 1, 1, none⟩ = some (.int .i64 0) := by rw [hW0]; simp [go_sem]
  have k22 : W0.cell? ⟨w.heap.size + 1 + 1, 2, none⟩ = some (.slice none 0 0) := by rw [hW0]; simp [go_sem]
  have kfr : ∀ i, W0.frozen? ⟨w.heap.size + 1 + 1, i, none⟩ = false := fun i => by rw [hW0]; simp [go_sem]
  have HR := hide (fun V (g : Below W0.heap.size W0 V) => hr.below (HB.out.trans (g.mono HB.out.size)))
  have LL := hide (fun V (g : Below W0.heap.size W0 V) => l.step (HB.out.trans (g.mono HB.out.size)))
  have HK := hide (fun (V : World) (g : Below W0.heap.size W0 V) => And.intro ((g.cell (p := ⟨w.heap.size, 0, none⟩) (by dsimp only; omega)).trans k00) (And.intro ((g.cell (p := ⟨w.heap.size, 1, none⟩) (by dsimp only; omega)).trans k01) (And.intro ((g.cell (p := ⟨w.heap.size, 2, none⟩) (by dsimp only; omega)).trans k02) (And.intro ((g.cell (p := ⟨w.heap.size + 1, 0, none⟩) (by dsimp only; omega)).trans k10) (And.intro ((g.cell (p := ⟨w.heap.size + 1, 1, none⟩) (by dsimp only; omega)).trans k11) (And.intro ((g.cell (p := ⟨w.heap.size + 1 + 1, 0, none⟩) (by dsimp only; omega)).trans k20) (And.intro ((g.cell (p := ⟨w.heap.size + 1 + 1, 1, none⟩) (by dsimp only; omega)).trans k21) (And.intro ((g.cell (p := ⟨w.heap.size + 1 + 1, 2, none⟩) (by dsimp only; omega)).trans k22) (And.intro (show ∀ i, V.frozen? ⟨w.heap.size + 1 + 1, i, none⟩ = false from fun i => (g.frozen (p := ⟨w.heap.size + 1 + 1, i, none⟩) (by dsimp only; omega)).trans (kfr i)) g)))))))))
  have HS := hide hz
  have CK := hide (based (Nat.le_refl _) fun V (g : Below W0.heap.size W0 V) => Check_any B X a n cap A O V (LL.out V g) (HR.out V g))
  have CM := hide (based (Nat.le_refl _) fun V (g : Below W0.heap.size W0 V) => startsMonth_any ea V (LL.out V g))
  clear hW0 hz k00 k01 k02 k10 k11 k20 k21 k22 kfr l LL
  have h1 : (chkT B X A O n != 0) = true := by simpa using h
  clear h
  obtain ⟨c, hc⟩ : ∃ c, c = chkT B X A O n := ⟨_, rfl⟩
  rw [← hc] at h1 CK ⊢
  clear hc hr HR
  go_enter Tryd.func16, Tryd.ntmps16
  go_wp2_with fail
  rw [← HH.out]
  with_reducible refine (CK.out _ hb0).mono ?_
  rintro e w1 ⟨rfl, b1⟩
  obtain ⟨k00, k01, k02, k10, k11, k20, k21, k22, kfr, _⟩ := HK.out _ b1
  have HF := hide (HB.out.trans (b1.mono HB.out.size))
  clear hb0 b1
  go_wp2
  refine bodyPost_ret (v := .tuple #[.agg #[.int .i64 0, .int .i64 0, .slice none 0 0], .int .i64 c]) (by simp [results, Tryd.results16, go_sem, *]) rfl ?_
  refine ⟨rfl, ?_⟩
  repeat (with_reducible refine Below.setCell ?_ (by first | (dsimp only; omega) | (simp; omega)) _)
  first | exact HF.out | exact below_drewN HF.out _
set_option maxRecDepth 100000 in
set_option maxHeartbeats 3200000 in
theorem PExt_mon (B X : Int) (a : Option Addr) (n cap : Nat) (A O : Nat → Int) (ea ef : Int) (w : World) (l : Laid w) (hr : Ents w a n A O) (h : chkT B X A O n = 0) (hm : begB ea = false) :
    Calls Tryd.prog 16 #[.agg #[.int .i64 B, .int .i64 X, .slice a n cap], .agg #[.int .i64 ea, .int .i64 ef]] w fun e w' => e = .returned (.tuple #[.agg #[.int .i64 0, .int .i64 0, .slice none 0 0], .int .i64 7]) ∧ Below w.heap.size w w' := by
  obtain ⟨W0, hW0⟩ : ∃ W0, W0 = (((w.alloc (.cells #[.int .i64 B, .int .i64 X, .slice a n cap] 24)).alloc (.cells #[.int .i64 ea, .int .i64 ef] 44)).alloc (.cells #[.int .i64 0, .int .i64 0, .slice none 0 0] 24)) := ⟨_, rfl⟩
  have HH := hide hW0
  have hz : W0.heap.size = w.heap.size + 3 := by rw [hW0]; simp
  have hb0 := Below.refl W0.heap.size W0
  have HB : Hid (Below w.heap.size w W0) := hide (by rw [hW0]; exact ((((Below.refl _ _).alloc (Nat.le_refl _) _).alloc (by simp) _).alloc (by simp; omega) _))
  have k00 : W0.cell? ⟨w.heap.size, 0, none⟩ = some (.int .i64 B) := by rw [hW0]; simp [go_sem]
  have k01 : W0.cell? ⟨w.heap.size, 1, none⟩ = some (.int .i64 X) := by rw [hW0]; simp [go_sem]
  have k02 : W0.cell? ⟨w.heap.size, 2, none⟩ = some (.slice a n cap) := by rw [hW0]; simp [go_sem]
  have k10 : W0.cell? ⟨w.heap.size + 1, 0, none⟩ = some (.int .i64 ea) := by rw [hW0]; simp [go_sem]
  have k11 : W0.cell? ⟨w.heap.size + 1, 1, none⟩ = some (.int .i64 ef) := by rw [hW0]; simp [go_sem]
  have k20 : W0.cell? ⟨w.heap.size + 1 + 1, 0, none⟩ = some (.int .i64 0) := by rw [hW0]; simp [go_sem]
  have k21 : W0.cell? ⟨w.heap.size + 1 + 1, 1, none⟩ = some (.int .i64 0) := by rw [hW0]; simp [go_sem]
  have k22 : W0.cell? ⟨w.heap.size + 1 + 1, 2, none⟩ = some (.slice none 0 0) := by rw [hW0]; simp [go_sem]
  have kfr : ∀ i, W0.frozen? ⟨w.heap.size + 1 + 1, i, none⟩ = false := fun i => by rw [hW0]; simp [go_sem]
  have HR := hide (fun V (g : Below W0.heap.size W0 V) => hr.below (HB.out.trans (g.mono HB.out.size)))
  have LL := hide (fun V (g : Below W0.heap.size W0 V) => l.step (HB.out.trans (g.mono HB.out.size)))
  have HK := hide (fun (V : World) (g : Below W0.heap.size W0 V) => And.intro ((g.cell (p := ⟨w.heap.size, 0, none⟩) (by dsimp only; omega)).trans k00) (And.intro ((g.cell (p := ⟨w.heap.size, 1, none⟩) (by dsimp only; omega)).trans k01) (And.intro ((g.cell (p := ⟨w.heap.size, 2, none⟩) (by dsimp only; omega)).trans k02) (And.intro ((g.cell (p := ⟨w.heap.size + 1, 0, none⟩) (by dsimp only; omega)).trans k10) (And.intro ((g.cell (p := ⟨w.heap.size + 1, 1, none⟩) (by dsimp only; omega)).trans k11) (And.intro ((g.cell (p := ⟨w.heap.size + 1 + 1, 0, none⟩) (by dsimp only; omega)).trans k20) (And.intro ((g.cell (p := ⟨w.heap.size + 1 + 1, 1, none⟩) (by dsimp only; omega)).trans k21) (And.intro ((g.cell (p := ⟨w.heap.size + 1 + 1, 2, none⟩) (by dsimp only; omega)).trans k22) (And.intro (show ∀ i, V.frozen? ⟨w.heap.size + 1 + 1, i, none⟩ = false from fun i => (g.frozen (p := ⟨w.heap.size + 1 + 1, i, none⟩) (by dsimp only; omega)).trans (kfr i)) g)))))))))
  have HS := hide hz
  have CK := hide (based (Nat.le_refl _) fun V (g : Below W0.heap.size W0 V) => Check_any B X a n cap A O V (LL.out V g) (HR.out V g))
  have CM := hide (based (Nat.le_refl _) fun V (g : Below W0.heap.size W0 V) => startsMonth_any ea V (LL.out V g))
  clear hW0 hz k00 k01 k02 k10 k11 k20 k21 k22 kfr l LL
  rw [h] at CK
  rw [hm] at CM
  clear h hm hr HR
  go_enter Tryd.func16, Tryd.ntmps16
  go_wp2_with fail
  rw [← HH.out]
  with_reducible refine (CK.out _ hb0).mono ?_
  rintro e w1 ⟨rfl, b1⟩
  obtain ⟨k00, k01, k02, k10, k11, k20, k21, k22, kfr, _⟩ := HK.out _ b1
  go_wp2_with fail
  with_reducible refine (CM.out _ b1).mono ?_
  rintro e w2 ⟨rfl, b2⟩
  clear k00 k01 k02 k10 k11 k20 k21 k22 kfr
  obtain ⟨k00, k01, k02, k10, k11, k20, k21, k22, kfr, _⟩ := HK.out _ b2
  have HF := hide (HB.out.trans (b2.mono HB.out.size))
  clear hb0 b1 b2
  go_wp2
  refine bodyPost_ret (v := .tuple #[.agg #[.int .i64 0, .int .i64 0, .slice none 0 0], .int .i64 7]) (by simp [results, Tryd.results16, go_sem, *]) rfl ?_
  refine ⟨rfl, ?_⟩
  repeat (with_reducible refine Below.setCell ?_ (by first | (dsimp only; omega) | (simp; omega)) _)
  first | exact HF.out | exact below_drewN HF.out _
set_option maxRecDepth 100000 in
set_option maxHeartbeats 3200000 in
theorem PExt_ord (B X : Int) (a : Option Addr) (n cap : Nat) (A O : Nat → Int) (ea ef : Int) (w : World) (l : Laid w) (hr : Ents w a n A O) (h : chkT B X A O n = 0) (hm : begB ea = true) (h0 : 0 < n) (hz : ea ≤ A (n - 1)) :
    Calls Tryd.prog 16 #[.agg #[.int .i64 B, .int .i64 X, .slice a n cap], .agg #[.int .i64 ea, .int .i64 ef]] w fun e w' => e = .returned (.tuple #[.agg #[.int .i64 0, .int .i64 0, .slice none 0 0], .int .i64 12]) ∧ Below w.heap.size w w' := by
  obtain ⟨W0, hW0⟩ : ∃ W0, W0 = (((w.alloc (.cells #[.int .i64 B, .int .i64 X, .slice a n cap] 24)).alloc (.cells #[.int .i64 ea, .int .i64 ef] 44)).alloc (.cells #[.int .i64 0, .int .i64 0, .slice none 0 0] 24)) := ⟨_, rfl⟩
  have HH := hide hW0
  have hzz : W0.heap.size = w.heap.size + 3 := by rw [hW0]; simp
  have hb0 := Below.refl W0.heap.size W0
  have HB : Hid (Below w.heap.size w W0) := hide (by rw [hW0]; exact ((((Below.refl _ _).alloc (Nat.le_refl _) _).alloc (by simp) _).alloc (by simp; omega) _))
  have k00 : W0.cell? ⟨w.heap.size, 0, none⟩ = some (.int .i64 B) := by rw [hW0]; simp [go_sem]
  have k01 : W0.cell? ⟨w.heap.size, 1, none⟩ = some (.int .i64 X) := by rw [hW0]; simp [go_sem]
  have k02 : W0.cell? ⟨w.heap.size, 2, none⟩ = some (.slice a n cap) := by rw [hW0]; simp [go_sem]
  have k10 : W0.cell? ⟨w.heap.size + 1, 0, none⟩ = some (.int .i64 ea) := by rw [hW0]; simp [go_sem]
  have k11 : W0.cell? ⟨w.heap.size + 1, 1, none⟩ = some (.int .i64 ef) := by rw [hW0]; simp [go_sem]
  have k20 : W0.cell? ⟨w.heap.size + 1 + 1, 0, none⟩ = some (.int .i64 0) := by rw [hW0]; simp [go_sem]
  have k21 : W0.cell? ⟨w.heap.size + 1 + 1, 1, none⟩ = some (.int .i64 0) := by rw [hW0]; simp [go_sem]
  have k22 : W0.cell? ⟨w.heap.size + 1 + 1, 2, none⟩ = some (.slice none 0 0) := by rw [hW0]; simp [go_sem]
  have kfr : ∀ i, W0.frozen? ⟨w.heap.size + 1 + 1, i, none⟩ = false := fun i => by rw [hW0]; simp [go_sem]
  have HR := hide (fun V (g : Below W0.heap.size W0 V) => hr.below (HB.out.trans (g.mono HB.out.size)))
  have LL := hide (fun V (g : Below W0.heap.size W0 V) => l.step (HB.out.trans (g.mono HB.out.size)))
  have HK := hide (fun (V : World) (g : Below W0.heap.size W0 V) => And.intro ((g.cell (p := ⟨w.heap.size, 0, none⟩) (by dsimp only; omega)).trans k00) (And.intro ((g.cell (p := ⟨w.heap.size, 1, none⟩) (by dsimp only; omega)).trans k01) (And.intro ((g.cell (p := ⟨w.heap.size, 2, none⟩) (by dsimp only; omega)).trans k02) (And.intro ((g.cell (p := ⟨w.heap.size + 1, 0, none⟩) (by dsimp only; omega)).trans k10) (And.intro ((g.cell (p := ⟨w.heap.size + 1, 1, none⟩) (by dsimp only; omega)).trans k11) (And.intro ((g.cell (p := ⟨w.heap.size + 1 + 1, 0, none⟩) (by dsimp only; omega)).trans k20) (And.intro ((g.cell (p := ⟨w.heap.size + 1 + 1, 1, none⟩) (by dsimp only; omega)).trans k21) (And.intro ((g.cell (p := ⟨w.heap.size + 1 + 1, 2, none⟩) (by dsimp only; omega)).trans k22) (And.intro (show ∀ i, V.frozen? ⟨w.heap.size + 1 + 1, i, none⟩ = false from fun i => (g.frozen (p := ⟨w.heap.size + 1 + 1, i, none⟩) (by dsimp only; omega)).trans (kfr i)) g)))))))))
  have HS := hide hzz
  have CK := hide (based (Nat.le_refl _) fun V (g : Below W0.heap.size W0 V) => Check_any B X a n cap A O V (LL.out V g) (HR.out V g))
  have CM := hide (based (Nat.le_refl _) fun V (g : Below W0.heap.size W0 V) => startsMonth_any ea V (LL.out V g))
  clear hW0 hzz k00 k01 k02 k10 k11 k20 k21 k22 kfr l LL
  rw [h] at CK
  rw [hm] at CM
  have hn63 := hr.1
  obtain ⟨ab, off, rfl, hlt, hc⟩ := hr.at_ h0
  obtain ⟨q0, q1⟩ := hc (n - 1) (by omega)
  obtain ⟨u, hu⟩ : ∃ u, u = A (n - 1) := ⟨_, rfl⟩
  obtain ⟨o, ho⟩ : ∃ o, o = O (n - 1) := ⟨_, rfl⟩
  rw [← hu] at q0
  rw [← ho] at q1
  have HE := hide (fun V (g : Below W0.heap.size W0 V) => And.intro ((g.cell (p := ⟨ab, off + (n - 1) * 2, none⟩) (by have := HB.out.size; dsimp only; omega)).trans ((HB.out.cell (p := ⟨ab, off + (n - 1) * 2, none⟩) hlt).trans q0)) ((g.cell (p := ⟨ab, off + (n - 1) * 2 + 1, none⟩) (by have := HB.out.size; dsimp only; omega)).trans ((HB.out.cell (p := ⟨ab, off + (n - 1) * 2 + 1, none⟩) hlt).trans q1)))
  rw [← hu] at hz
  clear h hm hr HR hc q0 q1 hu ho
  go_enter Tryd.func16, Tryd.ntmps16
  go_wp2_with fail
  rw [← HH.out]
  with_reducible refine (CK.out _ hb0).mono ?_
  rintro e w1 ⟨rfl, b1⟩
  obtain ⟨k00, k01, k02, k10, k11, k20, k21, k22, kfr, _⟩ := HK.out _ b1
  go_wp2_with fail
  with_reducible refine (CM.out _ b1).mono ?_
  rintro e w2 ⟨rfl, b2⟩
  clear k00 k01 k02 k10 k11 k20 k21 k22 kfr
  obtain ⟨k00, k01, k02, k10, k11, k20, k21, k22, kfr, _⟩ := HK.out _ b2
  obtain ⟨q0, q1⟩ := HE.out _ b2
  have HF := hide (HB.out.trans (b2.mono HB.out.size))
  clear hb0 b1 b2
  go_wp2
  go_quiet (fail)
  go_wp2
  refine bodyPost_ret (v := .tuple #[.agg #[.int .i64 0, .int .i64 0, .slice none 0 0], .int .i64 12]) (by simp [results, Tryd.results16, go_sem, *]) rfl ?_
  refine ⟨rfl, ?_⟩
  repeat (with_reducible refine Below.setCell ?_ (by first | (dsimp only; omega) | (simp; omega)) _)
  first | exact HF.out | exact below_drewN HF.out _
set_option maxRecDepth 100000 in
set_option maxHeartbeats 3200000 in
theorem PExt_fz (B X : Int) (a : Option Addr) (n cap : Nat) (A O : Nat → Int) (ea ef : Int) (w : World) (l : Laid w) (hr : Ents w a n A O) (h : chkT B X A O n = 0) (hm : begB ea = true) (h0 : n = 0) (hf : ¬ (ef = 1 ∨ ef = -1)) :
    Calls Tryd.prog 16 #[.agg #[.int .i64 B, .int .i64 X, .slice a n cap], .agg #[.int .i64 ea, .int .i64 ef]] w fun e w' => e = .returned (.tuple #[.agg #[.int .i64 0, .int .i64 0, .slice none 0 0], .int .i64 3]) ∧ Below w.heap.size w w' := by
  obtain ⟨W0, hW0⟩ : ∃ W0, W0 = (((w.alloc (.cells #[.int .i64 B, .int .i64 X, .slice a n cap] 24)).alloc (.cells #[.int .i64 ea, .int .i64 ef] 44)).alloc (.cells #[.int .i64 0, .int .i64 0, .slice none 0 0] 24)) := ⟨_, rfl⟩
  have HH := hide hW0
  have hz : W0.heap.size = w.heap.size + 3 := by rw [hW0]; simp
  have hb0 := Below.refl W0.heap.size W0
  have HB : Hid (Below w.heap.size w W0) := hide (by rw [hW0]; exact ((((Below.refl _ _).alloc (Nat.le_refl _) _).alloc (by simp) _).alloc (by simp; omega) _))
  have k00 : W0.cell? ⟨w.heap.size, 0, none⟩ = some (.int .i64 B) := by rw [hW0]; simp [go_sem]
  have k01 : W0.cell? ⟨w.heap.size, 1, none⟩ = some (.int .i64 X) := by rw [hW0]; simp [go_sem]
  have k02 : W0.cell? ⟨w.heap.size, 2, none⟩ = some (.slice a n cap) := by rw [hW0]; simp [go_sem]
  have k10 : W0.cell? ⟨w.heap.size + 1, 0, none⟩ = some (.int .i64 ea) := by rw [hW0]; simp [go_sem]
  have k11 : W0.cell? ⟨w.heap.size + 1, 1, none⟩ = some (.int .i64 ef) := by rw [hW0]; simp [go_sem]
  have k20 : W0.cell? ⟨w.heap.size + 1 + 1, 0, none⟩ = some (.int .i64 0) := by rw [hW0]; simp [go_sem]
  have k21 : W0.cell? ⟨w.heap.size + 1 + 1, 1, none⟩ = some (.int .i64 0) := by rw [hW0]; simp [go_sem]
  have k22 : W0.cell? ⟨w.heap.size + 1 + 1, 2, none⟩ = some (.slice none 0 0) := by rw [hW0]; simp [go_sem]
  have kfr : ∀ i, W0.frozen? ⟨w.heap.size + 1 + 1, i, none⟩ = false := fun i => by rw [hW0]; simp [go_sem]
  have HR := hide (fun V (g : Below W0.heap.size W0 V) => hr.below (HB.out.trans (g.mono HB.out.size)))
  have LL := hide (fun V (g : Below W0.heap.size W0 V) => l.step (HB.out.trans (g.mono HB.out.size)))
  have HK := hide (fun (V : World) (g : Below W0.heap.size W0 V) => And.intro ((g.cell (p := ⟨w.heap.size, 0, none⟩) (by dsimp only; omega)).trans k00) (And.intro ((g.cell (p := ⟨w.heap.size, 1, none⟩) (by dsimp only; omega)).trans k01) (And.intro ((g.cell (p := ⟨w.heap.size, 2, none⟩) (by dsimp only; omega)).trans k02) (And.intro ((g.cell (p := ⟨w.heap.size + 1, 0, none⟩) (by dsimp only; omega)).trans k10) (And.intro ((g.cell (p := ⟨w.heap.size + 1, 1, none⟩) (by dsimp only; omega)).trans k11) (And.intro ((g.cell (p := ⟨w.heap.size + 1 + 1, 0, none⟩) (by dsimp only; omega)).trans k20) (And.intro ((g.cell (p := ⟨w.heap.size + 1 + 1, 1, none⟩) (by dsimp only; omega)).trans k21) (And.intro ((g.cell (p := ⟨w.heap.size + 1 + 1, 2, none⟩) (by dsimp only; omega)).trans k22) (And.intro (show ∀ i, V.frozen? ⟨w.heap.size + 1 + 1, i, none⟩ = false from fun i => (g.frozen (p := ⟨w.heap.size + 1 + 1, i, none⟩) (by dsimp only; omega)).trans (kfr i)) g)))))))))
  have HS := hide hz
  have CK := hide (based (Nat.le_refl _) fun V (g : Below W0.heap.size W0 V) => Check_any B X a n cap A O V (LL.out V g) (HR.out V g))
  have CM := hide (based (Nat.le_refl _) fun V (g : Below W0.heap.size W0 V) => startsMonth_any ea V (LL.out V g))
  clear hW0 hz k00 k01 k02 k10 k11 k20 k21 k22 kfr l LL
  rw [h] at CK
  rw [hm] at CM
  subst h0
  have f1 : (ef != 1) = true := by simp; omega
  have f2 : (ef != -1) = true := by simp; omega
  clear hf
  clear h hm hr HR
  go_enter Tryd.func16, Tryd.ntmps16
  go_wp2_with fail
  rw [← HH.out]
  with_reducible refine (CK.out _ hb0).mono ?_
  rintro e w1 ⟨rfl, b1⟩
  obtain ⟨k00, k01, k02, k10, k11, k20, k21, k22, kfr, _⟩ := HK.out _ b1
  go_wp2_with fail
  with_reducible refine (CM.out _ b1).mono ?_
  rintro e w2 ⟨rfl, b2⟩
  clear k00 k01 k02 k10 k11 k20 k21 k22 kfr
  obtain ⟨k00, k01, k02, k10, k11, k20, k21, k22, kfr, _⟩ := HK.out _ b2
  have HF := hide (HB.out.trans (b2.mono HB.out.size))
  clear hb0 b1 b2
  go_wp2
  refine bodyPost_ret (v := .tuple #[.agg #[.int .i64 0, .int .i64 0, .slice none 0 0], .int .i64 3]) (by simp [results, Tryd.results16, go_sem, *]) rfl ?_
  refine ⟨rfl, ?_⟩
  repeat (with_reducible refine Below.setCell ?_ (by first | (dsimp only; omega) | (simp; omega)) _)
  first | exact HF.out | exact below_drewN HF.out _
set_option maxRecDepth 100000 in
set_option maxHeartbeats 3200000 in
theorem PExt_rzp0 (B X : Int) (a : Option Addr) (n cap : Nat) (A O : Nat → Int) (ea : Int) (w : World) (l : Laid w) (hr : Ents w a n A O) (h : chkT B X A O n = 0) (hm : begB ea = true) (h0 : n = 0) (hq : 1000 < B + (1)) :
    Calls Tryd.prog 16 #[.agg #[.int .i64 B, .int .i64 X, .slice a n cap], .agg #[.int .i64 ea, .int .i64 (1)]] w fun e w' => e = .returned (.tuple #[.agg #[.int .i64 0, .int .i64 0, .slice none 0 0], .int .i64 3]) ∧ Below w.heap.size w w' := by
  obtain ⟨W0, hW0⟩ : ∃ W0, W0 = (((w.alloc (.cells #[.int .i64 B, .int .i64 X, .slice a n cap] 24)).alloc (.cells #[.int .i64 ea, .int .i64 (1)] 44)).alloc (.cells #[.int .i64 0, .int .i64 0, .slice none 0 0] 24)) := ⟨_, rfl⟩
  have HH := hide hW0
  have hz : W0.heap.size = w.heap.size + 3 := by rw [hW0]; simp
  have hb0 := Below.refl W0.heap.size W0
  have HB : Hid (Below w.heap.size w W0) := hide (by rw [hW0]; exact ((((Below.refl _ _).alloc (Nat.le_refl _) _).alloc (by simp) _).alloc (by simp; omega) _))
  have k00 : W0.cell? ⟨w.heap.size, 0, none⟩ = some (.int .i64 B) := by rw [hW0]; simp [go_sem]
  have k01 : W0.cell? ⟨w.heap.size, 1, none⟩ = some (.int .i64 X) := by rw [hW0]; simp [go_sem]
  have k02 : W0.cell? ⟨w.heap.size, 2, none⟩ = some (.slice a n cap) := by rw [hW0]; simp [go_sem]
  have k10 : W0.cell? ⟨w.heap.size + 1, 0, none⟩ = some (.int .i64 ea) := by rw [hW0]; simp [go_sem]
  have k11 : W0.cell? ⟨w.heap.size + 1, 1, none⟩ = some (.int .i64 (1)) := by rw [hW0]; simp [go_sem]
  have k20 : W0.cell? ⟨w.heap.size + 1 + 1, 0, none⟩ = some (.int .i64 0) := by rw [hW0]; simp [go_sem]
  have k21 : W0.cell? ⟨w.heap.size + 1 + 1, 1, none⟩ = some (.int .i64 0) := by rw [hW0]; simp [go_sem]
  have k22 : W0.cell? ⟨w.heap.size + 1 + 1, 2, none⟩ = some (.slice none 0 0) := by rw [hW0]; simp [go_sem]
  have kfr : ∀ i, W0.frozen? ⟨w.heap.size + 1 + 1, i, none⟩ = false := fun i => by rw [hW0]; simp [go_sem]
  have HR := hide (fun V (g : Below W0.heap.size W0 V) => hr.below (HB.out.trans (g.mono HB.out.size)))
  have LL := hide (fun V (g : Below W0.heap.size W0 V) => l.step (HB.out.trans (g.mono HB.out.size)))
  have HK := hide (fun (V : World) (g : Below W0.heap.size W0 V) => And.intro ((g.cell (p := ⟨w.heap.size, 0, none⟩) (by dsimp only; omega)).trans k00) (And.intro ((g.cell (p := ⟨w.heap.size, 1, none⟩) (by dsimp only; omega)).trans k01) (And.intro ((g.cell (p := ⟨w.heap.size, 2, none⟩) (by dsimp only; omega)).trans k02) (And.intro ((g.cell (p := ⟨w.heap.size + 1, 0, none⟩) (by dsimp only; omega)).trans k10) (And.intro ((g.cell (p := ⟨w.heap.size + 1, 1, none⟩) (by dsimp only; omega)).trans k11) (And.intro ((g.cell (p := ⟨w.heap.size + 1 + 1, 0, none⟩) (by dsimp only; omega)).trans k20) (And.intro ((g.cell (p := ⟨w.heap.size + 1 + 1, 1, none⟩) (by dsimp only; omega)).trans k21) (And.intro ((g.cell (p := ⟨w.heap.size + 1 + 1, 2, none⟩) (by dsimp only; omega)).trans k22) (And.intro (show ∀ i, V.frozen? ⟨w.heap.size + 1 + 1, i, none⟩ = false from fun i => (g.frozen (p := ⟨w.heap.size + 1 + 1, i, none⟩) (by dsimp only; omega)).trans (kfr i)) g)))))))))
  have HS := hide hz
  have CK := hide (based (Nat.le_refl _) fun V (g : Below W0.heap.size W0 V) => Check_any B X a n cap A O V (LL.out V g) (HR.out V g))
  have CM := hide (based (Nat.le_refl _) fun V (g : Below W0.heap.size W0 V) => startsMonth_any ea V (LL.out V g))
  clear hW0 hz k00 k01 k02 k10 k11 k20 k21 k22 kfr l LL
  rw [h] at CK
  rw [hm] at CM
  subst h0
  obtain ⟨B1, B2⟩ := (chkT_ok h).b
  clear h hm hr HR
  go_enter Tryd.func16, Tryd.ntmps16
  go_wp2_with fail
  rw [← HH.out]
  with_reducible refine (CK.out _ hb0).mono ?_
  rintro e w1 ⟨rfl, b1⟩
  obtain ⟨k00, k01, k02, k10, k11, k20, k21, k22, kfr, _⟩ := HK.out _ b1
  go_wp2_with fail
  with_reducible refine (CM.out _ b1).mono ?_
  rintro e w2 ⟨rfl, b2⟩
  clear k00 k01 k02 k10 k11 k20 k21 k22 kfr
  obtain ⟨k00, k01, k02, k10, k11, k20, k21, k22, kfr, _⟩ := HK.out _ b2
  have HF := hide (HB.out.trans (b2.mono HB.out.size))
  clear hb0 b1 b2
  go_wp2
  refine bodyPost_ret (v := .tuple #[.agg #[.int .i64 0, .int .i64 0, .slice none 0 0], .int .i64 3]) (by simp [results, Tryd.results16, go_sem, *]) rfl ?_
  refine ⟨rfl, ?_⟩
  repeat (with_reducible refine Below.setCell ?_ (by first | (dsimp only; omega) | (simp; omega)) _)
  first | exact HF.out | exact below_drewN HF.out _
set_option maxRecDepth 100000 in
set_option maxHeartbeats 3200000 in
theorem PExt_rzm1 (B X : Int) (a : Option Addr) (n cap : Nat) (A O : Nat → Int) (ea : Int) (w : World) (l : Laid w) (hr : Ents w a n A O) (h : chkT B X A O n = 0) (hm : begB ea = true) (h0 : n = 0) (hq : B + (-1) < -1000) :
    Calls Tryd.prog 16 #[.agg #[.int .i64 B, .int .i64 X, .slice a n cap], .agg #[.int .i64 ea, .int .i64 (-1)]] w fun e w' => e = .returned (.tuple #[.agg #[.int .i64 0, .int .i64 0, .slice none 0 0], .int .i64 3]) ∧ Below w.heap.size w w' := by
  obtain ⟨W0, hW0⟩ : ∃ W0, W0 = (((w.alloc (.cells #[.int .i64 B, .int .i64 X, .slice a n cap] 24)).alloc (.cells #[.int .i64 ea, .int .i64 (-1)] 44)).alloc (.cells #[.int .i64 0, .int .i64 0, .slice none 0 0] 24)) := ⟨_, rfl⟩
  have HH := hide hW0
  have hz : W0.heap.size = w.heap.size + 3 := by rw [hW0]; simp
  have hb0 := Below.refl W0.heap.size W0
  have HB : Hid (Below w.heap.size w W0) := hide (by rw [hW0]; exact ((((Below.refl _ _).alloc (Nat.le_refl _) _).alloc (by simp) _).alloc (by simp; omega) _))
  have k00 : W0.cell? ⟨w.heap.size, 0, none⟩ = some (.int .i64 B) := by rw [hW0]; simp [go_sem]
  have k01 : W0.cell? ⟨w.heap.size, 1, none⟩ = some (.int .i64 X) := by rw [hW0]; simp [go_sem]
  have k02 : W0.cell? ⟨w.heap.size, 2, none⟩ = some (.slice a n cap) := by rw [hW0]; simp [go_sem]
  have k10 : W0.cell? ⟨w.heap.size + 1, 0, none⟩ = some (.int .i64 ea) := by rw [hW0]; simp [go_sem]
  have k11 : W0.cell? ⟨w.heap.size + 1, 1, none⟩ = some (.int .i64 (-1)) := by rw [hW0]; simp [go_sem]
  have k20 : W0.cell? ⟨w.heap.size + 1 + 1, 0, none⟩ = some (.int .i64 0) := by rw [hW0]; simp [go_sem]
  have k21 : W0.cell? ⟨w.heap.size + 1 + 1, 1, none⟩ = some (.int .i64 0) := by rw [hW0]; simp [go_sem]
  have k22 : W0.cell? ⟨w.heap.size + 1 + 1, 2, none⟩ = some (.slice none 0 0) := by rw [hW0]; simp [go_sem]
  have kfr : ∀ i, W0.frozen? ⟨w.heap.size + 1 + 1, i, none⟩ = false := fun i => by rw [hW0]; simp [go_sem]
  have HR := hide (fun V (g : Below W0.heap.size W0 V) => hr.below (HB.out.trans (g.mono HB.out.size)))
  have LL := hide (fun V (g : Below W0.heap.size W0 V) => l.step (HB.out.trans (g.mono HB.out.size)))
  have HK := hide (fun (V : World) (g : Below W0.heap.size W0 V) => And.intro ((g.cell (p := ⟨w.heap.size, 0, none⟩) (by dsimp only; omega)).trans k00) (And.intro ((g.cell (p := ⟨w.heap.size, 1, none⟩) (by dsimp only; omega)).trans k01) (And.intro ((g.cell (p := ⟨w.heap.size, 2, none⟩) (by dsimp only; omega)).trans k02) (And.intro ((g.cell (p := ⟨w.heap.size + 1, 0, none⟩) (by dsimp only; omega)).trans k10) (And.intro ((g.cell (p := ⟨w.heap.size + 1, 1, none⟩) (by dsimp only; omega)).trans k11) (And.intro ((g.cell (p := ⟨w.heap.size + 1 + 1, 0, none⟩) (by dsimp only; omega)).trans k20) (And.intro ((g.cell (p := ⟨w.heap.size + 1 + 1, 1, none⟩) (by dsimp only; omega)).trans k21) (And.intro ((g.cell (p := ⟨w.heap.size + 1 + 1, 2, none⟩) (by dsimp only; omega)).trans k22) (And.intro (show ∀ i, V.frozen? ⟨w.heap.size + 1 + 1, i, none⟩ = false from fun i => (g.frozen (p := ⟨w.heap.size + 1 + 1, i, none⟩) (by dsimp only; omega)).trans (kfr i)) g)))))))))
  have HS := hide hz
  have CK := hide (based (Nat.le_refl _) fun V (g : Below W0.heap.size W0 V) => Check_any B X a n cap A O V (LL.out V g) (HR.out V g))
  have CM := hide (based (Nat.le_refl _) fun V (g : Below W0.heap.size W0 V) => startsMonth_any ea V (LL.out V g))
  clear hW0 hz k00 k01 k02 k10 k11 k20 k21 k22 kfr l LL
  rw [h] at CK
  rw [hm] at CM
  subst h0
  obtain ⟨B1, B2⟩ := (chkT_ok h).b
  clear h hm hr HR
  go_enter Tryd.func16, Tryd.ntmps16
  go_wp2_with fail
  rw [← HH.out]
  with_reducible refine (CK.out _ hb0).mono ?_
  rintro e w1 ⟨rfl, b1⟩
  obtain ⟨k00, k01, k02, k10, k11, k20, k21, k22, kfr, _⟩ := HK.out _ b1
  go_wp2_with fail
  with_reducible refine (CM.out _ b1).mono ?_
  rintro e w2 ⟨rfl, b2⟩
  clear k00 k01 k02 k10 k11 k20 k21 k22 kfr
  obtain ⟨k00, k01, k02, k10, k11, k20, k21, k22, kfr, _⟩ := HK.out _ b2
  have HF := hide (HB.out.trans (b2.mono HB.out.size))
  clear hb0 b1 b2
  go_wp2
  refine bodyPost_ret (v := .tuple #[.agg #[.int .i64 0, .int .i64 0, .slice none 0 0], .int .i64 3]) (by simp [results, Tryd.results16, go_sem, *]) rfl ?_
  refine ⟨rfl, ?_⟩
  repeat (with_reducible refine Below.setCell ?_ (by first | (dsimp only; omega) | (simp; omega)) _)
  first | exact HF.out | exact below_drewN HF.out _
set_option maxRecDepth 100000 in
set_option maxHeartbeats 3200000 in
theorem PExt_fn (B X : Int) (a : Option Addr) (n cap : Nat) (A O : Nat → Int) (ea ef : Int) (w : World) (l : Laid w) (hr : Ents w a n A O) (h : chkT B X A O n = 0) (hm : begB ea = true) (h0 : 0 < n) (hi : A (n - 1) < ea) (hf : ¬ (ef = 1 ∨ ef = -1)) :
    Calls Tryd.prog 16 #[.agg #[.int .i64 B, .int .i64 X, .slice a n cap], .agg #[.int .i64 ea, .int .i64 ef]] w fun e w' => e = .returned (.tuple #[.agg #[.int .i64 0, .int .i64 0, .slice none 0 0], .int .i64 3]) ∧ Below w.heap.size w w' := by
  obtain ⟨W0, hW0⟩ : ∃ W0, W0 = (((w.alloc (.cells #[.int .i64 B, .int .i64 X, .slice a n cap] 24)).alloc (.cells #[.int .i64 ea, .int .i64 ef] 44)).alloc (.cells #[.int .i64 0, .int .i64 0, .slice none 0 0] 24)) := ⟨_, rfl⟩
  have HH := hide hW0
  have hz : W0.heap.size = w.heap.size + 3 := by rw [hW0]; simp
  have hb0 := Below.refl W0.heap.size W0
  have HB : Hid (Below w.heap.size w W0) := hide (by rw [hW0]; exact ((((Below.refl _ _).alloc (Nat.le_refl _) _).alloc (by simp) _).alloc (by simp; omega) _))
  have k00 : W0.cell? ⟨w.heap.size, 0, none⟩ = some (.int .i64 B) := by rw [hW0]; simp [go_sem]
  have k01 : W0.cell? ⟨w.heap.size, 1, none⟩ = some (.int .i64 X) := by rw [hW0]; simp [go_sem]
  have k02 : W0.cell? ⟨w.heap.size, 2, none⟩ = some (.slice a n cap) := by rw [hW0]; simp [go_sem]
  have k10 : W0.cell? ⟨w.heap.size + 1, 0, none⟩ = some (.int .i64 ea) := by rw [hW0]; simp [go_sem]
  have k11 : W0.cell? ⟨w.heap.size + 1, 1, none⟩ = some (.int .i64 ef) := by rw [hW0]; simp [go_sem]
  have k20 : W0.cell? ⟨w.heap.size + 1 + 1, 0, none⟩ = some (.int .i64 0) := by rw [hW0]; simp [go_sem]
  have k21 : W0.cell? ⟨w.heap.size + 1 + 1, 1, none⟩ = some (.int .i64 0) := by rw [hW0]; simp [go_sem]
  have k22 : W0.cell? ⟨w.heap.size + 1 + 1, 2, none⟩ = some (.slice none 0 0) := by rw [hW0]; simp [go_sem]
  have kfr : ∀ i, W0.frozen? ⟨w.heap.size + 1 + 1, i, none⟩ = false := fun i => by rw [hW0]; simp [go_sem]
  have HR := hide (fun V (g : Below W0.heap.size W0 V) => hr.below (HB.out.trans (g.mono HB.out.size)))
  have LL := hide (fun V (g : Below W0.heap.size W0 V) => l.step (HB.out.trans (g.mono HB.out.size)))
  have HK := hide (fun (V : World) (g : Below W0.heap.size W0 V) => And.intro ((g.cell (p := ⟨w.heap.size, 0, none⟩) (by dsimp only; omega)).trans k00) (And.intro ((g.cell (p := ⟨w.heap.size, 1, none⟩) (by dsimp only; omega)).trans k01) (And.intro ((g.cell (p := ⟨w.heap.size, 2, none⟩) (by dsimp only; omega)).trans k02) (And.intro ((g.cell (p := ⟨w.heap.size + 1, 0, none⟩) (by dsimp only; omega)).trans k10) (And.intro ((g.cell (p := ⟨w.heap.size + 1, 1, none⟩) (by dsimp only; omega)).trans k11) (And.intro ((g.cell (p := ⟨w.heap.size + 1 + 1, 0, none⟩) (by dsimp only; omega)).trans k20) (And.intro ((g.cell (p := ⟨w.heap.size + 1 + 1, 1, none⟩) (by dsimp only; omega)).trans k21) (And.intro ((g.cell (p := ⟨w.heap.size + 1 + 1, 2, none⟩) (by dsimp only; omega)).trans k22) (And.intro (show ∀ i, V.frozen? ⟨w.heap.size + 1 + 1, i, none⟩ = false from fun i => (g.frozen (p := ⟨w.heap.size + 1 + 1, i, none⟩) (by dsimp only; omega)).trans (kfr i)) g)))))))))
  have HS := hide hz
  have CK := hide (based (Nat.le_refl _) fun V (g : Below W0.heap.size W0 V) => Check_any B X a n cap A O V (LL.out V g) (HR.out V g))
  have CM := hide (based (Nat.le_refl _) fun V (g : Below W0.heap.size W0 V) => startsMonth_any ea V (LL.out V g))
  clear hW0 hz k00 k01 k02 k10 k11 k20 k21 k22 kfr l LL
  rw [h] at CK
  rw [hm] at CM
  have hn63 := hr.1
  obtain ⟨ab, off, rfl, hlt, hc⟩ := hr.at_ h0
  obtain ⟨q0, q1⟩ := hc (n - 1) (by omega)
  obtain ⟨u, hu⟩ : ∃ u, u = A (n - 1) := ⟨_, rfl⟩
  obtain ⟨o, ho⟩ : ∃ o, o = O (n - 1) := ⟨_, rfl⟩
  rw [← hu] at q0
  rw [← ho] at q1
  have HE := hide (fun V (g : Below W0.heap.size W0 V) => And.intro ((g.cell (p := ⟨ab, off + (n - 1) * 2, none⟩) (by have := HB.out.size; dsimp only; omega)).trans ((HB.out.cell (p := ⟨ab, off + (n - 1) * 2, none⟩) hlt).trans q0)) ((g.cell (p := ⟨ab, off + (n - 1) * 2 + 1, none⟩) (by have := HB.out.size; dsimp only; omega)).trans ((HB.out.cell (p := ⟨ab, off + (n - 1) * 2 + 1, none⟩) hlt).trans q1)))
  have ho3 := (chkT_ok h).o (n - 1) (by omega)
  rw [← ho] at ho3
  clear ho3
  rw [← hu] at hi
  have f1 : (ef != 1) = true := by simp; omega
  have f2 : (ef != -1) = true := by simp; omega
  clear hf
  clear h hm hr HR hc q0 q1 hu ho
  go_enter Tryd.func16, Tryd.ntmps16
  go_wp2_with fail
  rw [← HH.out]
  with_reducible refine (CK.out _ hb0).mono ?_
  rintro e w1 ⟨rfl, b1⟩
  obtain ⟨k00, k01, k02, k10, k11, k20, k21, k22, kfr, _⟩ := HK.out _ b1
  go_wp2_with fail
  with_reducible refine (CM.out _ b1).mono ?_
  rintro e w2 ⟨rfl, b2⟩
  clear k00 k01 k02 k10 k11 k20 k21 k22 kfr
  obtain ⟨k00, k01, k02, k10, k11, k20, k21, k22, kfr, _⟩ := HK.out _ b2
  obtain ⟨q0, q1⟩ := HE.out _ b2
  have HF := hide (HB.out.trans (b2.mono HB.out.size))
  clear hb0 b1 b2
  go_wp2
  go_quiet (fail)
  go_wp2
  refine bodyPost_ret (v := .tuple #[.agg #[.int .i64 0, .int .i64 0, .slice none 0 0], .int .i64 3]) (by simp [results, Tryd.results16, go_sem, *]) rfl ?_
  refine ⟨rfl, ?_⟩
  repeat (with_reducible refine Below.setCell ?_ (by first | (dsimp only; omega) | (simp; omega)) _)
  first | exact HF.out | exact below_drewN HF.out _
set_option maxRecDepth 100000 in
set_option maxHeartbeats 3200000 in
theorem PExt_rnp0 (B X : Int) (a : Option Addr) (n cap : Nat) (A O : Nat → Int) (ea : Int) (w : World) (l : Laid w) (hr : Ents w a n A O) (h : chkT B X A O n = 0) (hm : begB ea = true) (h0 : 0 < n) (hi : A (n - 1) < ea) (hq : 1000 < O (n - 1) + (1)) :
    Calls Tryd.prog 16 #[.agg #[.int .i64 B, .int .i64 X, .slice a n cap], .agg #[.int .i64 ea, .int .i64 (1)]] w fun e w' => e = .returned (.tuple #[.agg #[.int .i64 0, .int .i64 0, .slice none 0 0], .int .i64 3]) ∧ Below w.heap.size w w' := by
  obtain ⟨W0, hW0⟩ : ∃ W0, W0 = (((w.alloc (.cells #[.int .i64 B, .int .i64 X, .slice a n cap] 24)).alloc (.cells #[.int .i64 ea, .int .i64 (1)] 44)).alloc (.cells #[.int .i64 0, .int .i64 0, .slice none 0 0] 24)) := ⟨_, rfl⟩
  have HH := hide hW0
  have hz : W0.heap.size = w.heap.size + 3 := by rw [hW0]; simp
  have hb0 := Below.refl W0.heap.size W0
  have HB : Hid (Below w.heap.size w W0) := hide (by rw [hW0]; exact ((((Below.refl _ _).alloc (Nat.le_refl _) _).alloc (by simp) _).alloc (by simp; omega) _))
  have k00 : W0.cell? ⟨w.heap.size, 0, none⟩ = some (.int .i64 B) := by rw [hW0]; simp [go_sem]
  have k01 : W0.cell? ⟨w.heap.size, 1, none⟩ = some (.int .i64 X) := by rw [hW0]; simp [go_sem]
  have k02 : W0.cell? ⟨w.heap.size, 2, none⟩ = some (.slice a n cap) := by rw [hW0]; simp [go_sem]
  have k10 : W0.cell? ⟨w.heap.size + 1, 0, none⟩ = some (.int .i64 ea) := by rw [hW0]; simp [go_sem]
  have k11 : W0.cell? ⟨w.heap.size + 1, 1, none⟩ = some (.int .i64 (1)) := by rw [hW0]; simp [go_sem]
  have k20 : W0.cell? ⟨w.heap.size + 1 + 1, 0, none⟩ = some (.int .i64 0) := by rw [hW0]; simp [go_sem]
  have k21 : W0.cell? ⟨w.heap.size + 1 + 1, 1, none⟩ = some (.int .i64 0) := by rw [hW0]; simp [go_sem]
  have k22 : W0.cell? ⟨w.heap.size + 1 + 1, 2, none⟩ = some (.slice none 0 0) := by rw [hW0]; simp [go_sem]
  have kfr : ∀ i, W0.frozen? ⟨w.heap.size + 1 + 1, i, none⟩ = false := fun i => by rw [hW0]; simp [go_sem]
  have HR := hide (fun V (g : Below W0.heap.size W0 V) => hr.below (HB.out.trans (g.mono HB.out.size)))
  have LL := hide (fun V (g : Below W0.heap.size W0 V) => l.step (HB.out.trans (g.mono HB.out.size)))
  have HK := hide (fun (V : World) (g : Below W0.heap.size W0 V) => And.intro ((g.cell (p := ⟨w.heap.size, 0, none⟩) (by dsimp only; omega)).trans k00) (And.intro ((g.cell (p := ⟨w.heap.size, 1, none⟩) (by dsimp only; omega)).trans k01) (And.intro ((g.cell (p := ⟨w.heap.size, 2, none⟩) (by dsimp only; omega)).trans k02) (And.intro ((g.cell (p := ⟨w.heap.size + 1, 0, none⟩) (by dsimp only; omega)).trans k10) (And.intro ((g.cell (p := ⟨w.heap.size + 1, 1, none⟩) (by dsimp only; omega)).trans k11) (And.intro ((g.cell (p := ⟨w.heap.size + 1 + 1, 0, none⟩) (by dsimp only; omega)).trans k20) (And.intro ((g.cell (p := ⟨w.heap.size + 1 + 1, 1, none⟩) (by dsimp only; omega)).trans k21) (And.intro ((g.cell (p := ⟨w.heap.size + 1 + 1, 2, none⟩) (by dsimp only; omega)).trans k22) (And.intro (show ∀ i, V.frozen? ⟨w.heap.size + 1 + 1, i, none⟩ = false from fun i => (g.frozen (p := ⟨w.heap.size + 1 + 1, i, none⟩) (by dsimp only; omega)).trans (kfr i)) g)))))))))
  have HS := hide hz
  have CK := hide (based (Nat.le_refl _) fun V (g : Below W0.heap.size W0 V) => Check_any B X a n cap A O V (LL.out V g) (HR.out V g))
  have CM := hide (based (Nat.le_refl _) fun V (g : Below W0.heap.size W0 V) => startsMonth_any ea V (LL.out V g))
  clear hW0 hz k00 k01 k02 k10 k11 k20 k21 k22 kfr l LL
  rw [h] at CK
  rw [hm] at CM
  have hn63 := hr.1
  obtain ⟨ab, off, rfl, hlt, hc⟩ := hr.at_ h0
  obtain ⟨q0, q1⟩ := hc (n - 1) (by omega)
  obtain ⟨u, hu⟩ : ∃ u, u = A (n - 1) := ⟨_, rfl⟩
  obtain ⟨o, ho⟩ : ∃ o, o = O (n - 1) := ⟨_, rfl⟩
  rw [← hu] at q0
  rw [← ho] at q1
  have HE := hide (fun V (g : Below W0.heap.size W0 V) => And.intro ((g.cell (p := ⟨ab, off + (n - 1) * 2, none⟩) (by have := HB.out.size; dsimp only; omega)).trans ((HB.out.cell (p := ⟨ab, off + (n - 1) * 2, none⟩) hlt).trans q0)) ((g.cell (p := ⟨ab, off + (n - 1) * 2 + 1, none⟩) (by have := HB.out.size; dsimp only; omega)).trans ((HB.out.cell (p := ⟨ab, off + (n - 1) * 2 + 1, none⟩) hlt).trans q1)))
  have ho3 := (chkT_ok h).o (n - 1) (by omega)
  rw [← ho] at ho3
  obtain ⟨B1, B2⟩ := ho3
  rw [← hu] at hi
  rw [← ho] at hq
  clear h hm hr HR hc q0 q1 hu ho
  go_enter Tryd.func16, Tryd.ntmps16
  go_wp2_with fail
  rw [← HH.out]
  with_reducible refine (CK.out _ hb0).mono ?_
  rintro e w1 ⟨rfl, b1⟩
  obtain ⟨k00, k01, k02, k10, k11, k20, k21, k22, kfr, _⟩ := HK.out _ b1
  go_wp2_with fail
  with_reducible refine (CM.out _ b1).mono ?_
  rintro e w2 ⟨rfl, b2⟩
  clear k00 k01 k02 k10 k11 k20 k21 k22 kfr
  obtain ⟨k00, k01, k02, k10, k11, k20, k21, k22, kfr, _⟩ := HK.out _ b2
  obtain ⟨q0, q1⟩ := HE.out _ b2
  have HF := hide (HB.out.trans (b2.mono HB.out.size))
  clear hb0 b1 b2
  go_wp2
  go_quiet (fail)
  go_wp2
  refine bodyPost_ret (v := .tuple #[.agg #[.int .i64 0, .int .i64 0, .slice none 0 0], .int .i64 3]) (by simp [results, Tryd.results16, go_sem, *]) rfl ?_
  refine ⟨rfl, ?_⟩
  repeat (with_reducible refine Below.setCell ?_ (by first | (dsimp only; omega) | (simp; omega)) _)
  first | exact HF.out | exact below_drewN HF.out _
set_option maxRecDepth 100000 in
set_option maxHeartbeats 3200000 in
theorem PExt_rnm1 (B X : Int) (a : Option Addr) (n cap : Nat) (A O : Nat → Int) (ea : Int) (w : World) (l : Laid w) (hr : Ents w a n A O) (h : chkT B X A O n = 0) (hm : begB ea = true) (h0 : 0 < n) (hi : A (n - 1) < ea) (hq : O (n - 1) + (-1) < -1000) :
    Calls Tryd.prog 16 #[.agg #[.int .i64 B, .int .i64 X, .slice a n cap], .agg #[.int .i64 ea, .int .i64 (-1)]] w fun e w' => e = .returned (.tuple #[.agg #[.int .i64 0, .int .i64 0, .slice none 0 0], .int .i64 3]) ∧ Below w.heap.size w w' := by
  obtain ⟨W0, hW0⟩ : ∃ W0, W0 = (((w.alloc (.cells #[.int .i64 B, .int .i64 X, .slice a n cap] 24)).alloc (.cells #[.int .i64 ea, .int .i64 (-1)] 44)).alloc (.cells #[.int .i64 0, .int .i64 0, .slice none 0 0] 24)) := ⟨_, rfl⟩
  have HH := hide hW0
  have hz : W0.heap.size = w.heap.size + 3 := by rw [hW0]; simp
  have hb0 := Below.refl W0.heap.size W0
  have HB : Hid (Below w.heap.size w W0) := hide (by rw [hW0]; exact ((((Below.refl _ _).alloc (Nat.le_refl _) _).alloc (by simp) _).alloc (by simp; omega) _))
  have k00 : W0.cell? ⟨w.heap.size, 0, none⟩ = some (.int .i64 B) := by rw [hW0]; simp [go_sem]
  have k01 : W0.cell? ⟨w.heap.size, 1, none⟩ = some (.int .i64 X) := by rw [hW0]; simp [go_sem]
  have k02 : W0.cell? ⟨w.heap.size, 2, none⟩ = some (.slice a n cap) := by rw [hW0]; simp [go_sem]
  have k10 : W0.cell? ⟨w.heap.size + 1, 0, none⟩ = some (.int .i64 ea) := by rw [hW0]; simp [go_sem]
  have k11 : W0.cell? ⟨w.heap.size + 1, 1, none⟩ = some (.int .i64 (-1)) := by rw [hW0]; simp [go_sem]
  have k20 : W0.cell? ⟨w.heap.size + 1 + 1, 0, none⟩ = some (.int .i64 0) := by rw [hW0]; simp [go_sem]
  have k21 : W0.cell? ⟨w.heap.size + 1 + 1, 1, none⟩ = some (.int .i64 0) := by rw [hW0]; simp [go_sem]
  have k22 : W0.cell? ⟨w.heap.size + 1 + 1, 2, none⟩ = some (.slice none 0 0) := by rw [hW0]; simp [go_sem]
  have kfr : ∀ i, W0.frozen? ⟨w.heap.size + 1 + 1, i, none⟩ = false := fun i => by rw [hW0]; simp [go_sem]
  have HR := hide (fun V (g : Below W0.heap.size W0 V) => hr.below (HB.out.trans (g.mono HB.out.size)))
  have LL := hide (fun V (g : Below W0.heap.size W0 V) => l.step (HB.out.trans (g.mono HB.out.size)))
  have HK := hide (fun (V : World) (g : Below W0.heap.size W0 V) => And.intro ((g.cell (p := ⟨w.heap.size, 0, none⟩) (by dsimp only; omega)).trans k00) (And.intro ((g.cell (p := ⟨w.heap.size, 1, none⟩) (by dsimp only; omega)).trans k01) (And.intro ((g.cell (p := ⟨w.heap.size, 2, none⟩) (by dsimp only; omega)).trans k02) (And.intro ((g.cell (p := ⟨w.heap.size + 1, 0, none⟩) (by dsimp only; omega)).trans k10) (And.intro ((g.cell (p := ⟨w.heap.size + 1, 1, none⟩) (by dsimp only; omega)).trans k11) (And.intro ((g.cell (p := ⟨w.heap.size + 1 + 1, 0, none⟩) (by dsimp only; omega)).trans k20) (And.intro ((g.cell (p := ⟨w.heap.size + 1 + 1, 1, none⟩) (by dsimp only; omega)).trans k21) (And.intro ((g.cell (p := ⟨w.heap.size + 1 + 1, 2, none⟩) (by dsimp only; omega)).trans k22) (And.intro (show ∀ i, V.frozen? ⟨w.heap.size + 1 + 1, i, none⟩ = false from fun i => (g.frozen (p := ⟨w.heap.size + 1 + 1, i, none⟩) (by dsimp only; omega)).trans (kfr i)) g)))))))))
  have HS := hide hz
  have CK := hide (based (Nat.le_refl _) fun V (g : Below W0.heap.size W0 V) => Check_any B X a n cap A O V (LL.out V g) (HR.out V g))
  have CM := hide (based (Nat.le_refl _) fun V (g : Below W0.heap.size W0 V) => startsMonth_any ea V (LL.out V g))
  clear hW0 hz k00 k01 k02 k10 k11 k20 k21 k22 kfr l LL
  rw [h] at CK
  rw [hm] at CM
  have hn63 := hr.1
  obtain ⟨ab, off, rfl, hlt, hc⟩ := hr.at_ h0
  obtain ⟨q0, q1⟩ := hc (n - 1) (by omega)
  obtain ⟨u, hu⟩ : ∃ u, u = A (n - 1) := ⟨_, rfl⟩
  obtain ⟨o, ho⟩ : ∃ o, o = O (n - 1) := ⟨_, rfl⟩
  rw [← hu] at q0
  rw [← ho] at q1
  have HE := hide (fun V (g : Below W0.heap.size W0 V) => And.intro ((g.cell (p := ⟨ab, off + (n - 1) * 2, none⟩) (by have := HB.out.size; dsimp only; omega)).trans ((HB.out.cell (p := ⟨ab, off + (n - 1) * 2, none⟩) hlt).trans q0)) ((g.cell (p := ⟨ab, off + (n - 1) * 2 + 1, none⟩) (by have := HB.out.size; dsimp only; omega)).trans ((HB.out.cell (p := ⟨ab, off + (n - 1) * 2 + 1, none⟩) hlt).trans q1)))
  have ho3 := (chkT_ok h).o (n - 1) (by omega)
  rw [← ho] at ho3
  obtain ⟨B1, B2⟩ := ho3
  rw [← hu] at hi
  rw [← ho] at hq
  clear h hm hr HR hc q0 q1 hu ho
  go_enter Tryd.func16, Tryd.ntmps16
  go_wp2_with fail
  rw [← HH.out]
  with_reducible refine (CK.out _ hb0).mono ?_
  rintro e w1 ⟨rfl, b1⟩
  obtain ⟨k00, k01, k02, k10, k11, k20, k21, k22, kfr, _⟩ := HK.out _ b1
  go_wp2_with fail
  with_reducible refine (CM.out _ b1).mono ?_
  rintro e w2 ⟨rfl, b2⟩
  clear k00 k01 k02 k10 k11 k20 k21 k22 kfr
  obtain ⟨k00, k01, k02, k10, k11, k20, k21, k22, kfr, _⟩ := HK.out _ b2
  obtain ⟨q0, q1⟩ := HE.out _ b2
  have HF := hide (HB.out.trans (b2.mono HB.out.size))
  clear hb0 b1 b2
  go_wp2
  go_quiet (fail)
  go_wp2
  refine bodyPost_ret (v := .tuple #[.agg #[.int .i64 0, .int .i64 0, .slice none 0 0], .int .i64 3]) (by simp [results, Tryd.results16, go_sem, *]) rfl ?_
  refine ⟨rfl, ?_⟩
  repeat (with_reducible refine Below.setCell ?_ (by first | (dsimp only; omega) | (simp; omega)) _)
  first | exact HF.out | exact below_drewN HF.out _
set_option maxRecDepth 100000 in
set_option maxHeartbeats 3200000 in
theorem PExt_longp (B X : Int) (a : Option Addr) (n cap : Nat) (A O : Nat → Int) (ea : Int) (w : World) (l : Laid w) (hr : Ents w a n A O) (h : chkT B X A O n = 0) (hm : begB ea = true) (h0 : 0 < n) (hi : A (n - 1) < ea) (hq : -1000 ≤ O (n - 1) + (1) ∧ O (n - 1) + (1) ≤ 1000) (h64 : n = 64) :
    Calls Tryd.prog 16 #[.agg #[.int .i64 B, .int .i64 X, .slice a n cap], .agg #[.int .i64 ea, .int .i64 (1)]] w fun e w' => e = .returned (.tuple #[.agg #[.int .i64 0, .int .i64 0, .slice none 0 0], .int .i64 6]) ∧ Below w.heap.size w w' := by
  obtain ⟨W0, hW0⟩ : ∃ W0, W0 = (((w.alloc (.cells #[.int .i64 B, .int .i64 X, .slice a n cap] 24)).alloc (.cells #[.int .i64 ea, .int .i64 (1)] 44)).alloc (.cells #[.int .i64 0, .int .i64 0, .slice none 0 0] 24)) := ⟨_, rfl⟩
  have HH := hide hW0
  have hz : W0.heap.size = w.heap.size + 3 := by rw [hW0]; simp
  have hb0 := Below.refl W0.heap.size W0
  have HB : Hid (Below w.heap.size w W0) := hide (by rw [hW0]; exact ((((Below.refl _ _).alloc (Nat.le_refl _) _).alloc (by simp) _).alloc (by simp; omega) _))
  have k00 : W0.cell? ⟨w.heap.size, 0, none⟩ = some (.int .i64 B) := by rw [hW0]; simp [go_sem]
  have k01 : W0.cell? ⟨w.heap.size, 1, none⟩ = some (.int .i64 X) := by rw [hW0]; simp [go_sem]
  have k02 : W0.cell? ⟨w.heap.size, 2, none⟩ = some (.slice a n cap) := by rw [hW0]; simp [go_sem]
  have k10 : W0.cell? ⟨w.heap.size + 1, 0, none⟩ = some (.int .i64 ea) := by rw [hW0]; simp [go_sem]
  have k11 : W0.cell? ⟨w.heap.size + 1, 1, none⟩ = some (.int .i64 (1)) := by rw [hW0]; simp [go_sem]
  have k20 : W0.cell? ⟨w.heap.size + 1 + 1, 0, none⟩ = some (.int .i64 0) := by rw [hW0]; simp [go_sem]
  have k21 : W0.cell? ⟨w.heap.size + 1 + 1, 1, none⟩ = some (.int .i64 0) := by rw [hW0]; simp [go_sem]
  have k22 : W0.cell? ⟨w.heap.size + 1 + 1, 2, none⟩ = some (.slice none 0 0) := by rw [hW0]; simp [go_sem]
  have kfr : ∀ i, W0.frozen? ⟨w.heap.size + 1 + 1, i, none⟩ = false := fun i => by rw [hW0]; simp [go_sem]
  have HR := hide (fun V (g : Below W0.heap.size W0 V) => hr.below (HB.out.trans (g.mono HB.out.size)))
  have LL := hide (fun V (g : Below W0.heap.size W0 V) => l.step (HB.out.trans (g.mono HB.out.size)))
  have HK := hide (fun (V : World) (g : Below W0.heap.size W0 V) => And.intro ((g.cell (p := ⟨w.heap.size, 0, none⟩) (by dsimp only; omega)).trans k00) (And.intro ((g.cell (p := ⟨w.heap.size, 1, none⟩) (by dsimp only; omega)).trans k01) (And.intro ((g.cell (p := ⟨w.heap.size, 2, none⟩) (by dsimp only; omega)).trans k02) (And.intro ((g.cell (p := ⟨w.heap.size + 1, 0, none⟩) (by dsimp only; omega)).trans k10) (And.intro ((g.cell (p := ⟨w.heap.size + 1, 1, none⟩) (by dsimp only; omega)).trans k11) (And.intro ((g.cell (p := ⟨w.heap.size + 1 + 1, 0, none⟩) (by dsimp only; omega)).trans k20) (And.intro ((g.cell (p := ⟨w.heap.size + 1 + 1, 1, none⟩) (by dsimp only; omega)).trans k21) (And.intro ((g.cell (p := ⟨w.heap.size + 1 + 1, 2, none⟩) (by dsimp only; omega)).trans k22) (And.intro (show ∀ i, V.frozen? ⟨w.heap.size + 1 + 1, i, none⟩ = false from fun i => (g.frozen (p := ⟨w.heap.size + 1 + 1, i, none⟩) (by dsimp only; omega)).trans (kfr i)) g)))))))))
  have HS := hide hz
  have CK := hide (based (Nat.le_refl _) fun V (g : Below W0.heap.size W0 V) => Check_any B X a n cap A O V (LL.out V g) (HR.out V g))
  have CM := hide (based (Nat.le_refl _) fun V (g : Below W0.heap.size W0 V) => startsMonth_any ea V (LL.out V g))
  clear hW0 hz k00 k01 k02 k10 k11 k20 k21 k22 kfr l LL
  rw [h] at CK
  rw [hm] at CM
  have hn63 := hr.1
  obtain ⟨ab, off, rfl, hlt, hc⟩ := hr.at_ h0
  obtain ⟨q0, q1⟩ := hc (n - 1) (by omega)
  obtain ⟨u, hu⟩ : ∃ u, u = A (n - 1) := ⟨_, rfl⟩
  obtain ⟨o, ho⟩ : ∃ o, o = O (n - 1) := ⟨_, rfl⟩
  rw [← hu] at q0
  rw [← ho] at q1
  have HE := hide (fun V (g : Below W0.heap.size W0 V) => And.intro ((g.cell (p := ⟨ab, off + (n - 1) * 2, none⟩) (by have := HB.out.size; dsimp only; omega)).trans ((HB.out.cell (p := ⟨ab, off + (n - 1) * 2, none⟩) hlt).trans q0)) ((g.cell (p := ⟨ab, off + (n - 1) * 2 + 1, none⟩) (by have := HB.out.size; dsimp only; omega)).trans ((HB.out.cell (p := ⟨ab, off + (n - 1) * 2 + 1, none⟩) hlt).trans q1)))
  have ho3 := (chkT_ok h).o (n - 1) (by omega)
  rw [← ho] at ho3 hq
  obtain ⟨B1, B2⟩ := ho3
  obtain ⟨q5, q6⟩ := hq
  rw [← hu] at hi
  have h64b : (64 : Int) ≤ (n : Int) := by omega
  have h64c : ((n : Int) == 64) = true := by simp; omega
  have h64d : ¬ (n : Int) < 64 := by omega
  clear h64
  clear h hm hr HR hc q0 q1 hu ho
  go_enter Tryd.func16, Tryd.ntmps16
  go_wp2_with fail
  rw [← HH.out]
  with_reducible refine (CK.out _ hb0).mono ?_
  rintro e w1 ⟨rfl, b1⟩
  obtain ⟨k00, k01, k02, k10, k11, k20, k21, k22, kfr, _⟩ := HK.out _ b1
  go_wp2_with fail
  with_reducible refine (CM.out _ b1).mono ?_
  rintro e w2 ⟨rfl, b2⟩
  clear k00 k01 k02 k10 k11 k20 k21 k22 kfr
  obtain ⟨k00, k01, k02, k10, k11, k20, k21, k22, kfr, _⟩ := HK.out _ b2
  obtain ⟨q0, q1⟩ := HE.out _ b2
  have HF := hide (HB.out.trans (b2.mono HB.out.size))
  clear hb0 b1 b2
  go_wp2
  go_quiet (fail)
  go_wp2
  refine bodyPost_ret (v := .tuple #[.agg #[.int .i64 0, .int .i64 0, .slice none 0 0], .int .i64 6]) (by simp [results, Tryd.results16, go_sem, *]) rfl ?_
  refine ⟨rfl, ?_⟩
  repeat (with_reducible refine Below.setCell ?_ (by first | (dsimp only; omega) | (simp; omega)) _)
  first | exact HF.out | exact below_drewN HF.out _
set_option maxRecDepth 100000 in
set_option maxHeartbeats 3200000 in
theorem PExt_longm (B X : Int) (a : Option Addr) (n cap : Nat) (A O : Nat → Int) (ea : Int) (w : World) (l : Laid w) (hr : Ents w a n A O) (h : chkT B X A O n = 0) (hm : begB ea = true) (h0 : 0 < n) (hi : A (n - 1) < ea) (hq : -1000 ≤ O (n - 1) + (-1) ∧ O (n - 1) + (-1) ≤ 1000) (h64 : n = 64) :
    Calls Tryd.prog 16 #[.agg #[.int .i64 B, .int .i64 X, .slice a n cap], .agg #[.int .i64 ea, .int .i64 (-1)]] w fun e w' => e = .returned (.tuple #[.agg #[.int .i64 0, .int .i64 0, .slice none 0 0], .int .i64 6]) ∧ Below w.heap.size w w' := by
  obtain ⟨W0, hW0⟩ : ∃ W0, W0 = (((w.alloc (.cells #[.int .i64 B, .int .i64 X, .slice a n cap] 24)).alloc (.cells #[.int .i64 ea, .int .i64 (-1)] 44)).alloc (.cells #[.int .i64 0, .int .i64 0, .slice none 0 0] 24)) := ⟨_, rfl⟩
  have HH := hide hW0
  have hz : W0.heap.size = w.heap.size + 3 := by rw [hW0]; simp
  have hb0 := Below.refl W0.heap.size W0
  have HB : Hid (Below w.heap.size w W0) := hide (by rw [hW0]; exact ((((Below.refl _ _).alloc (Nat.le_refl _) _).alloc (by simp) _).alloc (by simp; omega) _))
  have k00 : W0.cell? ⟨w.heap.size, 0, none⟩ = some (.int .i64 B) := by rw [hW0]; simp [go_sem]
  have k01 : W0.cell? ⟨w.heap.size, 1, none⟩ = some (.int .i64 X) := by rw [hW0]; simp [go_sem]
  have k02 : W0.cell? ⟨w.heap.size, 2, none⟩ = some (.slice a n cap) := by rw [hW0]; simp [go_sem]
  have k10 : W0.cell? ⟨w.heap.size + 1, 0, none⟩ = some (.int .i64 ea) := by rw [hW0]; simp [go_sem]
  have k11 : W0.cell? ⟨w.heap.size + 1, 1, none⟩ = some (.int .i64 (-1)) := by rw [hW0]; simp [go_sem]
  have k20 : W0.cell? ⟨w.heap.size + 1 + 1, 0, none⟩ = some (.int .i64 0) := by rw [hW0]; simp [go_sem]
  have k21 : W0.cell? ⟨w.heap.size + 1 + 1, 1, none⟩ = some (.int .i64 0) := by rw [hW0]; simp [go_sem]
  have k22 : W0.cell? ⟨w.heap.size + 1 + 1, 2, none⟩ = some (.slice none 0 0) := by rw [hW0]; simp [go_sem]
  have kfr : ∀ i, W0.frozen? ⟨w.heap.size + 1 + 1, i, none⟩ = false := fun i => by rw [hW0]; simp [go_sem]
  have HR := hide (fun V (g : Below W0.heap.size W0 V) => hr.below (HB.out.trans (g.mono HB.out.size)))
  have LL := hide (fun V (g : Below W0.heap.size W0 V) => l.step (HB.out.trans (g.mono HB.out.size)))
  have HK := hide (fun (V : World) (g : Below W0.heap.size W0 V) => And.intro ((g.cell (p := ⟨w.heap.size, 0, none⟩) (by dsimp only; omega)).trans k00) (And.intro ((g.cell (p := ⟨w.heap.size, 1, none⟩) (by dsimp only; omega)).trans k01) (And.intro ((g.cell (p := ⟨w.heap.size, 2, none⟩) (by dsimp only; omega)).trans k02) (And.intro ((g.cell (p := ⟨w.heap.size + 1, 0, none⟩) (by dsimp only; omega)).trans k10) (And.intro ((g.cell (p := ⟨w.heap.size + 1, 1, none⟩) (by dsimp only; omega)).trans k11) (And.intro ((g.cell (p := ⟨w.heap.size + 1 + 1, 0, none⟩) (by dsimp only; omega)).trans k20) (And.intro ((g.cell (p := ⟨w.heap.size + 1 + 1, 1, none⟩) (by dsimp only; omega)).trans k21) (And.intro ((g.cell (p := ⟨w.heap.size + 1 + 1, 2, none⟩) (by dsimp only; omega)).trans k22) (And.intro (show ∀ i, V.frozen? ⟨w.heap.size + 1 + 1, i, none⟩ = false from fun i => (g.frozen (p := ⟨w.heap.size + 1 + 1, i, none⟩) (by dsimp only; omega)).trans (kfr i)) g)))))))))
  have HS := hide hz
  have CK := hide (based (Nat.le_refl _) fun V (g : Below W0.heap.size W0 V) => Check_any B X a n cap A O V (LL.out V g) (HR.out V g))
  have CM := hide (based (Nat.le_refl _) fun V (g : Below W0.heap.size W0 V) => startsMonth_any ea V (LL.out V g))
  clear hW0 hz k00 k01 k02 k10 k11 k20 k21 k22 kfr l LL
  rw [h] at CK
  rw [hm] at CM
  have hn63 := hr.1
  obtain ⟨ab, off, rfl, hlt, hc⟩ := hr.at_ h0
  obtain ⟨q0, q1⟩ := hc (n - 1) (by omega)
  obtain ⟨u, hu⟩ : ∃ u, u = A (n - 1) := ⟨_, rfl⟩
  obtain ⟨o, ho⟩ : ∃ o, o = O (n - 1) := ⟨_, rfl⟩
  rw [← hu] at q0
  rw [← ho] at q1
  have HE := hide (fun V (g : Below W0.heap.size W0 V) => And.intro ((g.cell (p := ⟨ab, off + (n - 1) * 2, none⟩) (by have := HB.out.size; dsimp only; omega)).trans ((HB.out.cell (p := ⟨ab, off + (n - 1) * 2, none⟩) hlt).trans q0)) ((g.cell (p := ⟨ab, off + (n - 1) * 2 + 1, none⟩) (by have := HB.out.size; dsimp only; omega)).trans ((HB.out.cell (p := ⟨ab, off + (n - 1) * 2 + 1, none⟩) hlt).trans q1)))
  have ho3 := (chkT_ok h).o (n - 1) (by omega)
  rw [← ho] at ho3 hq
  obtain ⟨B1, B2⟩ := ho3
  obtain ⟨q5, q6⟩ := hq
  rw [← hu] at hi
  have h64b : (64 : Int) ≤ (n : Int) := by omega
  have h64c : ((n : Int) == 64) = true := by simp; omega
  have h64d : ¬ (n : Int) < 64 := by omega
  clear h64
  clear h hm hr HR hc q0 q1 hu ho
  go_enter Tryd.func16, Tryd.ntmps16
  go_wp2_with fail
  rw [← HH.out]
  with_reducible refine (CK.out _ hb0).mono ?_
  rintro e w1 ⟨rfl, b1⟩
  obtain ⟨k00, k01, k02, k10, k11, k20, k21, k22, kfr, _⟩ := HK.out _ b1
  go_wp2_with fail
  with_reducible refine (CM.out _ b1).mono ?_
  rintro e w2 ⟨rfl, b2⟩
  clear k00 k01 k02 k10 k11 k20 k21 k22 kfr
  obtain ⟨k00, k01, k02, k10, k11, k20, k21, k22, kfr, _⟩ := HK.out _ b2
  obtain ⟨q0, q1⟩ := HE.out _ b2
  have HF := hide (HB.out.trans (b2.mono HB.out.size))
  clear hb0 b1 b2
  go_wp2
  go_quiet (fail)
  go_wp2
  refine bodyPost_ret (v := .tuple #[.agg #[.int .i64 0, .int .i64 0, .slice none 0 0], .int .i64 6]) (by simp [results, Tryd.results16, go_sem, *]) rfl ?_
  refine ⟨rfl, ?_⟩
  repeat (with_reducible refine Below.setCell ?_ (by first | (dsimp only; omega) | (simp; omega)) _)
  first | exact HF.out | exact below_drewN HF.out _
end Go.Proofs.YtnmpoeljjajdiaaDoor.Vot
