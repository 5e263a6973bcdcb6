
/- The walk of the statement TopVotes. -/
import Derived.Test.YtnmpoeljjajdiaaDoorTvQ
namespace Go.Proofs.YtnmpoeljjajdiaaDoor.Vot
open Go.RowKit Aid Civ Leap App Smr
theorem chk_none : chkT 0 0 (fun _ => 0) (fun _ => 0) 0 = 0 := by
  unfold chkT
  rw [if_neg (by omega), if_pos (by decide)]
  rfl

set_option maxRecDepth 100000 in
set_option maxHeartbeats 3200000 in
theorem TopVotes_bad1 (B X : Int) (a : Option Addr) (n cap : Nat) (A O : Nat → Int) (b : Option Addr) (N vcap : Nat) (V : Nat → Int) (u : Int) (w : World) (hr : Ents w a n A O) (hv : IntsAt w b N V) (h1 : N < 1) (l : Laid w) :
    Calls Tryd.prog 4 #[.agg #[.int .i64 B, .int .i64 X, .slice a n cap], .slice b N vcap, .int .i64 u] w fun e w' => e = .returned (.bool true) ∧ Below w.heap.size w w' := by
  obtain ⟨W0, hW0⟩ : ∃ W0, W0 = w.alloc (.cells #[.int .i64 B, .int .i64 X, .slice a n cap] 24) := ⟨_, rfl⟩
  have HH := hide hW0
  have HB : Hid (Below w.heap.size w W0) := hide (by rw [hW0]; exact (Below.refl _ _).alloc (Nat.le_refl _) _)
  have hz0 : W0.heap.size = w.heap.size + 1 := by rw [hW0]; simp
  have k0 : W0.cell? ⟨w.heap.size, 0, none⟩ = some (.int .i64 B) := by rw [hW0]; simp [go_sem]
  have k1 : W0.cell? ⟨w.heap.size, 1, none⟩ = some (.int .i64 X) := by rw [hW0]; simp [go_sem]
  have k2 : W0.cell? ⟨w.heap.size, 2, none⟩ = some (.slice a n cap) := by rw [hW0]; simp [go_sem]
  have HK := hide (fun V (q : Below W0.heap.size W0 V) => And.intro ((q.cell (p := ⟨w.heap.size, 0, none⟩) (by dsimp only; omega)).trans k0) (And.intro ((q.cell (p := ⟨w.heap.size, 1, none⟩) (by dsimp only; omega)).trans k1) ((q.cell (p := ⟨w.heap.size, 2, none⟩) (by dsimp only; omega)).trans k2)))
  have LL := hide (fun V (q : Below W0.heap.size W0 V) => l.step (HB.out.trans (q.mono HB.out.size)))
  have HR := hide (fun V (q : Below W0.heap.size W0 V) => hr.below (HB.out.trans (q.mono HB.out.size)))
  have CK := hide (fun V (q : Below W0.heap.size W0 V) => Check_any B X a n cap A O V (LL.out V q) (HR.out V q))
  have CZ := hide (fun V (q : Below W0.heap.size W0 V) => (by have := Check_any 0 0 none 0 0 (fun _ => 0) (fun _ => 0) V (LL.out V q) ⟨by omega, fun h => absurd h (by omega)⟩; rwa [chk_none] at this : Calls Tryd.prog 11 #[.agg #[.int .i64 0, .int .i64 0, .slice none 0 0]] V fun e w' => e = .returned (.int .i64 0) ∧ Below V.heap.size V w'))
  have hn63 := hr.1
  have hN63 := hv.1
  have h1q : (N : Int) < 1 := by omega
  clear hW0 hr l hv k0 k1 k2
  go_enter Tryd.func4, Tryd.ntmps4
  go_upto_region 1 with fail
  rw [← HH.out]
  obtain ⟨k0, k1, k2⟩ := HK.out _ (Below.refl _ _)

  go_wp2_with fail
  with_reducible refine (CZ.out _ (Below.refl _ _)).mono ?_
  rintro e w2 ⟨rfl, b2⟩
  have HF := hide (HB.out.trans (((Below.refl _ _).trans b2).mono HB.out.size))
  clear b2
  go_wp2
  go_ret
  exact ⟨rfl, HF.out⟩
set_option maxRecDepth 100000 in
set_option maxHeartbeats 3200000 in
theorem TopVotes_bad2 (B X : Int) (a : Option Addr) (n cap : Nat) (A O : Nat → Int) (b : Option Addr) (N vcap : Nat) (V : Nat → Int) (u : Int) (w : World) (hr : Ents w a n A O) (hv : IntsAt w b N V) (h1 : 12 < N) (l : Laid w) :
    Calls Tryd.prog 4 #[.agg #[.int .i64 B, .int .i64 X, .slice a n cap], .slice b N vcap, .int .i64 u] w fun e w' => e = .returned (.bool true) ∧ Below w.heap.size w w' := by
  obtain ⟨W0, hW0⟩ : ∃ W0, W0 = w.alloc (.cells #[.int .i64 B, .int .i64 X, .slice a n cap] 24) := ⟨_, rfl⟩
  have HH := hide hW0
  have HB : Hid (Below w.heap.size w W0) := hide (by rw [hW0]; exact (Below.refl _ _).alloc (Nat.le_refl _) _)
  have hz0 : W0.heap.size = w.heap.size + 1 := by rw [hW0]; simp
  have k0 : W0.cell? ⟨w.heap.size, 0, none⟩ = some (.int .i64 B) := by rw [hW0]; simp [go_sem]
  have k1 : W0.cell? ⟨w.heap.size, 1, none⟩ = some (.int .i64 X) := by rw [hW0]; simp [go_sem]
  have k2 : W0.cell? ⟨w.heap.size, 2, none⟩ = some (.slice a n cap) := by rw [hW0]; simp [go_sem]
  have HK := hide (fun V (q : Below W0.heap.size W0 V) => And.intro ((q.cell (p := ⟨w.heap.size, 0, none⟩) (by dsimp only; omega)).trans k0) (And.intro ((q.cell (p := ⟨w.heap.size, 1, none⟩) (by dsimp only; omega)).trans k1) ((q.cell (p := ⟨w.heap.size, 2, none⟩) (by dsimp only; omega)).trans k2)))
  have LL := hide (fun V (q : Below W0.heap.size W0 V) => l.step (HB.out.trans (q.mono HB.out.size)))
  have HR := hide (fun V (q : Below W0.heap.size W0 V) => hr.below (HB.out.trans (q.mono HB.out.size)))
  have CK := hide (fun V (q : Below W0.heap.size W0 V) => Check_any B X a n cap A O V (LL.out V q) (HR.out V q))
  have CZ := hide (fun V (q : Below W0.heap.size W0 V) => (by have := Check_any 0 0 none 0 0 (fun _ => 0) (fun _ => 0) V (LL.out V q) ⟨by omega, fun h => absurd h (by omega)⟩; rwa [chk_none] at this : Calls Tryd.prog 11 #[.agg #[.int .i64 0, .int .i64 0, .slice none 0 0]] V fun e w' => e = .returned (.int .i64 0) ∧ Below V.heap.size V w'))
  have hn63 := hr.1
  have hN63 := hv.1
  have h0q : decide ((N : Int) < 1) = false := by simp; omega
  have h1q : 12 < (N : Int) := by omega
  clear hW0 hr l hv k0 k1 k2
  go_enter Tryd.func4, Tryd.ntmps4
  go_upto_region 1 with fail
  rw [← HH.out]
  obtain ⟨k0, k1, k2⟩ := HK.out _ (Below.refl _ _)

  go_wp2_with fail
  with_reducible refine (CZ.out _ (Below.refl _ _)).mono ?_
  rintro e w2 ⟨rfl, b2⟩
  have HF := hide (HB.out.trans (((Below.refl _ _).trans b2).mono HB.out.size))
  clear b2
  go_wp2
  go_ret
  exact ⟨rfl, HF.out⟩
set_option maxRecDepth 100000 in
set_option maxHeartbeats 3200000 in
theorem TopVotes_bad3 (B X : Int) (a : Option Addr) (n cap : Nat) (A O : Nat → Int) (b : Option Addr) (N vcap : Nat) (V : Nat → Int) (u : Int) (w : World) (hr : Ents w a n A O) (hv : IntsAt w b N V) (h1 : 1 ≤ N ∧ N ≤ 12) (h2 : 100 < n) (l : Laid w) :
    Calls Tryd.prog 4 #[.agg #[.int .i64 B, .int .i64 X, .slice a n cap], .slice b N vcap, .int .i64 u] w fun e w' => e = .returned (.bool true) ∧ Below w.heap.size w w' := by
  obtain ⟨W0, hW0⟩ : ∃ W0, W0 = w.alloc (.cells #[.int .i64 B, .int .i64 X, .slice a n cap] 24) := ⟨_, rfl⟩
  have HH := hide hW0
  have HB : Hid (Below w.heap.size w W0) := hide (by rw [hW0]; exact (Below.refl _ _).alloc (Nat.le_refl _) _)
  have hz0 : W0.heap.size = w.heap.size + 1 := by rw [hW0]; simp
  have k0 : W0.cell? ⟨w.heap.size, 0, none⟩ = some (.int .i64 B) := by rw [hW0]; simp [go_sem]
  have k1 : W0.cell? ⟨w.heap.size, 1, none⟩ = some (.int .i64 X) := by rw [hW0]; simp [go_sem]
  have k2 : W0.cell? ⟨w.heap.size, 2, none⟩ = some (.slice a n cap) := by rw [hW0]; simp [go_sem]
  have HK := hide (fun V (q : Below W0.heap.size W0 V) => And.intro ((q.cell (p := ⟨w.heap.size, 0, none⟩) (by dsimp only; omega)).trans k0) (And.intro ((q.cell (p := ⟨w.heap.size, 1, none⟩) (by dsimp only; omega)).trans k1) ((q.cell (p := ⟨w.heap.size, 2, none⟩) (by dsimp only; omega)).trans k2)))
  have LL := hide (fun V (q : Below W0.heap.size W0 V) => l.step (HB.out.trans (q.mono HB.out.size)))
  have HR := hide (fun V (q : Below W0.heap.size W0 V) => hr.below (HB.out.trans (q.mono HB.out.size)))
  have CK := hide (fun V (q : Below W0.heap.size W0 V) => Check_any B X a n cap A O V (LL.out V q) (HR.out V q))
  have CZ := hide (fun V (q : Below W0.heap.size W0 V) => (by have := Check_any 0 0 none 0 0 (fun _ => 0) (fun _ => 0) V (LL.out V q) ⟨by omega, fun h => absurd h (by omega)⟩; rwa [chk_none] at this : Calls Tryd.prog 11 #[.agg #[.int .i64 0, .int .i64 0, .slice none 0 0]] V fun e w' => e = .returned (.int .i64 0) ∧ Below V.heap.size V w'))
  have hn63 := hr.1
  have hN63 := hv.1
  have h0q : decide ((N : Int) < 1) = false := by simp; omega
  have h1q : (N : Int) ≤ 12 := by omega
  have h2q : 100 < (n : Int) := by omega
  clear hW0 hr l hv k0 k1 k2
  go_enter Tryd.func4, Tryd.ntmps4
  go_upto_region 1 with fail
  rw [← HH.out]
  obtain ⟨k0, k1, k2⟩ := HK.out _ (Below.refl _ _)

  go_wp2_with fail
  with_reducible refine (CZ.out _ (Below.refl _ _)).mono ?_
  rintro e w2 ⟨rfl, b2⟩
  have HF := hide (HB.out.trans (((Below.refl _ _).trans b2).mono HB.out.size))
  clear b2
  go_wp2
  go_ret
  exact ⟨rfl, HF.out⟩
set_option maxRecDepth 100000 in
set_option maxHeartbeats 3200000 in
theorem TopVotes_bad4 (B X : Int) (a : Option Addr) (n cap : Nat) (A O : Nat → Int) (b : Option Addr) (N vcap : Nat) (V : Nat → Int) (u : Int) (w : World) (hr : Ents w a n A O) (hv : IntsAt w b N V) (h1 : 1 ≤ N ∧ N ≤ 12) (h2 : n ≤ 100) (h3 : chkT B X A O n ≠ 0) (l : Laid w) :
    Calls Tryd.prog 4 #[.agg #[.int .i64 B, .int .i64 X, .slice a n cap], .slice b N vcap, .int .i64 u] w fun e w' => e = .returned (.bool true) ∧ Below w.heap.size w w' := by
  obtain ⟨W0, hW0⟩ : ∃ W0, W0 = w.alloc (.cells #[.int .i64 B, .int .i64 X, .slice a n cap] 24) := ⟨_, rfl⟩
  have HH := hide hW0
  have HB : Hid (Below w.heap.size w W0) := hide (by rw [hW0]; exact (Below.refl _ _).alloc (Nat.le_refl _) _)
  have hz0 : W0.heap.size = w.heap.size + 1 := by rw [hW0]; simp
  have k0 : W0.cell? ⟨w.heap.size, 0, none⟩ = some (.int .i64 B) := by rw [hW0]; simp [go_sem]
  have k1 : W0.cell? ⟨w.heap.size, 1, none⟩ = some (.int .i64 X) := by rw [hW0]; simp [go_sem]
  have k2 : W0.cell? ⟨w.heap.size, 2, none⟩ = some (.slice a n cap) := by rw [hW0]; simp [go_sem]
  have HK := hide (fun V (q : Below W0.heap.size W0 V) => And.intro ((q.cell (p := ⟨w.heap.size, 0, none⟩) (by dsimp only; omega)).trans k0) (And.intro ((q.cell (p := ⟨w.heap.size, 1, none⟩) (by dsimp only; omega)).trans k1) ((q.cell (p := ⟨w.heap.size, 2, none⟩) (by dsimp only; omega)).trans k2)))
  have LL := hide (fun V (q : Below W0.heap.size W0 V) => l.step (HB.out.trans (q.mono HB.out.size)))
  have HR := hide (fun V (q : Below W0.heap.size W0 V) => hr.below (HB.out.trans (q.mono HB.out.size)))
  have CK := hide (fun V (q : Below W0.heap.size W0 V) => Check_any B X a n cap A O V (LL.out V q) (HR.out V q))
  have CZ := hide (fun V (q : Below W0.heap.size W0 V) => (by have := Check_any 0 0 none 0 0 (fun _ => 0) (fun _ => 0) V (LL.out V q) ⟨by omega, fun h => absurd h (by omega)⟩; rwa [chk_none] at this : Calls Tryd.prog 11 #[.agg #[.int .i64 0, .int .i64 0, .slice none 0 0]] V fun e w' => e = .returned (.int .i64 0) ∧ Below V.heap.size V w'))
  have hn63 := hr.1
  have hN63 := hv.1
  have h0q : decide ((N : Int) < 1) = false := by simp; omega
  have h1q : (N : Int) ≤ 12 := by omega
  have h2q : (n : Int) ≤ 100 := by omega
  have h3q : (chkT B X A O n != 0) = true := by simpa using h3
  obtain ⟨cc, hcc⟩ : ∃ c, c = chkT B X A O n := ⟨_, rfl⟩
  rw [← hcc] at CK h3q
  clear hcc h3
  clear hW0 hr l hv k0 k1 k2
  go_enter Tryd.func4, Tryd.ntmps4
  go_upto_region 1 with fail
  rw [← HH.out]
  obtain ⟨k0, k1, k2⟩ := HK.out _ (Below.refl _ _)

  go_wp2_with fail
  with_reducible refine (CK.out _ (Below.refl _ _)).mono ?_
  rintro e w1 ⟨rfl, b1⟩

  go_wp2_with fail
  with_reducible refine (CZ.out _ b1).mono ?_
  rintro e w2 ⟨rfl, b2⟩
  have HF := hide (HB.out.trans ((b1.trans (b2.mono b1.size)).mono HB.out.size))
  clear b1
  clear b2
  go_wp2
  go_ret
  exact ⟨rfl, HF.out⟩
set_option maxRecDepth 100000 in
set_option maxHeartbeats 3200000 in
theorem TopVotes_bad5 (B X : Int) (a : Option Addr) (n cap : Nat) (A O : Nat → Int) (b : Option Addr) (N vcap : Nat) (V : Nat → Int) (u : Int) (w : World) (hr : Ents w a n A O) (hv : IntsAt w b N V) (h1 : 1 ≤ N ∧ N ≤ 12) (h2 : n ≤ 100) (h3 : chkT B X A O n = 0) (h4 : u < -7000000000) (l : Laid w) :
    Calls Tryd.prog 4 #[.agg #[.int .i64 B, .int .i64 X, .slice a n cap], .slice b N vcap, .int .i64 u] w fun e w' => e = .returned (.bool true) ∧ Below w.heap.size w w' := by
  obtain ⟨W0, hW0⟩ : ∃ W0, W0 = w.alloc (.cells #[.int .i64 B, .int .i64 X, .slice a n cap] 24) := ⟨_, rfl⟩
  have HH := hide hW0
  have HB : Hid (Below w.heap.size w W0) := hide (by rw [hW0]; exact (Below.refl _ _).alloc (Nat.le_refl _) _)
  have hz0 : W0.heap.size = w.heap.size + 1 := by rw [hW0]; simp
  have k0 : W0.cell? ⟨w.heap.size, 0, none⟩ = some (.int .i64 B) := by rw [hW0]; simp [go_sem]
  have k1 : W0.cell? ⟨w.heap.size, 1, none⟩ = some (.int .i64 X) := by rw [hW0]; simp [go_sem]
  have k2 : W0.cell? ⟨w.heap.size, 2, none⟩ = some (.slice a n cap) := by rw [hW0]; simp [go_sem]
  have HK := hide (fun V (q : Below W0.heap.size W0 V) => And.intro ((q.cell (p := ⟨w.heap.size, 0, none⟩) (by dsimp only; omega)).trans k0) (And.intro ((q.cell (p := ⟨w.heap.size, 1, none⟩) (by dsimp only; omega)).trans k1) ((q.cell (p := ⟨w.heap.size, 2, none⟩) (by dsimp only; omega)).trans k2)))
  have LL := hide (fun V (q : Below W0.heap.size W0 V) => l.step (HB.out.trans (q.mono HB.out.size)))
  have HR := hide (fun V (q : Below W0.heap.size W0 V) => hr.below (HB.out.trans (q.mono HB.out.size)))
  have CK := hide (fun V (q : Below W0.heap.size W0 V) => Check_any B X a n cap A O V (LL.out V q) (HR.out V q))
  have CZ := hide (fun V (q : Below W0.heap.size W0 V) => (by have := Check_any 0 0 none 0 0 (fun _ => 0) (fun _ => 0) V (LL.out V q) ⟨by omega, fun h => absurd h (by omega)⟩; rwa [chk_none] at this : Calls Tryd.prog 11 #[.agg #[.int .i64 0, .int .i64 0, .slice none 0 0]] V fun e w' => e = .returned (.int .i64 0) ∧ Below V.heap.size V w'))
  have hn63 := hr.1
  have hN63 := hv.1
  have h0q : decide ((N : Int) < 1) = false := by simp; omega
  have h1q : (N : Int) ≤ 12 := by omega
  have h2q : (n : Int) ≤ 100 := by omega
  rw [h3] at CK
  clear h3
  clear hW0 hr l hv k0 k1 k2
  go_enter Tryd.func4, Tryd.ntmps4
  go_upto_region 1 with fail
  rw [← HH.out]
  obtain ⟨k0, k1, k2⟩ := HK.out _ (Below.refl _ _)

  go_wp2_with fail
  with_reducible refine (CK.out _ (Below.refl _ _)).mono ?_
  rintro e w1 ⟨rfl, b1⟩

  go_wp2_with fail
  with_reducible refine (CZ.out _ b1).mono ?_
  rintro e w2 ⟨rfl, b2⟩
  have HF := hide (HB.out.trans ((b1.trans (b2.mono b1.size)).mono HB.out.size))
  clear b1
  clear b2
  go_wp2
  go_ret
  exact ⟨rfl, HF.out⟩
set_option maxRecDepth 100000 in
set_option maxHeartbeats 3200000 in
theorem TopVotes_bad6 (B X : Int) (a : Option Addr) (n cap : Nat) (A O : Nat → Int) (b : Option Addr) (N vcap : Nat) (V : Nat → Int) (u : Int) (w : World) (hr : Ents w a n A O) (hv : IntsAt w b N V) (h1 : 1 ≤ N ∧ N ≤ 12) (h2 : n ≤ 100) (h3 : chkT B X A O n = 0) (h4 : 7000000000 < u) (l : Laid w) :
    Calls Tryd.prog 4 #[.agg #[.int .i64 B, .int .i64 X, .slice a n cap], .slice b N vcap, .int .i64 u] w fun e w' => e = .returned (.bool true) ∧ Below w.heap.size w w' := by
  obtain ⟨W0, hW0⟩ : ∃ W0, W0 = w.alloc (.cells #[.int .i64 B, .int .i64 X, .slice a n cap] 24) := ⟨_, rfl⟩
  have HH := hide hW0
  have HB : Hid (Below w.heap.size w W0) := hide (by rw [hW0]; exact (Below.refl _ _).alloc (Nat.le_refl _) _)
  have hz0 : W0.heap.size = w.heap.size + 1 := by rw [hW0]; simp
  have k0 : W0.cell? ⟨w.heap.size, 0, none⟩ = some (.int .i64 B) := by rw [hW0]; simp [go_sem]
  have k1 : W0.cell? ⟨w.heap.size, 1, none⟩ = some (.int .i64 X) := by rw [hW0]; simp [go_sem]
  have k2 : W0.cell? ⟨w.heap.size, 2, none⟩ = some (.slice a n cap) := by rw [hW0]; simp [go_sem]
  have HK := hide (fun V (q : Below W0.heap.size W0 V) => And.intro ((q.cell (p := ⟨w.heap.size, 0, none⟩) (by dsimp only; omega)).trans k0) (And.intro ((q.cell (p := ⟨w.heap.size, 1, none⟩) (by dsimp only; omega)).trans k1) ((q.cell (p := ⟨w.heap.size, 2, none⟩) (by dsimp only; omega)).trans k2)))
  have LL := hide (fun V (q : Below W0.heap.size W0 V) => l.step (HB.out.trans (q.mono HB.out.size)))
  have HR := hide (fun V (q : Below W0.heap.size W0 V) => hr.below (HB.out.trans (q.mono HB.out.size)))
  have CK := hide (fun V (q : Below W0.heap.size W0 V) => Check_any B X a n cap A O V (LL.out V q) (HR.out V q))
  have CZ := hide (fun V (q : Below W0.heap.size W0 V) => (by have := Check_any 0 0 none 0 0 (fun _ => 0) (fun _ => 0) V (LL.out V q) ⟨by omega, fun h => absurd h (by omega)⟩; rwa [chk_none] at this : Calls Tryd.prog 11 #[.agg #[.int .i64 0, .int .i64 0, .slice none 0 0]] V fun e w' => e = .returned (.int .i64 0) ∧ Below V.heap.size V w'))
  have hn63 := hr.1
  have hN63 := hv.1
  have h0q : decide ((N : Int) < 1) = false := by simp; omega
  have h1q : (N : Int) ≤ 12 := by omega
  have h2q : (n : Int) ≤ 100 := by omega
  rw [h3] at CK
  clear h3
  have h5 : decide (u < -7000000000) = false := by simp; omega
  clear hW0 hr l hv k0 k1 k2
  go_enter Tryd.func4, Tryd.ntmps4
  go_upto_region 1 with fail
  rw [← HH.out]
  obtain ⟨k0, k1, k2⟩ := HK.out _ (Below.refl _ _)

  go_wp2_with fail
  with_reducible refine (CK.out _ (Below.refl _ _)).mono ?_
  rintro e w1 ⟨rfl, b1⟩

  go_wp2_with fail
  with_reducible refine (CZ.out _ b1).mono ?_
  rintro e w2 ⟨rfl, b2⟩
  have HF := hide (HB.out.trans ((b1.trans (b2.mono b1.size)).mono HB.out.size))
  clear b1
  clear b2
  go_wp2
  go_ret
  exact ⟨rfl, HF.out⟩
set_option maxRecDepth 100000 in
set_option maxHeartbeats 25600000 in
theorem TopVotes_main (B X : Int) (a : Option Addr) (n cap : Nat) (A O : Nat → Int) (b : Option Addr) (N vcap : Nat) (V : Nat → Int) (u : Int) (w : World) (hr : Ents w a n A O) (hv : IntsAt w b N V) (h1 : 1 ≤ N ∧ N ≤ 12) (h2 : n ≤ 100) (h3 : chkT B X A O n = 0) (h4 : -7000000000 ≤ u ∧ u ≤ 7000000000) (l : Laid w) :
    Calls Tryd.prog 4 #[.agg #[.int .i64 B, .int .i64 X, .slice a n cap], .slice b N vcap, .int .i64 u] w fun e w' => e = .returned (.bool true) ∧ Below w.heap.size w w' := by
  obtain ⟨W0, hW0⟩ : ∃ W0, W0 = w.alloc (.cells #[.int .i64 B, .int .i64 X, .slice a n cap] 24) := ⟨_, rfl⟩
  have HH := hide hW0
  have HB : Hid (Below w.heap.size w W0) := hide (by rw [hW0]; exact (Below.refl _ _).alloc (Nat.le_refl _) _)
  have hz0 : W0.heap.size = w.heap.size + 1 := by rw [hW0]; simp
  have k0 : W0.cell? ⟨w.heap.size, 0, none⟩ = some (.int .i64 B) := by rw [hW0]; simp [go_sem]
  have k1 : W0.cell? ⟨w.heap.size, 1, none⟩ = some (.int .i64 X) := by rw [hW0]; simp [go_sem]
  have k2 : W0.cell? ⟨w.heap.size, 2, none⟩ = some (.slice a n cap) := by rw [hW0]; simp [go_sem]
  have HK := hide (fun V (q : Below W0.heap.size W0 V) => And.intro ((q.cell (p := ⟨w.heap.size, 0, none⟩) (by dsimp only; omega)).trans k0) (And.intro ((q.cell (p := ⟨w.heap.size, 1, none⟩) (by dsimp only; omega)).trans k1) ((q.cell (p := ⟨w.heap.size, 2, none⟩) (by dsimp only; omega)).trans k2)))
  have LL := hide (fun V (q : Below W0.heap.size W0 V) => l.step (HB.out.trans (q.mono HB.out.size)))
  have HR := hide (fun V (q : Below W0.heap.size W0 V) => hr.below (HB.out.trans (q.mono HB.out.size)))
  have CK := hide (fun V (q : Below W0.heap.size W0 V) => Check_any B X a n cap A O V (LL.out V q) (HR.out V q))
  have CZ := hide (fun V (q : Below W0.heap.size W0 V) => (by have := Check_any 0 0 none 0 0 (fun _ => 0) (fun _ => 0) V (LL.out V q) ⟨by omega, fun h => absurd h (by omega)⟩; rwa [chk_none] at this : Calls Tryd.prog 11 #[.agg #[.int .i64 0, .int .i64 0, .slice none 0 0]] V fun e w' => e = .returned (.int .i64 0) ∧ Below V.heap.size V w'))
  have hn63 := hr.1
  have hN63 := hv.1
  have h0q : decide ((N : Int) < 1) = false := by simp; omega
  have h1q : (N : Int) ≤ 12 := by omega
  have h2q : (n : Int) ≤ 100 := by omega
  obtain ⟨u1, u2⟩ := h4
  have h0n : 1 ≤ (N : Int) := by omega
  have C1 := hide (fun W => PNew_ok (N : Int) W (by omega) (by omega))
  have HI0 := hide (Inv.new (n := (N : Int)) (by omega) (by omega))
  have HC := hide h3
  have HV := hide hv
  have HU : Hid (-8000000000 ≤ u ∧ u ≤ 8000000000) := hide (by omega)
  have hls := l.lt
  rw [h3] at CK
  clear hW0 hr l hv k0 k1 k2 h3
  go_enter Tryd.func4, Tryd.ntmps4
  go_upto_region 1 with fail
  rw [← HH.out]
  obtain ⟨k0, k1, k2⟩ := HK.out _ (Below.refl _ _)
  go_wp2_with fail
  with_reducible refine (CK.out _ (Below.refl _ _)).mono ?_
  rintro e w1 ⟨rfl, b1⟩
  have HB1 := hide b1
  clear b1 k0 k1 k2
  go_wp2_with fail
  refine (C1.out _).mono ?_
  rintro e W1 ⟨g, rfl, hg, hp, b2⟩
  have hgl := hp.lt
  have hs1 := HB1.out.size
  have HBW := hide (HB1.out.trans (b2.mono HB1.out.size))
  have HP := hide hp
  clear hp b2 C1
  go_wp2_with fail
  go_loopw [60] (fun i wr => ∃ (j : Nat) (s : Vt), j ≤ N ∧ i = .int .i64 (j : Int) ∧ W1.grownBy wr (some g) ∧ PAt wr g s ∧ Md s N V u j ∧ Inv s) (fun i _ => N - (intOf i).toNat)
  case atStart => exact ⟨0, .new N, by omega, rfl, World.grownBy.refl _ _, HP.out, Md.new _ _ _, HI0.out⟩
  case round =>
    clear HP HI0
    obtain ⟨j, s, hj, rfl, hgr, hp, hmd, hi⟩ := hrel
    have hbr : Below W0.heap.size W0 wr := below_only HBW.out hgr HBW.out.size (by omega)
    by_cases hlt : j < N
    · obtain ⟨vb, voff, rfl, hvl, hc⟩ := HV.out.2 (by omega)
      have c0 := (hbr.cell (p := ⟨vb, voff + j, none⟩) (by dsimp only; have := HB.out.size; omega)).trans ((HB.out.cell (p := ⟨vb, voff + j, none⟩) hvl).trans (hc j hlt))
      have hlt2 : (j : Int) < (N : Int) := by omega
      obtain ⟨x, hx⟩ : ∃ x, x = V j := ⟨_, rfl⟩
      rw [← hx] at c0
      by_cases hlo : x < 0 ∨ 3 < x
      · have HF := hide (HB.out.trans (hbr.mono HB.out.size))
        clear hgr hp hmd hi hbr hx hc
        rcases hlo with h | h
        all_goals
          go_wp2
          go_ret
          exact ⟨rfl, HF.out⟩
      · have x1 : 0 ≤ x := by omega
        have x2 : x ≤ 3 := by omega
        obtain ⟨e1, hmd2⟩ := hmd.next (i := j) (by omega) (by rw [← hx]; omega) HU.out
        have F1 := PVote_any s g (j : Int) (V j) u wr hp hi
        rw [e1] at F1
        have hi2 := hi.next (j : Int) (V j) u
        rw [← hx] at F1 hi2 hmd2
        have HF := hide F1
        have HMD := hide hmd2
        have HI := hide hi2
        have HG := hide hgr
        clear F1 hmd2 hi2 hmd hi hp e1 hx hgr hbr hc hlo
        go_wp2_with fail
        refine HF.out.mono ?_
        rintro e w2 ⟨rfl, g2, p2⟩
        have HG2 := hide (grown2 HG.out g2)
        have HP2 := hide p2
        clear g2 p2
        go_wp2
        go_roundw
        case rel => exact ⟨j + 1, _, by omega, by go_num, HG2.out, HP2.out, HMD.out, HI.out⟩
        case measure => (simp [intOf]) <;> omega
    · obtain rfl : j = N := by omega
      have hdec := want_dec hmd hi HU.out
      have HD := hide hdec
      have HBR := hide hbr
      have HP := hide hp
      have HI := hide hi
      have hcwb := hide (fun k i => cw_bd V k i)
      clear hgr hp hmd hi hbr hdec
      go_wp2_with fail
      obtain ⟨W2, hW2⟩ : ∃ W2, W2 = wr := ⟨_, rfl⟩
      rw [← hW2] at HBR HP ⊢
      clear hW2
      go_loopw [10, 78] (fun y i wx => ∃ k : Nat, k ≤ 3 ∧ i = .int .i64 (k : Int) ∧ y = .int .i64 (wantW V j k) ∧ wx = W2) (fun _ i _ => 3 - (intOf i).toNat)
      case atStart => exact ⟨0, by omega, rfl, rfl, rfl⟩
      case round =>
        obtain ⟨k, hk, rfl, rfl, rfl⟩ := hrel
        by_cases hk3 : k < 3
        · have hk3q : (k : Int) < 3 := by omega
          go_wp2_with fail
          go_loopw [12, 83] (fun y i wx => ∃ i' : Nat, i' ≤ j ∧ i = .int .i64 (i' : Int) ∧ y = .int .i64 (cw V (k : Int) i') ∧ wx = wr) (fun _ i _ => j - (intOf i).toNat)
          case atStart => exact ⟨0, by omega, rfl, rfl, rfl⟩
          case round =>
            obtain ⟨i', hi', rfl, rfl, rfl⟩ := hrel
            obtain ⟨cb1, cb2⟩ := hcwb.out (k : Int) i'
            have hk12 : (i' : Int) ≤ 12 := by omega
            by_cases hlt : i' < j
            · obtain ⟨vb, voff, rfl, hvl, hc⟩ := HV.out.2 (by omega)
              have c0 := (HBR.out.cell (p := ⟨vb, voff + i', none⟩) (by dsimp only; have := HB.out.size; omega)).trans ((HB.out.cell (p := ⟨vb, voff + i', none⟩) hvl).trans (hc i' hlt))
              have hltq : (i' : Int) < (j : Int) := by omega
              have ecw : cw V (k : Int) (i' + 1) = cw V (k : Int) i' + if V i' = (k : Int) then 1 else 0 := rfl
              obtain ⟨x, hx⟩ : ∃ x, x = V i' := ⟨_, rfl⟩
              rw [← hx] at c0 ecw
              have HE := hide ecw
              clear ecw hx hc
              generalize cw V (k : Int) i' = cc at *
              by_cases hxk : x = (k : Int)
              · subst hxk
                go_wp2
                go_roundw
                case rel => exact ⟨i' + 1, by omega, by go_num, by rw [HE.out, if_pos rfl], by first | rfl | trivial⟩
                case measure => (simp [intOf]) <;> omega
              · have hxq : (x == (k : Int)) = false := by simpa using hxk
                have HXK := hide hxk
                clear hxk
                go_wp2
                go_roundw
                case rel => exact ⟨i' + 1, by omega, by go_num, by rw [HE.out, if_neg HXK.out, Int.add_zero], by first | rfl | trivial⟩
                case measure => (simp [intOf]) <;> omega
            · obtain rfl : i' = j := by omega
              have ew : wantW V i' (k + 1) = if (i' : Int) < 2 * cw V (k : Int) i' then (k : Int) else wantW V i' k := rfl
              have HE := hide ew
              clear ew
              generalize cw V (k : Int) i' = cc at *
              have w2c : wrap64 (2 * cc) = 2 * cc := IntWalk.wrap64_in _ (by omega)
              by_cases hmaj : (i' : Int) < 2 * cc
              · have HM := hide hmaj
                go_wp2
                go_roundw
                case rel => exact ⟨k + 1, by omega, by go_num, by rw [HE.out, if_pos HM.out], by first | rfl | trivial⟩
                case measure => (simp [intOf]) <;> omega
              · have hm2 : 2 * cc ≤ (i' : Int) := by omega
                have HM := hide hmaj
                clear hmaj
                go_wp2
                go_roundw
                case rel => exact ⟨k + 1, by omega, by go_num, by rw [HE.out, if_neg HM.out], by first | rfl | trivial⟩
                case measure => (simp [intOf]) <;> omega
        · obtain rfl : k = 3 := by omega
          clear hcwb
          obtain ⟨dd, hdd⟩ : ∃ d, d = wantW V j 3 := ⟨_, rfl⟩
          have hd4 := dec_four s u
          have D1 := hide (fun W (q : Below wr.heap.size wr W) => Decision_any s g u W (HP.out.step q) HI.out)
          have CA := hide (fun W (q : Below wr.heap.size wr W) => Arm_any s g u W (LL.out _ (HBR.out.trans (q.mono HBR.out.size))) (HP.out.step q) HI.out)
          have HARM := hide (And.intro (arm_no (s := s) (u := u)) (And.intro (arm_bd (s := s) (u := u)) (arm_yes (s := s) (u := u))))
          have HBEG : Hid (armB s u = true → begB (armA s u) = true) := hide (fun q => by
            obtain ⟨_, q2, _⟩ := arm_bd q
            have nb : nxB u = true := nx_ok7 (by omega)
            rw [(arm_yes q2 nb).1]
            exact nx_beg nb)
          have HNB : Hid (nxB u = true) := hide (nx_ok7 (by omega))
          rw [HD.out, ← hdd] at D1 HARM hd4
          rw [← hdd]
          obtain ⟨ea, hea⟩ : ∃ x, x = armA s u := ⟨_, rfl⟩
          obtain ⟨ef, hef⟩ : ∃ x, x = armO s u := ⟨_, rfl⟩
          obtain ⟨ab, hab⟩ : ∃ x, x = armB s u := ⟨_, rfl⟩
          rw [← hea, ← hef, ← hab] at HARM CA
          rw [← hea, ← hab] at HBEG
          have hbx : Below wr.heap.size wr wr := Below.refl _ _
          clear hdd hea hef hab HD HP HI
          rcases hd4 with hd | hd | hd | hd
          all_goals subst hd
          · obtain ⟨rfl, rfl, rfl⟩ := HARM.out.1 (.inl (by omega))
            go_wp2_with fail
            with_reducible refine (D1.out _ hbx).mono ?_
            rintro e w4 ⟨rfl, b4⟩
            go_wp2_with fail
            with_reducible refine (CA.out _ b4).mono ?_
            rintro e w5 ⟨rfl, b5⟩
            have HF := hide (HB.out.trans ((HBR.out.trans ((b4.trans (b5.mono b4.size)).mono HBR.out.size)).mono HB.out.size))
            clear b4 b5 hbx
            go_wp2
            go_ret
            exact ⟨rfl, by first | exact HF.out | exact HF.out.alloc HF.out.size _⟩
          · obtain ⟨hq0, ho, hab⟩ := HARM.out.2.2 (by omega) HNB.out
            subst hab
            obtain ⟨hq1, hq2, hq3, ha1, ha2⟩ := HARM.out.2.1 rfl
            clear hq0 hq1 hq2 hq3
            have ho2 : ef = (1) := ho.trans (by decide)
            clear ho
            subst ho2
            have HBG := hide (HBEG.out rfl)
            clear HARM HBEG
            clear hbx
            have hbx : Below wr.heap.size wr wr := Below.refl _ _
            have hea1 : decide (ea ≤ u) = false := by simp; omega
            have T := chkT_ok HC.out
            have zb : -1000 ≤ offC B X A O n (ea - 1) ∧ offC B X A O n (ea - 1) ≤ 1000 := by
              unfold offC
              rw [if_pos HC.out]
              exact offP_bd T.b T.o (plc_le _ _ _)
            obtain ⟨eb1, eb2⟩ := beg_bd HBG.out
            by_cases hE : extE B X A O n ea (1) = 0
            · have E := extE_ok hE
              have xB : eB B X A O n ea (1) = B := by unfold eB; rw [if_pos hE]
              have xX : eX B X A O n ea (1) = max X (ea + 1) := by unfold eX; rw [if_pos hE]
              have xN : eN B X A O n ea (1) = n + 1 := by unfold eN; rw [if_pos hE]
              have CE := fun W (q : Below W0.heap.size W0 W) => PExt_any B X a n cap A O ea (1) W (LL.out _ q) (HR.out _ q)
              unfold ExtAny at CE
              rw [xB, xX, xN, hE] at CE
              have CX := fun W (q : Below W0.heap.size W0 W) => extendError_any B X a n cap A O ea (1) W (HR.out _ q) HC.out HBG.out (by decide)
              rw [hE] at CX
              obtain ⟨_, hday, hmod⟩ := beg_elim HBG.out
              have CF := fun W (q : Below W0.heap.size W0 W) => Of_ok ea W (LL.out _ q) (by omega)
              unfold ofV at CF
              rw [hday, hmod] at CF
              obtain ⟨yy, hyy⟩ : ∃ x, x = (dateOf (ea / 86400)).1 := ⟨_, rfl⟩
              obtain ⟨mm, hmm⟩ : ∃ x, x = (dateOf (ea / 86400)).2.1 := ⟨_, rfl⟩
              rw [← hyy, ← hmm] at CF
              rw [show (0 : Int) / 3600 = 0 from rfl, show (0 : Int) / 60 % 60 = 0 from rfl, show (0 : Int) % 60 = 0 from rfl] at CF
              have CK2 := fun W p c (h : Ents W p (n + 1) (upd A n ea) (upd O n (oldO B O n + (1)))) (q : Laid W) => Check_any B (max X (ea + 1)) p (n + 1) c (upd A n ea) (upd O n (oldO B O n + (1))) W q h
              rw [E.check] at CK2
              have CO := fun W p c (h : Ents W p (n + 1) (upd A n ea) (upd O n (oldO B O n + (1)))) (q : Laid W) v => Offset_any B (max X (ea + 1)) p (n + 1) c (upd A n ea) (upd O n (oldO B O n + (1))) v W q h
              have CO1 := fun W p c h q => CO W p c h q (ea - 1)
              have CO2 := fun W p c h q => CO W p c h q ea
              rw [off_before E (by omega)] at CO1
              rw [off_after E] at CO2
              have hnb : nxB (ea - 1) = true := nx_ok7 (by omega)
              have hnp : nxV (ea - 1) = ea := nx_prev HBG.out hnb
              have hlst : upd A n ea n = ea := upd_at _ _ _
              have CI := fun W p c (h : Ents W p (n + 1) (upd A n ea) (upd O n (oldO B O n + (1)))) (q : Laid W) => Indicator_any B (max X (ea + 1)) p (n + 1) c (upd A n ea) (upd O n (oldO B O n + (1))) (ea - 1) 1 (by decide) W q h E.check (by omega) hnb
                (by rw [hnp]; intro z; exact absurd hlst (z n (by omega)))
                (by
                  rw [hnp]
                  intro j hj hA
                  by_cases hjn : j = n
                  · subst hjn
                    rw [upd_at, oldO_upd (Nat.le_refl _)]
                    omega
                  · have := new_gap E (j := j) (by omega)
                    omega)
              have CT1 := fun W p c (h : Ents W p (n + 1) (upd A n ea) (upd O n (oldO B O n + (1)))) (q : Laid W) => (TAI_any B (max X (ea + 1)) p (n + 1) c (upd A n ea) (upd O n (oldO B O n + (1))) ea 0 false W q h E.check (by omega) (fun _ => rfl)
                (by
                  intro j hj hA
                  by_cases hjn : j = n
                  · subst hjn; rw [upd_at] at hA; omega
                  · have := new_gap E (j := j) (by omega)
                    omega) (fun z => by cases z) (fun _ => by decide)).mono (R' := fun e w' => e = .returned (.tuple #[.int .i64 (ea + (offC B X A O n (ea - 1) + (1))), .int .i64 0]) ∧ Below W.heap.size W w') (fun e w' z => ⟨z.1.trans (by rw [off_is E, off_after E]; simp), z.2⟩)
              have CT2 := fun W p c (h : Ents W p (n + 1) (upd A n ea) (upd O n (oldO B O n + (1)))) (q : Laid W) => (TAI_any B (max X (ea + 1)) p (n + 1) c (upd A n ea) (upd O n (oldO B O n + (1))) (ea - 2) 0 false W q h E.check (by omega) (fun _ => rfl)
                (by
                  intro j hj hA
                  by_cases hjn : j = n
                  · subst hjn; rw [upd_at] at hA; omega
                  · have := new_gap E (j := j) (by omega)
                    omega) (fun z => by cases z) (fun _ => by decide)).mono (R' := fun e w' => e = .returned (.tuple #[.int .i64 (ea - 2 + offC B X A O n (ea - 1)), .int .i64 0]) ∧ Below W.heap.size W w') (fun e w' z => ⟨z.1.trans (by rw [off_is E, off_before E (by omega), off_two E]; simp), z.2⟩)
              obtain ⟨M, hM⟩ : ∃ M, M = max X (ea + 1) := ⟨_, rfl⟩
              have hMe : ea < M := by omega
              rw [← hM] at CE CK2 CO1 CO2 CI CT1 CT2
              obtain ⟨z, hz⟩ : ∃ z, z = offC B X A O n (ea - 1) := ⟨_, rfl⟩
              rw [← hz] at CO1 CO2 CT1 CT2 zb
              obtain ⟨zb1, zb2⟩ := zb
              obtain ⟨tf, htf⟩ : ∃ x, x = ea + (z + (1)) := ⟨_, rfl⟩
              obtain ⟨tl, htl⟩ : ∃ x, x = ea - 2 + z := ⟨_, rfl⟩
              rw [← htf] at CT1
              rw [← htl] at CT2
              have v1 : wrap64 (ea - 1) = ea - 1 := IntWalk.wrap64_in _ (by omega)
              have v2 : wrap64 (ea - 2) = ea - 2 := IntWalk.wrap64_in _ (by omega)
              have v6 : (z + (1) - z != (1)) = false := by rw [bne_eq_false_iff_eq]; omega
              have v7 : (tf - tl == (3)) = true := by rw [beq_iff_eq]; omega
              have tb1 : -8000002000 ≤ tf ∧ tf ≤ 8000002000 := by omega
              have tb2 : -8000002000 ≤ tl ∧ tl ≤ 8000002000 := by omega
              obtain ⟨tb3, tb4⟩ := tb1
              obtain ⟨tb5, tb6⟩ := tb2
              have HCE := hide CE
              have HCX := hide CX
              have HCF := hide CF
              have HCK2 := hide CK2
              have HO1 := hide CO1
              have HO2 := hide CO2
              have HCI := hide CI
              have HT1 := hide CT1
              have HT2 := hide CT2
              clear CE CX CF CK2 CO CO1 CO2 CI CT1 CT2 hE E xB xX xN hday hmod hyy hmm hnb hnp hlst hM hz htf htl T
              go_wp2_with fail
              with_reducible refine (D1.out _ hbx).mono ?_
              rintro e w4 ⟨rfl, b4⟩
              go_wp2_with fail
              with_reducible refine (CA.out _ b4).mono ?_
              rintro e w5 ⟨rfl, b5⟩
              have q5 := HBR.out.trans ((b4.trans (b5.mono b4.size)).mono HBR.out.size)
              obtain ⟨k0, k1, k2⟩ := HK.out _ q5
              have s5 := q5.size
              have z5 : w.heap.size < w5.heap.size := by omega
              have q6 : Below W0.heap.size W0 (w5.alloc (.cells #[.int .i64 ea, .int .i64 (1)] 44)) := q5.alloc s5 _
              clear b4 b5 q5 D1 CA
              go_wp2_with fail
              with_reducible refine (HCE.out _ q6).mono ?_
              rintro e w7 ⟨⟨p, c, rfl, he⟩, b7⟩
              clear k0 k1 k2
              have q7 := q6.trans (b7.mono q6.size)
              obtain ⟨k0, k1, k2⟩ := HK.out _ q7
              have s7 := q7.size
              have s57 := b7.size
              have z57 : w5.heap.size < w7.heap.size := by simp at s57; omega
              have z7 : w.heap.size < w7.heap.size := by omega
              have f0 : w7.cell? ⟨w5.heap.size, 0, none⟩ = some (.int .i64 ea) := (b7.cell (p := ⟨w5.heap.size, 0, none⟩) (by simp)).trans (by simp [go_sem])
              have f1 : w7.cell? ⟨w5.heap.size, 1, none⟩ = some (.int .i64 (1)) := (b7.cell (p := ⟨w5.heap.size, 1, none⟩) (by simp)).trans (by simp [go_sem])
              have q8 : Below W0.heap.size W0 (w7.alloc (.cells #[.int .i64 B, .int .i64 M, .slice p (n + 1) c] 24)) := q7.alloc s7 _
              have HE7 := hide he
              clear b7 q6 q7 s57 HCE he
              go_wp2_with fail
              with_reducible refine (HCX.out _ q8).mono ?_
              rintro e w9 ⟨rfl, b9⟩
              have q9 := q8.trans (b9.mono q8.size)
              have s9 := b9.size
              have z79 : w7.heap.size < w9.heap.size := by simp at s9; omega
              have t0 : w9.cell? ⟨w7.heap.size, 0, none⟩ = some (.int .i64 B) := (b9.cell (p := ⟨w7.heap.size, 0, none⟩) (by simp)).trans (by simp [go_sem])
              have t1 : w9.cell? ⟨w7.heap.size, 1, none⟩ = some (.int .i64 M) := (b9.cell (p := ⟨w7.heap.size, 1, none⟩) (by simp)).trans (by simp [go_sem])
              have t2 : w9.cell? ⟨w7.heap.size, 2, none⟩ = some (.slice p (n + 1) c) := (b9.cell (p := ⟨w7.heap.size, 2, none⟩) (by simp)).trans (by simp [go_sem])
              have a79 : Below w7.heap.size w7 w9 := ((Below.refl w7.heap.size w7).alloc (Nat.le_refl _) _).trans (b9.mono (by simp))
              have f0 := (a79.cell (p := ⟨w5.heap.size, 0, none⟩) z57).trans f0
              have f1 := (a79.cell (p := ⟨w5.heap.size, 1, none⟩) z57).trans f1
              have HE9 := hide (HE7.out.below a79)
              clear b9 q8 s9 a79 HCX k0 k1 k2 HE7
              go_wp2_with fail
              with_reducible refine (HCF.out _ q9).mono ?_
              rintro e w10 ⟨rfl, b10⟩
              have s10 := b10.size
              have s9w := q9.size
              have z710 : w7.heap.size < w10.heap.size := by omega
              have z510 : w5.heap.size < w10.heap.size := by omega
              obtain ⟨W11, hW11⟩ : ∃ W, W = w10.alloc (.cells #[.int .i64 yy, .int .i64 (mm : Int), .int .i64 1, .int .i64 0, .int .i64 0, .int .i64 0, .int .i64 0] 51) := ⟨_, rfl⟩
              have z11 : W11.heap.size = w10.heap.size + 1 := by rw [hW11]; simp
              have a11 : Below w9.heap.size w9 W11 := by rw [hW11]; exact b10.alloc s10 _
              have c2 : W11.cell? ⟨w10.heap.size, 2, none⟩ = some (.int .i64 1) := by rw [hW11]; simp [go_sem]
              have c3 : W11.cell? ⟨w10.heap.size, 3, none⟩ = some (.int .i64 0) := by rw [hW11]; simp [go_sem]
              have c4 : W11.cell? ⟨w10.heap.size, 4, none⟩ = some (.int .i64 0) := by rw [hW11]; simp [go_sem]
              have c5 : W11.cell? ⟨w10.heap.size, 5, none⟩ = some (.int .i64 0) := by rw [hW11]; simp [go_sem]
              have t0 := (a11.cell (p := ⟨w7.heap.size, 0, none⟩) z79).trans t0
              have t1 := (a11.cell (p := ⟨w7.heap.size, 1, none⟩) z79).trans t1
              have t2 := (a11.cell (p := ⟨w7.heap.size, 2, none⟩) z79).trans t2
              have z59 : w5.heap.size < w9.heap.size := by omega
              have f0 := (a11.cell (p := ⟨w5.heap.size, 0, none⟩) z59).trans f0
              have f1 := (a11.cell (p := ⟨w5.heap.size, 1, none⟩) z59).trans f1
              have q11 : Below W0.heap.size W0 W11 := q9.trans (a11.mono q9.size)
              have HE11 := hide (HE9.out.below a11)
              have HL11 := hide (fun V (q : Below W11.heap.size W11 V) => LL.out V (q11.trans (q.mono q11.size)))
              have HKK := hide (fun V (q : Below W11.heap.size W11 V) => And.intro ((q.cell (p := ⟨w10.heap.size, 2, none⟩) (by dsimp only; omega)).trans c2) (And.intro ((q.cell (p := ⟨w10.heap.size, 3, none⟩) (by dsimp only; omega)).trans c3) (And.intro ((q.cell (p := ⟨w10.heap.size, 4, none⟩) (by dsimp only; omega)).trans c4) (And.intro ((q.cell (p := ⟨w10.heap.size, 5, none⟩) (by dsimp only; omega)).trans c5) (And.intro ((q.cell (p := ⟨w7.heap.size, 0, none⟩) (by dsimp only; omega)).trans t0) (And.intro ((q.cell (p := ⟨w7.heap.size, 1, none⟩) (by dsimp only; omega)).trans t1) (And.intro ((q.cell (p := ⟨w7.heap.size, 2, none⟩) (by dsimp only; omega)).trans t2) (And.intro ((q.cell (p := ⟨w5.heap.size, 0, none⟩) (by dsimp only; omega)).trans f0) (And.intro ((q.cell (p := ⟨w5.heap.size, 1, none⟩) (by dsimp only; omega)).trans f1) (q))))))))))
              have P1 := hide (based (Nat.le_refl _) fun V (q : Below W11.heap.size W11 V) => HCK2.out V p c (HE11.out.below q) (HL11.out V q))
              have O1 := hide (based (Nat.le_refl _) fun V (q : Below W11.heap.size W11 V) => HO1.out V p c (HE11.out.below q) (HL11.out V q))
              have O2 := hide (based (Nat.le_refl _) fun V (q : Below W11.heap.size W11 V) => HO2.out V p c (HE11.out.below q) (HL11.out V q))
              have PI := hide (based (Nat.le_refl _) fun V (q : Below W11.heap.size W11 V) => HCI.out V p c (HE11.out.below q) (HL11.out V q))
              have PT1 := hide (based (Nat.le_refl _) fun V (q : Below W11.heap.size W11 V) => HT1.out V p c (HE11.out.below q) (HL11.out V q))
              have PT2 := hide (based (Nat.le_refl _) fun V (q : Below W11.heap.size W11 V) => HT2.out V p c (HE11.out.below q) (HL11.out V q))
              have HQ11 := hide q11
              have H11 := hide hW11
              clear hbx
              have hbx : Below W11.heap.size W11 W11 := Below.refl _ _
              clear b10 q9 a11 q11 hW11 c2 c3 c4 c5 t0 t1 t2 f0 f1 HCF HCK2 HO1 HO2 HCI HT1 HT2 HE9
              go_wp2_with fail
              rw [← H11.out]
              have hne := lt_some W11
              have y0 := fun V : Lt W11 => (HKK.out _ V.h).1
              have y1 := fun V : Lt W11 => (HKK.out _ V.h).2.1
              have y2 := fun V : Lt W11 => (HKK.out _ V.h).2.2.1
              have y3 := fun V : Lt W11 => (HKK.out _ V.h).2.2.2.1
              have y4 := fun V : Lt W11 => (HKK.out _ V.h).2.2.2.2.1
              have y5 := fun V : Lt W11 => (HKK.out _ V.h).2.2.2.2.2.1
              have y6 := fun V : Lt W11 => (HKK.out _ V.h).2.2.2.2.2.2.1
              have y7 := fun V : Lt W11 => (HKK.out _ V.h).2.2.2.2.2.2.2.1
              have y8 := fun V : Lt W11 => (HKK.out _ V.h).2.2.2.2.2.2.2.2.1
              refine region_lt W11 (by kernel_rfl) (by kernel_rfl) (by assumption) ?_
              repeat (first | go_big_quiet_step (first | (go_at_call 11; with_reducible exact call_lt (P1.out _ (Lt.h _))) | (go_at_call 19; with_reducible exact call_lt (O1.out _ (Lt.h _))) | (go_at_call 19; with_reducible exact call_lt (O2.out _ (Lt.h _)))) | quiet_step (first | (go_at_call 11; with_reducible exact call_lt (P1.out _ (Lt.h _))) | (go_at_call 19; with_reducible exact call_lt (O1.out _ (Lt.h _))) | (go_at_call 19; with_reducible exact call_lt (O2.out _ (Lt.h _)))))
              refine wpQuiet_nil ?_
              intro _ hw'
              obtain ⟨V9, rfl⟩ := hw'
              have bV := V9.h
              obtain ⟨W12, hW12⟩ : ∃ W7, W7 = V9.w := ⟨_, rfl⟩
              rw [← hW12] at bV ⊢
              clear hW12 V9 hne hbx y0 y1 y2 y3 y4 y5 y6 y7 y8
              obtain ⟨c2, c3, c4, c5, t0, t1, t2, f0, f1, _⟩ := HKK.out _ bV
              go_wp2_with fail
              with_reducible refine (PI.out _ bV).mono ?_
              rintro e w13 ⟨rfl, b13⟩
              clear c2 c3 c4 c5 t0 t1 t2 f0 f1 bV
              obtain ⟨c2, c3, c4, c5, t0, t1, t2, f0, f1, _⟩ := HKK.out _ b13
              go_wp2_with fail
              with_reducible refine (PT1.out _ b13).mono ?_
              rintro e w14 ⟨rfl, b14⟩
              clear c2 c3 c4 c5 t0 t1 t2 f0 f1 b13
              obtain ⟨c2, c3, c4, c5, t0, t1, t2, f0, f1, _⟩ := HKK.out _ b14
              go_wp2_with fail
              with_reducible refine (PT2.out _ b14).mono ?_
              rintro e w15 ⟨rfl, b15⟩
              clear c2 c3 c4 c5 t0 t1 t2 f0 f1 b14
              obtain ⟨c2, c3, c4, c5, t0, t1, t2, f0, f1, _⟩ := HKK.out _ b15
              have HF := hide (HB.out.trans ((HQ11.out.trans (b15.mono HQ11.out.size)).mono HB.out.size))
              clear b15
              go_wp2
              go_ret
              exact ⟨rfl, HF.out⟩
            · have hE2 : (extE B X A O n ea (1) != 0) = true := by simpa using hE
              have CE := fun W (q : Below W0.heap.size W0 W) => PExt_any B X a n cap A O ea (1) W (LL.out _ q) (HR.out _ q)
              unfold ExtAny at CE
              have CX := fun W (q : Below W0.heap.size W0 W) => extendError_any B X a n cap A O ea (1) W (HR.out _ q) HC.out HBG.out (by decide)
              obtain ⟨v, hv⟩ : ∃ v, v = extE B X A O n ea (1) := ⟨_, rfl⟩
              rw [← hv] at CE CX hE2
              generalize eB B X A O n ea (1) = B' at CE
              generalize eX B X A O n ea (1) = X' at CE
              generalize eN B X A O n ea (1) = n' at CE
              have HCE := hide CE
              have HCX := hide CX
              clear CE CX hv hE zb T
              go_wp2_with fail
              with_reducible refine (D1.out _ hbx).mono ?_
              rintro e w4 ⟨rfl, b4⟩
              go_wp2_with fail
              with_reducible refine (CA.out _ b4).mono ?_
              rintro e w5 ⟨rfl, b5⟩
              have q5 := HBR.out.trans ((b4.trans (b5.mono b4.size)).mono HBR.out.size)
              obtain ⟨k0, k1, k2⟩ := HK.out _ q5
              have s5 := q5.size
              have z5 : w.heap.size < w5.heap.size := by omega
              have q6 : Below W0.heap.size W0 (w5.alloc (.cells #[.int .i64 ea, .int .i64 (1)] 44)) := q5.alloc s5 _
              clear b4 b5 q5 D1 CA
              go_wp2_with fail
              with_reducible refine (HCE.out _ q6).mono ?_
              rintro e w7 ⟨⟨p, c, rfl, he⟩, b7⟩
              clear k0 k1 k2
              have q7 := q6.trans (b7.mono q6.size)
              obtain ⟨k0, k1, k2⟩ := HK.out _ q7
              have s7 := q7.size
              have s57 := b7.size
              have z57 : w5.heap.size < w7.heap.size := by simp at s57; omega
              have z7 : w.heap.size < w7.heap.size := by omega
              have f0 : w7.cell? ⟨w5.heap.size, 0, none⟩ = some (.int .i64 ea) := (b7.cell (p := ⟨w5.heap.size, 0, none⟩) (by simp)).trans (by simp [go_sem])
              have f1 : w7.cell? ⟨w5.heap.size, 1, none⟩ = some (.int .i64 (1)) := (b7.cell (p := ⟨w5.heap.size, 1, none⟩) (by simp)).trans (by simp [go_sem])
              have q8 : Below W0.heap.size W0 (w7.alloc (.cells #[.int .i64 B', .int .i64 X', .slice p n' c] 24)) := q7.alloc s7 _
              clear b7 q6 q7 s57 HCE he
              go_wp2_with fail
              with_reducible refine (HCX.out _ q8).mono ?_
              rintro e w9 ⟨rfl, b9⟩
              have HF := hide (HB.out.trans ((q8.trans (b9.mono q8.size)).mono HB.out.size))
              clear b9 q8 k0 k1 k2 f0 f1
              go_wp2
              go_ret
              exact ⟨rfl, HF.out⟩
          · obtain ⟨hq0, ho, hab⟩ := HARM.out.2.2 (by omega) HNB.out
            subst hab
            obtain ⟨hq1, hq2, hq3, ha1, ha2⟩ := HARM.out.2.1 rfl
            clear hq0 hq1 hq2 hq3
            have ho2 : ef = (-1) := ho.trans (by decide)
            clear ho
            subst ho2
            have HBG := hide (HBEG.out rfl)
            clear HARM HBEG
            clear hbx
            have hbx : Below wr.heap.size wr wr := Below.refl _ _
            have hea1 : decide (ea ≤ u) = false := by simp; omega
            have T := chkT_ok HC.out
            have zb : -1000 ≤ offC B X A O n (ea - 1) ∧ offC B X A O n (ea - 1) ≤ 1000 := by
              unfold offC
              rw [if_pos HC.out]
              exact offP_bd T.b T.o (plc_le _ _ _)
            obtain ⟨eb1, eb2⟩ := beg_bd HBG.out
            by_cases hE : extE B X A O n ea (-1) = 0
            · have E := extE_ok hE
              have xB : eB B X A O n ea (-1) = B := by unfold eB; rw [if_pos hE]
              have xX : eX B X A O n ea (-1) = max X (ea + 1) := by unfold eX; rw [if_pos hE]
              have xN : eN B X A O n ea (-1) = n + 1 := by unfold eN; rw [if_pos hE]
              have CE := fun W (q : Below W0.heap.size W0 W) => PExt_any B X a n cap A O ea (-1) W (LL.out _ q) (HR.out _ q)
              unfold ExtAny at CE
              rw [xB, xX, xN, hE] at CE
              have CX := fun W (q : Below W0.heap.size W0 W) => extendError_any B X a n cap A O ea (-1) W (HR.out _ q) HC.out HBG.out (by decide)
              rw [hE] at CX
              obtain ⟨_, hday, hmod⟩ := beg_elim HBG.out
              have CF := fun W (q : Below W0.heap.size W0 W) => Of_ok ea W (LL.out _ q) (by omega)
              unfold ofV at CF
              rw [hday, hmod] at CF
              obtain ⟨yy, hyy⟩ : ∃ x, x = (dateOf (ea / 86400)).1 := ⟨_, rfl⟩
              obtain ⟨mm, hmm⟩ : ∃ x, x = (dateOf (ea / 86400)).2.1 := ⟨_, rfl⟩
              rw [← hyy, ← hmm] at CF
              rw [show (0 : Int) / 3600 = 0 from rfl, show (0 : Int) / 60 % 60 = 0 from rfl, show (0 : Int) % 60 = 0 from rfl] at CF
              have CK2 := fun W p c (h : Ents W p (n + 1) (upd A n ea) (upd O n (oldO B O n + (-1)))) (q : Laid W) => Check_any B (max X (ea + 1)) p (n + 1) c (upd A n ea) (upd O n (oldO B O n + (-1))) W q h
              rw [E.check] at CK2
              have CO := fun W p c (h : Ents W p (n + 1) (upd A n ea) (upd O n (oldO B O n + (-1)))) (q : Laid W) v => Offset_any B (max X (ea + 1)) p (n + 1) c (upd A n ea) (upd O n (oldO B O n + (-1))) v W q h
              have CO1 := fun W p c h q => CO W p c h q (ea - 1)
              have CO2 := fun W p c h q => CO W p c h q ea
              rw [off_before E (by omega)] at CO1
              rw [off_after E] at CO2
              have hnb : nxB (ea - 1) = true := nx_ok7 (by omega)
              have hnp : nxV (ea - 1) = ea := nx_prev HBG.out hnb
              have hlst : upd A n ea n = ea := upd_at _ _ _
              have CI := fun W p c (h : Ents W p (n + 1) (upd A n ea) (upd O n (oldO B O n + (-1)))) (q : Laid W) => Indicator_any B (max X (ea + 1)) p (n + 1) c (upd A n ea) (upd O n (oldO B O n + (-1))) (ea - 1) 2 (by decide) W q h E.check (by omega) hnb
                (by rw [hnp]; intro z; exact absurd hlst (z n (by omega)))
                (by
                  rw [hnp]
                  intro j hj hA
                  by_cases hjn : j = n
                  · subst hjn
                    rw [upd_at, oldO_upd (Nat.le_refl _)]
                    omega
                  · have := new_gap E (j := j) (by omega)
                    omega)
              have CT1 := fun W p c (h : Ents W p (n + 1) (upd A n ea) (upd O n (oldO B O n + (-1)))) (q : Laid W) => (TAI_any B (max X (ea + 1)) p (n + 1) c (upd A n ea) (upd O n (oldO B O n + (-1))) ea 0 false W q h E.check (by omega) (fun _ => rfl)
                (by
                  intro j hj hA
                  by_cases hjn : j = n
                  · subst hjn; rw [upd_at] at hA; omega
                  · have := new_gap E (j := j) (by omega)
                    omega) (fun z => by cases z) (fun _ => by decide)).mono (R' := fun e w' => e = .returned (.tuple #[.int .i64 (ea + (offC B X A O n (ea - 1) + (-1))), .int .i64 0]) ∧ Below W.heap.size W w') (fun e w' z => ⟨z.1.trans (by rw [off_is E, off_after E]; simp), z.2⟩)
              have CT2 := fun W p c (h : Ents W p (n + 1) (upd A n ea) (upd O n (oldO B O n + (-1)))) (q : Laid W) => (TAI_any B (max X (ea + 1)) p (n + 1) c (upd A n ea) (upd O n (oldO B O n + (-1))) (ea - 2) 0 false W q h E.check (by omega) (fun _ => rfl)
                (by
                  intro j hj hA
                  by_cases hjn : j = n
                  · subst hjn; rw [upd_at] at hA; omega
                  · have := new_gap E (j := j) (by omega)
                    omega) (fun z => by cases z) (fun _ => by decide)).mono (R' := fun e w' => e = .returned (.tuple #[.int .i64 (ea - 2 + offC B X A O n (ea - 1)), .int .i64 0]) ∧ Below W.heap.size W w') (fun e w' z => ⟨z.1.trans (by rw [off_is E, off_before E (by omega), off_two E]; simp), z.2⟩)
              obtain ⟨M, hM⟩ : ∃ M, M = max X (ea + 1) := ⟨_, rfl⟩
              have hMe : ea < M := by omega
              rw [← hM] at CE CK2 CO1 CO2 CI CT1 CT2
              obtain ⟨z, hz⟩ : ∃ z, z = offC B X A O n (ea - 1) := ⟨_, rfl⟩
              rw [← hz] at CO1 CO2 CT1 CT2 zb
              obtain ⟨zb1, zb2⟩ := zb
              obtain ⟨tf, htf⟩ : ∃ x, x = ea + (z + (-1)) := ⟨_, rfl⟩
              obtain ⟨tl, htl⟩ : ∃ x, x = ea - 2 + z := ⟨_, rfl⟩
              rw [← htf] at CT1
              rw [← htl] at CT2
              have v1 : wrap64 (ea - 1) = ea - 1 := IntWalk.wrap64_in _ (by omega)
              have v2 : wrap64 (ea - 2) = ea - 2 := IntWalk.wrap64_in _ (by omega)
              have v6 : (z + (-1) - z != (-1)) = false := by rw [bne_eq_false_iff_eq]; omega
              have v7 : (tf - tl == (1)) = true := by rw [beq_iff_eq]; omega
              have tb1 : -8000002000 ≤ tf ∧ tf ≤ 8000002000 := by omega
              have tb2 : -8000002000 ≤ tl ∧ tl ≤ 8000002000 := by omega
              obtain ⟨tb3, tb4⟩ := tb1
              obtain ⟨tb5, tb6⟩ := tb2
              have HCE := hide CE
              have HCX := hide CX
              have HCF := hide CF
              have HCK2 := hide CK2
              have HO1 := hide CO1
              have HO2 := hide CO2
              have HCI := hide CI
              have HT1 := hide CT1
              have HT2 := hide CT2
              clear CE CX CF CK2 CO CO1 CO2 CI CT1 CT2 hE E xB xX xN hday hmod hyy hmm hnb hnp hlst hM hz htf htl T
              go_wp2_with fail
              with_reducible refine (D1.out _ hbx).mono ?_
              rintro e w4 ⟨rfl, b4⟩
              go_wp2_with fail
              with_reducible refine (CA.out _ b4).mono ?_
              rintro e w5 ⟨rfl, b5⟩
              have q5 := HBR.out.trans ((b4.trans (b5.mono b4.size)).mono HBR.out.size)
              obtain ⟨k0, k1, k2⟩ := HK.out _ q5
              have s5 := q5.size
              have z5 : w.heap.size < w5.heap.size := by omega
              have q6 : Below W0.heap.size W0 (w5.alloc (.cells #[.int .i64 ea, .int .i64 (-1)] 44)) := q5.alloc s5 _
              clear b4 b5 q5 D1 CA
              go_wp2_with fail
              with_reducible refine (HCE.out _ q6).mono ?_
              rintro e w7 ⟨⟨p, c, rfl, he⟩, b7⟩
              clear k0 k1 k2
              have q7 := q6.trans (b7.mono q6.size)
              obtain ⟨k0, k1, k2⟩ := HK.out _ q7
              have s7 := q7.size
              have s57 := b7.size
              have z57 : w5.heap.size < w7.heap.size := by simp at s57; omega
              have z7 : w.heap.size < w7.heap.size := by omega
              have f0 : w7.cell? ⟨w5.heap.size, 0, none⟩ = some (.int .i64 ea) := (b7.cell (p := ⟨w5.heap.size, 0, none⟩) (by simp)).trans (by simp [go_sem])
              have f1 : w7.cell? ⟨w5.heap.size, 1, none⟩ = some (.int .i64 (-1)) := (b7.cell (p := ⟨w5.heap.size, 1, none⟩) (by simp)).trans (by simp [go_sem])
              have q8 : Below W0.heap.size W0 (w7.alloc (.cells #[.int .i64 B, .int .i64 M, .slice p (n + 1) c] 24)) := q7.alloc s7 _
              have HE7 := hide he
              clear b7 q6 q7 s57 HCE he
              go_wp2_with fail
              with_reducible refine (HCX.out _ q8).mono ?_
              rintro e w9 ⟨rfl, b9⟩
              have q9 := q8.trans (b9.mono q8.size)
              have s9 := b9.size
              have z79 : w7.heap.size < w9.heap.size := by simp at s9; omega
              have t0 : w9.cell? ⟨w7.heap.size, 0, none⟩ = some (.int .i64 B) := (b9.cell (p := ⟨w7.heap.size, 0, none⟩) (by simp)).trans (by simp [go_sem])
              have t1 : w9.cell? ⟨w7.heap.size, 1, none⟩ = some (.int .i64 M) := (b9.cell (p := ⟨w7.heap.size, 1, none⟩) (by simp)).trans (by simp [go_sem])
              have t2 : w9.cell? ⟨w7.heap.size, 2, none⟩ = some (.slice p (n + 1) c) := (b9.cell (p := ⟨w7.heap.size, 2, none⟩) (by simp)).trans (by simp [go_sem])
              have a79 : Below w7.heap.size w7 w9 := ((Below.refl w7.heap.size w7).alloc (Nat.le_refl _) _).trans (b9.mono (by simp))
              have f0 := (a79.cell (p := ⟨w5.heap.size, 0, none⟩) z57).trans f0
              have f1 := (a79.cell (p := ⟨w5.heap.size, 1, none⟩) z57).trans f1
              have HE9 := hide (HE7.out.below a79)
              clear b9 q8 s9 a79 HCX k0 k1 k2 HE7
              go_wp2_with fail
              with_reducible refine (HCF.out _ q9).mono ?_
              rintro e w10 ⟨rfl, b10⟩
              have s10 := b10.size
              have s9w := q9.size
              have z710 : w7.heap.size < w10.heap.size := by omega
              have z510 : w5.heap.size < w10.heap.size := by omega
              obtain ⟨W11, hW11⟩ : ∃ W, W = w10.alloc (.cells #[.int .i64 yy, .int .i64 (mm : Int), .int .i64 1, .int .i64 0, .int .i64 0, .int .i64 0, .int .i64 0] 51) := ⟨_, rfl⟩
              have z11 : W11.heap.size = w10.heap.size + 1 := by rw [hW11]; simp
              have a11 : Below w9.heap.size w9 W11 := by rw [hW11]; exact b10.alloc s10 _
              have c2 : W11.cell? ⟨w10.heap.size, 2, none⟩ = some (.int .i64 1) := by rw [hW11]; simp [go_sem]
              have c3 : W11.cell? ⟨w10.heap.size, 3, none⟩ = some (.int .i64 0) := by rw [hW11]; simp [go_sem]
              have c4 : W11.cell? ⟨w10.heap.size, 4, none⟩ = some (.int .i64 0) := by rw [hW11]; simp [go_sem]
              have c5 : W11.cell? ⟨w10.heap.size, 5, none⟩ = some (.int .i64 0) := by rw [hW11]; simp [go_sem]
              have t0 := (a11.cell (p := ⟨w7.heap.size, 0, none⟩) z79).trans t0
              have t1 := (a11.cell (p := ⟨w7.heap.size, 1, none⟩) z79).trans t1
              have t2 := (a11.cell (p := ⟨w7.heap.size, 2, none⟩) z79).trans t2
              have z59 : w5.heap.size < w9.heap.size := by omega
              have f0 := (a11.cell (p := ⟨w5.heap.size, 0, none⟩) z59).trans f0
              have f1 := (a11.cell (p := ⟨w5.heap.size, 1, none⟩) z59).trans f1
              have q11 : Below W0.heap.size W0 W11 := q9.trans (a11.mono q9.size)
              have HE11 := hide (HE9.out.below a11)
              have HL11 := hide (fun V (q : Below W11.heap.size W11 V) => LL.out V (q11.trans (q.mono q11.size)))
              have HKK := hide (fun V (q : Below W11.heap.size W11 V) => And.intro ((q.cell (p := ⟨w10.heap.size, 2, none⟩) (by dsimp only; omega)).trans c2) (And.intro ((q.cell (p := ⟨w10.heap.size, 3, none⟩) (by dsimp only; omega)).trans c3) (And.intro ((q.cell (p := ⟨w10.heap.size, 4, none⟩) (by dsimp only; omega)).trans c4) (And.intro ((q.cell (p := ⟨w10.heap.size, 5, none⟩) (by dsimp only; omega)).trans c5) (And.intro ((q.cell (p := ⟨w7.heap.size, 0, none⟩) (by dsimp only; omega)).trans t0) (And.intro ((q.cell (p := ⟨w7.heap.size, 1, none⟩) (by dsimp only; omega)).trans t1) (And.intro ((q.cell (p := ⟨w7.heap.size, 2, none⟩) (by dsimp only; omega)).trans t2) (And.intro ((q.cell (p := ⟨w5.heap.size, 0, none⟩) (by dsimp only; omega)).trans f0) (And.intro ((q.cell (p := ⟨w5.heap.size, 1, none⟩) (by dsimp only; omega)).trans f1) (q))))))))))
              have P1 := hide (based (Nat.le_refl _) fun V (q : Below W11.heap.size W11 V) => HCK2.out V p c (HE11.out.below q) (HL11.out V q))
              have O1 := hide (based (Nat.le_refl _) fun V (q : Below W11.heap.size W11 V) => HO1.out V p c (HE11.out.below q) (HL11.out V q))
              have O2 := hide (based (Nat.le_refl _) fun V (q : Below W11.heap.size W11 V) => HO2.out V p c (HE11.out.below q) (HL11.out V q))
              have PI := hide (based (Nat.le_refl _) fun V (q : Below W11.heap.size W11 V) => HCI.out V p c (HE11.out.below q) (HL11.out V q))
              have PT1 := hide (based (Nat.le_refl _) fun V (q : Below W11.heap.size W11 V) => HT1.out V p c (HE11.out.below q) (HL11.out V q))
              have PT2 := hide (based (Nat.le_refl _) fun V (q : Below W11.heap.size W11 V) => HT2.out V p c (HE11.out.below q) (HL11.out V q))
              have HQ11 := hide q11
              have H11 := hide hW11
              clear hbx
              have hbx : Below W11.heap.size W11 W11 := Below.refl _ _
              clear b10 q9 a11 q11 hW11 c2 c3 c4 c5 t0 t1 t2 f0 f1 HCF HCK2 HO1 HO2 HCI HT1 HT2 HE9
              go_wp2_with fail
              rw [← H11.out]
              have hne := lt_some W11
              have y0 := fun V : Lt W11 => (HKK.out _ V.h).1
              have y1 := fun V : Lt W11 => (HKK.out _ V.h).2.1
              have y2 := fun V : Lt W11 => (HKK.out _ V.h).2.2.1
              have y3 := fun V : Lt W11 => (HKK.out _ V.h).2.2.2.1
              have y4 := fun V : Lt W11 => (HKK.out _ V.h).2.2.2.2.1
              have y5 := fun V : Lt W11 => (HKK.out _ V.h).2.2.2.2.2.1
              have y6 := fun V : Lt W11 => (HKK.out _ V.h).2.2.2.2.2.2.1
              have y7 := fun V : Lt W11 => (HKK.out _ V.h).2.2.2.2.2.2.2.1
              have y8 := fun V : Lt W11 => (HKK.out _ V.h).2.2.2.2.2.2.2.2.1
              refine region_lt W11 (by kernel_rfl) (by kernel_rfl) (by assumption) ?_
              repeat (first | go_big_quiet_step (first | (go_at_call 11; with_reducible exact call_lt (P1.out _ (Lt.h _))) | (go_at_call 19; with_reducible exact call_lt (O1.out _ (Lt.h _))) | (go_at_call 19; with_reducible exact call_lt (O2.out _ (Lt.h _)))) | quiet_step (first | (go_at_call 11; with_reducible exact call_lt (P1.out _ (Lt.h _))) | (go_at_call 19; with_reducible exact call_lt (O1.out _ (Lt.h _))) | (go_at_call 19; with_reducible exact call_lt (O2.out _ (Lt.h _)))))
              refine wpQuiet_nil ?_
              intro _ hw'
              obtain ⟨V9, rfl⟩ := hw'
              have bV := V9.h
              obtain ⟨W12, hW12⟩ : ∃ W7, W7 = V9.w := ⟨_, rfl⟩
              rw [← hW12] at bV ⊢
              clear hW12 V9 hne hbx y0 y1 y2 y3 y4 y5 y6 y7 y8
              obtain ⟨c2, c3, c4, c5, t0, t1, t2, f0, f1, _⟩ := HKK.out _ bV
              go_wp2_with fail
              with_reducible refine (PI.out _ bV).mono ?_
              rintro e w13 ⟨rfl, b13⟩
              clear c2 c3 c4 c5 t0 t1 t2 f0 f1 bV
              obtain ⟨c2, c3, c4, c5, t0, t1, t2, f0, f1, _⟩ := HKK.out _ b13
              go_wp2_with fail
              with_reducible refine (PT1.out _ b13).mono ?_
              rintro e w14 ⟨rfl, b14⟩
              clear c2 c3 c4 c5 t0 t1 t2 f0 f1 b13
              obtain ⟨c2, c3, c4, c5, t0, t1, t2, f0, f1, _⟩ := HKK.out _ b14
              go_wp2_with fail
              with_reducible refine (PT2.out _ b14).mono ?_
              rintro e w15 ⟨rfl, b15⟩
              clear c2 c3 c4 c5 t0 t1 t2 f0 f1 b14
              obtain ⟨c2, c3, c4, c5, t0, t1, t2, f0, f1, _⟩ := HKK.out _ b15
              have HF := hide (HB.out.trans ((HQ11.out.trans (b15.mono HQ11.out.size)).mono HB.out.size))
              clear b15
              go_wp2
              go_ret
              exact ⟨rfl, HF.out⟩
            · have hE2 : (extE B X A O n ea (-1) != 0) = true := by simpa using hE
              have CE := fun W (q : Below W0.heap.size W0 W) => PExt_any B X a n cap A O ea (-1) W (LL.out _ q) (HR.out _ q)
              unfold ExtAny at CE
              have CX := fun W (q : Below W0.heap.size W0 W) => extendError_any B X a n cap A O ea (-1) W (HR.out _ q) HC.out HBG.out (by decide)
              obtain ⟨v, hv⟩ : ∃ v, v = extE B X A O n ea (-1) := ⟨_, rfl⟩
              rw [← hv] at CE CX hE2
              generalize eB B X A O n ea (-1) = B' at CE
              generalize eX B X A O n ea (-1) = X' at CE
              generalize eN B X A O n ea (-1) = n' at CE
              have HCE := hide CE
              have HCX := hide CX
              clear CE CX hv hE zb T
              go_wp2_with fail
              with_reducible refine (D1.out _ hbx).mono ?_
              rintro e w4 ⟨rfl, b4⟩
              go_wp2_with fail
              with_reducible refine (CA.out _ b4).mono ?_
              rintro e w5 ⟨rfl, b5⟩
              have q5 := HBR.out.trans ((b4.trans (b5.mono b4.size)).mono HBR.out.size)
              obtain ⟨k0, k1, k2⟩ := HK.out _ q5
              have s5 := q5.size
              have z5 : w.heap.size < w5.heap.size := by omega
              have q6 : Below W0.heap.size W0 (w5.alloc (.cells #[.int .i64 ea, .int .i64 (-1)] 44)) := q5.alloc s5 _
              clear b4 b5 q5 D1 CA
              go_wp2_with fail
              with_reducible refine (HCE.out _ q6).mono ?_
              rintro e w7 ⟨⟨p, c, rfl, he⟩, b7⟩
              clear k0 k1 k2
              have q7 := q6.trans (b7.mono q6.size)
              obtain ⟨k0, k1, k2⟩ := HK.out _ q7
              have s7 := q7.size
              have s57 := b7.size
              have z57 : w5.heap.size < w7.heap.size := by simp at s57; omega
              have z7 : w.heap.size < w7.heap.size := by omega
              have f0 : w7.cell? ⟨w5.heap.size, 0, none⟩ = some (.int .i64 ea) := (b7.cell (p := ⟨w5.heap.size, 0, none⟩) (by simp)).trans (by simp [go_sem])
              have f1 : w7.cell? ⟨w5.heap.size, 1, none⟩ = some (.int .i64 (-1)) := (b7.cell (p := ⟨w5.heap.size, 1, none⟩) (by simp)).trans (by simp [go_sem])
              have q8 : Below W0.heap.size W0 (w7.alloc (.cells #[.int .i64 B', .int .i64 X', .slice p n' c] 24)) := q7.alloc s7 _
              clear b7 q6 q7 s57 HCE he
              go_wp2_with fail
              with_reducible refine (HCX.out _ q8).mono ?_
              rintro e w9 ⟨rfl, b9⟩
              have HF := hide (HB.out.trans ((q8.trans (b9.mono q8.size)).mono HB.out.size))
              clear b9 q8 k0 k1 k2 f0 f1
              go_wp2
              go_ret
              exact ⟨rfl, HF.out⟩
          · obtain ⟨rfl, rfl, rfl⟩ := HARM.out.1 (.inl (by omega))
            go_wp2_with fail
            with_reducible refine (D1.out _ hbx).mono ?_
            rintro e w4 ⟨rfl, b4⟩
            go_wp2_with fail
            with_reducible refine (CA.out _ b4).mono ?_
            rintro e w5 ⟨rfl, b5⟩
            have HF := hide (HB.out.trans ((HBR.out.trans ((b4.trans (b5.mono b4.size)).mono HBR.out.size)).mono HB.out.size))
            clear b4 b5 hbx
            go_wp2
            go_ret
            exact ⟨rfl, by first | exact HF.out | exact HF.out.alloc HF.out.size _⟩
theorem TopVotes_walk (B X : Int) (a : Option Addr) (n cap : Nat) (A O : Nat → Int) (b : Option Addr) (N vcap : Nat) (V : Nat → Int) (u : Int) (w : World) (hr : Ents w a n A O) (hv : IntsAt w b N V) (l : Laid w) :
    Calls Tryd.prog 4 #[.agg #[.int .i64 B, .int .i64 X, .slice a n cap], .slice b N vcap, .int .i64 u] w fun e w' => e = .returned (.bool true) ∧ Below w.heap.size w w' := by
  by_cases h1 : N < 1
  · exact TopVotes_bad1 B X a n cap A O b N vcap V u w hr hv h1 l
  by_cases h2 : 12 < N
  · exact TopVotes_bad2 B X a n cap A O b N vcap V u w hr hv h2 l
  by_cases h3 : 100 < n
  · exact TopVotes_bad3 B X a n cap A O b N vcap V u w hr hv ⟨by omega, by omega⟩ h3 l
  by_cases h4 : chkT B X A O n = 0
  · by_cases h5 : u < -7000000000
    · exact TopVotes_bad5 B X a n cap A O b N vcap V u w hr hv ⟨by omega, by omega⟩ (by omega) h4 h5 l
    by_cases h6 : 7000000000 < u
    · exact TopVotes_bad6 B X a n cap A O b N vcap V u w hr hv ⟨by omega, by omega⟩ (by omega) h4 h6 l
    exact TopVotes_main B X a n cap A O b N vcap V u w hr hv ⟨by omega, by omega⟩ (by omega) h4 ⟨by omega, by omega⟩ l
  · exact TopVotes_bad4 B X a n cap A O b N vcap V u w hr hv ⟨by omega, by omega⟩ (by omega) h4 l
end Go.Proofs.YtnmpoeljjajdiaaDoor.Vot
