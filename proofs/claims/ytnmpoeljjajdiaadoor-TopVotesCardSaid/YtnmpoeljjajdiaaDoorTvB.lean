
/- The contracts of leap.Indicator and of the statement's extendError (for TopVotes). -/
import Derived.Test.YtnmpoeljjajdiaaDoorTvA
namespace Go.Proofs.YtnmpoeljjajdiaaDoor.Vot
open Go.RowKit Aid Civ Leap App Smr
set_option maxRecDepth 100000 in
set_option maxHeartbeats 6400000 in
theorem Indicator_any (B X : Int) (a : Option Addr) (n cap : Nat) (A O : Nat → Int) (u d : Int) (hd : d = 1 ∨ d = 2) (w : World) (l : Laid w) (hr : Ents w a n A O) (hc0 : chkT B X A O n = 0) (hX : u < X) (hB : nxB u = true)
    (h0 : (∀ j, j < n → A j ≠ nxV u) → (3 - 2 * d) = 0) (h1 : ∀ j, j < n → A j = nxV u → (3 - 2 * d) = O j - oldO B O j) :
    Calls Tryd.prog 20 #[.agg #[.int .i64 B, .int .i64 X, .slice a n cap], .int .i64 u] w fun e w' => e = .returned (.int .i64 d) ∧ Below w.heap.size w w' := by
  have hb0 : Below w.heap.size w (w.alloc (.cells #[.int .i64 B, .int .i64 X, .slice a n cap] 24)) := (Below.refl _ _).alloc (Nat.le_refl _) _
  have HB := hide hb0
  obtain ⟨hu, _, _⟩ := nx_bd hB
  have CK := hide (fun W (q : Below w.heap.size w W) => (by have := Check_any B X a n cap A O W (l.step q) (hr.below q); rwa [hc0] at this : Calls Tryd.prog 11 #[.agg #[.int .i64 B, .int .i64 X, .slice a n cap]] W fun e w' => e = .returned (.int .i64 0) ∧ Below W.heap.size W w'))
  have CC := hide (fun W (q : Below w.heap.size w W) => change_any B X a n cap A O (nxV u) (3 - 2 * d) W (hr.below q) (chkT_ok hc0) h0 h1)
  have c := fun W (q : Below w.heap.size w W) => Of_ok u W (l.step q) hu
  have HS := hide fun W (L : Laid W) => Seconds_any (nxY u) (nxM u) 1 0 0 0 0 W L
  obtain ⟨⟨y1, y2⟩, m1, m2⟩ := date_bd hu
  obtain ⟨q1, q2⟩ := nxV_in hu
  have q3 : secE (nxY u) (nxM u) 1 0 0 0 0 = 0 := by rw [hB] at q2; exact beq_iff_eq.1 q2.symm
  rw [← q1, q3] at HS
  obtain ⟨v, hv⟩ : ∃ v, v = nxV u := ⟨_, rfl⟩
  rw [← hv] at HS CC
  unfold ofV at c
  unfold nxY nxM at HS
  obtain ⟨hu1, hu2⟩ := hu
  have hm8 : decide (u < -8000000000) = false := by simp; omega
  have HL := hide l
  clear q1 q2 q3 hv h0 h1 hB hc0 hb0
  generalize (dateOf (u / 86400)).1 = y at *
  generalize (dateOf (u / 86400)).2.1 = m at *
  generalize (dateOf (u / 86400)).2.2 = dd at *
  generalize u % 86400 / 3600 = H at *
  generalize u % 86400 / 60 % 60 = I at *
  generalize u % 86400 % 60 = S at *
  have C := hide c
  clear c l hr
  rcases Nat.lt_or_ge m 12 with k | k
  · have k0 : (m : Int) ≠ 12 := by omega
    have k0q : ((m : Int) == 12) = false := by simp; omega
    have k0n : (m == 12) = false := by simp; omega
    rw [if_neg (show ¬ m = 12 by omega), if_neg (show ¬ m = 12 by omega)] at HS
    rcases hd with rfl | rfl
    all_goals
      go_enter Tryd.func20, Tryd.ntmps20
      go_wp2_with fail
      with_reducible refine (CK.out _ HB.out).mono ?_
      rintro e w1 ⟨rfl, b1⟩
      have k0 : w1.cell? ⟨w.heap.size, 0, none⟩ = some (.int .i64 B) := (b1.cell (p := ⟨w.heap.size, 0, none⟩) (by simp)).trans (by simp [go_sem])
      have k1 : w1.cell? ⟨w.heap.size, 1, none⟩ = some (.int .i64 X) := (b1.cell (p := ⟨w.heap.size, 1, none⟩) (by simp)).trans (by simp [go_sem])
      have k2 : w1.cell? ⟨w.heap.size, 2, none⟩ = some (.slice a n cap) := (b1.cell (p := ⟨w.heap.size, 2, none⟩) (by simp)).trans (by simp [go_sem])
      have s1 : w.heap.size < w1.heap.size := by have := b1.size; simp at this; omega
      have B1 := hide (HB.out.trans (b1.mono (by simp)))
      clear b1
      go_wp2_with fail
      with_reducible refine (C.out _ B1.out).mono ?_
      rintro e w2 ⟨rfl, b2⟩
      have k0 := (b2.cell (p := ⟨w.heap.size, 0, none⟩) s1).trans k0
      have k1 := (b2.cell (p := ⟨w.heap.size, 1, none⟩) s1).trans k1
      have k2 := (b2.cell (p := ⟨w.heap.size, 2, none⟩) s1).trans k2
      have s2 : w.heap.size < w2.heap.size := by have := b2.size; omega
      have HB2 := hide (B1.out.trans (b2.mono (by omega)))
      have HK := hide (fun (V : World) (q : Below w2.heap.size w2 V) => And.intro ((q.cell (p := ⟨w.heap.size, 0, none⟩) s2).trans k0) (And.intro ((q.cell (p := ⟨w.heap.size, 1, none⟩) s2).trans k1) ((q.cell (p := ⟨w.heap.size, 2, none⟩) s2).trans k2)))
      clear b2 k0 k1 k2
      go_wp2_with fail
      have b3 : ∃ V, Hid (Below w2.heap.size w2 V) := ⟨w2, hide (Below.refl _ _)⟩
      with_reducible refine (HS.out _ (HL.out.step (by (repeat (first | (with_reducible refine Below.setCell ?_ (by first | (dsimp only; omega) | (simp; done) | (simp; omega)) _) | (with_reducible refine Below.alloc ?_ (by first | exact Nat.le_refl _ | (simp; done) | omega | (simp; omega)) _))); exact HB2.out))).mono ?_
      rintro e w4 ⟨rfl, b4⟩
      have HF : Hid (Below w2.heap.size w2 w4) := hide (by
        refine Below.trans ?_ (b4.mono (by simp; omega))
        repeat (first | (with_reducible refine Below.setCell ?_ (by first | (dsimp only; omega) | (simp; done) | (simp; omega)) _) | (with_reducible refine Below.alloc ?_ (by first | exact Nat.le_refl _ | (simp; done) | omega | (simp; omega)) _))
        exact Below.refl _ _)
      obtain ⟨k0, k1, k2⟩ := HK.out _ HF.out
      have HB4 := hide (HB2.out.trans (HF.out.mono (by omega)))
      clear b4 b3
      go_wp2_with fail
      with_reducible refine (CC.out _ HB4.out).mono ?_
      rintro e w5 ⟨rfl, b5⟩
      have HF5 := hide (HB4.out.trans (b5.mono HB4.out.size))
      clear b5 k0 k1 k2
      go_wp2
      go_ret
      exact ⟨rfl, HF5.out⟩
  · obtain rfl : m = 12 := by omega
    rw [if_pos rfl, if_pos rfl] at HS
    rcases hd with rfl | rfl
    all_goals
      go_enter Tryd.func20, Tryd.ntmps20
      go_wp2_with fail
      with_reducible refine (CK.out _ HB.out).mono ?_
      rintro e w1 ⟨rfl, b1⟩
      have k0 : w1.cell? ⟨w.heap.size, 0, none⟩ = some (.int .i64 B) := (b1.cell (p := ⟨w.heap.size, 0, none⟩) (by simp)).trans (by simp [go_sem])
      have k1 : w1.cell? ⟨w.heap.size, 1, none⟩ = some (.int .i64 X) := (b1.cell (p := ⟨w.heap.size, 1, none⟩) (by simp)).trans (by simp [go_sem])
      have k2 : w1.cell? ⟨w.heap.size, 2, none⟩ = some (.slice a n cap) := (b1.cell (p := ⟨w.heap.size, 2, none⟩) (by simp)).trans (by simp [go_sem])
      have s1 : w.heap.size < w1.heap.size := by have := b1.size; simp at this; omega
      have B1 := hide (HB.out.trans (b1.mono (by simp)))
      clear b1
      go_wp2_with fail
      with_reducible refine (C.out _ B1.out).mono ?_
      rintro e w2 ⟨rfl, b2⟩
      have k0 := (b2.cell (p := ⟨w.heap.size, 0, none⟩) s1).trans k0
      have k1 := (b2.cell (p := ⟨w.heap.size, 1, none⟩) s1).trans k1
      have k2 := (b2.cell (p := ⟨w.heap.size, 2, none⟩) s1).trans k2
      have s2 : w.heap.size < w2.heap.size := by have := b2.size; omega
      have HB2 := hide (B1.out.trans (b2.mono (by omega)))
      have HK := hide (fun (V : World) (q : Below w2.heap.size w2 V) => And.intro ((q.cell (p := ⟨w.heap.size, 0, none⟩) s2).trans k0) (And.intro ((q.cell (p := ⟨w.heap.size, 1, none⟩) s2).trans k1) ((q.cell (p := ⟨w.heap.size, 2, none⟩) s2).trans k2)))
      clear b2 k0 k1 k2
      go_wp2_with fail
      have b3 : ∃ V, Hid (Below w2.heap.size w2 V) := ⟨w2, hide (Below.refl _ _)⟩
      with_reducible refine (HS.out _ (HL.out.step (by (repeat (first | (with_reducible refine Below.setCell ?_ (by first | (dsimp only; omega) | (simp; done) | (simp; omega)) _) | (with_reducible refine Below.alloc ?_ (by first | exact Nat.le_refl _ | (simp; done) | omega | (simp; omega)) _))); exact HB2.out))).mono ?_
      rintro e w4 ⟨rfl, b4⟩
      have HF : Hid (Below w2.heap.size w2 w4) := hide (by
        refine Below.trans ?_ (b4.mono (by simp; omega))
        repeat (first | (with_reducible refine Below.setCell ?_ (by first | (dsimp only; omega) | (simp; done) | (simp; omega)) _) | (with_reducible refine Below.alloc ?_ (by first | exact Nat.le_refl _ | (simp; done) | omega | (simp; omega)) _))
        exact Below.refl _ _)
      obtain ⟨k0, k1, k2⟩ := HK.out _ HF.out
      have HB4 := hide (HB2.out.trans (HF.out.mono (by omega)))
      clear b4 b3
      go_wp2_with fail
      with_reducible refine (CC.out _ HB4.out).mono ?_
      rintro e w5 ⟨rfl, b5⟩
      have HF5 := hide (HB4.out.trans (b5.mono HB4.out.size))
      clear b5 k0 k1 k2
      go_wp2
      go_ret
      exact ⟨rfl, HF5.out⟩
theorem extE_v {B X : Int} {A O : Nat → Int} {n : Nat} {ea ef : Int} (h1 : chkT B X A O n = 0) (h2 : begB ea = true) (h3 : ef = 1 ∨ ef = -1) :
    extE B X A O n ea ef = if 0 < n ∧ ea ≤ A (n - 1) then 12 else if oldO B O n + ef < -1000 ∨ 1000 < oldO B O n + ef then 3 else if 64 ≤ n then 6 else 0 := by
  unfold extE
  rw [if_neg (fun k => k h1), if_neg (by rw [h2]; decide)]
  by_cases q : 0 < n ∧ ea ≤ A (n - 1)
  · rw [if_pos q, if_pos q]
  · rw [if_neg q, if_neg q]
    by_cases r : oldO B O n + ef < -1000 ∨ 1000 < oldO B O n + ef
    · rw [if_pos r, if_pos (by omega)]
    · rw [if_neg r, if_neg (by intro k; exact k ⟨h3, by omega, by omega⟩)]
set_option maxRecDepth 100000 in
set_option maxHeartbeats 6400000 in
theorem extendError_any (B X : Int) (a : Option Addr) (n cap : Nat) (A O : Nat → Int) (ea ef : Int) (w : World) (hr : Ents w a n A O) (h1 : chkT B X A O n = 0) (h2 : begB ea = true) (h3 : ef = 1 ∨ ef = -1) :
    Calls Tryd.prog 17 #[.agg #[.int .i64 B, .int .i64 X, .slice a n cap], .agg #[.int .i64 ea, .int .i64 ef]] w fun e w' => e = .returned (.int .i64 (extE B X A O n ea ef)) ∧ Below w.heap.size w w' := by
  rw [extE_v h1 h2 h3]
  obtain ⟨W0, hW0⟩ : ∃ W0, W0 = ((w.alloc (.cells #[.int .i64 B, .int .i64 X, .slice a n cap] 24)).alloc (.cells #[.int .i64 ea, .int .i64 ef] 44)) := ⟨_, rfl⟩
  have HH := hide hW0
  have HB : Hid (Below w.heap.size w W0) := hide (by rw [hW0]; exact (((Below.refl _ _).alloc (Nat.le_refl _) _).alloc (by simp) _))
  have k0 : W0.cell? ⟨w.heap.size, 0, none⟩ = some (.int .i64 B) := by rw [hW0]; simp [go_sem]
  have k1 : W0.cell? ⟨w.heap.size, 1, none⟩ = some (.int .i64 X) := by rw [hW0]; simp [go_sem]
  have k2 : W0.cell? ⟨w.heap.size, 2, none⟩ = some (.slice a n cap) := by rw [hW0]; simp [go_sem]
  have e0 : W0.cell? ⟨w.heap.size + 1, 0, none⟩ = some (.int .i64 ea) := by rw [hW0]; simp [go_sem]
  have e1 : W0.cell? ⟨w.heap.size + 1, 1, none⟩ = some (.int .i64 ef) := by rw [hW0]; simp [go_sem]
  have T := chkT_ok h1
  obtain ⟨tb1, tb2⟩ := T.b
  have hto := T.o
  have hn : n ≤ 64 := by
    apply Classical.byContradiction
    intro q
    unfold chkT at h1
    rw [if_pos (by omega)] at h1
    exact absurd h1 (by decide)
  have hf : -1 ≤ ef ∧ ef ≤ 1 := by omega
  obtain ⟨f1, f2⟩ := hf
  have HR := hide (hr.below HB.out)
  clear hW0 h1 h2 h3 T hr
  by_cases hz : n = 0
  · subst hz
    have eo : oldO B O 0 = B := rfl
    have hno : ¬ ((0 < 0) ∧ ea ≤ A (0 - 1)) := by omega
    rw [eo, if_neg hno, if_neg (show ¬ 64 ≤ 0 by omega)]
    have hz2 : ((0 : Nat) : Int) = 0 := rfl
    clear hno eo
    by_cases q : B + ef < -1000 ∨ 1000 < B + ef
    · rw [if_pos q]
      rcases q with q | q
      all_goals
        go_enter Tryd.func17, Tryd.ntmps17
        go_upto_region 1 with fail
        rw [← HH.out]
        go_wp2
        go_ret
        exact ⟨rfl, HB.out⟩
    · rw [if_neg q]
      have q1 : -1000 ≤ B + ef := by omega
      have q2 : B + ef ≤ 1000 := by omega
      clear q
      go_enter Tryd.func17, Tryd.ntmps17
      go_upto_region 1 with fail
      rw [← HH.out]
      go_wp2
      go_ret
      exact ⟨rfl, HB.out⟩
  · have eo : oldO B O n = O (n - 1) := oldS (by omega)
    obtain ⟨ab, off, rfl, hab, hc⟩ := HR.out.at_ (by omega)
    obtain ⟨c0, c1⟩ := hc (n - 1) (by omega)
    have ho := hto (n - 1) (by omega)
    have hn0 : 0 < (n : Int) := by omega
    have hn0n : 0 < n := by omega
    have hn64 : (n : Int) ≤ 64 := by omega
    rw [eo]
    obtain ⟨p, hp⟩ : ∃ x, x = A (n - 1) := ⟨_, rfl⟩
    obtain ⟨o, hoo⟩ : ∃ x, x = O (n - 1) := ⟨_, rfl⟩
    rw [← hp] at c0 ⊢
    rw [← hoo] at c1 ho ⊢
    obtain ⟨o1, o2⟩ := ho
    clear hc hp hoo eo hto HR hz
    by_cases r : ea ≤ p
    · rw [if_pos ⟨hn0n, r⟩]
      go_enter Tryd.func17, Tryd.ntmps17
      go_upto_region 1 with fail
      rw [← HH.out]
      go_wp2
      go_quiet (fail)
      go_wp2
      go_ret
      exact ⟨rfl, below_drewN HB.out _⟩
    · have r2 : p < ea := by omega
      have r3 : decide (ea ≤ p) = false := by simp; omega
      rw [if_neg (fun q => r q.2)]
      clear r
      by_cases q : o + ef < -1000 ∨ 1000 < o + ef
      · rw [if_pos q]
        rcases q with q | q
        all_goals
          go_enter Tryd.func17, Tryd.ntmps17
          go_upto_region 1 with fail
          rw [← HH.out]
          go_wp2
          go_quiet (fail)
          go_wp2
          go_quiet (fail)
          go_wp2
          go_ret
          exact ⟨rfl, by first | exact below_drewN (below_drewN HB.out _) _ | exact below_drewN HB.out _⟩
      · rw [if_neg q]
        have q1 : -1000 ≤ o + ef := by omega
        have q2 : o + ef ≤ 1000 := by omega
        clear q
        by_cases s : 64 ≤ n
        · rw [if_pos s]
          have s2 : 64 ≤ (n : Int) := by omega
          go_enter Tryd.func17, Tryd.ntmps17
          go_upto_region 1 with fail
          rw [← HH.out]
          go_wp2
          go_quiet (fail)
          go_wp2
          go_quiet (fail)
          go_wp2
          go_ret
          exact ⟨rfl, by first | exact below_drewN (below_drewN HB.out _) _ | exact below_drewN HB.out _⟩
        · rw [if_neg s]
          have s2 : (n : Int) < 64 := by omega
          go_enter Tryd.func17, Tryd.ntmps17
          go_upto_region 1 with fail
          rw [← HH.out]
          go_wp2
          go_quiet (fail)
          go_wp2
          go_quiet (fail)
          go_wp2
          go_ret
          exact ⟨rfl, by first | exact below_drewN (below_drewN HB.out _) _ | exact below_drewN HB.out _⟩
end Go.Proofs.YtnmpoeljjajdiaaDoor.Vot
