
/- The walk of the law LeapvoteExtends. -/
import Derived.Test.YtbekfofakpbhiaaDoorVotL
namespace Go.Proofs.YtbekfofakpbhiaaDoor.Vot
open Go.RowKit Aid Civ Leap App
set_option maxRecDepth 100000 in
set_option maxHeartbeats 3200000 in
theorem LeapvoteExtends_walk (B X : Int) (a : Option Addr) (n cap : Nat) (A O : Nat → Int) (ea ef : Int) (w : World) (hr : Ents w a n A O) (l : Laid w) : Calls Tryd.prog 4 #[.agg #[.int .i64 B, .int .i64 X, .slice a n cap], .agg #[.int .i64 ea, .int .i64 ef]] w fun e w' => e = .returned (.bool true) ∧ Below w.heap.size w w' := by
  obtain ⟨W0, hW0⟩ : ∃ W0, W0 = ((w.alloc (.cells #[.int .i64 B, .int .i64 X, .slice a n cap] 43)).alloc (.cells #[.int .i64 ea, .int .i64 ef] 36)) := ⟨_, rfl⟩
  have HH := hide hW0
  have hz : W0.heap.size = w.heap.size + 2 := by rw [hW0]; simp
  have hb0 := Below.refl W0.heap.size W0
  have HB : Hid (Below w.heap.size w W0) := hide (by rw [hW0]; exact (((Below.refl _ _).alloc (Nat.le_refl _) _).alloc (by simp) _))
  have k00 : W0.cell? ⟨w.heap.size, 0, none⟩ = some (.int .i64 B) := by rw [hW0]; simp [go_sem]
  have k01 : W0.cell? ⟨w.heap.size, 1, none⟩ = some (.int .i64 X) := by rw [hW0]; simp [go_sem]
  have k02 : W0.cell? ⟨w.heap.size, 2, none⟩ = some (.slice a n cap) := by rw [hW0]; simp [go_sem]
  have k10 : W0.cell? ⟨w.heap.size + 1, 0, none⟩ = some (.int .i64 ea) := by rw [hW0]; simp [go_sem]
  have k11 : W0.cell? ⟨w.heap.size + 1, 1, none⟩ = some (.int .i64 ef) := by rw [hW0]; simp [go_sem]
  have HR := hide (fun V (g : Below W0.heap.size W0 V) => hr.below (HB.out.trans (g.mono HB.out.size)))
  have LL := hide (fun V (g : Below W0.heap.size W0 V) => l.step (HB.out.trans (g.mono HB.out.size)))
  have HK := hide (fun (V : World) (g : Below W0.heap.size W0 V) => And.intro ((g.cell (p := ⟨w.heap.size, 0, none⟩) (by dsimp only; omega)).trans k00) (And.intro ((g.cell (p := ⟨w.heap.size, 1, none⟩) (by dsimp only; omega)).trans k01) (And.intro ((g.cell (p := ⟨w.heap.size, 2, none⟩) (by dsimp only; omega)).trans k02) (And.intro ((g.cell (p := ⟨w.heap.size + 1, 0, none⟩) (by dsimp only; omega)).trans k10) (And.intro ((g.cell (p := ⟨w.heap.size + 1, 1, none⟩) (by dsimp only; omega)).trans k11) g)))))
  have CW := hide (based (Nat.le_refl _) fun V (g : Below W0.heap.size W0 V) => awake_any V (LL.out V g))
  have CP := hide (fun V (g : Below W0.heap.size W0 V) => PExt_any B X a n cap A O ea ef V (LL.out V g) (HR.out V g))
  have CR := hide (fun V (g : Below W0.heap.size W0 V) => RExt_any B X a n cap A O ea ef V (HR.out V g))
  have CS := hide (fun V p q c d => Same_eq (eB B X A O n ea ef) (eX B X A O n ea ef) p q (eN B X A O n ea ef) c d (upd A n ea) (upd O n (oldO B O n + ef)) V)
  have hn63 := hr.1
  have HS := hide hz
  unfold ExtAny at CP CR
  generalize eB B X A O n ea ef = B' at CP CR CS
  generalize eX B X A O n ea ef = X' at CP CR CS
  generalize eN B X A O n ea ef = n' at CP CR CS
  generalize extE B X A O n ea ef = E at CP CR
  clear hW0 hz k00 k01 k02 k10 k11 l LL hr
  by_cases hn : 80 < n
  · have hn2 : 80 < (n : Int) := by omega
    clear CP CR CS
    go_enter Tryd.func4, Tryd.ntmps4
    go_upto_region 1 with fail
    rw [← HH.out]
    obtain ⟨k00, k01, k02, k10, k11, _⟩ := HK.out _ hb0
    go_wp2_with fail
    with_reducible refine (CW.out _ hb0).mono ?_
    rintro e w1 ⟨rfl, b1⟩
    have HF := hide (HB.out.trans (b1.mono HB.out.size))
    clear b1 k00 k01 k02 k10 k11
    go_wp2
    go_ret
    exact ⟨rfl, HF.out⟩
  · have hn2 : (n : Int) ≤ 80 := by omega
    go_enter Tryd.func4, Tryd.ntmps4
    go_upto_region 1 with fail
    rw [← HH.out]
    obtain ⟨k00, k01, k02, k10, k11, _⟩ := HK.out _ hb0
    go_wp2_with fail
    with_reducible refine (CP.out _ hb0).mono ?_
    rintro e w1 ⟨⟨p, c, rfl, he⟩, b1⟩
    have HE := hide he
    have H1 := hide b1
    clear k00 k01 k02 k10 k11 he CP
    obtain ⟨k00, k01, k02, k10, k11, _⟩ := HK.out _ b1
    clear b1
    have z0 : w.heap.size < w1.heap.size := by have := H1.out.size; have := HS.out; omega
    have z1 : w.heap.size + 1 < w1.heap.size := by have := H1.out.size; have := HS.out; omega
    go_wp2_with fail
    have g2 : Below W0.heap.size W0 (w1.alloc (.cells #[.int .i64 B', .int .i64 X', .slice p n' c] 43)) := H1.out.alloc H1.out.size _
    with_reducible refine (CR.out _ g2).mono ?_
    rintro e w3 ⟨⟨q, d, rfl, hf⟩, b3⟩
    have s1 := H1.out.size
    have s3 := b3.size
    have u0 : w3.cell? ⟨w1.heap.size, 0, none⟩ = some (.int .i64 B') := (b3.cell (p := ⟨w1.heap.size, 0, none⟩) (by simp)).trans (by simp [go_sem])
    have u1 : w3.cell? ⟨w1.heap.size, 1, none⟩ = some (.int .i64 X') := (b3.cell (p := ⟨w1.heap.size, 1, none⟩) (by simp)).trans (by simp [go_sem])
    have u2 : w3.cell? ⟨w1.heap.size, 2, none⟩ = some (.slice p n' c) := (b3.cell (p := ⟨w1.heap.size, 2, none⟩) (by simp)).trans (by simp [go_sem])
    have s4 : w1.heap.size < w3.heap.size := by simp at s3; omega
    have e3 : Ents w3 p n' (upd A n ea) (upd O n (oldO B O n + ef)) := HE.out.below (((Below.refl w1.heap.size w1).alloc (Nat.le_refl _) _).trans (b3.mono (by simp)))
    have g3 := g2.trans (b3.mono g2.size)
    have G3 := hide g3
    have HE3 := hide e3
    have HF3 := hide hf
    clear k00 k01 k02 k10 k11 CR g2 b3 e3 hf HE H1 s3 g3
    go_wp2_with fail
    have g4 : Below w3.heap.size w3 (w3.alloc (.cells #[.int .i64 B', .int .i64 X', .slice q n' d] 43)) := (Below.refl _ _).alloc (Nat.le_refl _) _
    refine (CS.out _ p q c d (HE3.out.below g4) (HF3.out.below g4)).mono ?_
    rintro e w5 ⟨rfl, b5⟩
    have g5 := (G3.out.trans (g4.mono G3.out.size)).trans (b5.mono (Nat.le_trans G3.out.size g4.size))
    clear b5 g4 u0 u1 u2 CS
    go_wp2_with fail
    with_reducible refine (CW.out _ g5).mono ?_
    rintro e w6 ⟨rfl, b6⟩
    have HF := hide (HB.out.trans (b6.mono HB.out.size))
    clear b6 g5
    go_wp2
    go_ret
    exact ⟨rfl, HF.out⟩
end Go.Proofs.YtbekfofakpbhiaaDoor.Vot
