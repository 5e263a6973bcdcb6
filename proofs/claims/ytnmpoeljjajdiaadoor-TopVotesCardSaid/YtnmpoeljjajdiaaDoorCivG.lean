
/- The contract of layer 5: Seconds of the package. -/
import Derived.Test.YtnmpoeljjajdiaaDoorCivF
import Derived.Test.YtnmpoeljjajdiaaDoorCivD
namespace Go.Proofs.YtnmpoeljjajdiaaDoor.Civ
open Go.RowKit Aid
def secN (y m d h mi s : Int) : Int := 86400 * (ys y + ms y m.toNat + d - 1) + 3600 * h + 60 * mi + s
def secV (y m d h mi s n : Int) : Int := if chkC y m d h mi s n = 0 ∧ -8000000000 ≤ secN y m d h mi s ∧ secN y m d h mi s ≤ 8000000000 then secN y m d h mi s else 0
def secE (y m d h mi s n : Int) : Int := if chkC y m d h mi s n = 0 ∧ -8000000000 ≤ secN y m d h mi s ∧ secN y m d h mi s ≤ 8000000000 then 0 else 3
theorem cells7 {w : World} {x0 x1 x2 x3 x4 x5 x6 : Value} {T : TypeId} {W : World} (h : Below (w.heap.size + 1) (w.alloc (.cells #[x0, x1, x2, x3, x4, x5, x6] T)) W) :
    W.cell? ⟨w.heap.size, 0, none⟩ = some x0 ∧ W.cell? ⟨w.heap.size, 1, none⟩ = some x1 ∧ W.cell? ⟨w.heap.size, 2, none⟩ = some x2 ∧ W.cell? ⟨w.heap.size, 3, none⟩ = some x3 ∧ W.cell? ⟨w.heap.size, 4, none⟩ = some x4 ∧ W.cell? ⟨w.heap.size, 5, none⟩ = some x5 ∧ W.cell? ⟨w.heap.size, 6, none⟩ = some x6 ∧ Below (w.heap.size + 1) (w.alloc (.cells #[x0, x1, x2, x3, x4, x5, x6] T)) W :=
  ⟨(h.cell (p := ⟨w.heap.size, 0, none⟩) (by simp)).trans (by simp [go_sem]), (h.cell (p := ⟨w.heap.size, 1, none⟩) (by simp)).trans (by simp [go_sem]), (h.cell (p := ⟨w.heap.size, 2, none⟩) (by simp)).trans (by simp [go_sem]),
   (h.cell (p := ⟨w.heap.size, 3, none⟩) (by simp)).trans (by simp [go_sem]), (h.cell (p := ⟨w.heap.size, 4, none⟩) (by simp)).trans (by simp [go_sem]), (h.cell (p := ⟨w.heap.size, 5, none⟩) (by simp)).trans (by simp [go_sem]), (h.cell (p := ⟨w.heap.size, 6, none⟩) (by simp)).trans (by simp [go_sem]), h⟩
theorem box_below {w : World} {o : Obj} {W : World} (h : Below (w.heap.size + 1) (w.alloc o) W) : Below w.heap.size w W := ((Below.refl _ _).alloc (Nat.le_refl _) _).trans (h.mono (by omega))
theorem chkC_two (y m d h mi s n : Int) : chkC y m d h mi s n = 0 ∨ chkC y m d h mi s n = 3 := by unfold chkC; split <;> simp
set_option maxRecDepth 100000 in
set_option maxHeartbeats 3200000 in
theorem Seconds_any (y m d h mi s n : Int) (w : World) (l : Laid w) :
    Calls Tryd.prog 38 #[.agg #[.int .i64 y, .int .i64 m, .int .i64 d, .int .i64 h, .int .i64 mi, .int .i64 s, .int .i64 n]] w fun e w' => e = .returned (.tuple #[.int .i64 (secV y m d h mi s n), .int .i64 (secE y m d h mi s n)]) ∧ Below w.heap.size w w' := by
  have hb0 : Below w.heap.size w (w.alloc (.cells #[.int .i64 y, .int .i64 m, .int .i64 d, .int .i64 h, .int .i64 mi, .int .i64 s, .int .i64 n] 51)) := (Below.refl _ _).alloc (Nat.le_refl _) _
  have C := hide (Check_any y m d h mi s n _ (l.step hb0))
  have HB := hide hb0
  have HL := hide l
  clear hb0 l
  rcases chkC_two y m d h mi s n with hz | hz
  · have V := chkC_ok hz
    obtain ⟨a1, a2, b1, b2, c1, c2, d1, d2, f1, f2, g1, g2, k1, k2⟩ := V
    obtain ⟨M, rfl⟩ : ∃ M : Nat, m = (M : Int) := ⟨m.toNat, by omega⟩
    have md31 := md_bd y (M : Int)
    have HS : Hid (secN y (M : Int) d h mi s = 86400 * (ys y + ms y M + d - 1) + 3600 * h + 60 * mi + s) := hide (by unfold secN; simp)
    have HZ := hide hz
    rw [hz] at C
    have y5 : -200000 ≤ ys y ∧ ys y ≤ 200000 := by unfold ys; omega
    obtain ⟨y6, y7⟩ := y5
    have Y := hide fun W => yearStart_any y W (by omega) (by omega)
    obtain ⟨Y0, hY0⟩ : ∃ Y0, ys y = Y0 := ⟨_, rfl⟩
    have HY := hide hY0
    rw [hY0] at y6 y7 Y
    have c3 : d ≤ 31 := by omega
    clear hz hY0 c2
    go_enter Tryd.func38, Tryd.ntmps38
    go_wp2_with fail
    refine C.out.mono ?_
    rintro e w1 ⟨rfl, hb⟩
    have L1 : Hid (Laid w1) := hide ((HL.out.step HB.out).step hb)
    obtain ⟨x0, x1, x2, x3, x4, x5, _, hb2⟩ := cells7 (hb.mono (by simp))
    have HB1 := hide (box_below hb2)
    clear hb hb2 HB HL C
    go_wp2
    go_quiet (first | (go_at_call 36; exact quietC (Y.out _)))
    go_wp2
    go_loopw [5, 23] (fun a i wr => ∃ k : Nat, k + 1 ≤ M ∧ i = .int .i64 k ∧ a = .int .i64 (Y0 + d - 1 + ms y (k + 1)) ∧ wr = w1.drewN nq) (fun _ i _ => M - (intOf i).toNat)
    case atStart => exact ⟨0, by omega, rfl, by rw [ms_1]; simp, rfl⟩
    case round =>
      obtain ⟨k, hk, rfl, rfl, rfl⟩ := hrel
      have HM := hide (MonthDays_any y ((k : Int) + 1) (w1.drewN nq) (L1.out.step (below_drewN (Below.refl _ _) nq)))
      have e1 : ms y (k + 1 + 1) = ms y (k + 1) + md y ((k : Int) + 1) := by
        rw [show (k : Int) + 1 = ((k + 1 : Nat) : Int) by omega]; rfl
      have g1 := md_bd y ((k : Int) + 1)
      obtain ⟨g3, g4⟩ := g1
      have g5 := ms_mono (y := y) (show 1 ≤ k + 1 by omega)
      rw [ms_1] at g5
      have g6 := ms_mono (y := y) (show k + 1 ≤ 13 by omega)
      rw [ms_13] at g6
      have g7 := yd_cases y
      have g8 : ms y (k + 1) ≤ 366 := by omega
      clear g6 g7
      by_cases hlt : k + 1 < M
      · have hd : decide ((k : Int) < (M : Int) - 1) = true := decide_eq_true (by omega)
        have HE := hide e1
        generalize md y ((k : Int) + 1) = p at *
        generalize hq : ms y (k + 1) = q at *
        clear e1 hq
        go_wp2_with fail
        refine HM.out.mono ?_
        rintro e w' ⟨rfl, rfl⟩
        go_wp2
        go_roundw
        case rel => exact ⟨k + 1, by omega, by go_num, by rw [HE.out]; congr 1; omega, by first | rfl | trivial⟩
        case measure => (simp [intOf]) <;> omega
      · have hd : decide ((k : Int) < (M : Int) - 1) = false := decide_eq_false (by omega)
        have hk2 : k + 1 = M := by omega
        rw [hk2] at g5 g8 ⊢
        have HS2 : Hid (secN y (M : Int) d h mi s = 86400 * (Y0 + d - 1 + ms y M) + 3600 * h + 60 * mi + s) := hide (by rw [HS.out, HY.out]; omega)
        obtain ⟨q, hq⟩ : ∃ q, ms y M = q := ⟨_, rfl⟩
        rw [hq] at HS2 g5 g8 ⊢
        obtain ⟨t, ht⟩ : ∃ t, 86400 * (Y0 + d - 1 + q) + 3600 * h + 60 * mi + s = t := ⟨_, rfl⟩
        rw [ht] at HS2
        have W := hide fun W => within_any t (-8000000000) 8000000000 W
        clear e1 HM g3 g4 hq
        by_cases hr : -8000000000 ≤ t ∧ t ≤ 8000000000
        · rw [inB_t hr] at W
          have ev : secV y (M : Int) d h mi s n = t := by unfold secV; rw [HS2.out, if_pos ⟨HZ.out, hr⟩]
          have ee : secE y (M : Int) d h mi s n = 0 := by unfold secE; rw [HS2.out, if_pos ⟨HZ.out, hr⟩]
          have EV := hide ev
          have EE := hide ee
          clear ev ee
          go_wp2_with fail
          refine (W.out _).mono ?_
          rintro e w' ⟨rfl, rfl⟩
          go_wp2
          go_ret2
          exact ⟨by rw [EV.out, EE.out]; rfl, below_drewN HB1.out _⟩
        · rw [inB_f hr] at W
          have ev : secV y (M : Int) d h mi s n = 0 := by unfold secV; rw [HS2.out, if_neg (fun k => hr k.2)]
          have ee : secE y (M : Int) d h mi s n = 3 := by unfold secE; rw [HS2.out, if_neg (fun k => hr k.2)]
          have EV := hide ev
          have EE := hide ee
          clear ev ee hr
          go_wp2_with fail
          refine (W.out _).mono ?_
          rintro e w' ⟨rfl, rfl⟩
          go_wp2
          go_ret2
          exact ⟨by rw [EV.out, EE.out]; rfl, below_drewN HB1.out _⟩
  · have ev : secV y m d h mi s n = 0 := by unfold secV; rw [if_neg (by rw [hz]; simp)]
    have ee : secE y m d h mi s n = 3 := by unfold secE; rw [if_neg (by rw [hz]; simp)]
    rw [ev, ee]
    rw [hz] at C
    clear hz ev ee HL
    go_enter Tryd.func38, Tryd.ntmps38
    go_wp2_with fail
    refine C.out.mono ?_
    rintro e w1 ⟨rfl, hb⟩
    go_wp2
    go_ret2
    exact ⟨rfl, HB.out.trans (hb.mono (by simp))⟩
end Go.Proofs.YtnmpoeljjajdiaaDoor.Civ
