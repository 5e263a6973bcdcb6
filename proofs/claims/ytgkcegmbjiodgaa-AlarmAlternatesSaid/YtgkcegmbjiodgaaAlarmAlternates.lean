/- The walk of the law AlarmAlternates. -/
import Derived.Test.YtgkcegmbjiodgaaAlmG
namespace Go.Proofs.Ytgkcegmbjiodgaa.AlmW
open Go.RowKit Alm Aid
theorem AlmAt.dn {w : World} {g : Nat} {c : Conf} {s : St} (h : AlmAt w g c s) (n : Nat) : AlmAt (w.drewN n) g c s := h
theorem AlarmAlternates_bad (hi lo hold clr sil : Int) (a : Option Addr) (n cap : Nat) (w : World) (hz : chk ⟨hi, lo, hold, clr, sil⟩ ≠ 0) :
    Calls Try.prog 5 #[.agg #[.int .i64 hi, .int .i64 lo, .int .i64 hold, .int .i64 clr, .int .i64 sil], .slice a n cap] w fun e w' => e = .returned (.bool true) ∧ Below w.heap.size w w' := by
  have hB : w.heap.size + 1 ≤ (w.alloc (.cells #[.int .i64 hi, .int .i64 lo, .int .i64 hold, .int .i64 clr, .int .i64 sil] 23)).heap.size := by simp
  have C1 := hide (based hB fun W _ => Check_any hi lo hold clr sil W)
  have C5 := hide (based hB fun W _ => awake_any W)
  have CN := hide (based hB fun W _ => New_bad hi lo hold clr sil W hz)
  have K := hide (fun W h => conf_cells (w := w) (x0 := .int .i64 hi) (x1 := .int .i64 lo) (x2 := .int .i64 hold) (x3 := .int .i64 clr) (x4 := .int .i64 sil) (T := 23) (W := W) h)
  have hz1 : (chk ⟨hi, lo, hold, clr, sil⟩ != 0) = true := by simpa using hz
  generalize chk ⟨hi, lo, hold, clr, sil⟩ = k at *
  clear hz hB
  have hb := Below.refl (w.heap.size + 1) (w.alloc (.cells #[.int .i64 hi, .int .i64 lo, .int .i64 hold, .int .i64 clr, .int .i64 sil] 23))
  go_enter Try.func5, Try.ntmps5
  go_wp2_with fail
  refine (CN.out _ hb).mono ?_
  rintro e w1 ⟨rfl, hb1⟩
  obtain ⟨k0, k1, k2, k3, k4, _⟩ := K.out _ hb1
  go_wp2_with fail
  refine (C1.out _ hb1).mono ?_
  rintro e w2 ⟨rfl, hb2⟩
  go_wp2_with fail
  refine (C5.out _ hb2).mono ?_
  rintro e w4 ⟨rfl, hb4⟩
  go_wp2
  go_ret
  exact ⟨rfl, box_below hb4⟩
theorem AlarmAlternates_long (hi lo hold clr sil : Int) (a : Option Addr) (n cap : Nat) (w : World) (hz : chk ⟨hi, lo, hold, clr, sil⟩ = 0) (hn : 200 < n) (hn2 : n ≤ 9223372036854775807) :
    Calls Try.prog 5 #[.agg #[.int .i64 hi, .int .i64 lo, .int .i64 hold, .int .i64 clr, .int .i64 sil], .slice a n cap] w fun e w' => e = .returned (.bool true) ∧ Below w.heap.size w w' := by
  have CN := hide fun W => New_ok hi lo hold clr sil W hz
  have C5 := hide awake_any
  clear hz
  go_enter Try.func5, Try.ntmps5
  go_wp2_with fail
  refine (CN.out _).mono ?_
  rintro e w1 ⟨g, rfl, hg, ha, hb1⟩
  have HA := hide ha
  have HB := hide hb1
  clear ha hb1
  go_wp2_with fail
  refine (C5.out _).mono ?_
  rintro e w4 ⟨rfl, hb4⟩
  go_wp2
  go_ret
  exact ⟨rfl, ((Below.refl _ _).alloc (Nat.le_refl _) _).trans ((HB.out.mono (by simp)).trans (hb4.mono (by have := HB.out.size; simp at this; omega)))⟩

set_option maxRecDepth 100000 in
set_option maxHeartbeats 6400000 in
theorem AlarmAlternates_main (hi lo hold clr sil : Int) (a : Option Addr) (n cap : Nat) (A V : Nat → Int) (w : World) (hs : SampAt w a n A V) (hz : chk ⟨hi, lo, hold, clr, sil⟩ = 0) (hn : n ≤ 200) :
    Calls Try.prog 5 #[.agg #[.int .i64 hi, .int .i64 lo, .int .i64 hold, .int .i64 clr, .int .i64 sil], .slice a n cap] w fun e w' => e = .returned (.bool true) ∧ Below w.heap.size w w' := by
  have CN := hide (new_based hz (w := w) (o := .cells #[.int .i64 hi, .int .i64 lo, .int .i64 hold, .int .i64 clr, .int .i64 sil] 23))
  have C5 := hide awake_any
  have HK := hide (chk_ok hz)
  have HS := hide hs
  clear hz hs
  generalize hc : (⟨hi, lo, hold, clr, sil⟩ : Conf) = c at *
  have HC := hide hc
  clear hc
  go_enter Try.func5, Try.ntmps5
  go_wp2_with fail
  refine (CN.out _ (Below.refl _ _)).mono ?_
  rintro e W0 ⟨g, rfl, hg, ha, hb⟩
  have M := hide (mem_of HS.out hb hg ha.lt)
  have HA := hide ha
  clear ha hb HS CN
  go_wp2
  go_loopw [6, 7, 8, 9, 10] (fun u x y z i wr => ∃ k : Nat, k ≤ n ∧ i = .int .i64 k ∧ u = .bool (runS c A V k).raised ∧ x = .int .i64 (runS c A V k).raises ∧ y = .int .i64 (runS c A V k).clears ∧ z = .int .i64 (runS c A V k).repeats ∧ W0.grownBy wr (some g) ∧ AlmAt wr g c (runS c A V k)) (fun _ _ _ _ i _ => n - (intOf i).toNat)
  case atStart => exact ⟨0, by omega, rfl, rfl, rfl, rfl, rfl, World.grownBy.refl _ _, HA.out⟩
  case round =>
    obtain ⟨k, hk, rfl, hu, rfl, rfl, rfl, hgr, ha⟩ := hrel
    have z := run_z c A V k
    have z1 := z.ra1
    have z2 := z.ra2
    have z3 := z.cl1
    have z4 := z.cl2
    have z5 := z.re1
    have z6 := z.re2
    by_cases hlt : k < n
    · obtain ⟨b, off, rfl, hbl, hcell⟩ := M.out.at_ hlt
      have F := Feed_any g c (runS c A V k) k (A k) (V k) wr.drew ha z (by omega)
      obtain ⟨c0, c1⟩ := hcell wr hgr
      have HCE := hide hcell
      have HG := hide hgr
      clear z ha hcell hgr
      have kc := kind_cases c (runS c A V k) (A k) (V k) HK.out
      have hrun : runS c A V (k + 1) = feedS c (runS c A V k) (A k) (V k) := rfl
      by_cases he : err (runS c A V k) (A k) = 0
      · have es : feedS c (runS c A V k) (A k) (V k) = next c (runS c A V k) (A k) (V k) := by unfold feedS; rw [if_pos he]
        have en : feedN c (runS c A V k) (A k) (V k) = kind c (runS c A V k) (A k) (V k) := by unfold feedN; rw [if_pos he]
        rw [he, en, ← hrun] at F
        rw [es] at hrun
        clear es en he
        rcases kc with ⟨e1, e2, e3, e4⟩ | ⟨e1, e2, e3, e4⟩ | ⟨e1, e2, e3, _, e4⟩ | ⟨e1, _, _, _, e4⟩
        · rw [e1] at F
          rw [e4] at hrun
          have hr' : (runS c A V (k + 1)).raised = true := by rw [hrun]
          have hra : (runS c A V (k + 1)).raises = (runS c A V k).raises + 1 := by rw [hrun]
          have hcl : (runS c A V (k + 1)).clears = (runS c A V k).clears := by rw [hrun]
          have hre : (runS c A V (k + 1)).repeats = (runS c A V k).repeats := by rw [hrun]
          rw [e2] at hu
          have e3 : hi < V k := by rw [← HC.out] at e3; exact e3
          clear e1 e4 hrun e2
          have HF := hide F
          clear F
          subst hu
          go_wp2
          go_region_held3 (fun W => W.cell? ⟨b, off + k * 2, none⟩ = some (.int .i64 (A k)) ∧ W.cell? ⟨b, off + k * 2 + 1, none⟩ = some (.int .i64 (V k))) (first | exact HCE.out _ (by assumption) | exact ⟨c0, c1⟩)
            (first | (go_at_call 15; refine HF.out.mono ?_; rintro e w' ⟨rfl, hgr', ha'⟩; have hgr2 : W0.grownBy w' (some g) := grown_trans HG.out hgr'; clear hgr'))
          have CS := fun W h => Since_any g c (runS c A V (k + 1)) W h
          have CR := fun W h => Raised_any g c (runS c A V (k + 1)) W h
          generalize (if (runS c A V (k + 1)).raised = true then (runS c A V (k + 1)).since else 0) = sv at CS
          simp only [hr'] at CS CR
          have HCS := hide CS
          have HCR := hide CR
          have HA2 := hide ha'
          have HG2 := hide hgr2
          obtain ⟨d0, d1⟩ := HCE.out w' hgr2
          obtain ⟨x0, x1, x2, x3, x4⟩ := M.out.box hgr2
          have HR := hide hr'
          have HRA := hide hra
          have HCL := hide hcl
          have HRE := hide hre
          clear CS CR ha' hgr2 c0 c1 hr' hra hcl hre
          go_wp2
          go_quiet (fail)
          go_wp2_with (first | (go_at_call 17; refine ((HCS.out _ (by exact HA2.out)).mono ?_); rintro e w'' ⟨rfl, rfl⟩) | (go_at_call 19; refine ((HCR.out _ (by exact HA2.out)).mono ?_); rintro e w'' ⟨rfl, rfl⟩))
          go_roundw
          case rel => exact ⟨k + 1, by omega, by go_num, by rw [HR.out], by rw [HRA.out], by rw [HCL.out], by rw [HRE.out], (only_drewN HG2.out _), HA2.out⟩
          case measure => simp [intOf]; omega
        · rw [e1] at F
          rw [e4] at hrun
          have hr' : (runS c A V (k + 1)).raised = false := by rw [hrun]
          have hra : (runS c A V (k + 1)).raises = (runS c A V k).raises := by rw [hrun]
          have hcl : (runS c A V (k + 1)).clears = (runS c A V k).clears + 1 := by rw [hrun]
          have hre : (runS c A V (k + 1)).repeats = (runS c A V k).repeats := by rw [hrun]
          rw [e2] at hu
          have e3 : V k < lo := by rw [← HC.out] at e3; exact e3
          clear e1 e4 hrun e2
          have HF := hide F
          clear F
          subst hu
          go_wp2
          go_region_held3 (fun W => W.cell? ⟨b, off + k * 2, none⟩ = some (.int .i64 (A k)) ∧ W.cell? ⟨b, off + k * 2 + 1, none⟩ = some (.int .i64 (V k))) (first | exact HCE.out _ (by assumption) | exact ⟨c0, c1⟩)
            (first | (go_at_call 15; refine HF.out.mono ?_; rintro e w' ⟨rfl, hgr', ha'⟩; have hgr2 : W0.grownBy w' (some g) := grown_trans HG.out hgr'; clear hgr'))
          have CS := fun W h => Since_any g c (runS c A V (k + 1)) W h
          have CR := fun W h => Raised_any g c (runS c A V (k + 1)) W h
          generalize (if (runS c A V (k + 1)).raised = true then (runS c A V (k + 1)).since else 0) = sv at CS
          simp only [hr'] at CS CR
          have HCS := hide CS
          have HCR := hide CR
          have HA2 := hide ha'
          have HG2 := hide hgr2
          obtain ⟨d0, d1⟩ := HCE.out w' hgr2
          obtain ⟨x0, x1, x2, x3, x4⟩ := M.out.box hgr2
          have HR := hide hr'
          have HRA := hide hra
          have HCL := hide hcl
          have HRE := hide hre
          clear CS CR ha' hgr2 c0 c1 hr' hra hcl hre
          go_wp2
          go_quiet (fail)
          go_wp2
          go_quiet (fail)
          go_wp2_with (first | (go_at_call 17; refine ((HCS.out _ (by exact HA2.out)).mono ?_); rintro e w'' ⟨rfl, rfl⟩) | (go_at_call 19; refine ((HCR.out _ (by exact HA2.out)).mono ?_); rintro e w'' ⟨rfl, rfl⟩))
          go_roundw
          case rel => exact ⟨k + 1, by omega, by go_num, by rw [HR.out], by rw [HRA.out], by rw [HCL.out], by rw [HRE.out], (only_drewN HG2.out _), HA2.out⟩
          case measure => simp [intOf]; omega
        · rw [e1] at F
          rw [e4] at hrun
          have hr' : (runS c A V (k + 1)).raised = true := by rw [hrun]; exact e2
          have hra : (runS c A V (k + 1)).raises = (runS c A V k).raises := by rw [hrun]
          have hcl : (runS c A V (k + 1)).clears = (runS c A V k).clears := by rw [hrun]
          have hre : (runS c A V (k + 1)).repeats = (runS c A V k).repeats + 1 := by rw [hrun]
          rw [e2] at hu
          have e3 : hi < V k := by rw [← HC.out] at e3; exact e3
          clear e1 e4 hrun e2
          have HF := hide F
          clear F
          subst hu
          go_wp2
          go_region_held3 (fun W => W.cell? ⟨b, off + k * 2, none⟩ = some (.int .i64 (A k)) ∧ W.cell? ⟨b, off + k * 2 + 1, none⟩ = some (.int .i64 (V k))) (first | exact HCE.out _ (by assumption) | exact ⟨c0, c1⟩)
            (first | (go_at_call 15; refine HF.out.mono ?_; rintro e w' ⟨rfl, hgr', ha'⟩; have hgr2 : W0.grownBy w' (some g) := grown_trans HG.out hgr'; clear hgr'))
          have CS := fun W h => Since_any g c (runS c A V (k + 1)) W h
          have CR := fun W h => Raised_any g c (runS c A V (k + 1)) W h
          generalize (if (runS c A V (k + 1)).raised = true then (runS c A V (k + 1)).since else 0) = sv at CS
          simp only [hr'] at CS CR
          have HCS := hide CS
          have HCR := hide CR
          have HA2 := hide ha'
          have HG2 := hide hgr2
          obtain ⟨d0, d1⟩ := HCE.out w' hgr2
          obtain ⟨x0, x1, x2, x3, x4⟩ := M.out.box hgr2
          have HR := hide hr'
          have HRA := hide hra
          have HCL := hide hcl
          have HRE := hide hre
          clear CS CR ha' hgr2 c0 c1 hr' hra hcl hre
          go_wp2
          go_quiet (fail)
          go_wp2
          go_quiet (fail)
          go_wp2
          go_quiet (fail)
          go_wp2_with (first | (go_at_call 17; refine ((HCS.out _ (by exact HA2.out)).mono ?_); rintro e w'' ⟨rfl, rfl⟩) | (go_at_call 19; refine ((HCR.out _ (by exact HA2.out)).mono ?_); rintro e w'' ⟨rfl, rfl⟩))
          go_roundw
          case rel => exact ⟨k + 1, by omega, by go_num, by rw [HR.out], by rw [HRA.out], by rw [HCL.out], by rw [HRE.out], (only_drewN HG2.out _), HA2.out⟩
          case measure => simp [intOf]; omega
        · rw [e1] at F
          rw [e4] at hrun
          have hr' : (runS c A V (k + 1)).raised = (runS c A V k).raised := by rw [hrun]
          have hra : (runS c A V (k + 1)).raises = (runS c A V k).raises := by rw [hrun]
          have hcl : (runS c A V (k + 1)).clears = (runS c A V k).clears := by rw [hrun]
          have hre : (runS c A V (k + 1)).repeats = (runS c A V k).repeats := by rw [hrun]
          clear e1 e4 hrun
          have HF := hide F
          clear F
          subst hu
          go_wp2
          go_region_held3 (fun W => W.cell? ⟨b, off + k * 2, none⟩ = some (.int .i64 (A k)) ∧ W.cell? ⟨b, off + k * 2 + 1, none⟩ = some (.int .i64 (V k))) (first | exact HCE.out _ (by assumption) | exact ⟨c0, c1⟩)
            (first | (go_at_call 15; refine HF.out.mono ?_; rintro e w' ⟨rfl, hgr', ha'⟩; have hgr2 : W0.grownBy w' (some g) := grown_trans HG.out hgr'; clear hgr'))
          have CS := fun W h => Since_any g c (runS c A V (k + 1)) W h
          have CR := fun W h => Raised_any g c (runS c A V (k + 1)) W h
          generalize (if (runS c A V (k + 1)).raised = true then (runS c A V (k + 1)).since else 0) = sv at CS
          simp only [hr'] at CS CR
          have HCS := hide CS
          have HCR := hide CR
          have HA2 := hide ha'
          have HG2 := hide hgr2
          obtain ⟨d0, d1⟩ := HCE.out w' hgr2
          obtain ⟨x0, x1, x2, x3, x4⟩ := M.out.box hgr2
          have HR := hide hr'
          have HRA := hide hra
          have HCL := hide hcl
          have HRE := hide hre
          clear CS CR ha' hgr2 c0 c1 hr' hra hcl hre
          go_wp2
          go_quiet (fail)
          go_wp2
          go_quiet (fail)
          go_wp2
          go_quiet (fail)
          go_wp2_with (first | (go_at_call 17; refine ((HCS.out _ (by exact HA2.out)).mono ?_); rintro e w'' ⟨rfl, rfl⟩) | (go_at_call 19; refine ((HCR.out _ (by exact HA2.out)).mono ?_); rintro e w'' ⟨rfl, rfl⟩))
          go_roundw
          case rel => exact ⟨k + 1, by omega, by go_num, by rw [HR.out], by rw [HRA.out], by rw [HCL.out], by rw [HRE.out], (only_drewN HG2.out _), HA2.out⟩
          case measure => simp [intOf]; omega
      · have es : feedS c (runS c A V k) (A k) (V k) = runS c A V k := by unfold feedS; rw [if_neg he]
        have en : feedN c (runS c A V k) (A k) (V k) = 0 := by unfold feedN; rw [if_neg he]
        rw [en, ← hrun] at F
        rw [es] at hrun
        have hr' : (runS c A V (k + 1)).raised = (runS c A V k).raised := by rw [hrun]
        have hra : (runS c A V (k + 1)).raises = (runS c A V k).raises := by rw [hrun]
        have hcl : (runS c A V (k + 1)).clears = (runS c A V k).clears := by rw [hrun]
        have hre : (runS c A V (k + 1)).repeats = (runS c A V k).repeats := by rw [hrun]
        have hen : (err (runS c A V k) (A k) != 0) = true := by simpa using he
        generalize err (runS c A V k) (A k) = ev at F hen
        clear es en he kc hrun
        have HF := hide F
        clear F
        subst hu
        go_wp2
        go_region_held3 (fun W => W.cell? ⟨b, off + k * 2, none⟩ = some (.int .i64 (A k)) ∧ W.cell? ⟨b, off + k * 2 + 1, none⟩ = some (.int .i64 (V k))) (first | exact HCE.out _ (by assumption) | exact ⟨c0, c1⟩)
          (first | (go_at_call 15; refine HF.out.mono ?_; rintro e w' ⟨rfl, hgr', ha'⟩; have hgr2 : W0.grownBy w' (some g) := grown_trans HG.out hgr'; clear hgr'))
        have CS := fun W h => Since_any g c (runS c A V (k + 1)) W h
        have CR := fun W h => Raised_any g c (runS c A V (k + 1)) W h
        generalize (if (runS c A V (k + 1)).raised = true then (runS c A V (k + 1)).since else 0) = sv at CS
        simp only [hr'] at CS CR
        have HCS := hide CS
        have HCR := hide CR
        have HA2 := hide ha'
        have HG2 := hide hgr2
        obtain ⟨d0, d1⟩ := HCE.out w' hgr2
        obtain ⟨x0, x1, x2, x3, x4⟩ := M.out.box hgr2
        have HR := hide hr'
        have HRA := hide hra
        have HCL := hide hcl
        have HRE := hide hre
        clear CS CR ha' hgr2 c0 c1 hr' hra hcl hre
        go_wp2_with (first | (go_at_call 17; refine ((HCS.out _ (by exact HA2.out)).mono ?_); rintro e w'' ⟨rfl, rfl⟩) | (go_at_call 19; refine ((HCR.out _ (by exact HA2.out)).mono ?_); rintro e w'' ⟨rfl, rfl⟩))
        go_roundw
        case rel => exact ⟨k + 1, by omega, by go_num, by rw [HR.out], by rw [HRA.out], by rw [HCL.out], by rw [HRE.out], HG2.out, HA2.out⟩
        case measure => simp [intOf]; omega
    · subst hu
      have e : k = n := by omega
      have CC := Counts_any g c (runS c A V k) wr ha
      have HCC := hide CC
      have HG := hide hgr
      clear CC ha hgr z e
      go_wp2_with (first | (go_at_call 21; refine HCC.out.mono ?_; rintro e w' ⟨rfl, nq, rfl⟩) | (go_at_call 13; refine (C5.out _).mono ?_; rintro e w' ⟨rfl, hb⟩))
      go_ret
      exact ⟨rfl, (M.out.fin (only_drewN HG.out nq)).trans (Below.mono (by assumption) (M.out.fin (only_drewN HG.out nq)).size)⟩
theorem AlarmAlternates_walk (hi lo hold clr sil : Int) (a : Option Addr) (n cap : Nat) (A V : Nat → Int) (w : World) (hs : SampAt w a n A V) :
    Calls Try.prog 5 #[.agg #[.int .i64 hi, .int .i64 lo, .int .i64 hold, .int .i64 clr, .int .i64 sil], .slice a n cap] w fun e w' => e = .returned (.bool true) ∧ Below w.heap.size w w' := by
  by_cases hz : chk ⟨hi, lo, hold, clr, sil⟩ = 0
  · by_cases hn : n ≤ 200
    · exact AlarmAlternates_main hi lo hold clr sil a n cap A V w hs hz hn
    · exact AlarmAlternates_long hi lo hold clr sil a n cap w hz (by omega) hs.1
  · exact AlarmAlternates_bad hi lo hold clr sil a n cap w hz
end Go.Proofs.Ytgkcegmbjiodgaa.AlmW
