/- The walk of the law AlarmSilence. -/
import Derived.Test.YtgkcegmbjiodgaaAlmG
namespace Go.Proofs.Ytgkcegmbjiodgaa.AlmW
open Go.RowKit Alm Aid
theorem AlarmSilence_bad (hi lo hold clr sil : Int) (a : Option Addr) (n cap : Nat) (w : World) (hz : chk ⟨hi, lo, hold, clr, sil⟩ ≠ 0) :
    Calls Try.prog 8 #[.agg #[.int .i64 hi, .int .i64 lo, .int .i64 hold, .int .i64 clr, .int .i64 sil], .slice a n cap] w fun e w' => e = .returned (.bool true) ∧ Below w.heap.size w w' := by
  have hB : w.heap.size + 1 ≤ (w.alloc (.cells #[.int .i64 hi, .int .i64 lo, .int .i64 hold, .int .i64 clr, .int .i64 sil] 23)).heap.size := by simp
  have C5 := hide (based hB fun W _ => awake_any W)
  have CN := hide (based hB fun W _ => New_bad hi lo hold clr sil W hz)
  clear hz hB
  have hb := Below.refl (w.heap.size + 1) (w.alloc (.cells #[.int .i64 hi, .int .i64 lo, .int .i64 hold, .int .i64 clr, .int .i64 sil] 23))
  go_enter Try.func8, Try.ntmps8
  go_wp2_with fail
  refine (CN.out _ hb).mono ?_
  rintro e w1 ⟨rfl, hb1⟩
  go_wp2_with fail
  refine (C5.out _ hb1).mono ?_
  rintro e w4 ⟨rfl, hb4⟩
  go_wp2
  go_ret
  exact ⟨rfl, box_below hb4⟩
theorem AlarmSilence_long (hi lo hold clr sil : Int) (a : Option Addr) (n cap : Nat) (w : World) (hz : chk ⟨hi, lo, hold, clr, sil⟩ = 0) (hn : 200 < n) (hn2 : n ≤ 9223372036854775807) :
    Calls Try.prog 8 #[.agg #[.int .i64 hi, .int .i64 lo, .int .i64 hold, .int .i64 clr, .int .i64 sil], .slice a n cap] w fun e w' => e = .returned (.bool true) ∧ Below w.heap.size w w' := by
  have CN := hide fun W => New_ok hi lo hold clr sil W hz
  have C5 := hide awake_any
  clear hz
  go_enter Try.func8, Try.ntmps8
  go_wp2_with fail
  refine (CN.out _).mono ?_
  rintro e w1 ⟨g, rfl, hg, ha, hb1⟩
  have HA := hide ha
  have HB := hide hb1
  clear ha hb1
  go_wp2_with fail
  refine (C5.out _).mono ?_
  rintro e w4 ⟨rfl, hb4⟩
  go_wp2
  go_ret
  exact ⟨rfl, ((Below.refl _ _).alloc (Nat.le_refl _) _).trans ((HB.out.mono (by simp)).trans (hb4.mono (by have := HB.out.size; simp at this; omega)))⟩
set_option maxRecDepth 100000 in
set_option maxHeartbeats 6400000 in
theorem AlarmSilence_main (hi lo hold clr sil : Int) (a : Option Addr) (n cap : Nat) (A V : Nat → Int) (w : World) (hs : SampAt w a n A V) (hz : chk ⟨hi, lo, hold, clr, sil⟩ = 0) (hn : n ≤ 200) :
    Calls Try.prog 8 #[.agg #[.int .i64 hi, .int .i64 lo, .int .i64 hold, .int .i64 clr, .int .i64 sil], .slice a n cap] w fun e w' => e = .returned (.bool true) ∧ Below w.heap.size w w' := by
  have CN := hide (new_based hz (w := w) (o := .cells #[.int .i64 hi, .int .i64 lo, .int .i64 hold, .int .i64 clr, .int .i64 sil] 23))
  have C5 := hide awake_any
  have hk0 := chk_ok hz
  have k1 : lo ≤ hi := hk0.lh
  have HK := hide hk0
  have HS := hide hs
  clear hz hs hk0
  generalize hc : (⟨hi, lo, hold, clr, sil⟩ : Conf) = c at *
  have HC := hide hc
  clear hc
  go_enter Try.func8, Try.ntmps8
  go_wp2_with fail
  refine (CN.out _ (Below.refl _ _)).mono ?_
  rintro e W0 ⟨g, rfl, hg, ha, hb⟩
  have M := hide (mem_of HS.out hb hg ha.lt)
  have HA := hide ha
  clear ha hb HS CN
  go_wp2
  go_loopw [6, 7] (fun u i wr => ∃ (k : Nat), k ≤ n ∧ i = .int .i64 k ∧ u = .int .i64 (runS c A V k).noti ∧ W0.grownBy wr (some g) ∧ AlmAt wr g c (runS c A V k)) (fun _ i _ => n - (intOf i).toNat)
  case atStart => exact ⟨0, by omega, rfl, rfl, World.grownBy.refl _ _, HA.out⟩
  case round =>
    obtain ⟨k, hk, rfl, rfl, hgr, ha⟩ := hrel
    have z := run_z c A V k
    have z7 := z.noti1
    have z8 := z.noti2
    have z9 := z.last2
    by_cases hlt : k < n
    · obtain ⟨b, off, rfl, hbl, hcell⟩ := M.out.at_ hlt
      have F := Feed_any g c (runS c A V k) k (A k) (V k) wr.drew ha z (by omega)
      obtain ⟨c0, c1⟩ := hcell wr hgr
      have HCE := hide hcell
      have HG := hide hgr
      have HAK := hide ha
      clear z ha hcell hgr
      have kc := kind_cases c (runS c A V k) (A k) (V k) HK.out
      have hrun : runS c A V (k + 1) = feedS c (runS c A V k) (A k) (V k) := rfl
      by_cases he : err (runS c A V k) (A k) = 0
      · have es : feedS c (runS c A V k) (A k) (V k) = next c (runS c A V k) (A k) (V k) := by unfold feedS; rw [if_pos he]
        have en : feedN c (runS c A V k) (A k) (V k) = kind c (runS c A V k) (A k) (V k) := by unfold feedN; rw [if_pos he]
        rw [he, en, ← hrun] at F
        rw [es] at hrun
        have hin : 0 ≤ A k ∧ A k ≤ 1125899906842624 := by
          unfold err at he
          split at he
          · omega
          · split at he <;> omega
        obtain ⟨i1, i2⟩ := hin
        clear es en he
        rcases kc with ⟨e1, e2, e3, e4⟩ | ⟨e1, e2, e3, e4⟩ | ⟨e1, e2, e3, e5, e4⟩ | ⟨e1, e5, e6, e7, e4⟩
        · rw [e1] at F
          rw [e4] at hrun
          have CR := Raised_any g c (runS c A V k) wr HAK.out
          rw [e2] at CR
          have HCR := hide CR
          clear CR
          have hn2 : (runS c A V (k + 1)).noti = A k := by rw [hrun]
          have HN := hide hn2
          clear hn2 hrun e4 e1
          clear e2 e3
          go_wp2_with (go_at_call 19; refine ((HCR.out).mono ?_); rintro e w'' ⟨rfl, rfl⟩)
          have HF := hide F
          clear F
          go_region_held3 (fun W => W.cell? ⟨b, off + k * 2, none⟩ = some (.int .i64 (A k)) ∧ W.cell? ⟨b, off + k * 2 + 1, none⟩ = some (.int .i64 (V k))) (first | exact HCE.out _ (by assumption) | exact ⟨c0, c1⟩)
            (first | (go_at_call 15; refine HF.out.mono ?_; rintro e w' ⟨rfl, hgr', ha'⟩; have hgr2 : W0.grownBy w' (some g) := grown_trans HG.out hgr'; clear hgr'))
          have HA2 := hide ha'
          have HG2 := hide hgr2
          obtain ⟨d0, d1⟩ := HCE.out w' hgr2
          obtain ⟨x0, x1, x2, x3, x4⟩ := M.out.box hgr2
          clear ha' hgr2 c0 c1
          go_wp2
          go_quiet (fail)
          go_wp2
          go_roundw
          case rel => exact ⟨k + 1, by omega, by go_num, by rw [HN.out], (only_drewN HG2.out _), HA2.out⟩
          case measure => simp [intOf]; omega
        · rw [e1] at F
          rw [e4] at hrun
          have CR := Raised_any g c (runS c A V k) wr HAK.out
          rw [e2] at CR
          have HCR := hide CR
          clear CR
          have hn2 : (runS c A V (k + 1)).noti = A k := by rw [hrun]
          have HN := hide hn2
          clear hn2 hrun e4 e1
          have e9 : ¬ hi < V k := by rw [← HC.out] at e3; have : V k < lo := e3; omega
          have e10 : decide (hi < V k) = false := by simpa using e9
          clear e2 e3
          go_wp2_with (go_at_call 19; refine ((HCR.out).mono ?_); rintro e w'' ⟨rfl, rfl⟩)
          have HF := hide F
          clear F
          go_region_held3 (fun W => W.cell? ⟨b, off + k * 2, none⟩ = some (.int .i64 (A k)) ∧ W.cell? ⟨b, off + k * 2 + 1, none⟩ = some (.int .i64 (V k))) (first | exact HCE.out _ (by assumption) | exact ⟨c0, c1⟩)
            (first | (go_at_call 15; refine HF.out.mono ?_; rintro e w' ⟨rfl, hgr', ha'⟩; have hgr2 : W0.grownBy w' (some g) := grown_trans HG.out hgr'; clear hgr'))
          have HA2 := hide ha'
          have HG2 := hide hgr2
          obtain ⟨d0, d1⟩ := HCE.out w' hgr2
          obtain ⟨x0, x1, x2, x3, x4⟩ := M.out.box hgr2
          clear ha' hgr2 c0 c1
          go_wp2
          go_quiet (fail)
          go_wp2
          go_roundw
          case rel => exact ⟨k + 1, by omega, by go_num, by rw [HN.out], (only_drewN HG2.out _), HA2.out⟩
          case measure => simp [intOf]; omega
        · rw [e1] at F
          rw [e4] at hrun
          have CR := Raised_any g c (runS c A V k) wr HAK.out
          rw [e2] at CR
          have HCR := hide CR
          clear CR
          have hn2 : (runS c A V (k + 1)).noti = A k := by rw [hrun]
          have HN := hide hn2
          clear hn2 hrun e4 e1
          have e9 : hi < V k := by rw [← HC.out] at e3; exact e3
          have e10 : sil ≤ A k - (runS c A V k).noti := by
            have h : c.sil = sil := by rw [← HC.out]
            omega
          clear e2 e3 e5
          go_wp2_with (go_at_call 19; refine ((HCR.out).mono ?_); rintro e w'' ⟨rfl, rfl⟩)
          have HF := hide F
          clear F
          go_region_held3 (fun W => W.cell? ⟨b, off + k * 2, none⟩ = some (.int .i64 (A k)) ∧ W.cell? ⟨b, off + k * 2 + 1, none⟩ = some (.int .i64 (V k))) (first | exact HCE.out _ (by assumption) | exact ⟨c0, c1⟩)
            (first | (go_at_call 15; refine HF.out.mono ?_; rintro e w' ⟨rfl, hgr', ha'⟩; have hgr2 : W0.grownBy w' (some g) := grown_trans HG.out hgr'; clear hgr'))
          have HA2 := hide ha'
          have HG2 := hide hgr2
          obtain ⟨d0, d1⟩ := HCE.out w' hgr2
          obtain ⟨x0, x1, x2, x3, x4⟩ := M.out.box hgr2
          clear ha' hgr2 c0 c1
          go_wp2
          go_quiet (fail)
          go_wp2
          go_roundw
          case rel => exact ⟨k + 1, by omega, by go_num, by rw [HN.out], (only_drewN HG2.out _), HA2.out⟩
          case measure => simp [intOf]; omega
        · rw [e1] at F
          rw [e4] at hrun
          have CR := Raised_any g c (runS c A V k) wr HAK.out
          have hn2 : (runS c A V (k + 1)).noti = (runS c A V k).noti := by rw [hrun]
          have HN := hide hn2
          clear hn2 hrun e4 e1
          have e9 : (runS c A V k).raised = true → hi < V k → A k - (runS c A V k).noti < sil := fun h1 h2 => by
            have h : c.sil = sil := by rw [← HC.out]
            have h' : c.hi = hi := by rw [← HC.out]
            apply Classical.byContradiction
            intro h3
            exact e5 ⟨h1, by omega, by omega⟩
          clear e5 e6 e7
          generalize (runS c A V k).raised = r at CR e9
          cases r
          · clear e9
            have HCR := hide CR
            clear CR
            go_wp2_with (go_at_call 19; refine ((HCR.out).mono ?_); rintro e w'' ⟨rfl, rfl⟩)
            have HF := hide F
            clear F
            go_region_held3 (fun W => W.cell? ⟨b, off + k * 2, none⟩ = some (.int .i64 (A k)) ∧ W.cell? ⟨b, off + k * 2 + 1, none⟩ = some (.int .i64 (V k))) (first | exact HCE.out _ (by assumption) | exact ⟨c0, c1⟩)
              (first | (go_at_call 15; refine HF.out.mono ?_; rintro e w' ⟨rfl, hgr', ha'⟩; have hgr2 : W0.grownBy w' (some g) := grown_trans HG.out hgr'; clear hgr'))
            have HA2 := hide ha'
            have HG2 := hide hgr2
            obtain ⟨d0, d1⟩ := HCE.out w' hgr2
            obtain ⟨x0, x1, x2, x3, x4⟩ := M.out.box hgr2
            clear ha' hgr2 c0 c1
            go_wp2
            go_quiet (fail)
            go_wp2
            go_roundw
            case rel => exact ⟨k + 1, by omega, by go_num, by rw [HN.out], (only_drewN HG2.out _), HA2.out⟩
            case measure => simp [intOf]; omega
          · by_cases hv : hi < V k
            · have e10 := e9 rfl hv
              clear e9
              have HCR := hide CR
              clear CR
              go_wp2_with (go_at_call 19; refine ((HCR.out).mono ?_); rintro e w'' ⟨rfl, rfl⟩)
              have HF := hide F
              clear F
              go_region_held3 (fun W => W.cell? ⟨b, off + k * 2, none⟩ = some (.int .i64 (A k)) ∧ W.cell? ⟨b, off + k * 2 + 1, none⟩ = some (.int .i64 (V k))) (first | exact HCE.out _ (by assumption) | exact ⟨c0, c1⟩)
                (first | (go_at_call 15; refine HF.out.mono ?_; rintro e w' ⟨rfl, hgr', ha'⟩; have hgr2 : W0.grownBy w' (some g) := grown_trans HG.out hgr'; clear hgr'))
              have HA2 := hide ha'
              have HG2 := hide hgr2
              obtain ⟨d0, d1⟩ := HCE.out w' hgr2
              obtain ⟨x0, x1, x2, x3, x4⟩ := M.out.box hgr2
              clear ha' hgr2 c0 c1
              go_wp2
              go_quiet (fail)
              go_wp2
              go_roundw
              case rel => exact ⟨k + 1, by omega, by go_num, by rw [HN.out], (only_drewN HG2.out _), HA2.out⟩
              case measure => simp [intOf]; omega
            · have e10 : decide (hi < V k) = false := by simpa using hv
              clear e9
              have HCR := hide CR
              clear CR
              go_wp2_with (go_at_call 19; refine ((HCR.out).mono ?_); rintro e w'' ⟨rfl, rfl⟩)
              have HF := hide F
              clear F
              go_region_held3 (fun W => W.cell? ⟨b, off + k * 2, none⟩ = some (.int .i64 (A k)) ∧ W.cell? ⟨b, off + k * 2 + 1, none⟩ = some (.int .i64 (V k))) (first | exact HCE.out _ (by assumption) | exact ⟨c0, c1⟩)
                (first | (go_at_call 15; refine HF.out.mono ?_; rintro e w' ⟨rfl, hgr', ha'⟩; have hgr2 : W0.grownBy w' (some g) := grown_trans HG.out hgr'; clear hgr'))
              have HA2 := hide ha'
              have HG2 := hide hgr2
              obtain ⟨d0, d1⟩ := HCE.out w' hgr2
              obtain ⟨x0, x1, x2, x3, x4⟩ := M.out.box hgr2
              clear ha' hgr2 c0 c1
              go_wp2
              go_quiet (fail)
              go_wp2
              go_roundw
              case rel => exact ⟨k + 1, by omega, by go_num, by rw [HN.out], (only_drewN HG2.out _), HA2.out⟩
              case measure => simp [intOf]; omega
      · have es : feedS c (runS c A V k) (A k) (V k) = runS c A V k := by unfold feedS; rw [if_neg he]
        have en : feedN c (runS c A V k) (A k) (V k) = 0 := by unfold feedN; rw [if_neg he]
        rw [en, ← hrun] at F
        rw [es] at hrun
        have hen : (err (runS c A V k) (A k) != 0) = true := by simpa using he
        generalize err (runS c A V k) (A k) = ev at F hen
        clear es en he kc
        have hn2 : (runS c A V (k + 1)).noti = (runS c A V k).noti := by rw [hrun]
        have HN := hide hn2
        have HCR := hide (Raised_any g c (runS c A V k) wr HAK.out)
        clear hn2 hrun
        go_wp2_with (go_at_call 19; refine ((HCR.out).mono ?_); rintro e w'' ⟨rfl, rfl⟩)
        have HF := hide F
        clear F
        go_region_held3 (fun W => W.cell? ⟨b, off + k * 2, none⟩ = some (.int .i64 (A k)) ∧ W.cell? ⟨b, off + k * 2 + 1, none⟩ = some (.int .i64 (V k))) (first | exact HCE.out _ (by assumption) | exact ⟨c0, c1⟩)
          (first | (go_at_call 15; refine HF.out.mono ?_; rintro e w' ⟨rfl, hgr', ha'⟩; have hgr2 : W0.grownBy w' (some g) := grown_trans HG.out hgr'; clear hgr'))
        have HA2 := hide ha'
        have HG2 := hide hgr2
        obtain ⟨d0, d1⟩ := HCE.out w' hgr2
        obtain ⟨x0, x1, x2, x3, x4⟩ := M.out.box hgr2
        clear ha' hgr2 c0 c1
        go_wp2
        go_roundw
        case rel => exact ⟨k + 1, by omega, by go_num, by rw [HN.out], HG2.out, HA2.out⟩
        case measure => simp [intOf]; omega
    · have HG := hide hgr
      clear ha hgr z
      go_wp2_with (first | (go_at_call 13; refine (C5.out _).mono ?_; rintro e w' ⟨rfl, hb⟩))
      go_ret
      exact ⟨rfl, (M.out.fin HG.out).trans (Below.mono (by assumption) (M.out.fin HG.out).size)⟩
theorem AlarmSilence_walk (hi lo hold clr sil : Int) (a : Option Addr) (n cap : Nat) (A V : Nat → Int) (w : World) (hs : SampAt w a n A V) :
    Calls Try.prog 8 #[.agg #[.int .i64 hi, .int .i64 lo, .int .i64 hold, .int .i64 clr, .int .i64 sil], .slice a n cap] w fun e w' => e = .returned (.bool true) ∧ Below w.heap.size w w' := by
  by_cases hz : chk ⟨hi, lo, hold, clr, sil⟩ = 0
  · by_cases hn : n ≤ 200
    · exact AlarmSilence_main hi lo hold clr sil a n cap A V w hs hz hn
    · exact AlarmSilence_long hi lo hold clr sil a n cap w hz (by omega) hs.1
  · exact AlarmSilence_bad hi lo hold clr sil a n cap w hz
end Go.Proofs.Ytgkcegmbjiodgaa.AlmW
