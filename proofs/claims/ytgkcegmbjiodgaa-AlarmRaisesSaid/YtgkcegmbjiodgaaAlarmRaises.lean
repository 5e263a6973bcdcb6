/- The walk of the law AlarmRaises. -/
import Derived.Test.YtgkcegmbjiodgaaAlmG
namespace Go.Proofs.Ytgkcegmbjiodgaa.AlmW
open Go.RowKit Alm Aid
theorem grown_tr {a b w : World} {g : Nat} (h : a.grownBy b (some g)) (k : b.grownBy w (some g)) : a.grownBy w (some g) :=
  ⟨k.os.trans h.os, k.tape.trans h.tape, k.output.trans h.output, Nat.le_trans h.size k.size, fun i hi hne => (k.block i (Nat.lt_of_lt_of_le hi h.size) hne).trans (h.block i hi hne)⟩
/-- the states while samples are too high -/
def upS (at_ hold : Int) (k : Nat) : St := if (k : Int) < hold then (if k = 0 then St.new else ⟨at_, k, 0, false, 0, 0, 0, 0, 0⟩) else ⟨at_, 0, 0, true, at_, at_, 1, 0, 0⟩
/-- the states while samples are low -/
def downS (at_ clr : Int) (k : Nat) : St := if (k : Int) < clr then ⟨at_, 0, k, true, at_, at_, 1, 0, 0⟩ else ⟨at_, 0, 0, false, 0, at_, 1, 1, 0⟩
theorem up_step {c : Conf} {at_ : Int} {k : Nat} (hc : COk c) (h1 : 0 ≤ at_) (h2 : at_ ≤ 1125899906842624) (hk : (k : Int) < c.hold) :
    err (upS at_ c.hold k) at_ = 0 ∧ feedN c (upS at_ c.hold k) at_ (c.hi + 1) = (if (k : Int) + 1 = c.hold then 1 else 0) ∧ feedS c (upS at_ c.hold k) at_ (c.hi + 1) = upS at_ c.hold (k + 1) := by
  have hl := hc.lh
  have hlast : (upS at_ c.hold k).last ≤ at_ := by unfold upS; rw [if_pos hk]; split <;> simp [St.new] <;> omega
  have he : err (upS at_ c.hold k) at_ = 0 := by unfold err; rw [if_neg (by omega), if_neg (by omega)]
  have hr : (upS at_ c.hold k).raised = false := by unfold upS; rw [if_pos hk]; split <;> simp [St.new]
  have hh : (upS at_ c.hold k).high = k := by unfold upS; rw [if_pos hk]; split <;> simp [St.new]; omega
  have hH : HH c (upS at_ c.hold k) (c.hi + 1) = (k : Int) + 1 := by unfold HH ext; rw [if_pos (by simp; omega), hh]
  have hL : LL c (upS at_ c.hold k) (c.hi + 1) = 0 := by unfold LL ext; rw [if_neg (by simp; omega)]
  have hrest : (upS at_ c.hold k).since = 0 ∧ (upS at_ c.hold k).noti = 0 ∧ (upS at_ c.hold k).raises = 0 ∧ (upS at_ c.hold k).clears = 0 ∧ (upS at_ c.hold k).repeats = 0 := by
    unfold upS; rw [if_pos hk]; split <;> simp [St.new]
  obtain ⟨r1, r2, r3, r4, r5⟩ := hrest
  refine ⟨he, ?_, ?_⟩
  · unfold feedN kind
    rw [if_pos he]
    by_cases h : (k : Int) + 1 = c.hold
    · rw [if_pos ⟨hr, by omega⟩, if_pos h]
    · rw [if_neg (fun h' => by omega), if_neg (fun h' => by rw [hr] at h'; exact absurd h'.1 (by simp)), if_neg (fun h' => by rw [hr] at h'; exact absurd h'.1 (by simp)), if_neg h]
  · unfold feedS
    rw [if_pos he]
    by_cases h : (k : Int) + 1 = c.hold
    · have ek : kind c (upS at_ c.hold k) at_ (c.hi + 1) = 1 := by unfold kind; rw [if_pos ⟨hr, by omega⟩]
      unfold next
      rw [if_pos ek, r3, r4, r5]
      unfold upS
      rw [if_neg (show ¬ ((k + 1 : Nat) : Int) < c.hold by omega)]
      rfl
    · have ek : kind c (upS at_ c.hold k) at_ (c.hi + 1) = 0 := by
        unfold kind; rw [if_neg (fun h' => by omega), if_neg (fun h' => by rw [hr] at h'; exact absurd h'.1 (by simp)), if_neg (fun h' => by rw [hr] at h'; exact absurd h'.1 (by simp))]
      unfold next
      rw [if_neg (by omega), if_neg (by omega), if_neg (by omega), hH, hL, hr, r1, r2, r3, r4, r5]
      unfold upS
      rw [if_pos (show ((k + 1 : Nat) : Int) < c.hold by omega), if_neg (by omega)]
      congr 1
theorem down_step {c : Conf} {at_ : Int} {k : Nat} (hc : COk c) (h1 : 0 ≤ at_) (h2 : at_ ≤ 1125899906842624) (hk : (k : Int) < c.clr) :
    err (downS at_ c.clr k) at_ = 0 ∧ feedN c (downS at_ c.clr k) at_ (c.lo - 1) = (if (k : Int) + 1 = c.clr then 2 else 0) ∧ feedS c (downS at_ c.clr k) at_ (c.lo - 1) = downS at_ c.clr (k + 1) := by
  have hl := hc.lh
  have es : downS at_ c.clr k = ⟨at_, 0, k, true, at_, at_, 1, 0, 0⟩ := by unfold downS; rw [if_pos hk]
  rw [es]
  have he : err (⟨at_, 0, k, true, at_, at_, 1, 0, 0⟩ : St) at_ = 0 := by unfold err; rw [if_neg (by omega), if_neg (by simp)]
  have hH : HH c (⟨at_, 0, k, true, at_, at_, 1, 0, 0⟩ : St) (c.lo - 1) = 0 := by unfold HH ext; rw [if_neg (by simp; omega)]
  have hL : LL c (⟨at_, 0, k, true, at_, at_, 1, 0, 0⟩ : St) (c.lo - 1) = (k : Int) + 1 := by unfold LL ext; rw [if_pos (by simp; omega)]
  refine ⟨he, ?_, ?_⟩
  · unfold feedN kind
    rw [if_pos he, if_neg (fun h' => by simp at h')]
    by_cases h : (k : Int) + 1 = c.clr
    · rw [if_pos ⟨rfl, by omega⟩, if_pos h]
    · rw [if_neg (fun h' => by omega), if_neg (fun h' => by omega), if_neg h]
  · unfold feedS
    rw [if_pos he]
    by_cases h : (k : Int) + 1 = c.clr
    · have ek : kind c (⟨at_, 0, k, true, at_, at_, 1, 0, 0⟩ : St) at_ (c.lo - 1) = 2 := by unfold kind; rw [if_neg (fun h' => by simp at h'), if_pos ⟨rfl, by omega⟩]
      unfold next
      rw [if_neg (by omega), if_pos ek]
      unfold downS
      rw [if_neg (show ¬ ((k + 1 : Nat) : Int) < c.clr by omega)]
      rfl
    · have ek : kind c (⟨at_, 0, k, true, at_, at_, 1, 0, 0⟩ : St) at_ (c.lo - 1) = 0 := by
        unfold kind; rw [if_neg (fun h' => by simp at h'), if_neg (fun h' => by omega), if_neg (fun h' => by omega)]
      unfold next
      rw [if_neg (by omega), if_neg (by omega), if_neg (by omega), hH, hL]
      unfold downS
      rw [if_pos (show ((k + 1 : Nat) : Int) < c.clr by omega)]
      congr 1
theorem up_z {at_ hold : Int} {k : Nat} (h1 : 0 ≤ at_) (h2 : at_ ≤ 1125899906842624) : Sz (upS at_ hold k) (k + 1) := by
  unfold upS
  split
  · split
    · constructor <;> simp [St.new] <;> omega
    · constructor <;> simp <;> omega
  · constructor <;> simp <;> omega
theorem down_z {at_ clr : Int} {k : Nat} (h1 : 0 ≤ at_) (h2 : at_ ≤ 1125899906842624) : Sz (downS at_ clr k) (k + 1) := by
  unfold downS
  split <;> constructor <;> simp <;> omega
theorem AlarmRaises_bad (hi lo hold clr sil at_ : Int) (w : World) (hz : chk ⟨hi, lo, hold, clr, sil⟩ ≠ 0 ∨ 300 < hold ∨ 300 < clr ∨ at_ < 0 ∨ 1125899906842624 < at_) :
    Calls Try.prog 7 #[.agg #[.int .i64 hi, .int .i64 lo, .int .i64 hold, .int .i64 clr, .int .i64 sil], .int .i64 at_] w fun e w' => e = .returned (.bool true) ∧ Below w.heap.size w w' := by
  have hB : w.heap.size + 1 ≤ (w.alloc (.cells #[.int .i64 hi, .int .i64 lo, .int .i64 hold, .int .i64 clr, .int .i64 sil] 23)).heap.size := by simp
  have C1 := hide (based hB fun W _ => Check_any hi lo hold clr sil W)
  have C5 := hide (based hB fun W _ => awake_any W)
  have K := hide (fun W h => conf_cells (w := w) (x0 := .int .i64 hi) (x1 := .int .i64 lo) (x2 := .int .i64 hold) (x3 := .int .i64 clr) (x4 := .int .i64 sil) (T := 23) (W := W) h)
  have hb := Below.refl (w.heap.size + 1) (w.alloc (.cells #[.int .i64 hi, .int .i64 lo, .int .i64 hold, .int .i64 clr, .int .i64 sil] 23))
  clear hB
  by_cases h0 : chk ⟨hi, lo, hold, clr, sil⟩ = 0
  · rw [h0] at C1
    replace hz : 300 < hold ∨ 300 < clr ∨ at_ < 0 ∨ 1125899906842624 < at_ := by
      rcases hz with h | h
      · exact absurd h0 h
      · exact h
    clear h0
    by_cases h1 : 300 < hold
    · go_enter Try.func7, Try.ntmps7
      go_wp2_with fail
      refine (C1.out _ hb).mono ?_
      rintro e w1 ⟨rfl, hb1⟩
      obtain ⟨b0, b1, b2, b3, b4, _⟩ := K.out _ hb1
      go_wp2_with fail
      refine (C5.out _ hb1).mono ?_
      rintro e w2 ⟨rfl, hb2⟩
      go_wp2
      go_ret
      exact ⟨rfl, box_below hb2⟩
    · by_cases h2 : 300 < clr
      · go_enter Try.func7, Try.ntmps7
        go_wp2_with fail
        refine (C1.out _ hb).mono ?_
        rintro e w1 ⟨rfl, hb1⟩
        obtain ⟨b0, b1, b2, b3, b4, _⟩ := K.out _ hb1
        go_wp2_with fail
        refine (C5.out _ hb1).mono ?_
        rintro e w2 ⟨rfl, hb2⟩
        go_wp2
        go_ret
        exact ⟨rfl, box_below hb2⟩
      · by_cases h3 : at_ < 0
        · go_enter Try.func7, Try.ntmps7
          go_wp2_with fail
          refine (C1.out _ hb).mono ?_
          rintro e w1 ⟨rfl, hb1⟩
          obtain ⟨b0, b1, b2, b3, b4, _⟩ := K.out _ hb1
          go_wp2_with fail
          refine (C5.out _ hb1).mono ?_
          rintro e w2 ⟨rfl, hb2⟩
          go_wp2
          go_ret
          exact ⟨rfl, box_below hb2⟩
        · have h4 : 1125899906842624 < at_ := by omega
          clear hz
          go_enter Try.func7, Try.ntmps7
          go_wp2_with fail
          refine (C1.out _ hb).mono ?_
          rintro e w1 ⟨rfl, hb1⟩
          obtain ⟨b0, b1, b2, b3, b4, _⟩ := K.out _ hb1
          go_wp2_with fail
          refine (C5.out _ hb1).mono ?_
          rintro e w2 ⟨rfl, hb2⟩
          go_wp2
          go_ret
          exact ⟨rfl, box_below hb2⟩
  · have h0' : (chk ⟨hi, lo, hold, clr, sil⟩ != 0) = true := by simpa using h0
    generalize chk ⟨hi, lo, hold, clr, sil⟩ = k at *
    clear h0
    go_enter Try.func7, Try.ntmps7
    go_wp2_with fail
    refine (C1.out _ hb).mono ?_
    rintro e w1 ⟨rfl, hb1⟩
    obtain ⟨b0, b1, b2, b3, b4, _⟩ := K.out _ hb1
    go_wp2_with fail
    refine (C5.out _ hb1).mono ?_
    rintro e w2 ⟨rfl, hb2⟩
    go_wp2
    go_ret
    exact ⟨rfl, box_below hb2⟩
set_option maxRecDepth 100000 in
set_option maxHeartbeats 6400000 in
theorem AlarmRaises_main (hi lo hold clr sil at_ : Int) (w : World) (hz : chk ⟨hi, lo, hold, clr, sil⟩ = 0) (h3 : hold ≤ 300) (h4 : clr ≤ 300) (h1 : 0 ≤ at_) (h2 : at_ ≤ 1125899906842624) :
    Calls Try.prog 7 #[.agg #[.int .i64 hi, .int .i64 lo, .int .i64 hold, .int .i64 clr, .int .i64 sil], .int .i64 at_] w fun e w' => e = .returned (.bool true) ∧ Below w.heap.size w w' := by
  have hB : w.heap.size + 1 ≤ (w.alloc (.cells #[.int .i64 hi, .int .i64 lo, .int .i64 hold, .int .i64 clr, .int .i64 sil] 23)).heap.size := by simp
  have C1 := hide (based hB fun W _ => Check_any hi lo hold clr sil W)
  rw [hz] at C1
  have CN := hide (new_based hz (w := w) (o := .cells #[.int .i64 hi, .int .i64 lo, .int .i64 hold, .int .i64 clr, .int .i64 sil] 23))
  have C5 := hide awake_any
  have hk0 := chk_ok hz
  have k1 : 1 ≤ hold := hk0.hold1
  have k2 : 1 ≤ clr := hk0.clr1
  have k3 : hi ≤ 8000000000000000000 := hk0.h2
  have k4 : -8000000000000000000 ≤ hi := hk0.h1
  have k5 : lo ≤ 8000000000000000000 := hk0.l2
  have k6 : -8000000000000000000 ≤ lo := hk0.l1
  have U := hide fun (k : Nat) (hk : (k : Int) < hold) => up_step (k := k) hk0 h1 h2 hk
  have D := hide fun (k : Nat) (hk : (k : Int) < clr) => down_step (k := k) hk0 h1 h2 hk
  have K := hide (fun W h => conf_cells (w := w) (x0 := .int .i64 hi) (x1 := .int .i64 lo) (x2 := .int .i64 hold) (x3 := .int .i64 clr) (x4 := .int .i64 sil) (T := 23) (W := W) h)
  clear hz hk0 hB
  generalize hc : (⟨hi, lo, hold, clr, sil⟩ : Conf) = c at *
  have eh : c.hi = hi := by rw [← hc]
  have el : c.lo = lo := by rw [← hc]
  have eo : c.hold = hold := by rw [← hc]
  have ec : c.clr = clr := by rw [← hc]
  rw [eh, eo] at U
  rw [el, ec] at D
  clear hc eh el eo ec
  go_enter Try.func7, Try.ntmps7
  go_wp2_with fail
  refine (C1.out _ (Below.refl _ _)).mono ?_
  rintro e w1 ⟨rfl, hb1⟩
  obtain ⟨b0, b1, b2, b3, b4, _⟩ := K.out _ hb1
  go_wp2_with fail
  refine (CN.out _ hb1).mono ?_
  rintro e W0 ⟨g, rfl, hg, ha, hb⟩
  clear b0 b1 b2 b3 b4 hb1
  have M := hide (mem_of (a := none) (n := 0) (A := fun _ => 0) (V := fun _ => 0) ⟨by omega, fun h => by omega⟩ hb hg ha.lt)
  have HA := hide ha
  clear ha hb CN C1
  go_wp2
  go_loopw [6] (fun i wr => ∃ k : Nat, (k : Int) ≤ hold ∧ i = .int .i64 ((k : Int) + 1) ∧ W0.grownBy wr (some g) ∧ AlmAt wr g c (upS at_ hold k)) (fun i _ => (hold + 1 - intOf i).toNat)
  case atStart =>
    have e0 : upS at_ hold 0 = St.new := by unfold upS; rw [if_pos (by omega), if_pos rfl]
    exact ⟨0, by omega, rfl, World.grownBy.refl _ _, by rw [e0]; exact HA.out⟩
  case round =>
    obtain ⟨k, hk, rfl, hgr, ha⟩ := hrel
    obtain ⟨b0, b1, b2, b3, b4⟩ := M.out.box hgr
    by_cases hlt : (k : Int) < hold
    · have F := Feed_any g c (upS at_ hold k) (k + 1) at_ (hi + 1) wr ha (up_z h1 h2) (by omega)
      obtain ⟨u1, u2, u3⟩ := U.out k hlt
      rw [u1, u2, u3] at F
      have HG := hide hgr
      clear u1 u2 u3 ha hgr
      by_cases hl : (k : Int) + 1 = hold
      · rw [if_pos hl] at F
        have hr : (upS at_ hold (k + 1)).raised = true := by unfold upS; rw [if_neg (by omega)]
        have hb' : ((k : Int) + 1 == hold) = true := by simpa using hl
        have HL := hide hl
        clear hl
        have HF := hide F
        clear F
        go_wp2_with fail
        refine HF.out.mono ?_
        rintro e w2 ⟨rfl, hgr', ha'⟩
        have hgr2 : W0.grownBy w2 (some g) := grown_tr HG.out hgr'
        have CR := fun W h => Raised_any g c (upS at_ hold (k + 1)) W h
        simp only [hr] at CR
        have HCR := hide CR
        have HA2 := hide ha'
        have HG2 := hide hgr2
        clear b0 b1 b2 b3 b4
        obtain ⟨b0, b1, b2, b3, b4⟩ := M.out.box hgr2
        clear hr hgr' ha' hgr2 CR
        go_wp2
        go_quiet ((go_at_call 19; exact Calls.quiet_of_same ((HCR.out _ (by exact HA2.out)).mono fun _ _ h => ⟨h.1, h.2.symm⟩)))
        go_wp2
        go_roundw
        case rel => exact ⟨k + 1, by omega, by go_num, only_drewN HG2.out _, HA2.out⟩
        case measure => simp [intOf]; omega
      · rw [if_neg hl] at F
        have hr : (upS at_ hold (k + 1)).raised = false := by unfold upS; rw [if_pos (by omega)]; split <;> rfl
        have hb' : ((k : Int) + 1 == hold) = false := by simpa using hl
        have hl2 : (k : Int) + 1 < hold := by omega
        clear hl
        have HF := hide F
        clear F
        go_wp2_with fail
        refine HF.out.mono ?_
        rintro e w2 ⟨rfl, hgr', ha'⟩
        have hgr2 : W0.grownBy w2 (some g) := grown_tr HG.out hgr'
        have CR := fun W h => Raised_any g c (upS at_ hold (k + 1)) W h
        simp only [hr] at CR
        have HCR := hide CR
        have HA2 := hide ha'
        have HG2 := hide hgr2
        clear b0 b1 b2 b3 b4
        obtain ⟨b0, b1, b2, b3, b4⟩ := M.out.box hgr2
        clear hr hgr' ha' hgr2 CR
        go_wp2
        go_quiet ((go_at_call 19; exact Calls.quiet_of_same ((HCR.out _ (by exact HA2.out)).mono fun _ _ h => ⟨h.1, h.2.symm⟩)))
        go_wp2
        go_roundw
        case rel => exact ⟨k + 1, by omega, by go_num, only_drewN HG2.out _, HA2.out⟩
        case measure => simp [intOf]; omega
    · have hk2 : upS at_ hold k = downS at_ clr 0 := by unfold upS downS; rw [if_neg hlt, if_pos (by omega)]; rfl
      rw [hk2] at ha
      have HA1 := hide ha
      have HG1 := hide hgr
      clear hk2 ha hgr HA
      go_wp2
      go_loopw [9] (fun i wr => ∃ k : Nat, (k : Int) ≤ clr ∧ i = .int .i64 ((k : Int) + 1) ∧ W0.grownBy wr (some g) ∧ AlmAt wr g c (downS at_ clr k)) (fun i _ => (clr + 1 - intOf i).toNat)
      case atStart => exact ⟨0, by omega, rfl, HG1.out, HA1.out⟩
      case round =>
        clear b0 b1 b2 b3 b4
        obtain ⟨k', hk', rfl, hgr, ha⟩ := hrel
        obtain ⟨b0, b1, b2, b3, b4⟩ := M.out.box hgr
        by_cases hlt' : (k' : Int) < clr
        · have F := Feed_any g c (downS at_ clr k') (k' + 1) at_ (lo - 1) _ ha (down_z h1 h2) (by omega)
          obtain ⟨u1, u2, u3⟩ := D.out k' hlt'
          rw [u1, u2, u3] at F
          have HG := hide hgr
          clear u1 u2 u3 ha hgr
          by_cases hl : (k' : Int) + 1 = clr
          · rw [if_pos hl] at F
            have hr : (downS at_ clr (k' + 1)).raised = false := by unfold downS; rw [if_neg (by omega)]
            have hb' : ((k' : Int) + 1 == clr) = true := by simpa using hl
            have hl2 : decide ((k' : Int) + 1 < clr) = false := by simp; omega
            have HL := hide hl
            clear hl
            have HF := hide F
            clear F
            go_wp2_with fail
            refine HF.out.mono ?_
            rintro e w2 ⟨rfl, hgr', ha'⟩
            have hgr2 : W0.grownBy w2 (some g) := grown_tr HG.out hgr'
            have CR := fun W h => Raised_any g c (downS at_ clr (k' + 1)) W h
            simp only [hr] at CR
            have HCR := hide CR
            have HA2 := hide ha'
            have HG2 := hide hgr2
            clear b0 b1 b2 b3 b4
            obtain ⟨b0, b1, b2, b3, b4⟩ := M.out.box hgr2
            clear hr hgr' ha' hgr2 CR
            go_wp2
            go_quiet ((go_at_call 19; exact Calls.quiet_of_same ((HCR.out _ (by exact HA2.out)).mono fun _ _ h => ⟨h.1, h.2.symm⟩)))
            go_wp2
            go_roundw
            case rel => exact ⟨k' + 1, by omega, by go_num, only_drewN HG2.out _, HA2.out⟩
            case measure => simp [intOf]; omega
          · rw [if_neg hl] at F
            have hr : (downS at_ clr (k' + 1)).raised = true := by unfold downS; rw [if_pos (by omega)]
            have hb' : ((k' : Int) + 1 == clr) = false := by simpa using hl
            have hl2 : (k' : Int) + 1 < clr := by omega
            clear hl
            have HF := hide F
            clear F
            go_wp2_with fail
            refine HF.out.mono ?_
            rintro e w2 ⟨rfl, hgr', ha'⟩
            have hgr2 : W0.grownBy w2 (some g) := grown_tr HG.out hgr'
            have CR := fun W h => Raised_any g c (downS at_ clr (k' + 1)) W h
            simp only [hr] at CR
            have HCR := hide CR
            have HA2 := hide ha'
            have HG2 := hide hgr2
            clear b0 b1 b2 b3 b4
            obtain ⟨b0, b1, b2, b3, b4⟩ := M.out.box hgr2
            clear hr hgr' ha' hgr2 CR
            go_wp2
            go_quiet ((go_at_call 19; exact Calls.quiet_of_same ((HCR.out _ (by exact HA2.out)).mono fun _ _ h => ⟨h.1, h.2.symm⟩)))
            go_wp2
            go_roundw
            case rel => exact ⟨k' + 1, by omega, by go_num, only_drewN HG2.out _, HA2.out⟩
            case measure => simp [intOf]; omega
        · have e : downS at_ clr k' = ⟨at_, 0, 0, false, 0, at_, 1, 1, 0⟩ := by unfold downS; rw [if_neg hlt']
          rw [e] at ha
          have CC := hide (Counts_any g c _ _ ha)
          have HG := hide hgr
          clear e ha hgr
          go_wp2_with (first | (go_at_call 21; refine CC.out.mono ?_; rintro e w' ⟨rfl, nq, rfl⟩) | (go_at_call 13; refine (C5.out _).mono ?_; rintro e w' ⟨rfl, hb⟩))
          go_ret
          exact ⟨rfl, (M.out.fin (only_drewN HG.out nq)).trans (Below.mono (by assumption) (M.out.fin (only_drewN HG.out nq)).size)⟩
theorem AlarmRaises_walk (hi lo hold clr sil at_ : Int) (w : World) :
    Calls Try.prog 7 #[.agg #[.int .i64 hi, .int .i64 lo, .int .i64 hold, .int .i64 clr, .int .i64 sil], .int .i64 at_] w fun e w' => e = .returned (.bool true) ∧ Below w.heap.size w w' := by
  by_cases h : chk ⟨hi, lo, hold, clr, sil⟩ ≠ 0 ∨ 300 < hold ∨ 300 < clr ∨ at_ < 0 ∨ 1125899906842624 < at_
  · exact AlarmRaises_bad hi lo hold clr sil at_ w h
  · exact AlarmRaises_main hi lo hold clr sil at_ w (by apply Classical.byContradiction; intro h'; exact h (.inl h')) (by omega) (by omega) (by omega) (by omega)
end Go.Proofs.Ytgkcegmbjiodgaa.AlmW
