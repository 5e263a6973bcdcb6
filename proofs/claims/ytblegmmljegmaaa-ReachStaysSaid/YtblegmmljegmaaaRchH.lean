/- Lost and Reachable of package reach; Heard, Lost and Reachable of its reference. -/
import Derived.Test.YtblegmmljegmaaaRchG
namespace Go.Proofs.Ytblegmmljegmaaa.Rch
open Go.RowKit Go.Maps Aid
set_option maxRecDepth 100000 in
set_option maxHeartbeats 3200000 in
theorem Lost_any (bits poll mn mx cnt : Int) (w : World) :
    Calls Try.prog 18 #[.agg #[.int .i64 bits, .int .i64 poll, .int .i64 mn, .int .i64 mx, .int .i64 cnt]] w fun e w' => e = .returned (.int .i64 (if chk ⟨bits, poll, mn, mx, cnt⟩ = 0 then (lostN bits : Int) else 0)) ∧ Below w.heap.size w w' := by
  have C := hide (Check_any bits poll mn mx cnt)
  by_cases hz : chk ⟨bits, poll, mn, mx, cnt⟩ = 0
  · have ok := chk_ok hz
    have q1 : 0 ≤ bits := ok.b1
    have q2 : bits ≤ 255 := ok.b2
    have A := hide fun W => answered_any bits poll mn mx cnt q1 q2 W
    rw [hz] at C
    rw [if_pos hz]
    clear hz ok q1 q2
    go_enter Try.func18, Try.ntmps18
    go_wp2_with fail
    refine (C.out _).mono ?_
    rintro e w1 ⟨rfl, hb1⟩
    have k0 := (hb1.cell (p := ⟨w.heap.size, 0, none⟩) (by simp))
    have k1 := (hb1.cell (p := ⟨w.heap.size, 1, none⟩) (by simp))
    have k2 := (hb1.cell (p := ⟨w.heap.size, 2, none⟩) (by simp))
    have k3 := (hb1.cell (p := ⟨w.heap.size, 3, none⟩) (by simp))
    have k4 := (hb1.cell (p := ⟨w.heap.size, 4, none⟩) (by simp))
    simp [go_sem] at k0 k1 k2 k3 k4
    have hbw : Below w.heap.size w w1 := ((Below.refl _ _).alloc (Nat.le_refl _) _).trans (hb1.mono (by simp))
    have HB := hide hbw
    have hs1 : w.heap.size ≤ w1.heap.size := hbw.size
    clear hb1 hbw
    go_wp2_with fail
    refine (A.out _).mono ?_
    rintro e w2 ⟨D, rfl, hown, hS, hb2⟩
    have hB2 : w.heap.size ≤ w1.heap.size + 1 := by omega
    have hbw2 := HB.out.trans (hb2.mono hs1)
    have hs2 : w.heap.size ≤ w2.heap.size := hbw2.size
    generalize w1.heap.size + 1 = B at *
    clear k0 k1 k2 k3 k4 hb2
    have HB2 := hide hbw2
    have HS := hide hS
    clear hbw2 HB hS hs1
    go_wp2_with (first
      | (at_range; refine wpList_range_own _ rfl _ 45 rfl 3 3 law3 und45 _ B 8 _ rfl hown ?_; intro w0 hrg0 hg0 hs0)
      | go_in)
    go_frame
    go_loopw [3] (fun n wr => ∃ (left : Lit → Bool) (c : Nat) (m : Nat), wr.ranges Try.prog 3 (plainElem Try.prog 3) B w2.heap.size 8 D left c ∧ n = .int .i64 (m : Int) ∧ (m ≤ 8 ∧ (m < 8 → bitB bits m = true) ∧ ∀ j, j < 8 → bitB bits j = true → left (.int .i64 (j : Int)) = false → m ≤ j) ∧ Below w.heap.size w wr)
      (fun _ wr => wr.rangeLeft B w2.heap.size)
    case atStart => exact ⟨_, _, 8, hrg0, rfl, ⟨by omega, fun h => by omega, fun j hj hb hl => by rw [has_bit HS.out hj, hb] at hl; cases hl⟩, HB2.out.grown hg0 hs2 (fun j hj => by cases hj)⟩
    case round =>
      obtain ⟨left, c, m, hrg, rfl, hm, hnx⟩ := hrel
      have HNX := hide hnx
      have HRG := hide hrg
      have HM := hide hm
      have hml : m ≤ 8 := hm.1
      clear hnx hm
      go_wp2_with (first
        | (at_next; refine wpList_next_ranges_ii _ rfl _ rfl 3 3 .i64 .i64 law3 und3 und3 B w2.heap.size 8 _ _ _ rfl hrg ?_ ?_)
        | go_in)
      · intro _ hl0
        have e0 : m = lostN bits := lost_eq HM.out.1 HM.out.2.1 fun j hj hb => HM.out.2.2 j hj hb (hl0 _)
        go_wp2
        go_ret
        exact ⟨by rw [e0]; rfl, HNX.out⟩
      · intro x v w3 cnt1 hwx hwc hlx hat hrg1 hlt hg1 hs1 hen
        obtain ⟨j, hj, rfl, hbj⟩ := key_of_at HS.out hat
        have hnx3 := HNX.out.grown hg1 HNX.out.size (fun j hj => by cases hj; exact hs2)
        clear hat hwx hwc
        have HM2 : min m j ≤ 8 ∧ (min m j < 8 → bitB bits (min m j) = true) ∧ ∀ i, i < 8 → bitB bits i = true → (left (.int .i64 (i : Int)) && !(Lit.int .i64 (i : Int)).sameKey (.int .i64 (j : Int))) = false → min m j ≤ i := by
          obtain ⟨a1, a2, a3⟩ := HM.out
          refine ⟨by omega, fun h => ?_, fun i hi hb hl => ?_⟩
          · by_cases e : m ≤ j
            · rw [show min m j = m by omega] at h ⊢; exact a2 h
            · rw [show min m j = j by omega]; exact hbj
          · rw [same_int] at hl
            by_cases e : i = j
            · omega
            · simp [e] at hl
              have := a3 i hi hb hl
              omega
        have HM3 := hide HM2
        clear HM2 hbj
        go_wp2
        go_roundw
        case rel => exact ⟨_, cnt1, min m j, hrg1, by congr 1; omega, HM3.out, hnx3⟩
        case measure => rw [hrg1.left_eq, HRG.out.left_eq]; exact hlt
  · rw [if_neg hz]
    have hz' : (chk ⟨bits, poll, mn, mx, cnt⟩ != 0) = true := by simpa using hz
    generalize chk ⟨bits, poll, mn, mx, cnt⟩ = k at *
    clear hz
    go_enter Try.func18, Try.ntmps18
    go_wp2_with fail
    refine (C.out _).mono ?_
    rintro e w1 ⟨rfl, hb1⟩
    have hbw : Below w.heap.size w w1 := ((Below.refl _ _).alloc (Nat.le_refl _) _).trans (hb1.mono (by simp))
    go_wp2
    go_ret
    exact ⟨rfl, hbw⟩
def sumTo (b : Int) : Nat → Int
  | 0 => 0
  | k + 1 => sumTo b k + b / 2 ^ k % 2
theorem sum_all : ∀ n : Fin 256, sumTo (n.val : Int) 8 = (heardN (n.val : Int) : Int) := by decide +kernel
theorem sum_heard {b : Int} (h1 : 0 ≤ b) (h2 : b ≤ 255) : sumTo b 8 = (heardN b : Int) := by
  have := sum_all ⟨b.toNat, by omega⟩
  rwa [show ((b.toNat : Nat) : Int) = b by omega] at this
theorem bitB_all : ∀ n : Fin 256, ∀ k : Fin 8, bitB (n.val : Int) k.val = decide ((n.val : Int) / 2 ^ k.val % 2 = 1) := by decide +kernel
theorem bitB_eq {b : Int} {k : Nat} (h1 : 0 ≤ b) (h2 : b ≤ 255) (hk : k < 8) : bitB b k = decide (b / 2 ^ k % 2 = 1) := by
  have := bitB_all ⟨b.toNat, by omega⟩ ⟨k, hk⟩
  rwa [show ((b.toNat : Nat) : Int) = b by omega] at this
theorem shr_all : ∀ n : Fin 256, ∀ k : Fin 8, ((n.val : Int) / 2 ^ k.val).tmod 2 = (n.val : Int) / 2 ^ k.val % 2 ∧ 0 ≤ (n.val : Int) / 2 ^ k.val ∧ (n.val : Int) / 2 ^ k.val ≤ 255 := by decide +kernel
theorem shr_eq {b : Int} {k : Nat} (h1 : 0 ≤ b) (h2 : b ≤ 255) (hk : k < 8) : (b / 2 ^ k).tmod 2 = b / 2 ^ k % 2 ∧ 0 ≤ b / 2 ^ k ∧ b / 2 ^ k ≤ 255 := by
  have := shr_all ⟨b.toNat, by omega⟩ ⟨k, hk⟩
  rwa [show ((b.toNat : Nat) : Int) = b by omega] at this
theorem sumTo_size {b : Int} : ∀ k : Nat, 0 ≤ sumTo b k ∧ sumTo b k ≤ k
  | 0 => ⟨by simp [sumTo], by simp [sumTo]⟩
  | k + 1 => by
    have ⟨a, c⟩ := sumTo_size (b := b) k
    have h1 : 0 ≤ b / 2 ^ k % 2 := Int.emod_nonneg _ (by omega)
    have h2 : b / 2 ^ k % 2 < 2 := Int.emod_lt_of_pos _ (by omega)
    constructor
    · show 0 ≤ sumTo b k + _; omega
    · show sumTo b k + _ ≤ _; omega
set_option maxHeartbeats 3200000 in
theorem RHeard_any (bits poll mn mx cnt : Int) (w : World) :
    Calls Try.prog 17 #[.agg #[.int .i64 bits, .int .i64 poll, .int .i64 mn, .int .i64 mx, .int .i64 cnt]] w fun e w' => e = .returned (.int .i64 (if chk ⟨bits, poll, mn, mx, cnt⟩ = 0 then (heardN bits : Int) else 0)) ∧ Below w.heap.size w w' := by
  have C := hide (RCheck_any bits poll mn mx cnt)
  by_cases hz : chk ⟨bits, poll, mn, mx, cnt⟩ = 0
  · have ok := chk_ok hz
    have q1 : 0 ≤ bits := ok.b1
    have q2 : bits ≤ 255 := ok.b2
    rw [hz] at C
    rw [if_pos hz, ← sum_heard q1 q2]
    clear hz ok
    go_enter Try.func17, Try.ntmps17
    go_wp2_with fail
    refine (C.out _).mono ?_
    rintro e w1 ⟨rfl, hb1⟩
    have k0 := (hb1.cell (p := ⟨w.heap.size, 0, none⟩) (by simp))
    simp [go_sem] at k0
    have hbw : Below w.heap.size w w1 := ((Below.refl _ _).alloc (Nat.le_refl _) _).trans (hb1.mono (by simp))
    have HB := hide hbw
    clear hb1 hbw
    go_wp2
    go_loopw [3, 4] (fun n i wr => ∃ k : Nat, k ≤ 8 ∧ n = .int .i64 (sumTo bits k) ∧ i = .int .i64 (k : Int) ∧ Below w.heap.size w wr ∧ wr.cell? ⟨w.heap.size, 0, none⟩ = some (.int .i64 bits)) (fun _ i _ => 8 - (intOf i).toNat)
    case atStart => exact ⟨0, by omega, rfl, rfl, HB.out, k0⟩
    case round =>
      clear k0
      obtain ⟨k, hk, rfl, rfl, hb, k0⟩ := hrel
      have HBB := hide hb
      clear hb
      by_cases hlt : k < 8
      · obtain ⟨e1, e2, e3⟩ := shr_eq q1 q2 hlt
        obtain ⟨s1, s2⟩ := sumTo_size (b := bits) k
        have es : sumTo bits (k + 1) = sumTo bits k + bits / 2 ^ k % 2 := rfl
        have hs := sumTo_size (b := bits) (k + 1)
        rw [es] at hs
        have HE := hide es
        clear es
        go_wp2
        go_roundw
        case rel => exact ⟨k + 1, by omega, by rw [HE.out], by go_num, HBB.out, k0⟩
        case measure => simp [intOf]; omega
      · have : k = 8 := by omega
        subst this
        go_wp2
        go_ret
        exact ⟨rfl, HBB.out⟩
  · rw [if_neg hz]
    have hz' : (chk ⟨bits, poll, mn, mx, cnt⟩ != 0) = true := by simpa using hz
    generalize chk ⟨bits, poll, mn, mx, cnt⟩ = k at *
    clear hz
    go_enter Try.func17, Try.ntmps17
    go_wp2_with fail
    refine (C.out _).mono ?_
    rintro e w1 ⟨rfl, hb1⟩
    have hbw : Below w.heap.size w w1 := ((Below.refl _ _).alloc (Nat.le_refl _) _).trans (hb1.mono (by simp))
    go_wp2
    go_ret
    exact ⟨rfl, hbw⟩
set_option maxHeartbeats 3200000 in
theorem RLost_any (bits poll mn mx cnt : Int) (w : World) :
    Calls Try.prog 19 #[.agg #[.int .i64 bits, .int .i64 poll, .int .i64 mn, .int .i64 mx, .int .i64 cnt]] w fun e w' => e = .returned (.int .i64 (if chk ⟨bits, poll, mn, mx, cnt⟩ = 0 then (lostN bits : Int) else 0)) ∧ Below w.heap.size w w' := by
  have C := hide (RCheck_any bits poll mn mx cnt)
  by_cases hz : chk ⟨bits, poll, mn, mx, cnt⟩ = 0
  · have ok := chk_ok hz
    have q1 : 0 ≤ bits := ok.b1
    have q2 : bits ≤ 255 := ok.b2
    rw [hz] at C
    rw [if_pos hz]
    clear hz ok
    go_enter Try.func19, Try.ntmps19
    go_wp2_with fail
    refine (C.out _).mono ?_
    rintro e w1 ⟨rfl, hb1⟩
    have k0 := (hb1.cell (p := ⟨w.heap.size, 0, none⟩) (by simp))
    simp [go_sem] at k0
    have hbw : Below w.heap.size w w1 := ((Below.refl _ _).alloc (Nat.le_refl _) _).trans (hb1.mono (by simp))
    have HB := hide hbw
    clear hb1 hbw
    go_wp2
    go_loopw [3] (fun i wr => ∃ k : Nat, k ≤ 8 ∧ i = .int .i64 (k : Int) ∧ (∀ j, j < k → bitB bits j = false) ∧ Below w.heap.size w wr ∧ wr.cell? ⟨w.heap.size, 0, none⟩ = some (.int .i64 bits)) (fun i _ => 8 - (intOf i).toNat)
    case atStart => exact ⟨0, by omega, rfl, fun j hj => by omega, HB.out, k0⟩
    case round =>
      clear k0
      obtain ⟨k, hk, rfl, hn, hb, k0⟩ := hrel
      have HBB := hide hb
      have HN := hide hn
      clear hb hn
      by_cases hlt : k < 8
      · obtain ⟨e1, e2, e3⟩ := shr_eq q1 q2 hlt
        have eb := bitB_eq q1 q2 hlt
        by_cases hv : bits / 2 ^ k % 2 = 1
        · have hv' : (bits / 2 ^ k % 2 == 1) = true := by simpa using hv
          have hl : k = lostN bits := lost_eq (by omega) (fun _ => by rw [eb]; simpa using hv) fun j hj hb => by
            apply Classical.byContradiction; intro h; rw [HN.out j (by omega)] at hb; cases hb
          have HL := hide hl
          clear hl eb hv
          go_wp2
          go_ret
          exact ⟨by rw [← HL.out]; rfl, HBB.out⟩
        · have hv' : (bits / 2 ^ k % 2 == 1) = false := by simpa using hv
          have hf : bitB bits k = false := by rw [eb]; simpa using hv
          have HF := hide hf
          clear hf eb hv
          go_wp2
          go_roundw
          case rel => exact ⟨k + 1, by omega, by go_num, fun j hj => (by
            by_cases e : j = k
            · subst e; exact HF.out
            · exact HN.out j (by omega)), HBB.out, k0⟩
          case measure => simp [intOf]; omega
      · have : k = 8 := by omega
        subst this
        have hl : 8 = lostN bits := lost_eq (by omega) (fun h => by omega) fun j hj hb => by rw [HN.out j hj] at hb; cases hb
        have HL := hide hl
        clear hl
        go_wp2
        go_ret
        exact ⟨by rw [← HL.out]; rfl, HBB.out⟩
  · rw [if_neg hz]
    have hz' : (chk ⟨bits, poll, mn, mx, cnt⟩ != 0) = true := by simpa using hz
    generalize chk ⟨bits, poll, mn, mx, cnt⟩ = k at *
    clear hz
    go_enter Try.func19, Try.ntmps19
    go_wp2_with fail
    refine (C.out _).mono ?_
    rintro e w1 ⟨rfl, hb1⟩
    have hbw : Below w.heap.size w w1 := ((Below.refl _ _).alloc (Nat.le_refl _) _).trans (hb1.mono (by simp))
    go_wp2
    go_ret
    exact ⟨rfl, hbw⟩
def reachB (r : Reg) : Bool := decide (chk r = 0) && (r.bits != 0)
theorem Reachable_any (bits poll mn mx cnt : Int) (w : World) :
    Calls Try.prog 14 #[.agg #[.int .i64 bits, .int .i64 poll, .int .i64 mn, .int .i64 mx, .int .i64 cnt]] w fun e w' => e = .returned (.bool (reachB ⟨bits, poll, mn, mx, cnt⟩)) ∧ Below w.heap.size w w' := by
  have C := hide (Check_any bits poll mn mx cnt)
  by_cases hz : chk ⟨bits, poll, mn, mx, cnt⟩ = 0
  · rw [show reachB ⟨bits, poll, mn, mx, cnt⟩ = (bits != 0) by unfold reachB; simp [hz]]
    rw [hz] at C
    clear hz
    go_enter Try.func14, Try.ntmps14
    go_wp2_with fail
    refine (C.out _).mono ?_
    rintro e w1 ⟨rfl, hb1⟩
    have k0 := (hb1.cell (p := ⟨w.heap.size, 0, none⟩) (by simp))
    simp [go_sem] at k0
    have hbw : Below w.heap.size w w1 := ((Below.refl _ _).alloc (Nat.le_refl _) _).trans (hb1.mono (by simp))
    have HB := hide hbw
    clear hb1 hbw
    go_wp2
    go_ret
    exact ⟨rfl, HB.out⟩
  · rw [show reachB ⟨bits, poll, mn, mx, cnt⟩ = false by unfold reachB; simp [hz]]
    have hz' : (chk ⟨bits, poll, mn, mx, cnt⟩ == 0) = false := by simpa using hz
    generalize chk ⟨bits, poll, mn, mx, cnt⟩ = k at *
    clear hz
    go_enter Try.func14, Try.ntmps14
    go_wp2_with fail
    refine (C.out _).mono ?_
    rintro e w1 ⟨rfl, hb1⟩
    have k0 := (hb1.cell (p := ⟨w.heap.size, 0, none⟩) (by simp))
    simp [go_sem] at k0
    have hbw : Below w.heap.size w w1 := ((Below.refl _ _).alloc (Nat.le_refl _) _).trans (hb1.mono (by simp))
    have HB := hide hbw
    clear hb1 hbw
    go_wp2
    go_ret
    exact ⟨rfl, HB.out⟩
theorem RReachable_any (bits poll mn mx cnt : Int) (w : World) :
    Calls Try.prog 15 #[.agg #[.int .i64 bits, .int .i64 poll, .int .i64 mn, .int .i64 mx, .int .i64 cnt]] w fun e w' => e = .returned (.bool (reachB ⟨bits, poll, mn, mx, cnt⟩)) ∧ Below w.heap.size w w' := by
  have C := hide (RCheck_any bits poll mn mx cnt)
  by_cases hz : chk ⟨bits, poll, mn, mx, cnt⟩ = 0
  · rw [show reachB ⟨bits, poll, mn, mx, cnt⟩ = (bits != 0) by unfold reachB; simp [hz]]
    rw [hz] at C
    clear hz
    go_enter Try.func15, Try.ntmps15
    go_wp2_with fail
    refine (C.out _).mono ?_
    rintro e w1 ⟨rfl, hb1⟩
    have k0 := (hb1.cell (p := ⟨w.heap.size, 0, none⟩) (by simp))
    simp [go_sem] at k0
    have hbw : Below w.heap.size w w1 := ((Below.refl _ _).alloc (Nat.le_refl _) _).trans (hb1.mono (by simp))
    have HB := hide hbw
    clear hb1 hbw
    go_wp2
    go_ret
    exact ⟨rfl, HB.out⟩
  · rw [show reachB ⟨bits, poll, mn, mx, cnt⟩ = false by unfold reachB; simp [hz]]
    have hz' : (chk ⟨bits, poll, mn, mx, cnt⟩ == 0) = false := by simpa using hz
    generalize chk ⟨bits, poll, mn, mx, cnt⟩ = k at *
    clear hz
    go_enter Try.func15, Try.ntmps15
    go_wp2_with fail
    refine (C.out _).mono ?_
    rintro e w1 ⟨rfl, hb1⟩
    have k0 := (hb1.cell (p := ⟨w.heap.size, 0, none⟩) (by simp))
    simp [go_sem] at k0
    have hbw : Below w.heap.size w w1 := ((Below.refl _ _).alloc (Nat.le_refl _) _).trans (hb1.mono (by simp))
    have HB := hide hbw
    clear hb1 hbw
    go_wp2
    go_ret
    exact ⟨rfl, HB.out⟩
end Go.Proofs.Ytblegmmljegmaaa.Rch
