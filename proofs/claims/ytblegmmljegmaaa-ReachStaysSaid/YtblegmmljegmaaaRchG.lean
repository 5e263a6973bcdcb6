/- Heard, Lost and Reachable of package reach. -/
import Derived.Test.YtblegmmljegmaaaRchF
namespace Go.Proofs.Ytblegmmljegmaaa.Rch
open Go.RowKit Go.Maps Aid
def cnt8 (f : Nat → Bool) : Nat := (if f 0 then 1 else 0) + (if f 1 then 1 else 0) + (if f 2 then 1 else 0) + (if f 3 then 1 else 0) + (if f 4 then 1 else 0) + (if f 5 then 1 else 0) + (if f 6 then 1 else 0) + (if f 7 then 1 else 0)
def bitB (b : Int) (j : Nat) : Bool := decide (bitv b j ≠ 0)
def heardN (b : Int) : Nat := cnt8 (bitB b)
def lostN (b : Int) : Nat := if bitB b 0 then 0 else if bitB b 1 then 1 else if bitB b 2 then 2 else if bitB b 3 then 3 else if bitB b 4 then 4 else if bitB b 5 then 5 else if bitB b 6 then 6 else if bitB b 7 then 7 else 8
theorem lost_eq {b : Int} {l : Nat} (h1 : l ≤ 8) (h2 : l < 8 → bitB b l = true) (h3 : ∀ j, j < 8 → bitB b j = true → l ≤ j) : l = lostN b := by
  unfold lostN
  by_cases c0 : bitB b 0 = true
  · rw [if_pos c0]; have := h3 0 (by omega) c0; omega
  rw [if_neg c0]
  have n0 : l ≠ 0 := fun e => c0 (by rw [← e]; exact h2 (by omega))
  by_cases c1 : bitB b 1 = true
  · rw [if_pos c1]; have := h3 1 (by omega) c1; omega
  rw [if_neg c1]
  have n1 : l ≠ 1 := fun e => c1 (by rw [← e]; exact h2 (by omega))
  by_cases c2 : bitB b 2 = true
  · rw [if_pos c2]; have := h3 2 (by omega) c2; omega
  rw [if_neg c2]
  have n2 : l ≠ 2 := fun e => c2 (by rw [← e]; exact h2 (by omega))
  by_cases c3 : bitB b 3 = true
  · rw [if_pos c3]; have := h3 3 (by omega) c3; omega
  rw [if_neg c3]
  have n3 : l ≠ 3 := fun e => c3 (by rw [← e]; exact h2 (by omega))
  by_cases c4 : bitB b 4 = true
  · rw [if_pos c4]; have := h3 4 (by omega) c4; omega
  rw [if_neg c4]
  have n4 : l ≠ 4 := fun e => c4 (by rw [← e]; exact h2 (by omega))
  by_cases c5 : bitB b 5 = true
  · rw [if_pos c5]; have := h3 5 (by omega) c5; omega
  rw [if_neg c5]
  have n5 : l ≠ 5 := fun e => c5 (by rw [← e]; exact h2 (by omega))
  by_cases c6 : bitB b 6 = true
  · rw [if_pos c6]; have := h3 6 (by omega) c6; omega
  rw [if_neg c6]
  have n6 : l ≠ 6 := fun e => c6 (by rw [← e]; exact h2 (by omega))
  by_cases c7 : bitB b 7 = true
  · rw [if_pos c7]; have := h3 7 (by omega) c7; omega
  rw [if_neg c7]
  have n7 : l ≠ 7 := fun e => c7 (by rw [← e]; exact h2 (by omega))
  omega
/-- how many keys of 0 to 7 are left -/
def cntL (left : Lit → Bool) : Nat := cnt8 fun j => left (.int .i64 (j : Int))
theorem same_int (i j : Nat) : (Lit.int .i64 (i : Int)).sameKey (Lit.int .i64 (j : Int)) = decide (i = j) := by
  unfold Lit.sameKey
  by_cases h : i = j
  · subst h; simp
  · simp [h]; omega
theorem cntL_strike {left : Lit → Bool} {j : Nat} (hj : j < 8) (hl : left (.int .i64 (j : Int)) = true) : cntL (fun z => left z && !z.sameKey (.int .i64 (j : Int))) + 1 = cntL left := by
  simp only [cntL, cnt8, same_int]
  have : j = 0 ∨ j = 1 ∨ j = 2 ∨ j = 3 ∨ j = 4 ∨ j = 5 ∨ j = 6 ∨ j = 7 := by omega
  rcases this with rfl | rfl | rfl | rfl | rfl | rfl | rfl | rfl <;> simp at hl ⊢ <;> simp [hl] <;> omega
theorem cntL_none {left : Lit → Bool} (h : ∀ kl, left kl = false) : cntL left = 0 := by simp [cntL, cnt8, h]
theorem has_bit {b : Int} {D : DU} (h : StripD b 8 D) {j : Nat} (hj : j < 8) : Maps.has D (.int .i64 (j : Int)) = bitB b j := by
  unfold bitB
  apply Bool.eq_iff_iff.2
  rw [h.has]
  constructor
  · rintro ⟨i, hi, hb, e⟩
    have : j = i := by injection e with _ e; omega
    subst this
    simpa using hb hi
  · intro hb
    exact ⟨j, hj, fun _ => by simpa using hb, rfl⟩
theorem cnt8_congr {f g : Nat → Bool} (h : ∀ j, j < 8 → f j = g j) : cnt8 f = cnt8 g := by
  unfold cnt8
  rw [h 0 (by omega), h 1 (by omega), h 2 (by omega), h 3 (by omega), h 4 (by omega), h 5 (by omega), h 6 (by omega), h 7 (by omega)]
theorem cntL_start {b : Int} {D : DU} (h : StripD b 8 D) : cntL (Maps.has D) = heardN b := cnt8_congr fun _ hj => has_bit h hj
theorem key_of_at {b : Int} {D : DU} (h : StripD b 8 D) {x c : Int} (hat : ∀ zd, D.atKey (.int .i64 x) zd = .lit (.int .i64 c)) : ∃ j : Nat, j < 8 ∧ x = (j : Int) ∧ bitB b j = true := by
  cases hh : Maps.has D (.int .i64 x) with
  | true =>
    obtain ⟨j, hj, hb, e⟩ := (h.has _).1 hh
    exact ⟨j, hj, by injection e, by unfold bitB; simpa using hb hj⟩
  | false =>
    have e1 := (hat .nil).symm.trans (atKey_of_not_has hh .nil)
    cases e1
set_option maxRecDepth 100000 in
set_option maxHeartbeats 3200000 in
theorem Heard_any (bits poll mn mx cnt : Int) (w : World) :
    Calls Try.prog 16 #[.agg #[.int .i64 bits, .int .i64 poll, .int .i64 mn, .int .i64 mx, .int .i64 cnt]] w fun e w' => e = .returned (.int .i64 (if chk ⟨bits, poll, mn, mx, cnt⟩ = 0 then (heardN bits : Int) else 0)) ∧ Below w.heap.size w w' := by
  have C := hide (Check_any bits poll mn mx cnt)
  by_cases hz : chk ⟨bits, poll, mn, mx, cnt⟩ = 0
  · have ok := chk_ok hz
    have q1 : 0 ≤ bits := ok.b1
    have q2 : bits ≤ 255 := ok.b2
    have A := hide fun W => answered_any bits poll mn mx cnt q1 q2 W
    rw [hz] at C
    rw [if_pos hz]
    clear hz ok q1 q2
    go_enter Try.func16, Try.ntmps16
    go_wp2_with fail
    refine (C.out _).mono ?_
    rintro e w1 ⟨rfl, hb1⟩
    have k0 := (hb1.cell (p := ⟨w.heap.size, 0, none⟩) (by simp))
    have k1 := (hb1.cell (p := ⟨w.heap.size, 1, none⟩) (by simp))
    have k2 := (hb1.cell (p := ⟨w.heap.size, 2, none⟩) (by simp))
    have k3 := (hb1.cell (p := ⟨w.heap.size, 3, none⟩) (by simp))
    have k4 := (hb1.cell (p := ⟨w.heap.size, 4, none⟩) (by simp))
    simp [go_sem] at k0 k1 k2 k3 k4
    have hbw : Below w.heap.size w w1 := ((Below.refl _ _).alloc (Nat.le_refl _) _).trans (hb1.mono (by simp))
    have HB := hide hbw
    have hs1 : w.heap.size ≤ w1.heap.size := hbw.size
    clear hb1 hbw
    go_wp2_with fail
    refine (A.out _).mono ?_
    rintro e w2 ⟨D, rfl, hown, hS, hb2⟩
    have hB2 : w.heap.size ≤ w1.heap.size + 1 := by omega
    have hbw2 := HB.out.trans (hb2.mono hs1)
    have hs2 : w.heap.size ≤ w2.heap.size := hbw2.size
    generalize w1.heap.size + 1 = B at *
    clear k0 k1 k2 k3 k4 hb2
    have HB2 := hide hbw2
    have HS := hide hS
    clear hbw2 HB hS hs1
    go_wp2_with (first
      | (at_range; refine wpList_range_own _ rfl _ 45 rfl 3 3 law3 und45 _ B 8 _ rfl hown ?_; intro w0 hrg0 hg0 hs0)
      | go_in)
    go_frame
    go_loopw [3] (fun n wr => ∃ (left : Lit → Bool) (c : Nat) (m : Nat), wr.ranges Try.prog 3 (plainElem Try.prog 3) B w2.heap.size 8 D left c ∧ n = .int .i64 (m : Int) ∧ m + cntL left = heardN bits ∧ Below w.heap.size w wr)
      (fun _ wr => wr.rangeLeft B w2.heap.size)
    case atStart => exact ⟨_, _, 0, hrg0, rfl, by rw [cntL_start HS.out]; omega, HB2.out.grown hg0 hs2 (fun j hj => by cases hj)⟩
    case round =>
      obtain ⟨left, c, m, hrg, rfl, hm, hnx⟩ := hrel
      have hm8 : heardN bits ≤ 8 := by unfold heardN cnt8; split <;> split <;> split <;> split <;> split <;> split <;> split <;> split <;> omega
      have HNX := hide hnx
      have HRG := hide hrg
      have HM := hide hm
      have hml : m ≤ 8 := by omega
      clear hnx hm
      go_wp2_with (first
        | (at_next; refine wpList_next_ranges_ii _ rfl _ rfl 3 3 .i64 .i64 law3 und3 und3 B w2.heap.size 8 _ _ _ rfl hrg ?_ ?_)
        | go_in)
      · intro _ hl0
        have e0 : m = heardN bits := by have := HM.out; rw [cntL_none hl0] at this; omega
        go_wp2
        go_ret
        exact ⟨by rw [e0]; rfl, HNX.out⟩
      · intro x v w3 cnt1 hwx hwc hlx hat hrg1 hlt hg1 hs1 hen
        obtain ⟨j, hj, rfl, hbj⟩ := key_of_at HS.out hat
        have hst := cntL_strike hj hlx
        have hnx3 := HNX.out.grown hg1 HNX.out.size (fun j hj => by cases hj; exact hs2)
        clear hat hwx hwc
        go_wp2
        go_roundw
        case rel => exact ⟨_, cnt1, m + 1, hrg1, by go_num, by have := HM.out; omega, hnx3⟩
        case measure => rw [hrg1.left_eq, HRG.out.left_eq]; exact hlt
  · rw [if_neg hz]
    have hz' : (chk ⟨bits, poll, mn, mx, cnt⟩ != 0) = true := by simpa using hz
    generalize chk ⟨bits, poll, mn, mx, cnt⟩ = k at *
    clear hz
    go_enter Try.func16, Try.ntmps16
    go_wp2_with fail
    refine (C.out _).mono ?_
    rintro e w1 ⟨rfl, hb1⟩
    have hbw : Below w.heap.size w w1 := ((Below.refl _ _).alloc (Nat.le_refl _) _).trans (hb1.mono (by simp))
    go_wp2
    go_ret
    exact ⟨rfl, hbw⟩
end Go.Proofs.Ytblegmmljegmaaa.Rch
