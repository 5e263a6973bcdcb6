
/- The contracts of alarm.Check and New, and of the reference's Check. -/
import Derived.Test.YtgkcegmbjiodgaaAlmD
import Derived.Handy
namespace Go.Proofs.Ytgkcegmbjiodgaa.AlmW
open Go.RowKit Alm Aid
def inB (n lo hi : Int) : Bool := decide (lo ≤ n) && decide (n ≤ hi)
theorem within_any (n lo hi : Int) (r : Bool) (b : Nat) (w : World) (hc : w.cell? ⟨b, 0, none⟩ = some (.bool r)) (hf : w.frozen? ⟨b, 0, none⟩ = false) :
    Calls Try.prog 23 #[.int .i64 n, .int .i64 lo, .int .i64 hi, .pointer (some ⟨b, 0, none⟩)] w fun e w' => e = .returned (.tuple #[]) ∧ w' = w.setCell ⟨b, 0, none⟩ (.bool (r && inB n lo hi)) := by
  have e : (r && inB n lo hi) = if r = true ∧ lo ≤ n ∧ n ≤ hi then true else false := by
    unfold inB
    cases r <;> simp
  rw [e]
  clear e
  cases r
  · rw [if_neg (by simp)]
    go_enter Try.func23, Try.ntmps23
    go_wp2
    go_end0
    exact ⟨rfl, rfl⟩
  · by_cases h1 : lo ≤ n
    · by_cases h2 : n ≤ hi
      · rw [if_pos ⟨rfl, h1, h2⟩]
        go_enter Try.func23, Try.ntmps23
        go_wp2
        go_end0
        exact ⟨rfl, rfl⟩
      · rw [if_neg (fun h => h2 h.2.2)]
        go_enter Try.func23, Try.ntmps23
        go_wp2
        go_end0
        exact ⟨rfl, rfl⟩
    · rw [if_neg (fun h => h1 h.2.1)]
      go_enter Try.func23, Try.ntmps23
      go_wp2
      go_end0
      exact ⟨rfl, rfl⟩
def confV (c : Conf) : Value := .agg #[.int .i64 c.hi, .int .i64 c.lo, .int .i64 c.hold, .int .i64 c.clr, .int .i64 c.sil]
def allB (c : Conf) : Bool := ((((true && inB c.hi (-8000000000000000000) 8000000000000000000) && inB c.lo (-8000000000000000000) 8000000000000000000) && inB c.hold 1 1000) && inB c.clr 1 1000) && inB c.sil 0 1125899906842624
theorem allB_true {c : Conf} (h : allB c = true) : chk c = if c.hi < c.lo then 12 else 0 := by
  unfold allB inB at h
  simp at h
  unfold chk
  rw [if_neg (by omega)]
theorem allB_false {c : Conf} (h : allB c = false) : chk c = 3 := by
  unfold chk
  rw [if_pos]
  apply Classical.byContradiction
  intro hn
  have : allB c = true := by
    unfold allB inB
    simp
    omega
  rw [h] at this
  cases this
set_option maxHeartbeats 1600000 in
theorem Check_any (hi lo hold clr sil : Int) (w : World) :
    Calls Try.prog 10 #[.agg #[.int .i64 hi, .int .i64 lo, .int .i64 hold, .int .i64 clr, .int .i64 sil]] w fun e w' => e = .returned (.int .i64 (chk ⟨hi, lo, hold, clr, sil⟩)) ∧ Below w.heap.size w w' := by
  have C := hide within_any
  go_enter Try.func10, Try.ntmps10
  go_wp2_with fail
  refine (C.out hi (-8000000000000000000) 8000000000000000000 true (w.heap.size + 1) _ (by simp [go_sem]) (by simp [go_sem])).mono ?_
  rintro e w1 ⟨rfl, rfl⟩
  generalize hr1 : (true && inB hi (-8000000000000000000) 8000000000000000000) = r1
  have HR1 := hide hr1
  clear hr1
  go_wp2_with fail
  refine (C.out lo (-8000000000000000000) 8000000000000000000 r1 (w.heap.size + 1) _ (by simp [go_sem]) (by simp [go_sem])).mono ?_
  rintro e w2 ⟨rfl, rfl⟩
  generalize hr2 : (r1 && inB lo (-8000000000000000000) 8000000000000000000) = r2
  have HR2 := hide hr2
  clear hr2
  go_wp2_with fail
  refine (C.out hold 1 1000 r2 (w.heap.size + 1) _ (by simp [go_sem]) (by simp [go_sem])).mono ?_
  rintro e w3 ⟨rfl, rfl⟩
  generalize hr3 : (r2 && inB hold 1 1000) = r3
  have HR3 := hide hr3
  clear hr3
  go_wp2_with fail
  refine (C.out clr 1 1000 r3 (w.heap.size + 1) _ (by simp [go_sem]) (by simp [go_sem])).mono ?_
  rintro e w4 ⟨rfl, rfl⟩
  generalize hr4 : (r3 && inB clr 1 1000) = r4
  have HR4 := hide hr4
  clear hr4
  go_wp2_with fail
  refine (C.out sil 0 1125899906842624 r4 (w.heap.size + 1) _ (by simp [go_sem]) (by simp [go_sem])).mono ?_
  rintro e w5 ⟨rfl, rfl⟩
  generalize hr5 : (r4 && inB sil 0 1125899906842624) = r5
  have HR5 := hide hr5
  clear hr5
  have hall : allB ⟨hi, lo, hold, clr, sil⟩ = r5 := by
    unfold allB
    rw [HR1.out, HR2.out, HR3.out, HR4.out, HR5.out]
  clear HR1 HR2 HR3 HR4 HR5 C
  cases r5
  · have e3 := allB_false hall
    have HE := hide e3
    clear e3 hall
    go_wp2
    go_ret
    exact ⟨ret_int HE.out.symm, by go_grown⟩
  · by_cases hlt : hi < lo
    · have e3 : chk ⟨hi, lo, hold, clr, sil⟩ = 12 := by rw [allB_true hall, if_pos hlt]
      have HE := hide e3
      clear e3 hall
      go_wp2
      go_ret
      exact ⟨ret_int HE.out.symm, by go_grown⟩
    · have e3 : chk ⟨hi, lo, hold, clr, sil⟩ = 0 := by rw [allB_true hall, if_neg hlt]
      have HE := hide e3
      clear e3 hall
      go_wp2
      go_ret
      exact ⟨ret_int HE.out.symm, by go_grown⟩
set_option maxHeartbeats 1600000 in
theorem RCheck_any (hi lo hold clr sil : Int) (w : World) :
    Calls Try.prog 11 #[.agg #[.int .i64 hi, .int .i64 lo, .int .i64 hold, .int .i64 clr, .int .i64 sil]] w fun e w' => e = .returned (.int .i64 (chk ⟨hi, lo, hold, clr, sil⟩)) ∧ Below w.heap.size w w' := by
  have hb : Below w.heap.size w (w.alloc (.cells #[.int .i64 hi, .int .i64 lo, .int .i64 hold, .int .i64 clr, .int .i64 sil] 23)) := (Below.refl _ _).alloc (Nat.le_refl _) _
  have HB := hide hb
  clear hb
  by_cases hall : hi < -8000000000000000000 ∨ 8000000000000000000 < hi ∨ lo < -8000000000000000000 ∨ 8000000000000000000 < lo ∨ hold < 1 ∨ 1000 < hold ∨ clr < 1 ∨ 1000 < clr ∨ sil < 0 ∨ 1125899906842624 < sil
  · have e : chk ⟨hi, lo, hold, clr, sil⟩ = 3 := by unfold chk; rw [if_pos hall]
    rw [e]
    clear e
    rcases hall with h | h | h | h | h | h | h | h | h | h
    all_goals
      go_enter Try.func11, Try.ntmps11
      go_wp2
      all_goals (go_ret; exact ⟨rfl, HB.out⟩)
  · have e : chk ⟨hi, lo, hold, clr, sil⟩ = if hi < lo then 12 else 0 := by unfold chk; rw [if_neg hall]
    rw [e]
    clear e
    obtain ⟨h1, h2, h3, h4, h5, h6, h7, h8, h9, h10⟩ : -8000000000000000000 ≤ hi ∧ hi ≤ 8000000000000000000 ∧ -8000000000000000000 ≤ lo ∧ lo ≤ 8000000000000000000 ∧ 1 ≤ hold ∧ hold ≤ 1000 ∧ 1 ≤ clr ∧ clr ≤ 1000 ∧ 0 ≤ sil ∧ sil ≤ 1125899906842624 := by omega
    clear hall
    by_cases hl : hi < lo
    · rw [if_pos hl]
      go_enter Try.func11, Try.ntmps11
      go_wp2
      go_ret
      exact ⟨rfl, HB.out⟩
    · rw [if_neg hl]
      go_enter Try.func11, Try.ntmps11
      go_wp2
      go_ret
      exact ⟨rfl, HB.out⟩

/-- New gives a new alarm, or nil -/
def Made (w : World) (c : Conf) (e : Ending) (w' : World) : Prop := ∃ g, e = .returned (.pointer (some ⟨g, 0, none⟩)) ∧ w.heap.size ≤ g ∧ AlmAt w' g c St.new ∧ Below w.heap.size w w'
theorem New_bad (hi lo hold clr sil : Int) (w : World) (hz : chk ⟨hi, lo, hold, clr, sil⟩ ≠ 0) :
    Calls Try.prog 12 #[.agg #[.int .i64 hi, .int .i64 lo, .int .i64 hold, .int .i64 clr, .int .i64 sil]] w fun e w' => e = .returned (.pointer none) ∧ Below w.heap.size w w' := by
  have hb : Below w.heap.size w (w.alloc (.cells #[.int .i64 hi, .int .i64 lo, .int .i64 hold, .int .i64 clr, .int .i64 sil] 23)) := (Below.refl _ _).alloc (Nat.le_refl _) _
  have HB := hide hb
  have C := hide (Check_any hi lo hold clr sil)
  have hz' : (chk ⟨hi, lo, hold, clr, sil⟩ != 0) = true := by simpa using hz
  generalize chk ⟨hi, lo, hold, clr, sil⟩ = k at *
  clear hz hb
  go_enter Try.func12, Try.ntmps12
  go_wp2_with fail
  refine (C.out _).mono ?_
  rintro e w1 ⟨rfl, hb1⟩
  have hbw := HB.out.trans (hb1.mono (by simp))
  clear hb1
  go_wp2
  go_ret
  exact ⟨rfl, hbw⟩
theorem New_ok (hi lo hold clr sil : Int) (w : World) (hz : chk ⟨hi, lo, hold, clr, sil⟩ = 0) :
    Calls Try.prog 12 #[.agg #[.int .i64 hi, .int .i64 lo, .int .i64 hold, .int .i64 clr, .int .i64 sil]] w (Made w ⟨hi, lo, hold, clr, sil⟩) := by
  have hb : Below w.heap.size w (w.alloc (.cells #[.int .i64 hi, .int .i64 lo, .int .i64 hold, .int .i64 clr, .int .i64 sil] 23)) := (Below.refl _ _).alloc (Nat.le_refl _) _
  have HB := hide hb
  have C := hide (Check_any hi lo hold clr sil)
  rw [hz] at C
  clear hz hb
  go_enter Try.func12, Try.ntmps12
  go_wp2_with fail
  refine (C.out _).mono ?_
  rintro e w1 ⟨rfl, hb1⟩
  have hbw := HB.out.trans (hb1.mono (by simp))
  have hs1 : w.heap.size < w1.heap.size := by have := hb1.size; simp at this; omega
  have k0 := (hb1.cell (p := ⟨w.heap.size, 0, none⟩) (by simp))
  have k1 := (hb1.cell (p := ⟨w.heap.size, 1, none⟩) (by simp))
  have k2 := (hb1.cell (p := ⟨w.heap.size, 2, none⟩) (by simp))
  have k3 := (hb1.cell (p := ⟨w.heap.size, 3, none⟩) (by simp))
  have k4 := (hb1.cell (p := ⟨w.heap.size, 4, none⟩) (by simp))
  simp [go_sem] at k0 k1 k2 k3 k4
  have HW := hide hbw
  clear hb1 hbw
  go_wp2
  go_ret
  exact ⟨_, rfl, Nat.le_of_lt hs1, heap_alloc_new w1 _, HW.out.alloc (Nat.le_of_lt hs1) _⟩
end Go.Proofs.Ytgkcegmbjiodgaa.AlmW
