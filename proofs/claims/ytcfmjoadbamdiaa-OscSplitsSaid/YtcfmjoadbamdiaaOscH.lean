/- The contracts of Read of package osc and of its reference, of the law's span, and of awake (layer 9). -/
import Derived.Test.YtcfmjoadbamdiaaOscF
import Derived.Test.YtcfmjoadbamdiaaOscG
import Derived.Deep.RegionHeld3
namespace Go.Proofs.Ytcfmjoadbamdiaa.OscW
open Go.RowKit OscP Aid

/-- what Read returns -/
def rdE (ph : Int) (A P : Nat → Int) (n : Nat) (t : Int) : Int := if chk ph A P n ≠ 0 then chk ph A P n else if t < 0 ∨ 1125899906842624 < t then 3 else 0
def rdV (ph : Int) (A P : Nat → Int) (n : Nat) (t : Int) : Int := if chk ph A P n ≠ 0 then 0 else if t < 0 ∨ 1125899906842624 < t then 0 else rd ph A P n t

set_option maxHeartbeats 1600000 in
theorem Read_any (ph : Int) (a : Option Addr) (n cap : Nat) (A P : Nat → Int) (t : Int) (w : World) (hr : SegsAt w a n A P) :
    Calls Try.prog 9 #[.agg #[.int .i64 ph, .slice a n cap], .int .i64 t] w fun e w' => e = .returned (.tuple #[.int .i64 (rdV ph A P n t), .int .i64 (rdE ph A P n t)]) ∧ Below w.heap.size w w' := by
  have hb0 : Below w.heap.size w (w.alloc (.cells #[.int .i64 ph, .slice a n cap] 24)) := (Below.refl _ _).alloc (Nat.le_refl _) _
  have HB := hide hb0
  have HC := hide (Check_any ph a n cap A P _ (hr.below hb0))
  have HR := hide hr
  clear hr hb0
  by_cases hz : chk ph A P n = 0
  · have HO := hide (chk_ok hz)
    have hz' : (chk ph A P n != 0) = false := by simp [hz]
    by_cases ht : t < 0 ∨ 1125899906842624 < t
    · have ev : rdV ph A P n t = 0 := by unfold rdV; rw [if_neg (by omega), if_pos ht]
      have ee : rdE ph A P n t = 3 := by unfold rdE; rw [if_neg (by omega), if_pos ht]
      have HZ := hide hz
      clear hz
      rw [ev, ee]
      clear ev ee
      rcases ht with ht | ht
      all_goals
        go_enter Try.func9, Try.ntmps9
        go_wp2_with fail
        refine HC.out.mono ?_
        rintro e w1 ⟨rfl, hb1⟩
        have hbw1 := HB.out.trans (hb1.mono (by simp))
        clear hb1
        go_wp2
        go_ret2
        exact ⟨rfl, hbw1⟩
    · have ht1 : 0 ≤ t ∧ t ≤ 1125899906842624 := by omega
      have ev : rdV ph A P n t = rd ph A P n t := by unfold rdV; rw [if_neg (by omega), if_neg ht]
      have ee : rdE ph A P n t = 0 := by unfold rdE; rw [if_neg (by omega), if_neg ht]
      have HZ := hide hz
      clear hz ht
      rw [ev, ee]
      clear ev ee
      obtain ⟨hta, htb⟩ := ht1
      go_enter Try.func9, Try.ntmps9
      go_wp2_with fail
      refine HC.out.mono ?_
      rintro e w1 ⟨rfl, hb1⟩
      have HB1 := hide (hb1.mono (show w.heap.size + 1 ≤ _ by simp))
      have hs1 : w.heap.size < w1.heap.size := by have := hb1.size; simp at this; omega
      clear hb1
      have key : ∀ W, Below (w.heap.size + 1) (w.alloc (.cells #[.int .i64 ph, .slice a n cap] 24)) W → W.cell? ⟨w.heap.size, 0, none⟩ = some (.int .i64 ph) ∧ W.cell? ⟨w.heap.size, 1, none⟩ = some (.slice a n cap) ∧ Below (w.heap.size + 1) (w.alloc (.cells #[.int .i64 ph, .slice a n cap] 24)) W :=
        fun W h => ⟨(h.cell (p := ⟨w.heap.size, 0, none⟩) (by simp)).trans (by simp [go_sem]), (h.cell (p := ⟨w.heap.size, 1, none⟩) (by simp)).trans (by simp [go_sem]), h⟩
      have cs : ∀ W, Below (w.heap.size + 1) (w.alloc (.cells #[.int .i64 ph, .slice a n cap] 24)) W → Calls Try.prog 22 #[.agg #[.int .i64 ph, .slice a n cap]] W fun e w' => ∃ g, e = .returned (.slice (some ⟨g, 0, none⟩) n n) ∧ SpansAt w' g n A P (ends A n) ∧ Below (w.heap.size + 1) (w.alloc (.cells #[.int .i64 ph, .slice a n cap] 24)) w' :=
        fun W h => (spans_any ph a n cap A P W (HR.out.below (HB.out.trans (h.mono (by omega)))) HO.out).mono fun e w' ⟨g, h1, h2, h3⟩ => ⟨g, h1, h2, h.trans (h3.mono (by have := h.size; simpa using this))⟩
      have cr : ∀ W g, Below (w.heap.size + 1) (w.alloc (.cells #[.int .i64 ph, .slice a n cap] 24)) W → SpansAt W g n A P (ends A n) → Calls Try.prog 21 #[.int .i64 ph, .slice (some ⟨g, 0, none⟩) n n, .int .i64 t] W fun e w' => e = .returned (.int .i64 (rd ph A P n t)) ∧ Below (w.heap.size + 1) (w.alloc (.cells #[.int .i64 ph, .slice a n cap] 24)) w' :=
        fun W g h hs => (reading_any ph g n n A P t W hs HO.out ⟨hta, htb⟩).mono fun e w' ⟨h1, h3⟩ => ⟨h1, h.trans (h3.mono (by have := h.size; simpa using this))⟩
      obtain ⟨k0, k1, _⟩ := key w1 HB1.out
      have K := hide key
      have CS := hide cs
      have CR := hide cr
      have kb := HB1.out
      clear key cs cr
      go_wp2
      go_region_held3 (fun W => W.cell? ⟨w.heap.size, 0, none⟩ = some (.int .i64 ph) ∧ W.cell? ⟨w.heap.size, 1, none⟩ = some (.slice a n cap) ∧ Below (w.heap.size + 1) (w.alloc (.cells #[.int .i64 ph, .slice a n cap] 24)) W) (first | exact K.out _ (by assumption) | exact K.out _ (Below.drew (by assumption)))
        (first | (go_at_call 22; go_must (refine (CS.out _ (by exact And.right (And.right (by assumption)))).mono ?_); rintro e w' ⟨g, rfl, hsp, hb⟩) | (go_at_call 21; refine (CR.out _ _ (by first | assumption | exact And.right (And.right (by assumption))) (by assumption)).mono ?_; rintro e w' ⟨rfl, hb⟩))
      go_wp2
      go_ret2
      exact ⟨rfl, HB.out.trans (Below.mono (by assumption) (by omega))⟩
  · have ev : rdV ph A P n t = 0 := by unfold rdV; rw [if_pos hz]
    have ee : rdE ph A P n t = chk ph A P n := by unfold rdE; rw [if_pos hz]
    have hz' : (chk ph A P n != 0) = true := by simp [hz]
    clear hz
    rw [ev, ee]
    clear ev ee
    go_enter Try.func9, Try.ntmps9
    go_wp2_with fail
    refine HC.out.mono ?_
    rintro e w1 ⟨rfl, hb1⟩
    have hbw1 := HB.out.trans (hb1.mono (by simp))
    clear hb1
    go_wp2
    go_ret2
    exact ⟨rfl, hbw1⟩

set_option maxHeartbeats 1600000 in
theorem RRead_any (ph : Int) (a : Option Addr) (n cap : Nat) (A P : Nat → Int) (t : Int) (w : World) (hr : SegsAt w a n A P) :
    Calls Try.prog 10 #[.agg #[.int .i64 ph, .slice a n cap], .int .i64 t] w fun e w' => e = .returned (.tuple #[.int .i64 (rdV ph A P n t), .int .i64 (rdE ph A P n t)]) ∧ Below w.heap.size w w' := by
  have hb0 : Below w.heap.size w (w.alloc (.cells #[.int .i64 ph, .slice a n cap] 24)) := (Below.refl _ _).alloc (Nat.le_refl _) _
  have HB := hide hb0
  have HC := hide (RCheck_any ph a n cap A P _ (hr.below hb0))
  have HR := hide hr
  clear hr hb0
  by_cases hz : chk ph A P n = 0
  · have HO := hide (chk_ok hz)
    have hz' : (chk ph A P n != 0) = false := by simp [hz]
    by_cases ht : t < 0 ∨ 1125899906842624 < t
    · have ev : rdV ph A P n t = 0 := by unfold rdV; rw [if_neg (by omega), if_pos ht]
      have ee : rdE ph A P n t = 3 := by unfold rdE; rw [if_neg (by omega), if_pos ht]
      have HZ := hide hz
      clear hz
      rw [ev, ee]
      clear ev ee
      rcases ht with ht | ht
      all_goals
        go_enter Try.func10, Try.ntmps10
        go_wp2_with fail
        refine HC.out.mono ?_
        rintro e w1 ⟨rfl, hb1⟩
        have hbw1 := HB.out.trans (hb1.mono (by simp))
        clear hb1
        go_wp2
        go_ret2
        exact ⟨rfl, hbw1⟩
    · have ht1 : 0 ≤ t ∧ t ≤ 1125899906842624 := by omega
      have ev : rdV ph A P n t = rd ph A P n t := by unfold rdV; rw [if_neg (by omega), if_neg ht]
      have ee : rdE ph A P n t = 0 := by unfold rdE; rw [if_neg (by omega), if_neg ht]
      have HZ := hide hz
      clear hz ht
      rw [ev, ee]
      clear ev ee
      obtain ⟨hta, htb⟩ := ht1
      go_enter Try.func10, Try.ntmps10
      go_wp2_with fail
      refine HC.out.mono ?_
      rintro e w1 ⟨rfl, hb1⟩
      have hbw1 := HB.out.trans (hb1.mono (by simp))
      have hs1 : w.heap.size < w1.heap.size := by have := hb1.size; simp at this; omega
      have k0 : w1.cell? ⟨w.heap.size, 0, none⟩ = some (.int .i64 ph) := (hb1.cell (p := ⟨w.heap.size, 0, none⟩) (by simp)).trans (by simp [go_sem])
      have k1 : w1.cell? ⟨w.heap.size, 1, none⟩ = some (.slice a n cap) := (hb1.cell (p := ⟨w.heap.size, 1, none⟩) (by simp)).trans (by simp [go_sem])
      have C := Rread_any ph a n cap A P t w1 (HR.out.below hbw1) HO.out ⟨hta, htb⟩
      have HC2 := hide C
      have HB1 := hide hbw1
      clear hb1 hbw1 C
      go_wp2_with (go_at_call 23; refine HC2.out.mono ?_; rintro e w2 ⟨rfl, hb2⟩)
      go_ret2
      exact ⟨rfl, HB1.out.trans (Below.mono (by assumption) HB1.out.size)⟩
  · have ev : rdV ph A P n t = 0 := by unfold rdV; rw [if_pos hz]
    have ee : rdE ph A P n t = chk ph A P n := by unfold rdE; rw [if_pos hz]
    have hz' : (chk ph A P n != 0) = true := by simp [hz]
    clear hz
    rw [ev, ee]
    clear ev ee
    go_enter Try.func10, Try.ntmps10
    go_wp2_with fail
    refine HC.out.mono ?_
    rintro e w1 ⟨rfl, hb1⟩
    have hbw1 := HB.out.trans (hb1.mono (by simp))
    clear hb1
    go_wp2
    go_ret2
    exact ⟨rfl, hbw1⟩

/-- the law's span -/
def spanB (t d : Int) : Bool := decide (0 ≤ t ∧ t ≤ 1125899906842624 ∧ 0 ≤ d ∧ d ≤ 1125899906842624 - t)
theorem span_any (t d : Int) (w : World) : Calls Try.prog 14 #[.int .i64 t, .int .i64 d] w fun e w' => e = .returned (.bool (spanB t d)) ∧ w = w' := by
  by_cases h1 : 0 ≤ t
  · by_cases h2 : t ≤ 1125899906842624
    · by_cases h3 : 0 ≤ d
      · by_cases h4 : d ≤ 1125899906842624 - t
        · have e : spanB t d = true := by unfold spanB; simp; omega
          rw [e]
          clear e
          go_enter Try.func14, Try.ntmps14
          go_wp2
          go_ret
          exact ⟨rfl, rfl⟩
        · have e : spanB t d = false := by unfold spanB; simp; omega
          rw [e]
          clear e
          go_enter Try.func14, Try.ntmps14
          go_wp2
          go_ret
          exact ⟨rfl, rfl⟩
      · have e : spanB t d = false := by unfold spanB; simp; omega
        rw [e]
        clear e
        go_enter Try.func14, Try.ntmps14
        go_wp2
        go_ret
        exact ⟨rfl, rfl⟩
    · have e : spanB t d = false := by unfold spanB; simp; omega
      rw [e]
      clear e
      go_enter Try.func14, Try.ntmps14
      go_wp2
      go_ret
      exact ⟨rfl, rfl⟩
  · have e : spanB t d = false := by unfold spanB; simp; omega
    rw [e]
    clear e
    go_enter Try.func14, Try.ntmps14
    go_wp2
    go_ret
    exact ⟨rfl, rfl⟩

def exA (i : Nat) : Int := if i = 0 then 0 else 1000000000
def exP (i : Nat) : Int := if i = 0 then 0 else 1000
theorem ex_v : rdV 0 exA exP 2 2000000000 = 2000001000 := by decide +kernel
theorem ex_e : rdE 0 exA exP 2 2000000000 = 0 := by decide +kernel
theorem ex_segs (w : World) : SegsAt ((w.alloc (.cells #[.int .i64 0, .int .i64 0, .int .i64 1000000000, .int .i64 1000] 32)).alloc (.cells #[.int .i64 0, .slice (some ⟨w.heap.size, 0, none⟩) 2 2] 24)) (some ⟨w.heap.size, 0, none⟩) 2 exA exP := by
  refine ⟨by omega, fun _ => ⟨w.heap.size, 0, rfl, by simp; omega, fun i hi => ?_⟩⟩
  match i, hi with
  | 0, _ => exact ⟨by simp [go_sem, exA], by simp [go_sem, exP]⟩
  | 1, _ => exact ⟨by simp [go_sem, exA], by simp [go_sem, exP]⟩
set_option maxHeartbeats 400000 in
theorem awake_any (w : World) : Calls Try.prog 13 #[] w fun e w' => e = .returned (.bool true) ∧ Below w.heap.size w w' := by
  have C := Read_any 0 (some ⟨w.heap.size, 0, none⟩) 2 2 exA exP 2000000000 _ (ex_segs w)
  rw [ex_v, ex_e] at C
  have HC := hide C
  have hb : Below w.heap.size w ((w.alloc (.cells #[.int .i64 0, .int .i64 0, .int .i64 1000000000, .int .i64 1000] 32)).alloc (.cells #[.int .i64 0, .slice (some ⟨w.heap.size, 0, none⟩) 2 2] 24)) :=
    ((Below.refl _ _).alloc (Nat.le_refl _) _).alloc (by simp) _
  have HB := hide hb
  clear C hb
  go_enter Try.func13, Try.ntmps13
  go_wp2_with fail
  refine HC.out.mono ?_
  rintro e w1 ⟨rfl, hb1⟩
  have hbw := HB.out.trans (hb1.mono (by simp; omega))
  clear hb1
  go_wp2
  go_ret
  exact ⟨rfl, hbw⟩
theorem box_cells {w : World} {x y : Value} {T : TypeId} : ∀ W, Below (w.heap.size + 1) (w.alloc (.cells #[x, y] T)) W → W.cell? ⟨w.heap.size, 0, none⟩ = some x ∧ W.cell? ⟨w.heap.size, 1, none⟩ = some y ∧ Below (w.heap.size + 1) (w.alloc (.cells #[x, y] T)) W :=
  fun W h => ⟨(h.cell (p := ⟨w.heap.size, 0, none⟩) (by simp)).trans (by simp [go_sem]), (h.cell (p := ⟨w.heap.size, 1, none⟩) (by simp)).trans (by simp [go_sem]), h⟩
theorem box_below {w : World} {o : Obj} {W : World} (h : Below (w.heap.size + 1) (w.alloc o) W) : Below w.heap.size w W := ((Below.refl _ _).alloc (Nat.le_refl _) _).trans (h.mono (by omega))

end Go.Proofs.Ytcfmjoadbamdiaa.OscW
