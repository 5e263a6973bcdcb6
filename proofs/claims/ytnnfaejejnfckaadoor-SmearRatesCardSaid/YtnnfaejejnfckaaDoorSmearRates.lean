/- The walk of the law SmearRates. -/
import Derived.Test.YtnnfaejejnfckaaDoorSmrX
import Derived.Test.YtnnfaejejnfckaaDoorQuiet
namespace Go.Proofs.YtnnfaejejnfckaaDoor.Smr
open Go.RowKit Aid Civ Leap
set_option maxRecDepth 100000 in
set_option maxHeartbeats 3200000 in
theorem SmearRates_walk (B X : Int) (a : Option Addr) (n cap : Nat) (A O : Nat → Int) (K W t : Int) (w : World) (hr : Ents w a n A O) (t1 : -9223372036854775808 ≤ t) (t2 : t ≤ 9223372036854775807) (l : Laid w) :
    Calls Tryd.prog 6 #[.agg #[.int .i64 B, .int .i64 X, .slice a n cap], .agg #[.int .i64 K, .int .i64 W], .int .i64 t] w fun e w' => e = .returned (.bool true) ∧ Below w.heap.size w w' := by
  obtain ⟨W0, hW0⟩ : ∃ W0, W0 = (w.alloc (.cells #[.int .i64 B, .int .i64 X, .slice a n cap] 24)).alloc (.cells #[.int .i64 K, .int .i64 W] 26) := ⟨_, rfl⟩
  have HB0 : Hid (Below (w.heap.size + 2) ((w.alloc (.cells #[.int .i64 B, .int .i64 X, .slice a n cap] 24)).alloc (.cells #[.int .i64 K, .int .i64 W] 26)) W0) := hide (by rw [hW0]; exact Below.refl _ _)
  have HH : Hid (W0 = (w.alloc (.cells #[.int .i64 B, .int .i64 X, .slice a n cap] 24)).alloc (.cells #[.int .i64 K, .int .i64 W] 26)) := hide hW0
  have HR := hide (fun V (g : Below W0.heap.size W0 V) => hr.below (boxB2 (low2 HB0.out g)))
  have HK := hide (fun (V : World) (g : Below W0.heap.size W0 V) => by
    obtain ⟨c0, c1, c2, d0, d1, _⟩ := cells5 (low2 HB0.out g)
    exact And.intro c0 (And.intro c1 (And.intro c2 (And.intro d0 (And.intro d1 g)))))
  have HF := hide (fun V (g : Below W0.heap.size W0 V) => boxB2 (low2 HB0.out g))
  have hb0 := Below.refl W0.heap.size W0
  have LL := hide (fun V (g : Below W0.heap.size W0 V) => l.step (HF.out V g))
  have CS := hide (based (Nat.le_refl _) fun V (_ : Below W0.heap.size W0 V) => small_any B X a n cap V _ rfl)
  have CA := hide (based (Nat.le_refl _) fun V (g : Below W0.heap.size W0 V) => Active_any B X a n cap A O K W t V (LL.out V g) (HR.out V g))
  have CB := hide (based (Nat.le_refl _) fun V (g : Below W0.heap.size W0 V) => RActive_any B X a n cap A O K W t V (HR.out V g))
  have CC := hide (based (Nat.le_refl _) fun V (g : Below W0.heap.size W0 V) => Rate_any B X a n cap A O K W t V (LL.out V g) (HR.out V g))
  have CD := hide (based (Nat.le_refl _) fun V (g : Below W0.heap.size W0 V) => RRate_any B X a n cap A O K W t V (HR.out V g))
  have CW := hide (based (Nat.le_refl _) fun V (g : Below W0.heap.size W0 V) => awake_any V (LL.out V g))
  generalize actB (chkS B X A O n K W) t (inT A O n K W t) = x at *
  generalize rateT B X A O n K W t = y at *
  clear hW0 hr l
  by_cases h : n ≤ 80
  · rw [decide_eq_true h] at CS
    clear h
    cases x
    all_goals
      go_enter Tryd.func6, Tryd.ntmps6
      go_wp2_with fail
      rw [← HH.out]
      obtain ⟨c0, c1, c2, d0, d1, _⟩ := HK.out _ hb0
      have hne := lt_some W0
      have y0 := fun V : Lt W0 => (HK.out _ V.h).1
      have y1 := fun V : Lt W0 => (HK.out _ V.h).2.1
      have y2 := fun V : Lt W0 => (HK.out _ V.h).2.2.1
      have y3 := fun V : Lt W0 => (HK.out _ V.h).2.2.2.1
      have y4 := fun V : Lt W0 => (HK.out _ V.h).2.2.2.2.1
      refine region_lt W0 (by kernel_rfl) (by kernel_rfl) (by assumption) ?_
      repeat (first | go_big_quiet_step (first | (go_at_call 10; with_reducible exact call_lt (CS.out _ (Lt.h _))) | (go_at_call 18; with_reducible exact call_lt (CA.out _ (Lt.h _))) | (go_at_call 19; with_reducible exact call_lt (CB.out _ (Lt.h _))) | (go_at_call 20; with_reducible exact call_lt (CC.out _ (Lt.h _))) | (go_at_call 21; with_reducible exact call_lt (CD.out _ (Lt.h _))) | (go_at_call 13; with_reducible exact call_lt (CW.out _ (Lt.h _)))) | quiet_step (first | (go_at_call 10; with_reducible exact call_lt (CS.out _ (Lt.h _))) | (go_at_call 18; with_reducible exact call_lt (CA.out _ (Lt.h _))) | (go_at_call 19; with_reducible exact call_lt (CB.out _ (Lt.h _))) | (go_at_call 20; with_reducible exact call_lt (CC.out _ (Lt.h _))) | (go_at_call 21; with_reducible exact call_lt (CD.out _ (Lt.h _))) | (go_at_call 13; with_reducible exact call_lt (CW.out _ (Lt.h _)))))
      refine wpQuiet_nil ?_
      intro _ hw'
      obtain ⟨V, rfl⟩ := hw'
      clear y0 y1 y2 y3 y4 hne
      have b1 := V.h
      clear c0 c1 c2 d0 d1
      have HFF := hide (HF.out _ b1)
      obtain ⟨c0, c1, c2, d0, d1, _⟩ := HK.out _ b1
      clear b1
      go_wp2
      go_ret
      exact ⟨rfl, HFF.out⟩
  · rw [decide_eq_false h] at CS
    clear h CA CB CC CD CW
    go_enter Tryd.func6, Tryd.ntmps6
    go_wp2_with fail
    rw [← HH.out]
    obtain ⟨c0, c1, c2, d0, d1, _⟩ := HK.out _ hb0
    have hne := lt_some W0
    have y0 := fun V : Lt W0 => (HK.out _ V.h).1
    have y1 := fun V : Lt W0 => (HK.out _ V.h).2.1
    have y2 := fun V : Lt W0 => (HK.out _ V.h).2.2.1
    have y3 := fun V : Lt W0 => (HK.out _ V.h).2.2.2.1
    have y4 := fun V : Lt W0 => (HK.out _ V.h).2.2.2.2.1
    refine region_lt W0 (by kernel_rfl) (by kernel_rfl) (by assumption) ?_
    repeat (first | go_big_quiet_step (first | (go_at_call 10; with_reducible exact call_lt (CS.out _ (Lt.h _)))) | quiet_step (first | (go_at_call 10; with_reducible exact call_lt (CS.out _ (Lt.h _)))))
    refine wpQuiet_nil ?_
    intro _ hw'
    obtain ⟨V, rfl⟩ := hw'
    clear y0 y1 y2 y3 y4 hne
    have b1 := V.h
    clear c0 c1 c2 d0 d1
    have HFF := hide (HF.out _ b1)
    obtain ⟨c0, c1, c2, d0, d1, _⟩ := HK.out _ b1
    clear b1
    go_wp2
    go_ret
    exact ⟨rfl, HFF.out⟩
end Go.Proofs.YtnnfaejejnfckaaDoor.Smr
