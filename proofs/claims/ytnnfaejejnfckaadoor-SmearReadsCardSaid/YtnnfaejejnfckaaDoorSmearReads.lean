/- The walk of the law SmearReads. -/
import Derived.Test.YtnnfaejejnfckaaDoorSmrX
import Derived.Test.YtnnfaejejnfckaaDoorQuiet
namespace Go.Proofs.YtnnfaejejnfckaaDoor.Smr
open Go.RowKit Aid Civ Leap
set_option maxRecDepth 100000 in
set_option maxHeartbeats 3200000 in
theorem SmearReads_walk (B X : Int) (a : Option Addr) (n cap : Nat) (A O : Nat → Int) (K W t : Int) (w : World) (hr : Ents w a n A O) (t1 : -9223372036854775808 ≤ t) (t2 : t ≤ 9223372036854775807) (l : Laid w) :
    Calls Tryd.prog 4 #[.agg #[.int .i64 B, .int .i64 X, .slice a n cap], .agg #[.int .i64 K, .int .i64 W], .int .i64 t] w fun e w' => e = .returned (.bool true) ∧ Below w.heap.size w w' := by
  obtain ⟨W0, hW0⟩ : ∃ W0, W0 = (w.alloc (.cells #[.int .i64 B, .int .i64 X, .slice a n cap] 24)).alloc (.cells #[.int .i64 K, .int .i64 W] 26) := ⟨_, rfl⟩
  have HB0 : Hid (Below (w.heap.size + 2) ((w.alloc (.cells #[.int .i64 B, .int .i64 X, .slice a n cap] 24)).alloc (.cells #[.int .i64 K, .int .i64 W] 26)) W0) := hide (by rw [hW0]; exact Below.refl _ _)
  have HH : Hid (W0 = (w.alloc (.cells #[.int .i64 B, .int .i64 X, .slice a n cap] 24)).alloc (.cells #[.int .i64 K, .int .i64 W] 26)) := hide hW0
  have HR := hide (fun V (g : Below W0.heap.size W0 V) => hr.below (boxB2 (low2 HB0.out g)))
  have HK := hide (fun (V : World) (g : Below W0.heap.size W0 V) => by
    obtain ⟨c0, c1, c2, d0, d1, _⟩ := cells5 (low2 HB0.out g)
    exact And.intro c0 (And.intro c1 (And.intro c2 (And.intro d0 (And.intro d1 g)))))
  have HF := hide (fun V (g : Below W0.heap.size W0 V) => boxB2 (low2 HB0.out g))
  have hb0 := Below.refl W0.heap.size W0
  have LL := hide (fun V (g : Below W0.heap.size W0 V) => l.step (HF.out V g))
  have CS := hide (based (Nat.le_refl _) fun V (_ : Below W0.heap.size W0 V) => small_any B X a n cap V _ rfl)
  have CA := hide (based (Nat.le_refl _) fun V (g : Below W0.heap.size W0 V) => Read_any B X a n cap A O K W t V (LL.out V g) (HR.out V g) ⟨t1, t2⟩)
  have CB := hide (based (Nat.le_refl _) fun V (g : Below W0.heap.size W0 V) => RRead_any B X a n cap A O K W t V (HR.out V g) ⟨t1, t2⟩)
  have CW := hide (based (Nat.le_refl _) fun V (g : Below W0.heap.size W0 V) => awake_any V (LL.out V g))
  generalize readV (chkS B X A O n K W) t (rdT B A O n K W t) = x at *
  generalize readE (chkS B X A O n K W) t (rdT B A O n K W t) = y at *
  clear hW0 hr l
  by_cases h : n ≤ 80
  · rw [decide_eq_true h] at CS
    clear h
    go_enter Tryd.func4, Tryd.ntmps4
    go_wp2_with fail
    rw [← HH.out]
    with_reducible refine (CS.out _ hb0).mono ?_
    rintro e w1 ⟨rfl, b1⟩
    obtain ⟨c0, c1, c2, d0, d1, _⟩ := HK.out _ b1
    go_wp2_with fail
    with_reducible refine (CA.out _ b1).mono ?_
    rintro e w2 ⟨rfl, b2⟩
    clear c0 c1 c2 d0 d1
    obtain ⟨c0, c1, c2, d0, d1, _⟩ := HK.out _ b2
    go_wp2_with fail
    with_reducible refine (CB.out _ b2).mono ?_
    rintro e w3 ⟨rfl, b3⟩
    clear c0 c1 c2 d0 d1
    obtain ⟨c0, c1, c2, d0, d1, _⟩ := HK.out _ b3
    go_wp2_with fail
    with_reducible refine (CW.out _ b3).mono ?_
    rintro e w4 ⟨rfl, b4⟩
    clear c0 c1 c2 d0 d1
    have HFF := hide (HF.out _ b4)
    obtain ⟨c0, c1, c2, d0, d1, _⟩ := HK.out _ b4
    clear b1 b2 b3 b4
    go_wp2
    go_ret
    exact ⟨rfl, HFF.out⟩
  · rw [decide_eq_false h] at CS
    clear h CA CB
    go_enter Tryd.func4, Tryd.ntmps4
    go_wp2_with fail
    rw [← HH.out]
    with_reducible refine (CS.out _ hb0).mono ?_
    rintro e w1 ⟨rfl, b1⟩
    obtain ⟨c0, c1, c2, d0, d1, _⟩ := HK.out _ b1
    go_wp2_with fail
    with_reducible refine (CW.out _ b1).mono ?_
    rintro e w2 ⟨rfl, b2⟩
    clear c0 c1 c2 d0 d1
    have HFF := hide (HF.out _ b2)
    obtain ⟨c0, c1, c2, d0, d1, _⟩ := HK.out _ b2
    clear b1 b2
    go_wp2
    go_ret
    exact ⟨rfl, HFF.out⟩
end Go.Proofs.YtnnfaejejnfckaaDoor.Smr
