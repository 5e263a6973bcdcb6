
/- The walk of the law TopScales. -/
import Derived.Test.YtnmpoeljjajdiaaDoorTopB
import Derived.Test.YtnmpoeljjajdiaaDoorQuiet
import Derived.Test.YtnmpoeljjajdiaaDoorOpen
namespace Go.Proofs.YtnmpoeljjajdiaaDoor.Smr
open Go.RowKit Aid Civ Leap
theorem ex0_chk : chkS 10 0 (fun _ => 0) (fun _ => 0) 0 1 0 = 0 := by
  have : chkT 10 0 (fun _ => 0) (fun _ => 0) 0 = 0 := by unfold chkT firstE; decide
  unfold chkS
  rw [this, if_pos rfl]
  rfl
theorem ex0_read : readV 0 10000000000 (rdT 10 (fun _ => 0) (fun _ => 0) 0 1 0 10000000000) = 0 ∧ readE 0 10000000000 (rdT 10 (fun _ => 0) (fun _ => 0) 0 1 0 10000000000) = 0 := by decide +kernel
theorem awake02_any (w : World) (l : Laid w) : Calls Tryd.prog 6 #[] w fun e w' => e = .returned (.bool true) ∧ Below w.heap.size w w' := by
  have q := Read_any 10 0 none 0 0 (fun _ => 0) (fun _ => 0) 1 0 10000000000 w l ⟨by omega, fun h => by omega⟩ (by omega)
  rw [ex0_chk, ex0_read.1, ex0_read.2] at q
  have Q := hide q
  clear q l
  go_enter Tryd.func6, Tryd.ntmps6
  go_wp2_with fail
  with_reducible refine Q.out.mono ?_
  rintro e w2 ⟨rfl, h2⟩
  go_wp2
  go_ret
  exact ⟨rfl, h2⟩
set_option maxRecDepth 100000 in
set_option maxHeartbeats 3200000 in
theorem Scales_long (B X : Int) (a : Option Addr) (n cap : Nat) (A O : Nat → Int) (K W t m : Int) (w : World) (hr : Ents w a n A O) (t1 : -9223372036854775808 ≤ t) (t2 : t ≤ 9223372036854775807) (m1 : -9223372036854775808 ≤ m) (m2 : m ≤ 9223372036854775807) (l : Laid w) (h : 100 < n) :
    Calls Tryd.prog 3 #[.agg #[.int .i64 B, .int .i64 X, .slice a n cap], .agg #[.int .i64 K, .int .i64 W], .int .i64 t, .int .i64 m] w fun e w' => e = .returned (.bool true) ∧ Below w.heap.size w w' := by
  obtain ⟨W0, hW0⟩ : ∃ W0, W0 = (w.alloc (.cells #[.int .i64 B, .int .i64 X, .slice a n cap] 24)).alloc (.cells #[.int .i64 K, .int .i64 W] 26) := ⟨_, rfl⟩
  have HB0 : Hid (Below (w.heap.size + 2) ((w.alloc (.cells #[.int .i64 B, .int .i64 X, .slice a n cap] 24)).alloc (.cells #[.int .i64 K, .int .i64 W] 26)) W0) := hide (by rw [hW0]; exact Below.refl _ _)
  have HH : Hid (W0 = (w.alloc (.cells #[.int .i64 B, .int .i64 X, .slice a n cap] 24)).alloc (.cells #[.int .i64 K, .int .i64 W] 26)) := hide hW0
  have HR := hide (fun V (g : Below W0.heap.size W0 V) => hr.below (boxB2 (low2 HB0.out g)))
  have HK := hide (fun (V : World) (g : Below W0.heap.size W0 V) => by
    obtain ⟨c0, c1, c2, d0, d1, _⟩ := cells5 (low2 HB0.out g)
    exact And.intro c0 (And.intro c1 (And.intro c2 (And.intro d0 (And.intro d1 g)))))
  have HF := hide (fun V (g : Below W0.heap.size W0 V) => boxB2 (low2 HB0.out g))
  have hb0 := Below.refl W0.heap.size W0
  have LL := hide (fun V (g : Below W0.heap.size W0 V) => l.step (HF.out V g))
  have CW := hide (based (Nat.le_refl _) fun V (g : Below W0.heap.size W0 V) => awake02_any V (LL.out V g))
  clear hW0 hr l
  have hn : (100 : Int) < (n : Int) := by omega
  go_enter Tryd.func3, Tryd.ntmps3
  go_wp2_with fail
  rw [← HH.out]
  with_reducible refine (CW.out _ hb0).mono ?_
  rintro e w1 ⟨rfl, b1⟩
  have HFF := hide (HF.out _ b1)
  obtain ⟨c0, c1, c2, d0, d1, _⟩ := HK.out _ b1
  clear b1
  go_wp2
  go_ret
  exact ⟨rfl, HFF.out⟩
set_option maxRecDepth 100000 in
set_option maxHeartbeats 3200000 in
theorem Scales_bad (B X : Int) (a : Option Addr) (n cap : Nat) (A O : Nat → Int) (K W t m : Int) (w : World) (hr : Ents w a n A O) (t1 : -9223372036854775808 ≤ t) (t2 : t ≤ 9223372036854775807) (m1 : -9223372036854775808 ≤ m) (m2 : m ≤ 9223372036854775807) (l : Laid w) (h : ¬ 100 < n) (hc : (chkS B X A O n K W != 0) = true) :
    Calls Tryd.prog 3 #[.agg #[.int .i64 B, .int .i64 X, .slice a n cap], .agg #[.int .i64 K, .int .i64 W], .int .i64 t, .int .i64 m] w fun e w' => e = .returned (.bool true) ∧ Below w.heap.size w w' := by
  obtain ⟨W0, hW0⟩ : ∃ W0, W0 = (w.alloc (.cells #[.int .i64 B, .int .i64 X, .slice a n cap] 24)).alloc (.cells #[.int .i64 K, .int .i64 W] 26) := ⟨_, rfl⟩
  have HB0 : Hid (Below (w.heap.size + 2) ((w.alloc (.cells #[.int .i64 B, .int .i64 X, .slice a n cap] 24)).alloc (.cells #[.int .i64 K, .int .i64 W] 26)) W0) := hide (by rw [hW0]; exact Below.refl _ _)
  have HH : Hid (W0 = (w.alloc (.cells #[.int .i64 B, .int .i64 X, .slice a n cap] 24)).alloc (.cells #[.int .i64 K, .int .i64 W] 26)) := hide hW0
  have HR := hide (fun V (g : Below W0.heap.size W0 V) => hr.below (boxB2 (low2 HB0.out g)))
  have HK := hide (fun (V : World) (g : Below W0.heap.size W0 V) => by
    obtain ⟨c0, c1, c2, d0, d1, _⟩ := cells5 (low2 HB0.out g)
    exact And.intro c0 (And.intro c1 (And.intro c2 (And.intro d0 (And.intro d1 g)))))
  have HF := hide (fun V (g : Below W0.heap.size W0 V) => boxB2 (low2 HB0.out g))
  have hb0 := Below.refl W0.heap.size W0
  have LL := hide (fun V (g : Below W0.heap.size W0 V) => l.step (HF.out V g))
  have CW := hide (based (Nat.le_refl _) fun V (g : Below W0.heap.size W0 V) => awake02_any V (LL.out V g))
  have CC := hide (based (Nat.le_refl _) fun V (g : Below W0.heap.size W0 V) => Check_any B X a n cap A O K W V (LL.out V g) (HR.out V g))
  clear hW0 hr l
  have hn : ¬ (100 : Int) < (n : Int) := by omega
  generalize chkS B X A O n K W = c at *
  go_enter Tryd.func3, Tryd.ntmps3
  go_wp2_with fail
  rw [← HH.out]
  with_reducible refine (CC.out _ hb0).mono ?_
  rintro e w1 ⟨rfl, b1⟩
  obtain ⟨c0, c1, c2, d0, d1, _⟩ := HK.out _ b1
  go_wp2_with fail
  with_reducible refine (CW.out _ b1).mono ?_
  rintro e w2 ⟨rfl, b2⟩
  clear c0 c1 c2 d0 d1
  have HFF := hide (HF.out _ b2)
  obtain ⟨c0, c1, c2, d0, d1, _⟩ := HK.out _ b2
  clear b1 b2
  go_wp2
  go_ret
  exact ⟨rfl, HFF.out⟩
set_option maxRecDepth 100000 in
set_option maxHeartbeats 3200000 in
theorem Scales_lo (B X : Int) (a : Option Addr) (n cap : Nat) (A O : Nat → Int) (K W t m : Int) (w : World) (hr : Ents w a n A O) (t1 : -9223372036854775808 ≤ t) (t2 : t ≤ 9223372036854775807) (m1 : -9223372036854775808 ≤ m) (m2 : m ≤ 9223372036854775807) (l : Laid w) (h : ¬ 100 < n) (hc : chkS B X A O n K W = 0) (ht : t < -7000000000) :
    Calls Tryd.prog 3 #[.agg #[.int .i64 B, .int .i64 X, .slice a n cap], .agg #[.int .i64 K, .int .i64 W], .int .i64 t, .int .i64 m] w fun e w' => e = .returned (.bool true) ∧ Below w.heap.size w w' := by
  obtain ⟨W0, hW0⟩ : ∃ W0, W0 = (w.alloc (.cells #[.int .i64 B, .int .i64 X, .slice a n cap] 24)).alloc (.cells #[.int .i64 K, .int .i64 W] 26) := ⟨_, rfl⟩
  have HB0 : Hid (Below (w.heap.size + 2) ((w.alloc (.cells #[.int .i64 B, .int .i64 X, .slice a n cap] 24)).alloc (.cells #[.int .i64 K, .int .i64 W] 26)) W0) := hide (by rw [hW0]; exact Below.refl _ _)
  have HH : Hid (W0 = (w.alloc (.cells #[.int .i64 B, .int .i64 X, .slice a n cap] 24)).alloc (.cells #[.int .i64 K, .int .i64 W] 26)) := hide hW0
  have HR := hide (fun V (g : Below W0.heap.size W0 V) => hr.below (boxB2 (low2 HB0.out g)))
  have HK := hide (fun (V : World) (g : Below W0.heap.size W0 V) => by
    obtain ⟨c0, c1, c2, d0, d1, _⟩ := cells5 (low2 HB0.out g)
    exact And.intro c0 (And.intro c1 (And.intro c2 (And.intro d0 (And.intro d1 g)))))
  have HF := hide (fun V (g : Below W0.heap.size W0 V) => boxB2 (low2 HB0.out g))
  have hb0 := Below.refl W0.heap.size W0
  have LL := hide (fun V (g : Below W0.heap.size W0 V) => l.step (HF.out V g))
  have CW := hide (based (Nat.le_refl _) fun V (g : Below W0.heap.size W0 V) => awake02_any V (LL.out V g))
  have CC := hide (based (Nat.le_refl _) fun V (g : Below W0.heap.size W0 V) => Check_any B X a n cap A O K W V (LL.out V g) (HR.out V g))
  clear hW0 hr l
  have hn : ¬ (100 : Int) < (n : Int) := by omega
  rw [hc] at CC
  go_enter Tryd.func3, Tryd.ntmps3
  go_wp2_with fail
  rw [← HH.out]
  with_reducible refine (CC.out _ hb0).mono ?_
  rintro e w1 ⟨rfl, b1⟩
  obtain ⟨c0, c1, c2, d0, d1, _⟩ := HK.out _ b1
  go_wp2_with fail
  with_reducible refine (CW.out _ b1).mono ?_
  rintro e w2 ⟨rfl, b2⟩
  clear c0 c1 c2 d0 d1
  have HFF := hide (HF.out _ b2)
  obtain ⟨c0, c1, c2, d0, d1, _⟩ := HK.out _ b2
  clear b1 b2
  go_wp2
  go_ret
  exact ⟨rfl, HFF.out⟩
set_option maxRecDepth 100000 in
set_option maxHeartbeats 3200000 in
theorem Scales_hi (B X : Int) (a : Option Addr) (n cap : Nat) (A O : Nat → Int) (K W t m : Int) (w : World) (hr : Ents w a n A O) (t1 : -9223372036854775808 ≤ t) (t2 : t ≤ 9223372036854775807) (m1 : -9223372036854775808 ≤ m) (m2 : m ≤ 9223372036854775807) (l : Laid w) (h : ¬ 100 < n) (hc : chkS B X A O n K W = 0) (ht : 7000000000 < t) :
    Calls Tryd.prog 3 #[.agg #[.int .i64 B, .int .i64 X, .slice a n cap], .agg #[.int .i64 K, .int .i64 W], .int .i64 t, .int .i64 m] w fun e w' => e = .returned (.bool true) ∧ Below w.heap.size w w' := by
  obtain ⟨W0, hW0⟩ : ∃ W0, W0 = (w.alloc (.cells #[.int .i64 B, .int .i64 X, .slice a n cap] 24)).alloc (.cells #[.int .i64 K, .int .i64 W] 26) := ⟨_, rfl⟩
  have HB0 : Hid (Below (w.heap.size + 2) ((w.alloc (.cells #[.int .i64 B, .int .i64 X, .slice a n cap] 24)).alloc (.cells #[.int .i64 K, .int .i64 W] 26)) W0) := hide (by rw [hW0]; exact Below.refl _ _)
  have HH : Hid (W0 = (w.alloc (.cells #[.int .i64 B, .int .i64 X, .slice a n cap] 24)).alloc (.cells #[.int .i64 K, .int .i64 W] 26)) := hide hW0
  have HR := hide (fun V (g : Below W0.heap.size W0 V) => hr.below (boxB2 (low2 HB0.out g)))
  have HK := hide (fun (V : World) (g : Below W0.heap.size W0 V) => by
    obtain ⟨c0, c1, c2, d0, d1, _⟩ := cells5 (low2 HB0.out g)
    exact And.intro c0 (And.intro c1 (And.intro c2 (And.intro d0 (And.intro d1 g)))))
  have HF := hide (fun V (g : Below W0.heap.size W0 V) => boxB2 (low2 HB0.out g))
  have hb0 := Below.refl W0.heap.size W0
  have LL := hide (fun V (g : Below W0.heap.size W0 V) => l.step (HF.out V g))
  have CW := hide (based (Nat.le_refl _) fun V (g : Below W0.heap.size W0 V) => awake02_any V (LL.out V g))
  have CC := hide (based (Nat.le_refl _) fun V (g : Below W0.heap.size W0 V) => Check_any B X a n cap A O K W V (LL.out V g) (HR.out V g))
  clear hW0 hr l
  have hn : ¬ (100 : Int) < (n : Int) := by omega
  rw [hc] at CC
  go_enter Tryd.func3, Tryd.ntmps3
  go_wp2_with fail
  rw [← HH.out]
  with_reducible refine (CC.out _ hb0).mono ?_
  rintro e w1 ⟨rfl, b1⟩
  obtain ⟨c0, c1, c2, d0, d1, _⟩ := HK.out _ b1
  go_wp2_with fail
  with_reducible refine (CW.out _ b1).mono ?_
  rintro e w2 ⟨rfl, b2⟩
  clear c0 c1 c2 d0 d1
  have HFF := hide (HF.out _ b2)
  obtain ⟨c0, c1, c2, d0, d1, _⟩ := HK.out _ b2
  clear b1 b2
  go_wp2
  go_ret
  exact ⟨rfl, HFF.out⟩
set_option maxRecDepth 100000 in
set_option maxHeartbeats 3200000 in
theorem Scales_neg (B X : Int) (a : Option Addr) (n cap : Nat) (A O : Nat → Int) (K W t m : Int) (w : World) (hr : Ents w a n A O) (t1 : -9223372036854775808 ≤ t) (t2 : t ≤ 9223372036854775807) (m1 : -9223372036854775808 ≤ m) (m2 : m ≤ 9223372036854775807) (l : Laid w) (h : ¬ 100 < n) (hc : chkS B X A O n K W = 0) (k1 : -7000000000 ≤ t) (k2 : t ≤ 7000000000) (ht : m < 0) :
    Calls Tryd.prog 3 #[.agg #[.int .i64 B, .int .i64 X, .slice a n cap], .agg #[.int .i64 K, .int .i64 W], .int .i64 t, .int .i64 m] w fun e w' => e = .returned (.bool true) ∧ Below w.heap.size w w' := by
  obtain ⟨W0, hW0⟩ : ∃ W0, W0 = (w.alloc (.cells #[.int .i64 B, .int .i64 X, .slice a n cap] 24)).alloc (.cells #[.int .i64 K, .int .i64 W] 26) := ⟨_, rfl⟩
  have HB0 : Hid (Below (w.heap.size + 2) ((w.alloc (.cells #[.int .i64 B, .int .i64 X, .slice a n cap] 24)).alloc (.cells #[.int .i64 K, .int .i64 W] 26)) W0) := hide (by rw [hW0]; exact Below.refl _ _)
  have HH : Hid (W0 = (w.alloc (.cells #[.int .i64 B, .int .i64 X, .slice a n cap] 24)).alloc (.cells #[.int .i64 K, .int .i64 W] 26)) := hide hW0
  have HR := hide (fun V (g : Below W0.heap.size W0 V) => hr.below (boxB2 (low2 HB0.out g)))
  have HK := hide (fun (V : World) (g : Below W0.heap.size W0 V) => by
    obtain ⟨c0, c1, c2, d0, d1, _⟩ := cells5 (low2 HB0.out g)
    exact And.intro c0 (And.intro c1 (And.intro c2 (And.intro d0 (And.intro d1 g)))))
  have HF := hide (fun V (g : Below W0.heap.size W0 V) => boxB2 (low2 HB0.out g))
  have hb0 := Below.refl W0.heap.size W0
  have LL := hide (fun V (g : Below W0.heap.size W0 V) => l.step (HF.out V g))
  have CW := hide (based (Nat.le_refl _) fun V (g : Below W0.heap.size W0 V) => awake02_any V (LL.out V g))
  have CC := hide (based (Nat.le_refl _) fun V (g : Below W0.heap.size W0 V) => Check_any B X a n cap A O K W V (LL.out V g) (HR.out V g))
  clear hW0 hr l
  have hn : ¬ (100 : Int) < (n : Int) := by omega
  rw [hc] at CC
  go_enter Tryd.func3, Tryd.ntmps3
  go_wp2_with fail
  rw [← HH.out]
  with_reducible refine (CC.out _ hb0).mono ?_
  rintro e w1 ⟨rfl, b1⟩
  obtain ⟨c0, c1, c2, d0, d1, _⟩ := HK.out _ b1
  go_wp2_with fail
  with_reducible refine (CW.out _ b1).mono ?_
  rintro e w2 ⟨rfl, b2⟩
  clear c0 c1 c2 d0 d1
  have HFF := hide (HF.out _ b2)
  obtain ⟨c0, c1, c2, d0, d1, _⟩ := HK.out _ b2
  clear b1 b2
  go_wp2
  go_ret
  exact ⟨rfl, HFF.out⟩
set_option maxRecDepth 100000 in
set_option maxHeartbeats 3200000 in
theorem Scales_far (B X : Int) (a : Option Addr) (n cap : Nat) (A O : Nat → Int) (K W t m : Int) (w : World) (hr : Ents w a n A O) (t1 : -9223372036854775808 ≤ t) (t2 : t ≤ 9223372036854775807) (m1 : -9223372036854775808 ≤ m) (m2 : m ≤ 9223372036854775807) (l : Laid w) (h : ¬ 100 < n) (hc : chkS B X A O n K W = 0) (k1 : -7000000000 ≤ t) (k2 : t ≤ 7000000000) (k3 : 0 ≤ m) (ht : 1000000000000000 < m) :
    Calls Tryd.prog 3 #[.agg #[.int .i64 B, .int .i64 X, .slice a n cap], .agg #[.int .i64 K, .int .i64 W], .int .i64 t, .int .i64 m] w fun e w' => e = .returned (.bool true) ∧ Below w.heap.size w w' := by
  obtain ⟨W0, hW0⟩ : ∃ W0, W0 = (w.alloc (.cells #[.int .i64 B, .int .i64 X, .slice a n cap] 24)).alloc (.cells #[.int .i64 K, .int .i64 W] 26) := ⟨_, rfl⟩
  have HB0 : Hid (Below (w.heap.size + 2) ((w.alloc (.cells #[.int .i64 B, .int .i64 X, .slice a n cap] 24)).alloc (.cells #[.int .i64 K, .int .i64 W] 26)) W0) := hide (by rw [hW0]; exact Below.refl _ _)
  have HH : Hid (W0 = (w.alloc (.cells #[.int .i64 B, .int .i64 X, .slice a n cap] 24)).alloc (.cells #[.int .i64 K, .int .i64 W] 26)) := hide hW0
  have HR := hide (fun V (g : Below W0.heap.size W0 V) => hr.below (boxB2 (low2 HB0.out g)))
  have HK := hide (fun (V : World) (g : Below W0.heap.size W0 V) => by
    obtain ⟨c0, c1, c2, d0, d1, _⟩ := cells5 (low2 HB0.out g)
    exact And.intro c0 (And.intro c1 (And.intro c2 (And.intro d0 (And.intro d1 g)))))
  have HF := hide (fun V (g : Below W0.heap.size W0 V) => boxB2 (low2 HB0.out g))
  have hb0 := Below.refl W0.heap.size W0
  have LL := hide (fun V (g : Below W0.heap.size W0 V) => l.step (HF.out V g))
  have CW := hide (based (Nat.le_refl _) fun V (g : Below W0.heap.size W0 V) => awake02_any V (LL.out V g))
  have CC := hide (based (Nat.le_refl _) fun V (g : Below W0.heap.size W0 V) => Check_any B X a n cap A O K W V (LL.out V g) (HR.out V g))
  clear hW0 hr l
  have hn : ¬ (100 : Int) < (n : Int) := by omega
  rw [hc] at CC
  go_enter Tryd.func3, Tryd.ntmps3
  go_wp2_with fail
  rw [← HH.out]
  with_reducible refine (CC.out _ hb0).mono ?_
  rintro e w1 ⟨rfl, b1⟩
  obtain ⟨c0, c1, c2, d0, d1, _⟩ := HK.out _ b1
  go_wp2_with fail
  with_reducible refine (CW.out _ b1).mono ?_
  rintro e w2 ⟨rfl, b2⟩
  clear c0 c1 c2 d0 d1
  have HFF := hide (HF.out _ b2)
  obtain ⟨c0, c1, c2, d0, d1, _⟩ := HK.out _ b2
  clear b1 b2
  go_wp2
  go_ret
  exact ⟨rfl, HFF.out⟩
set_option maxRecDepth 100000 in
set_option maxHeartbeats 3200000 in
theorem Scales_in (B X : Int) (a : Option Addr) (n cap : Nat) (A O : Nat → Int) (K W t m : Int) (w : World) (hr : Ents w a n A O) (t1 : -9223372036854775808 ≤ t) (t2 : t ≤ 9223372036854775807) (m1 : -9223372036854775808 ≤ m) (m2 : m ≤ 9223372036854775807) (l : Laid w) (h : ¬ 100 < n) (hc : chkS B X A O n K W = 0) (k1 : -7000000000 ≤ t) (k2 : t ≤ 7000000000) (k3 : 0 ≤ m) (k4 : m ≤ 1000000000000000) :
    Calls Tryd.prog 3 #[.agg #[.int .i64 B, .int .i64 X, .slice a n cap], .agg #[.int .i64 K, .int .i64 W], .int .i64 t, .int .i64 m] w fun e w' => e = .returned (.bool true) ∧ Below w.heap.size w w' := by
  obtain ⟨W0, hW0⟩ : ∃ W0, W0 = (w.alloc (.cells #[.int .i64 B, .int .i64 X, .slice a n cap] 24)).alloc (.cells #[.int .i64 K, .int .i64 W] 26) := ⟨_, rfl⟩
  have HB0 : Hid (Below (w.heap.size + 2) ((w.alloc (.cells #[.int .i64 B, .int .i64 X, .slice a n cap] 24)).alloc (.cells #[.int .i64 K, .int .i64 W] 26)) W0) := hide (by rw [hW0]; exact Below.refl _ _)
  have HH : Hid (W0 = (w.alloc (.cells #[.int .i64 B, .int .i64 X, .slice a n cap] 24)).alloc (.cells #[.int .i64 K, .int .i64 W] 26)) := hide hW0
  have HR := hide (fun V (g : Below W0.heap.size W0 V) => hr.below (boxB2 (low2 HB0.out g)))
  have HK := hide (fun (V : World) (g : Below W0.heap.size W0 V) => by
    obtain ⟨c0, c1, c2, d0, d1, _⟩ := cells5 (low2 HB0.out g)
    exact And.intro c0 (And.intro c1 (And.intro c2 (And.intro d0 (And.intro d1 g)))))
  have HF := hide (fun V (g : Below W0.heap.size W0 V) => boxB2 (low2 HB0.out g))
  have hb0 := Below.refl W0.heap.size W0
  have LL := hide (fun V (g : Below W0.heap.size W0 V) => l.step (HF.out V g))
  have CC := hide (based (Nat.le_refl _) fun V (g : Below W0.heap.size W0 V) => Check_any B X a n cap A O K W V (LL.out V g) (HR.out V g))
  obtain ⟨T, hp⟩ := chkS_ok hc
  have hcT := chkT_of hc
  obtain ⟨ex, hex⟩ : ∃ ex, exB B A O t n = ex := ⟨_, rfl⟩
  obtain ⟨u, hu⟩ : ∃ u, u = t - offP B O (plc (gS A O) t n) - (if ex = true then 1 else 0) := ⟨_, rfl⟩
  obtain ⟨hub, hback, x, x0, x1, x2, x3⟩ := back_of T ⟨k1, k2⟩ hex hu
  have CU := hide (based (Nat.le_refl _) fun V (g : Below W0.heap.size W0 V) => UTC_any B X a n cap A O t u ex V (LL.out V g) (HR.out V g) hcT ⟨k1, k2⟩ hex hu)
  have ct := fun V (g : Below W0.heap.size W0 V) => TAI_any B X a n cap A O u x ex V (LL.out V g) (HR.out V g) hcT hub x0 x1 x2 x3
  rw [hback] at ct
  have CT := hide (based (Nat.le_refl _) ct)
  have r1 := read_in hc (t := t * 1000000000) (by omega)
  have r2 := read_in hc (t := t * 1000000000 + m) (by omega)
  have ca := fun V (g : Below W0.heap.size W0 V) => Read_any B X a n cap A O K W (t * 1000000000) V (LL.out V g) (HR.out V g) (by omega)
  have cb := fun V (g : Below W0.heap.size W0 V) => Read_any B X a n cap A O K W (t * 1000000000 + m) V (LL.out V g) (HR.out V g) (by omega)
  rw [r1.1, r1.2] at ca
  rw [r2.1, r2.2] at cb
  have CA := hide (based (Nat.le_refl _) ca)
  have CB := hide (based (Nat.le_refl _) cb)
  have cd := fun V (g : Below W0.heap.size W0 V) => Active_any B X a n cap A O K W (t * 1000000000) V (LL.out V g) (HR.out V g)
  have ha : actB (chkS B X A O n K W) (t * 1000000000) (inT A O n K W (t * 1000000000)) = inT A O n K W (t * 1000000000) := by unfold actB; rw [hc, instB_iff.2 (by omega)]; simp
  rw [ha] at cd
  have CD := hide (based (Nat.le_refl _) cd)
  have HQ : Hid (inT A O n K W (t * 1000000000) = false → ex = false → rdT B A O n K W (t * 1000000000) = u * 1000000000) := hide (fun q1 q2 => by rw [label_of T hp q1, hu, q2]; simp)
  have HM : Hid (K ≠ 1 → rdT B A O n K W (t * 1000000000) ≤ rdT B A O n K W (t * 1000000000 + m)) := hide (fun q => rise_of hc q k3)
  rw [hc] at CC
  obtain ⟨u1, u2⟩ := hub
  have hn : ¬ (100 : Int) < (n : Int) := by omega
  clear hW0 hr l ca cb cd ct r1 r2 ha hc hcT T hp hex hu hback x0 x1 x2 x3 h
  generalize rdT B A O n K W (t * 1000000000) = y1 at *
  generalize rdT B A O n K W (t * 1000000000 + m) = y2 at *
  generalize inT A O n K W (t * 1000000000) = g at *
  by_cases hK : K = 1
  · subst hK
    go_enter Tryd.func3, Tryd.ntmps3
    go_wp2_with fail
    rw [← HH.out]
    with_reducible refine (CC.out _ hb0).mono ?_
    rintro e w1 ⟨rfl, b1⟩
    obtain ⟨c0, c1, c2, d0, d1, _⟩ := HK.out _ b1
    go_wp2_with fail
    with_reducible refine (CU.out _ b1).mono ?_
    rintro e w2 ⟨rfl, b2⟩
    clear c0 c1 c2 d0 d1
    obtain ⟨c0, c1, c2, d0, d1, _⟩ := HK.out _ b2
    go_wp2_with fail
    with_reducible refine (CT.out _ b2).mono ?_
    rintro e w3 ⟨rfl, b3⟩
    clear c0 c1 c2 d0 d1
    obtain ⟨c0, c1, c2, d0, d1, _⟩ := HK.out _ b3
    go_wp2_with fail
    with_reducible refine (CA.out _ b3).mono ?_
    rintro e w4 ⟨rfl, b4⟩
    clear c0 c1 c2 d0 d1
    obtain ⟨c0, c1, c2, d0, d1, _⟩ := HK.out _ b4
    go_wp2_with fail
    with_reducible refine (CB.out _ b4).mono ?_
    rintro e w5 ⟨rfl, b5⟩
    clear c0 c1 c2 d0 d1
    have HFF := hide (HF.out _ b5)
    obtain ⟨c0, c1, c2, d0, d1, _⟩ := HK.out _ b5
    clear b1 b2 b3 b4 b5
    go_wp2
    go_ret
    exact ⟨rfl, HFF.out⟩
  · have hk : (K == 1) = false := by simpa using hK
    have hk2 : (K != 1) = true := by simpa using hK
    have hm := HM.out hK
    clear hK
    cases g with
    | true =>
      go_enter Tryd.func3, Tryd.ntmps3
      go_wp2_with fail
      rw [← HH.out]
      with_reducible refine (CC.out _ hb0).mono ?_
      rintro e w1 ⟨rfl, b1⟩
      obtain ⟨c0, c1, c2, d0, d1, _⟩ := HK.out _ b1
      go_wp2_with fail
      with_reducible refine (CU.out _ b1).mono ?_
      rintro e w2 ⟨rfl, b2⟩
      clear c0 c1 c2 d0 d1
      obtain ⟨c0, c1, c2, d0, d1, _⟩ := HK.out _ b2
      go_wp2_with fail
      with_reducible refine (CT.out _ b2).mono ?_
      rintro e w3 ⟨rfl, b3⟩
      clear c0 c1 c2 d0 d1
      obtain ⟨c0, c1, c2, d0, d1, _⟩ := HK.out _ b3
      go_wp2_with fail
      with_reducible refine (CA.out _ b3).mono ?_
      rintro e w4 ⟨rfl, b4⟩
      clear c0 c1 c2 d0 d1
      obtain ⟨c0, c1, c2, d0, d1, _⟩ := HK.out _ b4
      go_wp2_with fail
      with_reducible refine (CB.out _ b4).mono ?_
      rintro e w5 ⟨rfl, b5⟩
      clear c0 c1 c2 d0 d1
      obtain ⟨c0, c1, c2, d0, d1, _⟩ := HK.out _ b5
      go_wp2_with fail
      with_reducible refine (CD.out _ b5).mono ?_
      rintro e w6 ⟨rfl, b6⟩
      clear c0 c1 c2 d0 d1
      have HFF := hide (HF.out _ b6)
      obtain ⟨c0, c1, c2, d0, d1, _⟩ := HK.out _ b6
      clear b1 b2 b3 b4 b5 b6
      go_wp2
      go_ret
      exact ⟨rfl, HFF.out⟩
    | false =>
      cases ex with
      | true =>
        go_enter Tryd.func3, Tryd.ntmps3
        go_wp2_with fail
        rw [← HH.out]
        with_reducible refine (CC.out _ hb0).mono ?_
        rintro e w1 ⟨rfl, b1⟩
        obtain ⟨c0, c1, c2, d0, d1, _⟩ := HK.out _ b1
        go_wp2_with fail
        with_reducible refine (CU.out _ b1).mono ?_
        rintro e w2 ⟨rfl, b2⟩
        clear c0 c1 c2 d0 d1
        obtain ⟨c0, c1, c2, d0, d1, _⟩ := HK.out _ b2
        go_wp2_with fail
        with_reducible refine (CT.out _ b2).mono ?_
        rintro e w3 ⟨rfl, b3⟩
        clear c0 c1 c2 d0 d1
        obtain ⟨c0, c1, c2, d0, d1, _⟩ := HK.out _ b3
        go_wp2_with fail
        with_reducible refine (CA.out _ b3).mono ?_
        rintro e w4 ⟨rfl, b4⟩
        clear c0 c1 c2 d0 d1
        obtain ⟨c0, c1, c2, d0, d1, _⟩ := HK.out _ b4
        go_wp2_with fail
        with_reducible refine (CB.out _ b4).mono ?_
        rintro e w5 ⟨rfl, b5⟩
        clear c0 c1 c2 d0 d1
        obtain ⟨c0, c1, c2, d0, d1, _⟩ := HK.out _ b5
        go_wp2_with fail
        with_reducible refine (CD.out _ b5).mono ?_
        rintro e w6 ⟨rfl, b6⟩
        clear c0 c1 c2 d0 d1
        have HFF := hide (HF.out _ b6)
        obtain ⟨c0, c1, c2, d0, d1, _⟩ := HK.out _ b6
        clear b1 b2 b3 b4 b5 b6
        go_wp2
        go_ret
        exact ⟨rfl, HFF.out⟩
      | false =>
        have E := HQ.out rfl rfl
        subst E
        go_enter Tryd.func3, Tryd.ntmps3
        go_wp2_with fail
        rw [← HH.out]
        with_reducible refine (CC.out _ hb0).mono ?_
        rintro e w1 ⟨rfl, b1⟩
        obtain ⟨c0, c1, c2, d0, d1, _⟩ := HK.out _ b1
        go_wp2_with fail
        with_reducible refine (CU.out _ b1).mono ?_
        rintro e w2 ⟨rfl, b2⟩
        clear c0 c1 c2 d0 d1
        obtain ⟨c0, c1, c2, d0, d1, _⟩ := HK.out _ b2
        go_wp2_with fail
        with_reducible refine (CT.out _ b2).mono ?_
        rintro e w3 ⟨rfl, b3⟩
        clear c0 c1 c2 d0 d1
        obtain ⟨c0, c1, c2, d0, d1, _⟩ := HK.out _ b3
        go_wp2_with fail
        with_reducible refine (CA.out _ b3).mono ?_
        rintro e w4 ⟨rfl, b4⟩
        clear c0 c1 c2 d0 d1
        obtain ⟨c0, c1, c2, d0, d1, _⟩ := HK.out _ b4
        go_wp2_with fail
        with_reducible refine (CB.out _ b4).mono ?_
        rintro e w5 ⟨rfl, b5⟩
        clear c0 c1 c2 d0 d1
        obtain ⟨c0, c1, c2, d0, d1, _⟩ := HK.out _ b5
        go_wp2_with fail
        with_reducible refine (CD.out _ b5).mono ?_
        rintro e w6 ⟨rfl, b6⟩
        clear c0 c1 c2 d0 d1
        have HFF := hide (HF.out _ b6)
        obtain ⟨c0, c1, c2, d0, d1, _⟩ := HK.out _ b6
        clear b1 b2 b3 b4 b5 b6
        go_wp2
        go_ret
        exact ⟨rfl, HFF.out⟩
theorem TopScales_walk (B X : Int) (a : Option Addr) (n cap : Nat) (A O : Nat → Int) (K W t m : Int) (w : World) (hr : Ents w a n A O) (t1 : -9223372036854775808 ≤ t) (t2 : t ≤ 9223372036854775807) (m1 : -9223372036854775808 ≤ m) (m2 : m ≤ 9223372036854775807) (l : Laid w) :
    Calls Tryd.prog 3 #[.agg #[.int .i64 B, .int .i64 X, .slice a n cap], .agg #[.int .i64 K, .int .i64 W], .int .i64 t, .int .i64 m] w fun e w' => e = .returned (.bool true) ∧ Below w.heap.size w w' := by
  by_cases h : 100 < n
  · exact Scales_long B X a n cap A O K W t m w hr t1 t2 m1 m2 l h
  · by_cases hc : chkS B X A O n K W = 0
    · by_cases h1 : t < -7000000000
      · exact Scales_lo B X a n cap A O K W t m w hr t1 t2 m1 m2 l h hc h1
      · by_cases h2 : 7000000000 < t
        · exact Scales_hi B X a n cap A O K W t m w hr t1 t2 m1 m2 l h hc h2
        · by_cases h3 : m < 0
          · exact Scales_neg B X a n cap A O K W t m w hr t1 t2 m1 m2 l h hc (by omega) (by omega) h3
          · by_cases h4 : 1000000000000000 < m
            · exact Scales_far B X a n cap A O K W t m w hr t1 t2 m1 m2 l h hc (by omega) (by omega) (by omega) h4
            · exact Scales_in B X a n cap A O K W t m w hr t1 t2 m1 m2 l h hc (by omega) (by omega) (by omega) (by omega)
    · exact Scales_bad B X a n cap A O K W t m w hr t1 t2 m1 m2 l h (by simpa using hc)
theorem open_smr {H : Type} {enc : TypeId × Value → H} {w : World} {base : Nat} {spare : Nat → Bool} {held : Bool} {r : Reach} {b0 : Nat} {v : Value} {d : DataW H} {p : List MemPlace}
    (hv : Value.okWide Tryd.prog w r b0 26 v) (h : DataW.Trod enc Tryd.prog w base spare held 26 v d p) :
    ∃ (K W : Int), v = .agg #[.int .i64 K, .int .i64 W] := by
  obtain ⟨l, e, hl, hc⟩ := Opn.agg_cells Tryd.underlying26 (by kernel_rfl) (by kernel_rfl) (by
    intro j f hj
    match j, hj with
    | 0, hj | 1, hj => cases hj; exact Tryd.underlying3) hv h
  match l, hl with
  | [x0, x1], _ =>
    obtain ⟨n0, e0, _⟩ := hc 0 (by decide)
    obtain ⟨n1, e1, _⟩ := hc 1 (by decide)
    simp at e0 e1
    subst e0 e1
    exact ⟨n0, n1, e⟩
end Go.Proofs.YtnmpoeljjajdiaaDoor.Smr
