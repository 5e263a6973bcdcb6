/- The walk of the law SmearRises. -/
import Derived.Test.YtnnfaejejnfckaaDoorSmrJ
import Derived.Test.YtnnfaejejnfckaaDoorQuiet
namespace Go.Proofs.YtnnfaejejnfckaaDoor.Smr
open Go.RowKit Aid Civ Leap
set_option maxRecDepth 100000 in
set_option maxHeartbeats 3200000 in
theorem Rises_long (B X : Int) (a : Option Addr) (n cap : Nat) (A O : Nat → Int) (K W t : Int) (d : Nat) (w : World) (hr : Ents w a n A O) (t1 : -9223372036854775808 ≤ t) (t2 : t ≤ 9223372036854775807) (d1 : d ≤ 4294967295) (l : Laid w) (h : ¬ n ≤ 80) :
    Calls Tryd.prog 7 #[.agg #[.int .i64 B, .int .i64 X, .slice a n cap], .agg #[.int .i64 K, .int .i64 W], .int .i64 t, .int .u32 d] w fun e w' => e = .returned (.bool true) ∧ Below w.heap.size w w' := by
  obtain ⟨W0, hW0⟩ : ∃ W0, W0 = (w.alloc (.cells #[.int .i64 B, .int .i64 X, .slice a n cap] 24)).alloc (.cells #[.int .i64 K, .int .i64 W] 26) := ⟨_, rfl⟩
  have HB0 : Hid (Below (w.heap.size + 2) ((w.alloc (.cells #[.int .i64 B, .int .i64 X, .slice a n cap] 24)).alloc (.cells #[.int .i64 K, .int .i64 W] 26)) W0) := hide (by rw [hW0]; exact Below.refl _ _)
  have HH : Hid (W0 = (w.alloc (.cells #[.int .i64 B, .int .i64 X, .slice a n cap] 24)).alloc (.cells #[.int .i64 K, .int .i64 W] 26)) := hide hW0
  have HR := hide (fun V (g : Below W0.heap.size W0 V) => hr.below (boxB2 (low2 HB0.out g)))
  have HK := hide (fun (V : World) (g : Below W0.heap.size W0 V) => by
    obtain ⟨c0, c1, c2, d0, d1, _⟩ := cells5 (low2 HB0.out g)
    exact And.intro c0 (And.intro c1 (And.intro c2 (And.intro d0 (And.intro d1 g)))))
  have HF := hide (fun V (g : Below W0.heap.size W0 V) => boxB2 (low2 HB0.out g))
  have hb0 := Below.refl W0.heap.size W0
  have LL := hide (fun V (g : Below W0.heap.size W0 V) => l.step (HF.out V g))
  have CS := hide (based (Nat.le_refl _) fun V (_ : Below W0.heap.size W0 V) => small_any B X a n cap V _ rfl)
  have CW := hide (based (Nat.le_refl _) fun V (g : Below W0.heap.size W0 V) => awake_any V (LL.out V g))
  rw [decide_eq_false h] at CS
  clear hW0 hr l
  clear h
  go_enter Tryd.func7, Tryd.ntmps7
  go_wp2_with fail
  rw [← HH.out]
  with_reducible refine (CS.out _ hb0).mono ?_
  rintro e w1 ⟨rfl, b1⟩
  obtain ⟨c0, c1, c2, d0, d1, _⟩ := HK.out _ b1
  go_wp2_with fail
  with_reducible refine (CW.out _ b1).mono ?_
  rintro e w2 ⟨rfl, b2⟩
  clear c0 c1 c2 d0 d1
  have HFF := hide (HF.out _ b2)
  obtain ⟨c0, c1, c2, d0, d1, _⟩ := HK.out _ b2
  clear b1 b2
  go_wp2
  go_ret
  exact ⟨rfl, HFF.out⟩
set_option maxRecDepth 100000 in
set_option maxHeartbeats 3200000 in
theorem Rises_one (B X : Int) (a : Option Addr) (n cap : Nat) (A O : Nat → Int) (K W t : Int) (d : Nat) (w : World) (hr : Ents w a n A O) (t1 : -9223372036854775808 ≤ t) (t2 : t ≤ 9223372036854775807) (d1 : d ≤ 4294967295) (l : Laid w) (h : n ≤ 80) (hK : K = 1) :
    Calls Tryd.prog 7 #[.agg #[.int .i64 B, .int .i64 X, .slice a n cap], .agg #[.int .i64 K, .int .i64 W], .int .i64 t, .int .u32 d] w fun e w' => e = .returned (.bool true) ∧ Below w.heap.size w w' := by
  obtain ⟨W0, hW0⟩ : ∃ W0, W0 = (w.alloc (.cells #[.int .i64 B, .int .i64 X, .slice a n cap] 24)).alloc (.cells #[.int .i64 K, .int .i64 W] 26) := ⟨_, rfl⟩
  have HB0 : Hid (Below (w.heap.size + 2) ((w.alloc (.cells #[.int .i64 B, .int .i64 X, .slice a n cap] 24)).alloc (.cells #[.int .i64 K, .int .i64 W] 26)) W0) := hide (by rw [hW0]; exact Below.refl _ _)
  have HH : Hid (W0 = (w.alloc (.cells #[.int .i64 B, .int .i64 X, .slice a n cap] 24)).alloc (.cells #[.int .i64 K, .int .i64 W] 26)) := hide hW0
  have HR := hide (fun V (g : Below W0.heap.size W0 V) => hr.below (boxB2 (low2 HB0.out g)))
  have HK := hide (fun (V : World) (g : Below W0.heap.size W0 V) => by
    obtain ⟨c0, c1, c2, d0, d1, _⟩ := cells5 (low2 HB0.out g)
    exact And.intro c0 (And.intro c1 (And.intro c2 (And.intro d0 (And.intro d1 g)))))
  have HF := hide (fun V (g : Below W0.heap.size W0 V) => boxB2 (low2 HB0.out g))
  have hb0 := Below.refl W0.heap.size W0
  have LL := hide (fun V (g : Below W0.heap.size W0 V) => l.step (HF.out V g))
  have CS := hide (based (Nat.le_refl _) fun V (_ : Below W0.heap.size W0 V) => small_any B X a n cap V _ rfl)
  have CW := hide (based (Nat.le_refl _) fun V (g : Below W0.heap.size W0 V) => awake_any V (LL.out V g))
  rw [decide_eq_true h] at CS
  clear hW0 hr l
  subst hK
  clear h
  go_enter Tryd.func7, Tryd.ntmps7
  go_wp2_with fail
  rw [← HH.out]
  with_reducible refine (CS.out _ hb0).mono ?_
  rintro e w1 ⟨rfl, b1⟩
  obtain ⟨c0, c1, c2, d0, d1, _⟩ := HK.out _ b1
  go_wp2_with fail
  with_reducible refine (CW.out _ b1).mono ?_
  rintro e w2 ⟨rfl, b2⟩
  clear c0 c1 c2 d0 d1
  have HFF := hide (HF.out _ b2)
  obtain ⟨c0, c1, c2, d0, d1, _⟩ := HK.out _ b2
  clear b1 b2
  go_wp2
  go_ret
  exact ⟨rfl, HFF.out⟩
set_option maxRecDepth 100000 in
set_option maxHeartbeats 3200000 in
theorem Rises_low (B X : Int) (a : Option Addr) (n cap : Nat) (A O : Nat → Int) (K W t : Int) (d : Nat) (w : World) (hr : Ents w a n A O) (t1 : -9223372036854775808 ≤ t) (t2 : t ≤ 9223372036854775807) (d1 : d ≤ 4294967295) (l : Laid w) (h : n ≤ 80) (hK : (K == 1) = false) (ht : t < -8000000000000000000) :
    Calls Tryd.prog 7 #[.agg #[.int .i64 B, .int .i64 X, .slice a n cap], .agg #[.int .i64 K, .int .i64 W], .int .i64 t, .int .u32 d] w fun e w' => e = .returned (.bool true) ∧ Below w.heap.size w w' := by
  obtain ⟨W0, hW0⟩ : ∃ W0, W0 = (w.alloc (.cells #[.int .i64 B, .int .i64 X, .slice a n cap] 24)).alloc (.cells #[.int .i64 K, .int .i64 W] 26) := ⟨_, rfl⟩
  have HB0 : Hid (Below (w.heap.size + 2) ((w.alloc (.cells #[.int .i64 B, .int .i64 X, .slice a n cap] 24)).alloc (.cells #[.int .i64 K, .int .i64 W] 26)) W0) := hide (by rw [hW0]; exact Below.refl _ _)
  have HH : Hid (W0 = (w.alloc (.cells #[.int .i64 B, .int .i64 X, .slice a n cap] 24)).alloc (.cells #[.int .i64 K, .int .i64 W] 26)) := hide hW0
  have HR := hide (fun V (g : Below W0.heap.size W0 V) => hr.below (boxB2 (low2 HB0.out g)))
  have HK := hide (fun (V : World) (g : Below W0.heap.size W0 V) => by
    obtain ⟨c0, c1, c2, d0, d1, _⟩ := cells5 (low2 HB0.out g)
    exact And.intro c0 (And.intro c1 (And.intro c2 (And.intro d0 (And.intro d1 g)))))
  have HF := hide (fun V (g : Below W0.heap.size W0 V) => boxB2 (low2 HB0.out g))
  have hb0 := Below.refl W0.heap.size W0
  have LL := hide (fun V (g : Below W0.heap.size W0 V) => l.step (HF.out V g))
  have CS := hide (based (Nat.le_refl _) fun V (_ : Below W0.heap.size W0 V) => small_any B X a n cap V _ rfl)
  have CW := hide (based (Nat.le_refl _) fun V (g : Below W0.heap.size W0 V) => awake_any V (LL.out V g))
  rw [decide_eq_true h] at CS
  clear hW0 hr l
  clear h
  go_enter Tryd.func7, Tryd.ntmps7
  go_wp2_with fail
  rw [← HH.out]
  with_reducible refine (CS.out _ hb0).mono ?_
  rintro e w1 ⟨rfl, b1⟩
  obtain ⟨c0, c1, c2, d0, d1, _⟩ := HK.out _ b1
  go_wp2_with fail
  with_reducible refine (CW.out _ b1).mono ?_
  rintro e w2 ⟨rfl, b2⟩
  clear c0 c1 c2 d0 d1
  have HFF := hide (HF.out _ b2)
  obtain ⟨c0, c1, c2, d0, d1, _⟩ := HK.out _ b2
  clear b1 b2
  go_wp2
  go_ret
  exact ⟨rfl, HFF.out⟩
set_option maxRecDepth 100000 in
set_option maxHeartbeats 3200000 in
theorem Rises_high (B X : Int) (a : Option Addr) (n cap : Nat) (A O : Nat → Int) (K W t : Int) (d : Nat) (w : World) (hr : Ents w a n A O) (t1 : -9223372036854775808 ≤ t) (t2 : t ≤ 9223372036854775807) (d1 : d ≤ 4294967295) (l : Laid w) (h : n ≤ 80) (hK : (K == 1) = false) (ht : 8000000000000000000 < t) :
    Calls Tryd.prog 7 #[.agg #[.int .i64 B, .int .i64 X, .slice a n cap], .agg #[.int .i64 K, .int .i64 W], .int .i64 t, .int .u32 d] w fun e w' => e = .returned (.bool true) ∧ Below w.heap.size w w' := by
  obtain ⟨W0, hW0⟩ : ∃ W0, W0 = (w.alloc (.cells #[.int .i64 B, .int .i64 X, .slice a n cap] 24)).alloc (.cells #[.int .i64 K, .int .i64 W] 26) := ⟨_, rfl⟩
  have HB0 : Hid (Below (w.heap.size + 2) ((w.alloc (.cells #[.int .i64 B, .int .i64 X, .slice a n cap] 24)).alloc (.cells #[.int .i64 K, .int .i64 W] 26)) W0) := hide (by rw [hW0]; exact Below.refl _ _)
  have HH : Hid (W0 = (w.alloc (.cells #[.int .i64 B, .int .i64 X, .slice a n cap] 24)).alloc (.cells #[.int .i64 K, .int .i64 W] 26)) := hide hW0
  have HR := hide (fun V (g : Below W0.heap.size W0 V) => hr.below (boxB2 (low2 HB0.out g)))
  have HK := hide (fun (V : World) (g : Below W0.heap.size W0 V) => by
    obtain ⟨c0, c1, c2, d0, d1, _⟩ := cells5 (low2 HB0.out g)
    exact And.intro c0 (And.intro c1 (And.intro c2 (And.intro d0 (And.intro d1 g)))))
  have HF := hide (fun V (g : Below W0.heap.size W0 V) => boxB2 (low2 HB0.out g))
  have hb0 := Below.refl W0.heap.size W0
  have LL := hide (fun V (g : Below W0.heap.size W0 V) => l.step (HF.out V g))
  have CS := hide (based (Nat.le_refl _) fun V (_ : Below W0.heap.size W0 V) => small_any B X a n cap V _ rfl)
  have CW := hide (based (Nat.le_refl _) fun V (g : Below W0.heap.size W0 V) => awake_any V (LL.out V g))
  rw [decide_eq_true h] at CS
  clear hW0 hr l
  clear h
  go_enter Tryd.func7, Tryd.ntmps7
  go_wp2_with fail
  rw [← HH.out]
  with_reducible refine (CS.out _ hb0).mono ?_
  rintro e w1 ⟨rfl, b1⟩
  obtain ⟨c0, c1, c2, d0, d1, _⟩ := HK.out _ b1
  go_wp2_with fail
  with_reducible refine (CW.out _ b1).mono ?_
  rintro e w2 ⟨rfl, b2⟩
  clear c0 c1 c2 d0 d1
  have HFF := hide (HF.out _ b2)
  obtain ⟨c0, c1, c2, d0, d1, _⟩ := HK.out _ b2
  clear b1 b2
  go_wp2
  go_ret
  exact ⟨rfl, HFF.out⟩
set_option maxRecDepth 100000 in
set_option maxHeartbeats 3200000 in
theorem Rises_in (B X : Int) (a : Option Addr) (n cap : Nat) (A O : Nat → Int) (K W t : Int) (d : Nat) (w : World) (hr : Ents w a n A O) (t1 : -9223372036854775808 ≤ t) (t2 : t ≤ 9223372036854775807) (d1 : d ≤ 4294967295) (l : Laid w) (h : n ≤ 80) (hK : K ≠ 1) (ht : -8000000000000000000 ≤ t) (hu : t ≤ 8000000000000000000) :
    Calls Tryd.prog 7 #[.agg #[.int .i64 B, .int .i64 X, .slice a n cap], .agg #[.int .i64 K, .int .i64 W], .int .i64 t, .int .u32 d] w fun e w' => e = .returned (.bool true) ∧ Below w.heap.size w w' := by
  obtain ⟨W0, hW0⟩ : ∃ W0, W0 = (w.alloc (.cells #[.int .i64 B, .int .i64 X, .slice a n cap] 24)).alloc (.cells #[.int .i64 K, .int .i64 W] 26) := ⟨_, rfl⟩
  have HB0 : Hid (Below (w.heap.size + 2) ((w.alloc (.cells #[.int .i64 B, .int .i64 X, .slice a n cap] 24)).alloc (.cells #[.int .i64 K, .int .i64 W] 26)) W0) := hide (by rw [hW0]; exact Below.refl _ _)
  have HH : Hid (W0 = (w.alloc (.cells #[.int .i64 B, .int .i64 X, .slice a n cap] 24)).alloc (.cells #[.int .i64 K, .int .i64 W] 26)) := hide hW0
  have HR := hide (fun V (g : Below W0.heap.size W0 V) => hr.below (boxB2 (low2 HB0.out g)))
  have HK := hide (fun (V : World) (g : Below W0.heap.size W0 V) => by
    obtain ⟨c0, c1, c2, d0, d1, _⟩ := cells5 (low2 HB0.out g)
    exact And.intro c0 (And.intro c1 (And.intro c2 (And.intro d0 (And.intro d1 g)))))
  have HF := hide (fun V (g : Below W0.heap.size W0 V) => boxB2 (low2 HB0.out g))
  have hb0 := Below.refl W0.heap.size W0
  have LL := hide (fun V (g : Below W0.heap.size W0 V) => l.step (HF.out V g))
  have CS := hide (based (Nat.le_refl _) fun V (_ : Below W0.heap.size W0 V) => small_any B X a n cap V _ rfl)
  have CW := hide (based (Nat.le_refl _) fun V (g : Below W0.heap.size W0 V) => awake_any V (LL.out V g))
  have CA := hide (based (Nat.le_refl _) fun V (g : Below W0.heap.size W0 V) => Read_any B X a n cap A O K W t V (LL.out V g) (HR.out V g) ⟨t1, t2⟩)
  have CB := hide (based (Nat.le_refl _) fun V (g : Below W0.heap.size W0 V) => Read_any B X a n cap A O K W (t + d) V (LL.out V g) (HR.out V g) ⟨by omega, by omega⟩)
  rw [decide_eq_true h] at CS
  have HQ := hide (rises_of (B := B) (X := X) (A := A) (O := O) (n := n) (K := K) (W := W) (t := t) d hK)
  have hK1 : (K == 1) = false := by simpa using hK
  obtain ⟨x11, x12⟩ := readV_bd (chkS B X A O n K W) t (rdT B A O n K W t)
  obtain ⟨x21, x22⟩ := readV_bd (chkS B X A O n K W) (t + d) (rdT B A O n K W (t + d))
  generalize readV (chkS B X A O n K W) t (rdT B A O n K W t) = x1 at *
  generalize readE (chkS B X A O n K W) t (rdT B A O n K W t) = y1 at *
  generalize readV (chkS B X A O n K W) (t + d) (rdT B A O n K W (t + d)) = x2 at *
  generalize readE (chkS B X A O n K W) (t + d) (rdT B A O n K W (t + d)) = y2 at *
  have hd0 : (0 : Int) ≤ (d : Int) := by omega
  have hd1 : (d : Int) ≤ 4294967295 := by omega
  clear hW0 hr l h hK
  by_cases z1 : y1 = 0
  · subst z1
    by_cases z2 : y2 = 0
    · subst z2
      obtain ⟨g1, g2⟩ := HQ.out rfl rfl
      have g3 : x2 - x1 ≤ 2 * (d : Int) := g2
      go_enter Tryd.func7, Tryd.ntmps7
      go_wp2_with fail
      rw [← HH.out]
      with_reducible refine (CS.out _ hb0).mono ?_
      rintro e w1 ⟨rfl, b1⟩
      obtain ⟨c0, c1, c2, d0, d1, _⟩ := HK.out _ b1
      go_wp2_with fail
      with_reducible refine (CA.out _ b1).mono ?_
      rintro e w2 ⟨rfl, b2⟩
      clear c0 c1 c2 d0 d1
      obtain ⟨c0, c1, c2, d0, d1, _⟩ := HK.out _ b2
      go_wp2_with fail
      with_reducible refine (CB.out _ b2).mono ?_
      rintro e w3 ⟨rfl, b3⟩
      clear c0 c1 c2 d0 d1
      obtain ⟨c0, c1, c2, d0, d1, _⟩ := HK.out _ b3
      go_wp2_with fail
      with_reducible refine (CW.out _ b3).mono ?_
      rintro e w4 ⟨rfl, b4⟩
      clear c0 c1 c2 d0 d1
      have HFF := hide (HF.out _ b4)
      obtain ⟨c0, c1, c2, d0, d1, _⟩ := HK.out _ b4
      clear b1 b2 b3 b4
      go_wp2
      go_ret
      exact ⟨rfl, HFF.out⟩
    · have hz : (y2 != 0) = true := by simpa using z2
      clear z2
      go_enter Tryd.func7, Tryd.ntmps7
      go_wp2_with fail
      rw [← HH.out]
      with_reducible refine (CS.out _ hb0).mono ?_
      rintro e w1 ⟨rfl, b1⟩
      obtain ⟨c0, c1, c2, d0, d1, _⟩ := HK.out _ b1
      go_wp2_with fail
      with_reducible refine (CA.out _ b1).mono ?_
      rintro e w2 ⟨rfl, b2⟩
      clear c0 c1 c2 d0 d1
      obtain ⟨c0, c1, c2, d0, d1, _⟩ := HK.out _ b2
      go_wp2_with fail
      with_reducible refine (CB.out _ b2).mono ?_
      rintro e w3 ⟨rfl, b3⟩
      clear c0 c1 c2 d0 d1
      obtain ⟨c0, c1, c2, d0, d1, _⟩ := HK.out _ b3
      go_wp2_with fail
      with_reducible refine (CW.out _ b3).mono ?_
      rintro e w4 ⟨rfl, b4⟩
      clear c0 c1 c2 d0 d1
      have HFF := hide (HF.out _ b4)
      obtain ⟨c0, c1, c2, d0, d1, _⟩ := HK.out _ b4
      clear b1 b2 b3 b4
      go_wp2
      go_ret
      exact ⟨rfl, HFF.out⟩
  · have hz : (y1 != 0) = true := by simpa using z1
    clear z1
    go_enter Tryd.func7, Tryd.ntmps7
    go_wp2_with fail
    rw [← HH.out]
    with_reducible refine (CS.out _ hb0).mono ?_
    rintro e w1 ⟨rfl, b1⟩
    obtain ⟨c0, c1, c2, d0, d1, _⟩ := HK.out _ b1
    go_wp2_with fail
    with_reducible refine (CA.out _ b1).mono ?_
    rintro e w2 ⟨rfl, b2⟩
    clear c0 c1 c2 d0 d1
    obtain ⟨c0, c1, c2, d0, d1, _⟩ := HK.out _ b2
    go_wp2_with fail
    with_reducible refine (CB.out _ b2).mono ?_
    rintro e w3 ⟨rfl, b3⟩
    clear c0 c1 c2 d0 d1
    obtain ⟨c0, c1, c2, d0, d1, _⟩ := HK.out _ b3
    go_wp2_with fail
    with_reducible refine (CW.out _ b3).mono ?_
    rintro e w4 ⟨rfl, b4⟩
    clear c0 c1 c2 d0 d1
    have HFF := hide (HF.out _ b4)
    obtain ⟨c0, c1, c2, d0, d1, _⟩ := HK.out _ b4
    clear b1 b2 b3 b4
    go_wp2
    go_ret
    exact ⟨rfl, HFF.out⟩
theorem SmearRises_walk (B X : Int) (a : Option Addr) (n cap : Nat) (A O : Nat → Int) (K W t : Int) (d : Nat) (w : World) (hr : Ents w a n A O) (t1 : -9223372036854775808 ≤ t) (t2 : t ≤ 9223372036854775807) (d1 : d ≤ 4294967295) (l : Laid w) :
    Calls Tryd.prog 7 #[.agg #[.int .i64 B, .int .i64 X, .slice a n cap], .agg #[.int .i64 K, .int .i64 W], .int .i64 t, .int .u32 d] w fun e w' => e = .returned (.bool true) ∧ Below w.heap.size w w' := by
  by_cases h : n ≤ 80
  · by_cases hK : K = 1
    · exact Rises_one B X a n cap A O K W t d w hr t1 t2 d1 l h hK
    · have hk1 : (K == 1) = false := by simpa using hK
      by_cases h1 : t < -8000000000000000000
      · exact Rises_low B X a n cap A O K W t d w hr t1 t2 d1 l h hk1 h1
      · by_cases h2 : 8000000000000000000 < t
        · exact Rises_high B X a n cap A O K W t d w hr t1 t2 d1 l h hk1 h2
        · exact Rises_in B X a n cap A O K W t d w hr t1 t2 d1 l h hK (by omega) (by omega)
  · exact Rises_long B X a n cap A O K W t d w hr t1 t2 d1 l h
end Go.Proofs.YtnnfaejejnfckaaDoor.Smr
