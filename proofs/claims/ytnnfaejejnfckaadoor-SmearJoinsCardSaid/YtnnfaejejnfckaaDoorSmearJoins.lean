/- The walk of the law SmearJoins. -/
import Derived.Test.YtnnfaejejnfckaaDoorSmrJ
import Derived.Test.YtnnfaejejnfckaaDoorQuiet
namespace Go.Proofs.YtnnfaejejnfckaaDoor.Smr
open Go.RowKit Aid Civ Leap
set_option maxRecDepth 100000 in
set_option maxHeartbeats 3200000 in
theorem Joins_long (B X : Int) (a : Option Addr) (n cap : Nat) (A O : Nat → Int) (K W t : Int) (w : World) (hr : Ents w a n A O) (t1 : -9223372036854775808 ≤ t) (t2 : t ≤ 9223372036854775807) (l : Laid w) (h : ¬ n ≤ 80) :
    Calls Tryd.prog 9 #[.agg #[.int .i64 B, .int .i64 X, .slice a n cap], .agg #[.int .i64 K, .int .i64 W], .int .i64 t] w fun e w' => e = .returned (.bool true) ∧ Below w.heap.size w w' := by
  obtain ⟨W0, hW0⟩ : ∃ W0, W0 = (w.alloc (.cells #[.int .i64 B, .int .i64 X, .slice a n cap] 24)).alloc (.cells #[.int .i64 K, .int .i64 W] 26) := ⟨_, rfl⟩
  have HB0 : Hid (Below (w.heap.size + 2) ((w.alloc (.cells #[.int .i64 B, .int .i64 X, .slice a n cap] 24)).alloc (.cells #[.int .i64 K, .int .i64 W] 26)) W0) := hide (by rw [hW0]; exact Below.refl _ _)
  have HH : Hid (W0 = (w.alloc (.cells #[.int .i64 B, .int .i64 X, .slice a n cap] 24)).alloc (.cells #[.int .i64 K, .int .i64 W] 26)) := hide hW0
  have HR := hide (fun V (g : Below W0.heap.size W0 V) => hr.below (boxB2 (low2 HB0.out g)))
  have HK := hide (fun (V : World) (g : Below W0.heap.size W0 V) => by
    obtain ⟨c0, c1, c2, d0, d1, _⟩ := cells5 (low2 HB0.out g)
    exact And.intro c0 (And.intro c1 (And.intro c2 (And.intro d0 (And.intro d1 g)))))
  have HF := hide (fun V (g : Below W0.heap.size W0 V) => boxB2 (low2 HB0.out g))
  have hb0 := Below.refl W0.heap.size W0
  have LL := hide (fun V (g : Below W0.heap.size W0 V) => l.step (HF.out V g))
  have CS := hide (based (Nat.le_refl _) fun V (_ : Below W0.heap.size W0 V) => small_any B X a n cap V _ rfl)
  have CW := hide (based (Nat.le_refl _) fun V (g : Below W0.heap.size W0 V) => awake_any V (LL.out V g))
  rw [decide_eq_false h] at CS
  clear hW0 hr l
  clear h
  go_enter Tryd.func9, Tryd.ntmps9
  go_wp2_with fail
  rw [← HH.out]
  with_reducible refine (CS.out _ hb0).mono ?_
  rintro e w1 ⟨rfl, b1⟩
  obtain ⟨c0, c1, c2, d0, d1, _⟩ := HK.out _ b1
  go_wp2_with fail
  with_reducible refine (CW.out _ b1).mono ?_
  rintro e w2 ⟨rfl, b2⟩
  clear c0 c1 c2 d0 d1
  have HFF := hide (HF.out _ b2)
  obtain ⟨c0, c1, c2, d0, d1, _⟩ := HK.out _ b2
  clear b1 b2
  go_wp2
  go_ret
  exact ⟨rfl, HFF.out⟩
set_option maxRecDepth 100000 in
set_option maxHeartbeats 3200000 in
theorem Joins_one (B X : Int) (a : Option Addr) (n cap : Nat) (A O : Nat → Int) (K W t : Int) (w : World) (hr : Ents w a n A O) (t1 : -9223372036854775808 ≤ t) (t2 : t ≤ 9223372036854775807) (l : Laid w) (h : n ≤ 80) (hK : K = 1) :
    Calls Tryd.prog 9 #[.agg #[.int .i64 B, .int .i64 X, .slice a n cap], .agg #[.int .i64 K, .int .i64 W], .int .i64 t] w fun e w' => e = .returned (.bool true) ∧ Below w.heap.size w w' := by
  obtain ⟨W0, hW0⟩ : ∃ W0, W0 = (w.alloc (.cells #[.int .i64 B, .int .i64 X, .slice a n cap] 24)).alloc (.cells #[.int .i64 K, .int .i64 W] 26) := ⟨_, rfl⟩
  have HB0 : Hid (Below (w.heap.size + 2) ((w.alloc (.cells #[.int .i64 B, .int .i64 X, .slice a n cap] 24)).alloc (.cells #[.int .i64 K, .int .i64 W] 26)) W0) := hide (by rw [hW0]; exact Below.refl _ _)
  have HH : Hid (W0 = (w.alloc (.cells #[.int .i64 B, .int .i64 X, .slice a n cap] 24)).alloc (.cells #[.int .i64 K, .int .i64 W] 26)) := hide hW0
  have HR := hide (fun V (g : Below W0.heap.size W0 V) => hr.below (boxB2 (low2 HB0.out g)))
  have HK := hide (fun (V : World) (g : Below W0.heap.size W0 V) => by
    obtain ⟨c0, c1, c2, d0, d1, _⟩ := cells5 (low2 HB0.out g)
    exact And.intro c0 (And.intro c1 (And.intro c2 (And.intro d0 (And.intro d1 g)))))
  have HF := hide (fun V (g : Below W0.heap.size W0 V) => boxB2 (low2 HB0.out g))
  have hb0 := Below.refl W0.heap.size W0
  have LL := hide (fun V (g : Below W0.heap.size W0 V) => l.step (HF.out V g))
  have CS := hide (based (Nat.le_refl _) fun V (_ : Below W0.heap.size W0 V) => small_any B X a n cap V _ rfl)
  have CW := hide (based (Nat.le_refl _) fun V (g : Below W0.heap.size W0 V) => awake_any V (LL.out V g))
  rw [decide_eq_true h] at CS
  clear hW0 hr l
  subst hK
  clear h
  go_enter Tryd.func9, Tryd.ntmps9
  go_wp2_with fail
  rw [← HH.out]
  with_reducible refine (CS.out _ hb0).mono ?_
  rintro e w1 ⟨rfl, b1⟩
  obtain ⟨c0, c1, c2, d0, d1, _⟩ := HK.out _ b1
  go_wp2_with fail
  with_reducible refine (CW.out _ b1).mono ?_
  rintro e w2 ⟨rfl, b2⟩
  clear c0 c1 c2 d0 d1
  have HFF := hide (HF.out _ b2)
  obtain ⟨c0, c1, c2, d0, d1, _⟩ := HK.out _ b2
  clear b1 b2
  go_wp2
  go_ret
  exact ⟨rfl, HFF.out⟩
set_option maxRecDepth 100000 in
set_option maxHeartbeats 3200000 in
theorem Joins_bad (B X : Int) (a : Option Addr) (n cap : Nat) (A O : Nat → Int) (K W t : Int) (w : World) (hr : Ents w a n A O) (t1 : -9223372036854775808 ≤ t) (t2 : t ≤ 9223372036854775807) (l : Laid w) (h : n ≤ 80) (hK : (K == 1) = false) (hc : chkS B X A O n K W ≠ 0) :
    Calls Tryd.prog 9 #[.agg #[.int .i64 B, .int .i64 X, .slice a n cap], .agg #[.int .i64 K, .int .i64 W], .int .i64 t] w fun e w' => e = .returned (.bool true) ∧ Below w.heap.size w w' := by
  obtain ⟨W0, hW0⟩ : ∃ W0, W0 = (w.alloc (.cells #[.int .i64 B, .int .i64 X, .slice a n cap] 24)).alloc (.cells #[.int .i64 K, .int .i64 W] 26) := ⟨_, rfl⟩
  have HB0 : Hid (Below (w.heap.size + 2) ((w.alloc (.cells #[.int .i64 B, .int .i64 X, .slice a n cap] 24)).alloc (.cells #[.int .i64 K, .int .i64 W] 26)) W0) := hide (by rw [hW0]; exact Below.refl _ _)
  have HH : Hid (W0 = (w.alloc (.cells #[.int .i64 B, .int .i64 X, .slice a n cap] 24)).alloc (.cells #[.int .i64 K, .int .i64 W] 26)) := hide hW0
  have HR := hide (fun V (g : Below W0.heap.size W0 V) => hr.below (boxB2 (low2 HB0.out g)))
  have HK := hide (fun (V : World) (g : Below W0.heap.size W0 V) => by
    obtain ⟨c0, c1, c2, d0, d1, _⟩ := cells5 (low2 HB0.out g)
    exact And.intro c0 (And.intro c1 (And.intro c2 (And.intro d0 (And.intro d1 g)))))
  have HF := hide (fun V (g : Below W0.heap.size W0 V) => boxB2 (low2 HB0.out g))
  have hb0 := Below.refl W0.heap.size W0
  have LL := hide (fun V (g : Below W0.heap.size W0 V) => l.step (HF.out V g))
  have CS := hide (based (Nat.le_refl _) fun V (_ : Below W0.heap.size W0 V) => small_any B X a n cap V _ rfl)
  have CW := hide (based (Nat.le_refl _) fun V (g : Below W0.heap.size W0 V) => awake_any V (LL.out V g))
  have CC := hide (based (Nat.le_refl _) fun V (g : Below W0.heap.size W0 V) => Check_any B X a n cap A O K W V (LL.out V g) (HR.out V g))
  rw [decide_eq_true h] at CS
  have hz : (chkS B X A O n K W != 0) = true := by simpa using hc
  generalize chkS B X A O n K W = c at *
  clear hW0 hr l h hc
  go_enter Tryd.func9, Tryd.ntmps9
  go_wp2_with fail
  rw [← HH.out]
  with_reducible refine (CS.out _ hb0).mono ?_
  rintro e w1 ⟨rfl, b1⟩
  obtain ⟨c0, c1, c2, d0, d1, _⟩ := HK.out _ b1
  go_wp2_with fail
  with_reducible refine (CC.out _ b1).mono ?_
  rintro e w2 ⟨rfl, b2⟩
  clear c0 c1 c2 d0 d1
  obtain ⟨c0, c1, c2, d0, d1, _⟩ := HK.out _ b2
  go_wp2_with fail
  with_reducible refine (CW.out _ b2).mono ?_
  rintro e w3 ⟨rfl, b3⟩
  clear c0 c1 c2 d0 d1
  have HFF := hide (HF.out _ b3)
  obtain ⟨c0, c1, c2, d0, d1, _⟩ := HK.out _ b3
  clear b1 b2 b3
  go_wp2
  go_ret
  exact ⟨rfl, HFF.out⟩
set_option maxRecDepth 100000 in
set_option maxHeartbeats 3200000 in
theorem Joins_in (B X : Int) (a : Option Addr) (n cap : Nat) (A O : Nat → Int) (K W t : Int) (w : World) (hr : Ents w a n A O) (t1 : -9223372036854775808 ≤ t) (t2 : t ≤ 9223372036854775807) (l : Laid w) (h : n ≤ 80) (hK : (K == 1) = false) (hc : chkS B X A O n K W = 0) :
    Calls Tryd.prog 9 #[.agg #[.int .i64 B, .int .i64 X, .slice a n cap], .agg #[.int .i64 K, .int .i64 W], .int .i64 t] w fun e w' => e = .returned (.bool true) ∧ Below w.heap.size w w' := by
  obtain ⟨W0, hW0⟩ : ∃ W0, W0 = (w.alloc (.cells #[.int .i64 B, .int .i64 X, .slice a n cap] 24)).alloc (.cells #[.int .i64 K, .int .i64 W] 26) := ⟨_, rfl⟩
  have HB0 : Hid (Below (w.heap.size + 2) ((w.alloc (.cells #[.int .i64 B, .int .i64 X, .slice a n cap] 24)).alloc (.cells #[.int .i64 K, .int .i64 W] 26)) W0) := hide (by rw [hW0]; exact Below.refl _ _)
  have HH : Hid (W0 = (w.alloc (.cells #[.int .i64 B, .int .i64 X, .slice a n cap] 24)).alloc (.cells #[.int .i64 K, .int .i64 W] 26)) := hide hW0
  have HR := hide (fun V (g : Below W0.heap.size W0 V) => hr.below (boxB2 (low2 HB0.out g)))
  have HK := hide (fun (V : World) (g : Below W0.heap.size W0 V) => by
    obtain ⟨c0, c1, c2, d0, d1, _⟩ := cells5 (low2 HB0.out g)
    exact And.intro c0 (And.intro c1 (And.intro c2 (And.intro d0 (And.intro d1 g)))))
  have HF := hide (fun V (g : Below W0.heap.size W0 V) => boxB2 (low2 HB0.out g))
  have hb0 := Below.refl W0.heap.size W0
  have LL := hide (fun V (g : Below W0.heap.size W0 V) => l.step (HF.out V g))
  have CS := hide (based (Nat.le_refl _) fun V (_ : Below W0.heap.size W0 V) => small_any B X a n cap V _ rfl)
  have CW := hide (based (Nat.le_refl _) fun V (g : Below W0.heap.size W0 V) => awake_any V (LL.out V g))
  have CC := hide (based (Nat.le_refl _) fun V (g : Below W0.heap.size W0 V) => Check_any B X a n cap A O K W V (LL.out V g) (HR.out V g))
  have CA := hide (based (Nat.le_refl _) fun V (g : Below W0.heap.size W0 V) => Read_any B X a n cap A O K W t V (LL.out V g) (HR.out V g) ⟨t1, t2⟩)
  have CB := hide (based (Nat.le_refl _) fun V (g : Below W0.heap.size W0 V) => Read_any B X a n cap A O 1 0 t V (LL.out V g) (HR.out V g) ⟨t1, t2⟩)
  have CD := hide (based (Nat.le_refl _) fun V (g : Below W0.heap.size W0 V) => Active_any B X a n cap A O K W t V (LL.out V g) (HR.out V g))
  have CE := hide (based (Nat.le_refl _) fun V (g : Below W0.heap.size W0 V) => Rate_any B X a n cap A O K W t V (LL.out V g) (HR.out V g))
  rw [decide_eq_true h] at CS
  have HQ := hide (joins_of (B := B) (X := X) (A := A) (O := O) (n := n) (K := K) (W := W) (t := t))
  obtain ⟨x11, x12⟩ := readV_bd (chkS B X A O n K W) t (rdT B A O n K W t)
  obtain ⟨x21, x22⟩ := readV_bd (chkS B X A O n 1 0) t (rdT B A O n 1 0 t)
  generalize readV (chkS B X A O n K W) t (rdT B A O n K W t) = x1 at *
  generalize readE (chkS B X A O n K W) t (rdT B A O n K W t) = y1 at *
  generalize readV (chkS B X A O n 1 0) t (rdT B A O n 1 0 t) = x2 at *
  generalize readE (chkS B X A O n 1 0) t (rdT B A O n 1 0 t) = y2 at *
  generalize actB (chkS B X A O n K W) t (inT A O n K W t) = g at *
  generalize rateT B X A O n K W t = q at *
  rw [hc] at CC
  clear hW0 hr l h hc
  by_cases z1 : y1 = 0
  · subst z1
    by_cases z2 : y2 = 0
    · subst z2
      cases g with
      | false =>
        have E := (HQ.out rfl rfl).1 rfl
        subst E
        clear HQ
        go_enter Tryd.func9, Tryd.ntmps9
        go_wp2_with fail
        rw [← HH.out]
        with_reducible refine (CS.out _ hb0).mono ?_
        rintro e w1 ⟨rfl, b1⟩
        obtain ⟨c0, c1, c2, d0, d1, _⟩ := HK.out _ b1
        go_wp2_with fail
        with_reducible refine (CC.out _ b1).mono ?_
        rintro e w2 ⟨rfl, b2⟩
        clear c0 c1 c2 d0 d1
        obtain ⟨c0, c1, c2, d0, d1, _⟩ := HK.out _ b2
        go_wp2_with fail
        with_reducible refine (CA.out _ b2).mono ?_
        rintro e w3 ⟨rfl, b3⟩
        clear c0 c1 c2 d0 d1
        obtain ⟨c0, c1, c2, d0, d1, _⟩ := HK.out _ b3
        go_wp2_with fail
        with_reducible refine (CB.out _ b3).mono ?_
        rintro e w4 ⟨rfl, b4⟩
        clear c0 c1 c2 d0 d1
        obtain ⟨c0, c1, c2, d0, d1, _⟩ := HK.out _ b4
        go_wp2_with fail
        with_reducible refine (CD.out _ b4).mono ?_
        rintro e w5 ⟨rfl, b5⟩
        clear c0 c1 c2 d0 d1
        obtain ⟨c0, c1, c2, d0, d1, _⟩ := HK.out _ b5
        go_wp2_with fail
        with_reducible refine (CW.out _ b5).mono ?_
        rintro e w6 ⟨rfl, b6⟩
        clear c0 c1 c2 d0 d1
        have HFF := hide (HF.out _ b6)
        obtain ⟨c0, c1, c2, d0, d1, _⟩ := HK.out _ b6
        clear b1 b2 b3 b4 b5 b6
        go_wp2
        go_ret
        exact ⟨rfl, HFF.out⟩
      | true =>
        obtain ⟨g1, g2, g3⟩ := (HQ.out rfl rfl).2 rfl
        have g4 : (q != 0) = true := by simpa using g3
        clear HQ g3
        go_enter Tryd.func9, Tryd.ntmps9
        go_wp2_with fail
        rw [← HH.out]
        with_reducible refine (CS.out _ hb0).mono ?_
        rintro e w1 ⟨rfl, b1⟩
        obtain ⟨c0, c1, c2, d0, d1, _⟩ := HK.out _ b1
        go_wp2_with fail
        with_reducible refine (CC.out _ b1).mono ?_
        rintro e w2 ⟨rfl, b2⟩
        clear c0 c1 c2 d0 d1
        obtain ⟨c0, c1, c2, d0, d1, _⟩ := HK.out _ b2
        go_wp2_with fail
        with_reducible refine (CA.out _ b2).mono ?_
        rintro e w3 ⟨rfl, b3⟩
        clear c0 c1 c2 d0 d1
        obtain ⟨c0, c1, c2, d0, d1, _⟩ := HK.out _ b3
        go_wp2_with fail
        with_reducible refine (CB.out _ b3).mono ?_
        rintro e w4 ⟨rfl, b4⟩
        clear c0 c1 c2 d0 d1
        obtain ⟨c0, c1, c2, d0, d1, _⟩ := HK.out _ b4
        go_wp2_with fail
        with_reducible refine (CD.out _ b4).mono ?_
        rintro e w5 ⟨rfl, b5⟩
        clear c0 c1 c2 d0 d1
        obtain ⟨c0, c1, c2, d0, d1, _⟩ := HK.out _ b5
        go_wp2_with fail
        with_reducible refine (CE.out _ b5).mono ?_
        rintro e w6 ⟨rfl, b6⟩
        clear c0 c1 c2 d0 d1
        obtain ⟨c0, c1, c2, d0, d1, _⟩ := HK.out _ b6
        go_wp2_with fail
        with_reducible refine (CW.out _ b6).mono ?_
        rintro e w7 ⟨rfl, b7⟩
        clear c0 c1 c2 d0 d1
        have HFF := hide (HF.out _ b7)
        obtain ⟨c0, c1, c2, d0, d1, _⟩ := HK.out _ b7
        clear b1 b2 b3 b4 b5 b6 b7
        go_wp2
        go_ret
        exact ⟨rfl, HFF.out⟩
    · have hz : (y2 != 0) = true := by simpa using z2
      clear z2
      go_enter Tryd.func9, Tryd.ntmps9
      go_wp2_with fail
      rw [← HH.out]
      with_reducible refine (CS.out _ hb0).mono ?_
      rintro e w1 ⟨rfl, b1⟩
      obtain ⟨c0, c1, c2, d0, d1, _⟩ := HK.out _ b1
      go_wp2_with fail
      with_reducible refine (CC.out _ b1).mono ?_
      rintro e w2 ⟨rfl, b2⟩
      clear c0 c1 c2 d0 d1
      obtain ⟨c0, c1, c2, d0, d1, _⟩ := HK.out _ b2
      go_wp2_with fail
      with_reducible refine (CA.out _ b2).mono ?_
      rintro e w3 ⟨rfl, b3⟩
      clear c0 c1 c2 d0 d1
      obtain ⟨c0, c1, c2, d0, d1, _⟩ := HK.out _ b3
      go_wp2_with fail
      with_reducible refine (CB.out _ b3).mono ?_
      rintro e w4 ⟨rfl, b4⟩
      clear c0 c1 c2 d0 d1
      obtain ⟨c0, c1, c2, d0, d1, _⟩ := HK.out _ b4
      go_wp2_with fail
      with_reducible refine (CW.out _ b4).mono ?_
      rintro e w5 ⟨rfl, b5⟩
      clear c0 c1 c2 d0 d1
      have HFF := hide (HF.out _ b5)
      obtain ⟨c0, c1, c2, d0, d1, _⟩ := HK.out _ b5
      clear b1 b2 b3 b4 b5
      go_wp2
      go_ret
      exact ⟨rfl, HFF.out⟩
  · have hz : (y1 != 0) = true := by simpa using z1
    clear z1
    go_enter Tryd.func9, Tryd.ntmps9
    go_wp2_with fail
    rw [← HH.out]
    with_reducible refine (CS.out _ hb0).mono ?_
    rintro e w1 ⟨rfl, b1⟩
    obtain ⟨c0, c1, c2, d0, d1, _⟩ := HK.out _ b1
    go_wp2_with fail
    with_reducible refine (CC.out _ b1).mono ?_
    rintro e w2 ⟨rfl, b2⟩
    clear c0 c1 c2 d0 d1
    obtain ⟨c0, c1, c2, d0, d1, _⟩ := HK.out _ b2
    go_wp2_with fail
    with_reducible refine (CA.out _ b2).mono ?_
    rintro e w3 ⟨rfl, b3⟩
    clear c0 c1 c2 d0 d1
    obtain ⟨c0, c1, c2, d0, d1, _⟩ := HK.out _ b3
    go_wp2_with fail
    with_reducible refine (CB.out _ b3).mono ?_
    rintro e w4 ⟨rfl, b4⟩
    clear c0 c1 c2 d0 d1
    obtain ⟨c0, c1, c2, d0, d1, _⟩ := HK.out _ b4
    go_wp2_with fail
    with_reducible refine (CW.out _ b4).mono ?_
    rintro e w5 ⟨rfl, b5⟩
    clear c0 c1 c2 d0 d1
    have HFF := hide (HF.out _ b5)
    obtain ⟨c0, c1, c2, d0, d1, _⟩ := HK.out _ b5
    clear b1 b2 b3 b4 b5
    go_wp2
    go_ret
    exact ⟨rfl, HFF.out⟩
theorem SmearJoins_walk (B X : Int) (a : Option Addr) (n cap : Nat) (A O : Nat → Int) (K W t : Int) (w : World) (hr : Ents w a n A O) (t1 : -9223372036854775808 ≤ t) (t2 : t ≤ 9223372036854775807) (l : Laid w) :
    Calls Tryd.prog 9 #[.agg #[.int .i64 B, .int .i64 X, .slice a n cap], .agg #[.int .i64 K, .int .i64 W], .int .i64 t] w fun e w' => e = .returned (.bool true) ∧ Below w.heap.size w w' := by
  by_cases h : n ≤ 80
  · by_cases hK : K = 1
    · exact Joins_one B X a n cap A O K W t w hr t1 t2 l h hK
    · have hk1 : (K == 1) = false := by simpa using hK
      by_cases hc : chkS B X A O n K W = 0
      · exact Joins_in B X a n cap A O K W t w hr t1 t2 l h hk1 hc
      · exact Joins_bad B X a n cap A O K W t w hr t1 t2 l h hk1 hc
  · exact Joins_long B X a n cap A O K W t w hr t1 t2 l h
end Go.Proofs.YtnnfaejejnfckaaDoor.Smr
