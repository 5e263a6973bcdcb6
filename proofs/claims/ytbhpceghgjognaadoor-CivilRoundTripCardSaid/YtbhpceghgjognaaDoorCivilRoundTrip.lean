/- The walk of the law CivilRoundTrip. -/
import Derived.Test.YtbhpceghgjognaaDoorCivW
import Derived.Test.YtbhpceghgjognaaDoorCivS
namespace Go.Proofs.YtbhpceghgjognaaDoor.Civ
open Go.RowKit Aid
set_option maxRecDepth 100000 in
set_option maxHeartbeats 6400000 in
theorem Round_a (sec y m d h mi s n : Int) (w : World) (l : Laid5 w) (hr : -8000000000 ≤ sec ∧ sec ≤ 8000000000) (hv : Valid y m d h mi s n) (hq : -8000000000 ≤ secN y m d h mi s ∧ secN y m d h mi s ≤ 8000000000) :
    Calls Tryd.prog 10 #[.int .i64 sec, .agg #[.int .i64 y, .int .i64 m, .int .i64 d, .int .i64 h, .int .i64 mi, .int .i64 s, .int .i64 n]] w fun e w' => e = .returned (.bool true) ∧ Below w.heap.size w w' := by
  have b0 : Below w.heap.size w (w.alloc (.cells #[.int .i64 y, .int .i64 m, .int .i64 d, .int .i64 h, .int .i64 mi, .int .i64 s, .int .i64 n] 23)) := (Below.refl _ _).alloc (Nat.le_refl _) _
  have HL := hide (fun W (q : Below w.heap.size w W) => l.step q)
  have HB0 := hide b0
  have T0 := hide (Box7.new w y m d h mi s n)
  have CA := hide awake_any
  have CS := fun W (q : Laid W) => Seconds_any y m d h mi s n W q
  obtain ⟨y', d', H, I, S, M, eV, vV, eS, -⟩ := of_sec hr
  have c1 := Of_ok sec _ (l.step b0).laid hr
  rw [eV] at c1
  obtain ⟨s1, s2⟩ := secV_of vV (by rw [eS]; exact hr)
  rw [eS] at s1
  have cD := fun W (q : Laid W) => Seconds_any y' (M : Int) d' H I S 0 W q
  rw [s1, s2] at cD
  have cK := fun W (q : Laid W) => Check_any y' (M : Int) d' H I S 0 W q
  rw [chkC_of vV] at cK
  have CD := hide cD
  have CK := hide cK
  clear cD cK s1 s2 eS vV eV
  obtain ⟨hr1, hr2⟩ := hr
  obtain ⟨MM, rfl⟩ : ∃ MM : Nat, m = (MM : Int) := ⟨m.toNat, by have := hv.m1; omega⟩
  obtain ⟨e1, e2⟩ := secV_of hv hq
  have cX := fun W (q : Laid W) => Of_ok (secN y (MM : Int) d h mi s) W q hq
  rw [sec_back hv] at cX
  rw [e1, e2] at CS
  have CX := hide cX
  have CSS := hide CS
  generalize secN y (MM : Int) d h mi s = t at *
  clear cX CS e1 e2 hv hq
  have C1 := hide c1
  clear c1 b0 l
  go_enter Tryd.func10, Tryd.ntmps10
  go_wp2_with fail
  with_reducible refine C1.out.mono ?_
  rintro e w1 ⟨rfl, h1⟩
  have a1 := HB0.out.trans (h1.mono HB0.out.size)
  have a2 := a1.alloc a1.size (.cells #[.int .i64 y', .int .i64 M, .int .i64 d', .int .i64 H, .int .i64 I, .int .i64 S, .int .i64 0] 23)
  have T1 := hide (step_alloc (T0.out.step h1) (.cells #[.int .i64 y', .int .i64 M, .int .i64 d', .int .i64 H, .int .i64 I, .int .i64 S, .int .i64 0] 23))
  have A1 := hide a2
  clear a1 h1 T0 HB0 C1
  have P1 := hide (Box7.new w1 y' M d' H I S 0)
  have G2 := hide (CD.out _ (HL.out _ a2).laid)
  clear a2
  go_wp2_with fail
  with_reducible refine G2.out.mono ?_
  rintro e w2 ⟨rfl, h2⟩
  have b2 := A1.out.trans (h2.mono A1.out.size)
  have T2 := hide (T1.out.step h2)
  have P2 := hide (P1.out.step h2)
  obtain ⟨q0, q1, q2, q3, q4, q5, q6, qf, qlt⟩ := P1.out.step h2
  have G3 := hide (CK.out _ (HL.out _ b2).laid)
  have A2 := hide b2
  clear b2 h2 T1 P1 A1 G2
  go_wp2_with fail
  with_reducible refine G3.out.mono ?_
  rintro e w3 ⟨rfl, h3⟩
  have b3 := A2.out.trans (h3.mono A2.out.size)
  have TT := hide (T2.out.step h3)
  have AA := hide b3
  clear b3 h3 T2 A2 P2 G3 q0 q1 q2 q3 q4 q5 q6 qf qlt CD CK
  obtain ⟨k0, k1, k2, k3, k4, k5, k6, kf, klt⟩ := TT.out
  have G4 := hide (CSS.out _ (HL.out _ AA.out).laid)
  go_wp2_with fail
  with_reducible refine G4.out.mono ?_
  rintro e w4 ⟨rfl, h4⟩
  have b4 := AA.out.trans (h4.mono AA.out.size)
  have T4 := hide (TT.out.step h4)
  have A4 := hide b4
  clear h4 TT AA G4 k0 k1 k2 k3 k4 k5 k6 kf klt
  have G5 := hide (CX.out _ (HL.out _ b4).laid)
  clear b4
  go_wp2_with fail
  with_reducible refine G5.out.mono ?_
  rintro e w5 ⟨rfl, h5⟩
  have b5 := A4.out.trans (h5.mono A4.out.size)
  obtain ⟨k0, k1, k2, k3, k4, k5, k6, kf, klt⟩ := T4.out.step h5
  have b7 := (b5.setCell (p := ⟨w.heap.size, 6, none⟩) (Nat.le_refl _) (.int .i64 0)).alloc (by simpa using b5.size) (.cells #[.int .i64 y, .int .i64 MM, .int .i64 d, .int .i64 h, .int .i64 mi, .int .i64 s, .int .i64 0] 23)
  have B7 := hide b7
  have G7 := hide (CA.out _ (HL.out _ b7))
  clear b5 T4 A4 h5 G5 b7
  go_wp2_with fail
  with_reducible refine G7.out.mono ?_
  rintro e w6 ⟨rfl, h6⟩
  have B8 := hide (B7.out.trans (h6.mono B7.out.size))
  go_wp2
  go_ret
  exact ⟨rfl, B8.out⟩
set_option maxRecDepth 100000 in
set_option maxHeartbeats 6400000 in
theorem Round_b (sec y m d h mi s n : Int) (w : World) (l : Laid5 w) (hr : -8000000000 ≤ sec ∧ sec ≤ 8000000000) (he : secV y m d h mi s n = 0 ∧ secE y m d h mi s n = 3) :
    Calls Tryd.prog 10 #[.int .i64 sec, .agg #[.int .i64 y, .int .i64 m, .int .i64 d, .int .i64 h, .int .i64 mi, .int .i64 s, .int .i64 n]] w fun e w' => e = .returned (.bool true) ∧ Below w.heap.size w w' := by
  have b0 : Below w.heap.size w (w.alloc (.cells #[.int .i64 y, .int .i64 m, .int .i64 d, .int .i64 h, .int .i64 mi, .int .i64 s, .int .i64 n] 23)) := (Below.refl _ _).alloc (Nat.le_refl _) _
  have HL := hide (fun W (q : Below w.heap.size w W) => l.step q)
  have HB0 := hide b0
  have T0 := hide (Box7.new w y m d h mi s n)
  have CA := hide awake_any
  have CS := fun W (q : Laid W) => Seconds_any y m d h mi s n W q
  obtain ⟨y', d', H, I, S, M, eV, vV, eS, -⟩ := of_sec hr
  have c1 := Of_ok sec _ (l.step b0).laid hr
  rw [eV] at c1
  obtain ⟨s1, s2⟩ := secV_of vV (by rw [eS]; exact hr)
  rw [eS] at s1
  have cD := fun W (q : Laid W) => Seconds_any y' (M : Int) d' H I S 0 W q
  rw [s1, s2] at cD
  have cK := fun W (q : Laid W) => Check_any y' (M : Int) d' H I S 0 W q
  rw [chkC_of vV] at cK
  have CD := hide cD
  have CK := hide cK
  clear cD cK s1 s2 eS vV eV
  obtain ⟨hr1, hr2⟩ := hr
  rw [he.1, he.2] at CS
  have CSS := hide CS
  clear CS he
  have C1 := hide c1
  clear c1 b0 l
  go_enter Tryd.func10, Tryd.ntmps10
  go_wp2_with fail
  with_reducible refine C1.out.mono ?_
  rintro e w1 ⟨rfl, h1⟩
  have a1 := HB0.out.trans (h1.mono HB0.out.size)
  have a2 := a1.alloc a1.size (.cells #[.int .i64 y', .int .i64 M, .int .i64 d', .int .i64 H, .int .i64 I, .int .i64 S, .int .i64 0] 23)
  have T1 := hide (step_alloc (T0.out.step h1) (.cells #[.int .i64 y', .int .i64 M, .int .i64 d', .int .i64 H, .int .i64 I, .int .i64 S, .int .i64 0] 23))
  have A1 := hide a2
  clear a1 h1 T0 HB0 C1
  have P1 := hide (Box7.new w1 y' M d' H I S 0)
  have G2 := hide (CD.out _ (HL.out _ a2).laid)
  clear a2
  go_wp2_with fail
  with_reducible refine G2.out.mono ?_
  rintro e w2 ⟨rfl, h2⟩
  have b2 := A1.out.trans (h2.mono A1.out.size)
  have T2 := hide (T1.out.step h2)
  have P2 := hide (P1.out.step h2)
  obtain ⟨q0, q1, q2, q3, q4, q5, q6, qf, qlt⟩ := P1.out.step h2
  have G3 := hide (CK.out _ (HL.out _ b2).laid)
  have A2 := hide b2
  clear b2 h2 T1 P1 A1 G2
  go_wp2_with fail
  with_reducible refine G3.out.mono ?_
  rintro e w3 ⟨rfl, h3⟩
  have b3 := A2.out.trans (h3.mono A2.out.size)
  have TT := hide (T2.out.step h3)
  have AA := hide b3
  clear b3 h3 T2 A2 P2 G3 q0 q1 q2 q3 q4 q5 q6 qf qlt CD CK
  obtain ⟨k0, k1, k2, k3, k4, k5, k6, kf, klt⟩ := TT.out
  have G4 := hide (CSS.out _ (HL.out _ AA.out).laid)
  go_wp2_with fail
  with_reducible refine G4.out.mono ?_
  rintro e w4 ⟨rfl, h4⟩
  have b4 := AA.out.trans (h4.mono AA.out.size)
  have T4 := hide (TT.out.step h4)
  have A4 := hide b4
  clear h4 TT AA G4 k0 k1 k2 k3 k4 k5 k6 kf klt
  have G5 := hide (CA.out _ (HL.out _ b4))
  clear b4
  go_wp2_with fail
  with_reducible refine G5.out.mono ?_
  rintro e w5 ⟨rfl, h5⟩
  have b5 := A4.out.trans (h5.mono A4.out.size)
  go_wp2
  go_ret
  exact ⟨rfl, b5⟩
set_option maxRecDepth 100000 in
set_option maxHeartbeats 6400000 in
theorem Round_c (sec y m d h mi s n : Int) (w : World) (l : Laid5 w) (hr : ¬ (-8000000000 ≤ sec ∧ sec ≤ 8000000000)) (hv : Valid y m d h mi s n) (hq : -8000000000 ≤ secN y m d h mi s ∧ secN y m d h mi s ≤ 8000000000) :
    Calls Tryd.prog 10 #[.int .i64 sec, .agg #[.int .i64 y, .int .i64 m, .int .i64 d, .int .i64 h, .int .i64 mi, .int .i64 s, .int .i64 n]] w fun e w' => e = .returned (.bool true) ∧ Below w.heap.size w w' := by
  have b0 : Below w.heap.size w (w.alloc (.cells #[.int .i64 y, .int .i64 m, .int .i64 d, .int .i64 h, .int .i64 mi, .int .i64 s, .int .i64 n] 23)) := (Below.refl _ _).alloc (Nat.le_refl _) _
  have HL := hide (fun W (q : Below w.heap.size w W) => l.step q)
  have HB0 := hide b0
  have T0 := hide (Box7.new w y m d h mi s n)
  have CA := hide awake_any
  have CS := fun W (q : Laid W) => Seconds_any y m d h mi s n W q
  have c1 := Of_bad sec (w.alloc (.cells #[.int .i64 y, .int .i64 m, .int .i64 d, .int .i64 h, .int .i64 mi, .int .i64 s, .int .i64 n] 23)) hr
  unfold zeroV at c1
  obtain ⟨MM, rfl⟩ : ∃ MM : Nat, m = (MM : Int) := ⟨m.toNat, by have := hv.m1; omega⟩
  obtain ⟨e1, e2⟩ := secV_of hv hq
  have cX := fun W (q : Laid W) => Of_ok (secN y (MM : Int) d h mi s) W q hq
  rw [sec_back hv] at cX
  rw [e1, e2] at CS
  have CX := hide cX
  have CSS := hide CS
  generalize secN y (MM : Int) d h mi s = t at *
  clear cX CS e1 e2 hv hq
  have C1 := hide c1
  clear c1 b0 l
  have hs : sec < -8000000000 ∨ 8000000000 < sec := by omega
  clear hr
  rcases hs with hs | hs
  all_goals
    go_enter Tryd.func10, Tryd.ntmps10
    go_wp2_with fail
    with_reducible refine C1.out.mono ?_
    rintro e w1 ⟨rfl, h1⟩
    have a1 := HB0.out.trans (h1.mono HB0.out.size)
    have a2 := a1.alloc a1.size (.cells #[.int .i64 0, .int .i64 0, .int .i64 0, .int .i64 0, .int .i64 0, .int .i64 0, .int .i64 0] 23)
    have T1 := hide (step_alloc (T0.out.step h1) (.cells #[.int .i64 0, .int .i64 0, .int .i64 0, .int .i64 0, .int .i64 0, .int .i64 0, .int .i64 0] 23))
    have A1 := hide a2
    clear a1 h1 T0 HB0 C1
    have TT := T1
    have AA := A1
    clear a2
    obtain ⟨k0, k1, k2, k3, k4, k5, k6, kf, klt⟩ := TT.out
    have G4 := hide (CSS.out _ (HL.out _ AA.out).laid)
    go_wp2_with fail
    with_reducible refine G4.out.mono ?_
    rintro e w4 ⟨rfl, h4⟩
    have b4 := AA.out.trans (h4.mono AA.out.size)
    have T4 := hide (TT.out.step h4)
    have A4 := hide b4
    clear h4 TT AA G4 k0 k1 k2 k3 k4 k5 k6 kf klt
    have G5 := hide (CX.out _ (HL.out _ b4).laid)
    clear b4
    go_wp2_with fail
    with_reducible refine G5.out.mono ?_
    rintro e w5 ⟨rfl, h5⟩
    have b5 := A4.out.trans (h5.mono A4.out.size)
    obtain ⟨k0, k1, k2, k3, k4, k5, k6, kf, klt⟩ := T4.out.step h5
    have b7 := (b5.setCell (p := ⟨w.heap.size, 6, none⟩) (Nat.le_refl _) (.int .i64 0)).alloc (by simpa using b5.size) (.cells #[.int .i64 y, .int .i64 MM, .int .i64 d, .int .i64 h, .int .i64 mi, .int .i64 s, .int .i64 0] 23)
    have B7 := hide b7
    have G7 := hide (CA.out _ (HL.out _ b7))
    clear b5 T4 A4 h5 G5 b7
    go_wp2_with fail
    with_reducible refine G7.out.mono ?_
    rintro e w6 ⟨rfl, h6⟩
    have B8 := hide (B7.out.trans (h6.mono B7.out.size))
    go_wp2
    go_ret
    exact ⟨rfl, B8.out⟩
set_option maxRecDepth 100000 in
set_option maxHeartbeats 6400000 in
theorem Round_d (sec y m d h mi s n : Int) (w : World) (l : Laid5 w) (hr : ¬ (-8000000000 ≤ sec ∧ sec ≤ 8000000000)) (he : secV y m d h mi s n = 0 ∧ secE y m d h mi s n = 3) :
    Calls Tryd.prog 10 #[.int .i64 sec, .agg #[.int .i64 y, .int .i64 m, .int .i64 d, .int .i64 h, .int .i64 mi, .int .i64 s, .int .i64 n]] w fun e w' => e = .returned (.bool true) ∧ Below w.heap.size w w' := by
  have b0 : Below w.heap.size w (w.alloc (.cells #[.int .i64 y, .int .i64 m, .int .i64 d, .int .i64 h, .int .i64 mi, .int .i64 s, .int .i64 n] 23)) := (Below.refl _ _).alloc (Nat.le_refl _) _
  have HL := hide (fun W (q : Below w.heap.size w W) => l.step q)
  have HB0 := hide b0
  have T0 := hide (Box7.new w y m d h mi s n)
  have CA := hide awake_any
  have CS := fun W (q : Laid W) => Seconds_any y m d h mi s n W q
  have c1 := Of_bad sec (w.alloc (.cells #[.int .i64 y, .int .i64 m, .int .i64 d, .int .i64 h, .int .i64 mi, .int .i64 s, .int .i64 n] 23)) hr
  unfold zeroV at c1
  rw [he.1, he.2] at CS
  have CSS := hide CS
  clear CS he
  have C1 := hide c1
  clear c1 b0 l
  have hs : sec < -8000000000 ∨ 8000000000 < sec := by omega
  clear hr
  rcases hs with hs | hs
  all_goals
    go_enter Tryd.func10, Tryd.ntmps10
    go_wp2_with fail
    with_reducible refine C1.out.mono ?_
    rintro e w1 ⟨rfl, h1⟩
    have a1 := HB0.out.trans (h1.mono HB0.out.size)
    have a2 := a1.alloc a1.size (.cells #[.int .i64 0, .int .i64 0, .int .i64 0, .int .i64 0, .int .i64 0, .int .i64 0, .int .i64 0] 23)
    have T1 := hide (step_alloc (T0.out.step h1) (.cells #[.int .i64 0, .int .i64 0, .int .i64 0, .int .i64 0, .int .i64 0, .int .i64 0, .int .i64 0] 23))
    have A1 := hide a2
    clear a1 h1 T0 HB0 C1
    have TT := T1
    have AA := A1
    clear a2
    obtain ⟨k0, k1, k2, k3, k4, k5, k6, kf, klt⟩ := TT.out
    have G4 := hide (CSS.out _ (HL.out _ AA.out).laid)
    go_wp2_with fail
    with_reducible refine G4.out.mono ?_
    rintro e w4 ⟨rfl, h4⟩
    have b4 := AA.out.trans (h4.mono AA.out.size)
    have T4 := hide (TT.out.step h4)
    have A4 := hide b4
    clear h4 TT AA G4 k0 k1 k2 k3 k4 k5 k6 kf klt
    have G5 := hide (CA.out _ (HL.out _ b4))
    clear b4
    go_wp2_with fail
    with_reducible refine G5.out.mono ?_
    rintro e w5 ⟨rfl, h5⟩
    have b5 := A4.out.trans (h5.mono A4.out.size)
    go_wp2
    go_ret
    exact ⟨rfl, b5⟩
theorem CivilRoundTrip_walk (sec y m d h mi s n : Int) (w : World) (l : Laid5 w) :
    Calls Tryd.prog 10 #[.int .i64 sec, .agg #[.int .i64 y, .int .i64 m, .int .i64 d, .int .i64 h, .int .i64 mi, .int .i64 s, .int .i64 n]] w fun e w' => e = .returned (.bool true) ∧ Below w.heap.size w w' := by
  by_cases hr : -8000000000 ≤ sec ∧ sec ≤ 8000000000
  · rcases secE_cases y m d h mi s n with ⟨_, v, q, _⟩ | ⟨e1, e2⟩
    · exact Round_a sec y m d h mi s n w l hr v q
    · exact Round_b sec y m d h mi s n w l hr ⟨e2, e1⟩
  · rcases secE_cases y m d h mi s n with ⟨_, v, q, _⟩ | ⟨e1, e2⟩
    · exact Round_c sec y m d h mi s n w l hr v q
    · exact Round_d sec y m d h mi s n w l hr ⟨e2, e1⟩
end Go.Proofs.YtbhpceghgjognaaDoor.Civ
