
/- The walk of the law LeapvoteArms. -/
import Derived.Test.YtbekfofakpbhiaaDoorVotR
import Derived.Test.YtbekfofakpbhiaaDoorKp
namespace Go.Proofs.YtbekfofakpbhiaaDoor.Vot
open Go.RowKit Aid Civ Leap App Smr
set_option maxRecDepth 100000 in
theorem LeapvoteArms_long (B X : Int) (a : Option Addr) (n cap : Nat) (u : Int) (b : Bool) (w : World) (hn : 80 < n) (hn2 : n ≤ 9223372036854775807) (l : Laid w) :
    Calls Tryd.prog 7 #[.agg #[.int .i64 B, .int .i64 X, .slice a n cap], .int .i64 u, .bool b] w fun e w' => e = .returned (.bool true) ∧ Below w.heap.size w w' := by
  have hb : Below w.heap.size w (w.alloc (.cells #[.int .i64 B, .int .i64 X, .slice a n cap] 43)) := (Below.refl _ _).alloc (Nat.le_refl _) _
  have CW := hide (awake_any _ (l.step hb))
  have HB := hide hb
  have hq : 80 < (n : Int) := by omega
  clear hb l
  go_enter Tryd.func7, Tryd.ntmps7
  go_wp2_with fail
  refine CW.out.mono ?_
  rintro e w1 ⟨rfl, b1⟩
  have HF := hide (HB.out.trans (b1.mono (by simp)))
  clear b1
  go_wp2
  go_ret
  exact ⟨rfl, HF.out⟩
/-- the voter with one vote, asked at once -/
noncomputable def oneS (k u : Int) : Vt := (Vt.new 1).next 0 k u

set_option maxRecDepth 100000 in
set_option maxHeartbeats 12800000 in
theorem LeapvoteArms_t (B X : Int) (a : Option Addr) (n cap : Nat) (A O : Nat → Int) (u : Int) (w : World) (hr : Ents w a n A O) (hn : n ≤ 80) (l : Laid w) :
    Calls Tryd.prog 7 #[.agg #[.int .i64 B, .int .i64 X, .slice a n cap], .int .i64 u, .bool true] w fun e w' => e = .returned (.bool true) ∧ Below w.heap.size w w' := by
  have hn2 : (n : Int) ≤ 80 := by omega
  obtain ⟨W0, hW0⟩ : ∃ W0, W0 = w.alloc (.cells #[.int .i64 B, .int .i64 X, .slice a n cap] 43) := ⟨_, rfl⟩
  have HH := hide hW0
  have HB : Hid (Below w.heap.size w W0) := hide (by rw [hW0]; exact (Below.refl _ _).alloc (Nat.le_refl _) _)
  have hz0 : W0.heap.size = w.heap.size + 1 := by rw [hW0]; simp
  have k0 : W0.cell? ⟨w.heap.size, 0, none⟩ = some (.int .i64 B) := by rw [hW0]; simp [go_sem]
  have k1 : W0.cell? ⟨w.heap.size, 1, none⟩ = some (.int .i64 X) := by rw [hW0]; simp [go_sem]
  have k2 : W0.cell? ⟨w.heap.size, 2, none⟩ = some (.slice a n cap) := by rw [hW0]; simp [go_sem]
  have HK := hide (fun V (q : Below W0.heap.size W0 V) => And.intro ((q.cell (p := ⟨w.heap.size, 0, none⟩) (by dsimp only; omega)).trans k0) (And.intro ((q.cell (p := ⟨w.heap.size, 1, none⟩) (by dsimp only; omega)).trans k1) ((q.cell (p := ⟨w.heap.size, 2, none⟩) (by dsimp only; omega)).trans k2)))
  have LL := hide (fun V (q : Below W0.heap.size W0 V) => l.step (HB.out.trans (q.mono HB.out.size)))
  have HR := hide (fun V (q : Below W0.heap.size W0 V) => hr.below (HB.out.trans (q.mono HB.out.size)))
  have CW := hide (fun V (q : Below W0.heap.size W0 V) => awake_any V (LL.out V q))
  have C1 := hide (PNew_ok 1 W0 (by decide) (by decide))
  have hkk : (1 : Int) = 1 ∨ (1 : Int) = 2 := by decide
  have HI := hide ((Inv.new (n := 1) (by decide) (by decide)).next 0 1 u)
  have CV := hide (fun W g (h : PAt W g (.new 1)) => PVote_any (.new 1) g 0 1 u W h (Inv.new (by decide) (by decide)))
  have hve : vErr (.new 1) 0 1 u = if -8000000000 ≤ u ∧ u ≤ 8000000000 then 0 else 3 := by
    unfold vErr
    by_cases q : -8000000000 ≤ u ∧ u ≤ 8000000000
    · rw [if_pos q, if_pos ⟨by decide, by decide, by omega, by omega, q.1, q.2⟩, if_neg (fun z => by cases z.1)]
    · rw [if_neg q, if_neg (fun z => q ⟨z.2.2.2.2.1, z.2.2.2.2.2⟩)]
  rw [hve] at CV
  have hdec : (-8000000000 ≤ u ∧ u ≤ 8000000000) → dec (oneS 1 u) u = 1 := fun q => dec_one hkk q
  have HDEC := hide hdec
  have HABD := hide (arm_bd (s := oneS 1 u) (u := u))
  obtain ⟨s1, hs1⟩ : ∃ s, s = oneS 1 u := ⟨_, rfl⟩
  rw [show (Vt.new 1).next 0 1 u = oneS 1 u from rfl, ← hs1] at HI CV
  rw [← hs1] at HDEC HABD
  clear hW0 hr l hve hdec hs1 k0 k1 k2 hkk
  all_goals
    go_enter Tryd.func7, Tryd.ntmps7
    go_upto_region 1 with fail
    rw [← HH.out]
    obtain ⟨k0, k1, k2⟩ := HK.out _ (Below.refl _ _)
    go_wp2_with fail
    refine C1.out.mono ?_
    rintro e w1 ⟨g, rfl, hg, hp, b1⟩
    have hgl := hp.lt
    have HV := hide (CV.out w1 g hp)
    have HB1 := hide b1
    clear hp b1 k0 k1 k2 CV C1
    by_cases hu : -8000000000 ≤ u ∧ u ≤ 8000000000
    · have hd := HDEC.out hu
      rw [if_pos hu] at HV
      have HU := hide hu
      clear hu
      go_wp2_with fail
      refine HV.out.mono ?_
      rintro e w2 ⟨rfl, hg2, hp2⟩
      have b2 := below_only HB1.out hg2 HB1.out.size hg
      have CA := hide (Arm_any s1 g u w2 (LL.out _ b2) hp2 HI.out)
      obtain ⟨ea, hea⟩ : ∃ x, x = armA s1 u := ⟨_, rfl⟩
      obtain ⟨ef, hef⟩ : ∃ x, x = armO s1 u := ⟨_, rfl⟩
      obtain ⟨ab, hab⟩ : ∃ x, x = armB s1 u := ⟨_, rfl⟩
      rw [← hea, ← hef, ← hab] at CA HABD
      rw [hd] at HABD
      have HB2 := hide b2
      clear HV hg2 hp2 b2 hea hef hab hd
      go_wp2_with fail
      refine CA.out.mono ?_
      rintro e w3 ⟨rfl, b3⟩
      have HB3 := hide (HB2.out.trans (b3.mono HB2.out.size))
      clear b3 CA
      obtain ⟨W4, hW4⟩ : ∃ W4, W4 = w3.alloc (.cells #[.int .i64 ea, .int .i64 ef] 36) := ⟨_, rfl⟩
      have hz4 : W4.heap.size = w3.heap.size + 1 := by rw [hW4]; simp
      have b4 : Below W0.heap.size W0 W4 := by rw [hW4]; exact HB3.out.alloc HB3.out.size _
      have e0 : W4.cell? ⟨w3.heap.size, 0, none⟩ = some (.int .i64 ea) := by rw [hW4]; simp [go_sem]
      have e1 : W4.cell? ⟨w3.heap.size, 1, none⟩ = some (.int .i64 ef) := by rw [hW4]; simp [go_sem]
      obtain ⟨k0, k1, k2⟩ := HK.out _ HB3.out
      have HB4 := hide b4
      have hs3 := HB3.out.size
      have hw3 : w.heap.size < w3.heap.size := by omega
      have HE0 := hide e0
      have HE1 := hide e1
      clear e0 e1
      cases ab
      · have CX := hide (CW.out _ b4)
        have H4 := hide hW4
        clear hW4 b4
        go_wp2_with fail
        rw [← H4.out]
        refine CX.out.mono ?_
        rintro e w5 ⟨rfl, b5⟩
        have HF := hide (HB.out.trans ((HB4.out.trans (b5.mono HB4.out.size)).mono HB.out.size))
        clear b5 k0 k1 k2
        go_wp2
        go_ret
        exact ⟨rfl, HF.out⟩
      · obtain ⟨_, _, q0, q2, q3⟩ := HABD.out rfl
        have CE := hide (PExt_any B X a n cap A O ea ef W4 (LL.out _ b4) (HR.out _ b4))
        have H4 := hide hW4
        have q1 : ef = (1) := q0.trans (by decide)
        clear q0
        have w5 : wrap64 (u + 2678400) = u + 2678400 := IntWalk.wrap64_in _ (by have := HU.out; omega)
        subst q1
        clear hW4 b4 HABD
        by_cases hE : extE B X A O n ea (1) = 0
        · have E := extE_ok hE
          have xB : eB B X A O n ea (1) = B := by unfold eB; rw [if_pos hE]
          have xX : eX B X A O n ea (1) = max X (ea + 1) := by unfold eX; rw [if_pos hE]
          have xN : eN B X A O n ea (1) = n + 1 := by unfold eN; rw [if_pos hE]
          unfold ExtAny at CE
          rw [xB, xX, xN, hE] at CE
          obtain ⟨eb1, eb2⟩ := beg_bd E.b
          have zb : -1000 ≤ offC B X A O n (ea - 1) ∧ offC B X A O n (ea - 1) ≤ 1000 := by
            unfold offC
            rw [if_pos E.c]
            exact offP_bd (chkT_ok E.c).b (chkT_ok E.c).o (plc_le _ _ _)
          have CK := fun V p c (h : Ents V p (n + 1) (upd A n ea) (upd O n (oldO B O n + (1)))) (q : Laid V) => Check_any B (max X (ea + 1)) p (n + 1) c (upd A n ea) (upd O n (oldO B O n + (1))) V q h
          rw [E.check] at CK
          have CO := fun V p c (h : Ents V p (n + 1) (upd A n ea) (upd O n (oldO B O n + (1)))) (q : Laid V) v => Offset_any B (max X (ea + 1)) p (n + 1) c (upd A n ea) (upd O n (oldO B O n + (1))) v V q h
          have CO1 := fun V p c h q => CO V p c h q (ea - 1)
          have CO2 := fun V p c h q => CO V p c h q ea
          have CO4 := fun V p c h q => CO V p c h q u
          rw [off_before E (by omega)] at CO1
          rw [off_after E] at CO2
          rw [off_before E q2] at CO4
          have CO3 := fun V (q : Below W0.heap.size W0 V) => Offset_any B X a n cap A O (ea - 1) V (LL.out V q) (HR.out V q)
          have CO5 := fun V (q : Below W0.heap.size W0 V) => Offset_any B X a n cap A O u V (LL.out V q) (HR.out V q)
          obtain ⟨M, hM⟩ : ∃ M, M = max X (ea + 1) := ⟨_, rfl⟩
          have hMe : ea < M := by omega
          obtain ⟨z, hz⟩ : ∃ z, z = offC B X A O n (ea - 1) := ⟨_, rfl⟩
          obtain ⟨y, hy⟩ : ∃ z, z = offC B X A O n u := ⟨_, rfl⟩
          rw [← hM] at CE CK CO1 CO2 CO4
          rw [← hz] at CO1 CO2 CO3 zb
          rw [← hy] at CO4 CO5
          obtain ⟨zb1, zb2⟩ := zb
          have HCK := hide CK
          have HO1 := hide CO1
          have HO2 := hide CO2
          have HO3 := hide CO3
          have HO4 := hide CO4
          have HO5 := hide CO5
          clear CK CO CO1 CO2 CO3 CO4 CO5 hM hz hy xB xX xN hE E
          go_wp2_with fail
          rw [← H4.out]
          refine CE.out.mono ?_
          rintro e w5 ⟨⟨p, c, rfl, he⟩, b5⟩
          have f0 := (b5.cell (p := ⟨w3.heap.size, 0, none⟩) (by dsimp only; omega)).trans HE0.out
          have f1 := (b5.cell (p := ⟨w3.heap.size, 1, none⟩) (by dsimp only; omega)).trans HE1.out
          have hs5 := b5.size
          have q5 := HB4.out.trans (b5.mono HB4.out.size)
          clear k0 k1 k2
          have hs6 := q5.size
          obtain ⟨W6, hW6⟩ : ∃ W6, W6 = w5.alloc (.cells #[.int .i64 B, .int .i64 M, .slice p (n + 1) c] 43) := ⟨_, rfl⟩
          have hz6 : W6.heap.size = w5.heap.size + 1 := by rw [hW6]; simp
          have g6 : Below w5.heap.size w5 W6 := by rw [hW6]; exact (Below.refl _ _).alloc (Nat.le_refl _) _
          have q6 : Below W0.heap.size W0 W6 := q5.trans (g6.mono hs6)
          have t0 : W6.cell? ⟨w5.heap.size, 0, none⟩ = some (.int .i64 B) := by rw [hW6]; simp [go_sem]
          have t1 : W6.cell? ⟨w5.heap.size, 1, none⟩ = some (.int .i64 M) := by rw [hW6]; simp [go_sem]
          have t2 : W6.cell? ⟨w5.heap.size, 2, none⟩ = some (.slice p (n + 1) c) := by rw [hW6]; simp [go_sem]
          have f0 := (g6.cell (p := ⟨w3.heap.size, 0, none⟩) (by dsimp only; omega)).trans f0
          have f1 := (g6.cell (p := ⟨w3.heap.size, 1, none⟩) (by dsimp only; omega)).trans f1
          obtain ⟨k0, k1, k2⟩ := HK.out _ q6
          have hw6 : w.heap.size < W6.heap.size := by omega
          have hw63 : w3.heap.size < W6.heap.size := by omega
          have HKK := hide (fun V (q : Below W6.heap.size W6 V) => And.intro ((q.cell (p := ⟨w5.heap.size, 0, none⟩) (by dsimp only; omega)).trans t0) (And.intro ((q.cell (p := ⟨w5.heap.size, 1, none⟩) (by dsimp only; omega)).trans t1) (And.intro ((q.cell (p := ⟨w5.heap.size, 2, none⟩) (by dsimp only; omega)).trans t2)
            (And.intro ((q.cell (p := ⟨w3.heap.size, 0, none⟩) (by dsimp only; omega)).trans f0) (And.intro ((q.cell (p := ⟨w3.heap.size, 1, none⟩) (by dsimp only; omega)).trans f1) (And.intro ((q.cell (p := ⟨w.heap.size, 0, none⟩) (by dsimp only; omega)).trans k0) (And.intro ((q.cell (p := ⟨w.heap.size, 1, none⟩) (by dsimp only; omega)).trans k1) (And.intro ((q.cell (p := ⟨w.heap.size, 2, none⟩) (by dsimp only; omega)).trans k2) q))))))))
          have HE6 := hide (he.below g6)
          have HL6 := hide (fun V (q : Below W6.heap.size W6 V) => LL.out V (q6.trans (q.mono q6.size)))
          have P1 := hide (based (Nat.le_refl _) fun V (q : Below W6.heap.size W6 V) => HCK.out V p c (HE6.out.below q) (HL6.out V q))
          have O1 := hide (based (Nat.le_refl _) fun V (q : Below W6.heap.size W6 V) => HO1.out V p c (HE6.out.below q) (HL6.out V q))
          have O2 := hide (based (Nat.le_refl _) fun V (q : Below W6.heap.size W6 V) => HO2.out V p c (HE6.out.below q) (HL6.out V q))
          have O3 := hide (based (Nat.le_refl _) fun V (q : Below W6.heap.size W6 V) => HO3.out V (q6.trans (q.mono q6.size)))
          have O4 := hide (based (Nat.le_refl _) fun V (q : Below W6.heap.size W6 V) => HO4.out V p c (HE6.out.below q) (HL6.out V q))
          have O5 := hide (based (Nat.le_refl _) fun V (q : Below W6.heap.size W6 V) => HO5.out V (q6.trans (q.mono q6.size)))
          have P2 := hide (based (Nat.le_refl _) fun V (q : Below W6.heap.size W6 V) => CW.out V (q6.trans (q.mono q6.size)))
          have HQ6 := hide q6
          have H6 := hide hW6
          have v1 : wrap64 (ea - 1) = ea - 1 := IntWalk.wrap64_in _ (by omega)
          have v6 : (z + (1) - z == (1)) = true := by rw [beq_iff_eq]; omega
          clear he b5 q5 g6 q6 hW6 t0 t1 t2 f0 f1 k0 k1 k2 HCK HO1 HO2 HO3 HO4 HO5 CE
          obtain ⟨t0, t1, t2, f0, f1, k0, k1, k2, _⟩ := HKK.out _ (Below.refl _ _)
          go_wp2_with fail
          rw [← H6.out]
          with_reducible refine (P1.out _ (Below.refl _ _)).mono ?_
          rintro e w7 ⟨rfl, b7⟩
          clear t0 t1 t2 f0 f1 k0 k1 k2
          obtain ⟨t0, t1, t2, f0, f1, k0, k1, k2, _⟩ := HKK.out _ b7
          go_wp2_with fail
          clear t0 t1 t2 f0 f1 k0 k1 k2
          have hne := lt_some W6
          have y0 := fun V : Lt W6 => (HKK.out _ V.h).1
          have y1 := fun V : Lt W6 => (HKK.out _ V.h).2.1
          have y2 := fun V : Lt W6 => (HKK.out _ V.h).2.2.1
          have y3 := fun V : Lt W6 => (HKK.out _ V.h).2.2.2.1
          refine region_lt W6 (by kernel_rfl) (by kernel_rfl) (by assumption) ?_
          repeat (first | go_big_quiet_step (first | (go_at_call 23; with_reducible exact call_lt (O1.out _ (Lt.h _))) | (go_at_call 23; with_reducible exact call_lt (O2.out _ (Lt.h _)))) | quiet_step (first | (go_at_call 23; with_reducible exact call_lt (O1.out _ (Lt.h _))) | (go_at_call 23; with_reducible exact call_lt (O2.out _ (Lt.h _)))))
          refine wpQuiet_nil ?_
          intro _ hw'
          obtain ⟨V, rfl⟩ := hw'
          have bV := V.h
          obtain ⟨W7, hW7⟩ : ∃ W7, W7 = V.w := ⟨_, rfl⟩
          rw [← hW7] at bV ⊢
          clear hW7 V hne y0 y1 y2 y3
          clear b7
          have b7 := bV
          clear bV
          go_wp2_with fail
          have hne := lt_some W6
          have y0 := fun V : Lt W6 => (HKK.out _ V.h).1
          have y1 := fun V : Lt W6 => (HKK.out _ V.h).2.1
          have y2 := fun V : Lt W6 => (HKK.out _ V.h).2.2.1
          have y3 := fun V : Lt W6 => (HKK.out _ V.h).2.2.2.1
          have y4 := fun V : Lt W6 => (HKK.out _ V.h).2.2.2.2.1
          have y5 := fun V : Lt W6 => (HKK.out _ V.h).2.2.2.2.2.1
          have y6 := fun V : Lt W6 => (HKK.out _ V.h).2.2.2.2.2.2.1
          have y7 := fun V : Lt W6 => (HKK.out _ V.h).2.2.2.2.2.2.2.1
          refine region_lt W6 (by kernel_rfl) (by kernel_rfl) (by assumption) ?_
          repeat (first | go_big_quiet_step (first | (go_at_call 23; with_reducible exact call_lt (O3.out _ (Lt.h _))) | (go_at_call 23; with_reducible exact call_lt (O4.out _ (Lt.h _))) | (go_at_call 23; with_reducible exact call_lt (O5.out _ (Lt.h _))) | (go_at_call 8; with_reducible exact call_lt (P2.out _ (Lt.h _)))) | quiet_step (first | (go_at_call 23; with_reducible exact call_lt (O3.out _ (Lt.h _))) | (go_at_call 23; with_reducible exact call_lt (O4.out _ (Lt.h _))) | (go_at_call 23; with_reducible exact call_lt (O5.out _ (Lt.h _))) | (go_at_call 8; with_reducible exact call_lt (P2.out _ (Lt.h _)))))
          refine wpQuiet_nil ?_
          intro _ hw'
          obtain ⟨V, rfl⟩ := hw'
          have bV := V.h
          obtain ⟨W7, hW7⟩ : ∃ W7, W7 = V.w := ⟨_, rfl⟩
          rw [← hW7] at bV ⊢
          clear hW7 V hne y0 y1 y2 y3 y4 y5 y6 y7
          clear b7
          have HF := hide (HB.out.trans ((HQ6.out.trans (bV.mono HQ6.out.size)).mono HB.out.size))
          clear bV
          go_wp2
          go_ret
          exact ⟨rfl, HF.out⟩
        · have xN : eN B X A O n ea (1) = 0 := by unfold eN; rw [if_neg hE]
          unfold ExtAny at CE
          rw [xN] at CE
          have hE2 : (extE B X A O n ea (1) != 0) = true := by simpa using hE
          obtain ⟨v, hv⟩ : ∃ v, v = extE B X A O n ea (1) := ⟨_, rfl⟩
          rw [← hv] at CE hE2
          generalize eB B X A O n ea (1) = B' at CE
          generalize eX B X A O n ea (1) = X' at CE
          clear hv hE xN
          go_wp2_with fail
          rw [← H4.out]
          refine CE.out.mono ?_
          rintro e w5 ⟨⟨p, c, rfl, he⟩, b5⟩
          have q5 := HB4.out.trans (b5.mono HB4.out.size)
          have q6 : Below W0.heap.size W0 (w5.alloc (.cells #[.int .i64 B', .int .i64 X', .slice p 0 c] 43)) := q5.alloc q5.size _
          have CX := hide (CW.out _ q6)
          have HQ6 := hide q6
          clear he b5 q5 q6 k0 k1 k2 CE
          go_wp2_with fail
          refine CX.out.mono ?_
          rintro e w7 ⟨rfl, b7⟩
          have HF := hide (HB.out.trans ((HQ6.out.trans (b7.mono HQ6.out.size)).mono HB.out.size))
          clear b7
          go_wp2
          go_ret
          exact ⟨rfl, HF.out⟩
    · have hv3 : (if -8000000000 ≤ u ∧ u ≤ 8000000000 then (0 : Int) else 3) = 3 := if_neg hu
      rw [hv3] at HV
      clear hu hv3
      go_wp2_with fail
      refine HV.out.mono ?_
      rintro e w2 ⟨rfl, hg2, hp2⟩
      have b2 := below_only HB1.out hg2 HB1.out.size hg
      have CX := hide (CW.out _ b2)
      have HB2 := hide b2
      clear HV hg2 hp2 b2
      go_wp2_with fail
      refine CX.out.mono ?_
      rintro e w5 ⟨rfl, b5⟩
      have HF := hide (HB.out.trans ((HB2.out.trans (b5.mono HB2.out.size)).mono HB.out.size))
      clear b5
      go_wp2
      go_ret
      exact ⟨rfl, HF.out⟩

set_option maxRecDepth 100000 in
set_option maxHeartbeats 12800000 in
theorem LeapvoteArms_f (B X : Int) (a : Option Addr) (n cap : Nat) (A O : Nat → Int) (u : Int) (w : World) (hr : Ents w a n A O) (hn : n ≤ 80) (l : Laid w) :
    Calls Tryd.prog 7 #[.agg #[.int .i64 B, .int .i64 X, .slice a n cap], .int .i64 u, .bool false] w fun e w' => e = .returned (.bool true) ∧ Below w.heap.size w w' := by
  have hn2 : (n : Int) ≤ 80 := by omega
  obtain ⟨W0, hW0⟩ : ∃ W0, W0 = w.alloc (.cells #[.int .i64 B, .int .i64 X, .slice a n cap] 43) := ⟨_, rfl⟩
  have HH := hide hW0
  have HB : Hid (Below w.heap.size w W0) := hide (by rw [hW0]; exact (Below.refl _ _).alloc (Nat.le_refl _) _)
  have hz0 : W0.heap.size = w.heap.size + 1 := by rw [hW0]; simp
  have k0 : W0.cell? ⟨w.heap.size, 0, none⟩ = some (.int .i64 B) := by rw [hW0]; simp [go_sem]
  have k1 : W0.cell? ⟨w.heap.size, 1, none⟩ = some (.int .i64 X) := by rw [hW0]; simp [go_sem]
  have k2 : W0.cell? ⟨w.heap.size, 2, none⟩ = some (.slice a n cap) := by rw [hW0]; simp [go_sem]
  have HK := hide (fun V (q : Below W0.heap.size W0 V) => And.intro ((q.cell (p := ⟨w.heap.size, 0, none⟩) (by dsimp only; omega)).trans k0) (And.intro ((q.cell (p := ⟨w.heap.size, 1, none⟩) (by dsimp only; omega)).trans k1) ((q.cell (p := ⟨w.heap.size, 2, none⟩) (by dsimp only; omega)).trans k2)))
  have LL := hide (fun V (q : Below W0.heap.size W0 V) => l.step (HB.out.trans (q.mono HB.out.size)))
  have HR := hide (fun V (q : Below W0.heap.size W0 V) => hr.below (HB.out.trans (q.mono HB.out.size)))
  have CW := hide (fun V (q : Below W0.heap.size W0 V) => awake_any V (LL.out V q))
  have C1 := hide (PNew_ok 1 W0 (by decide) (by decide))
  have hkk : (2 : Int) = 1 ∨ (2 : Int) = 2 := by decide
  have HI := hide ((Inv.new (n := 1) (by decide) (by decide)).next 0 2 u)
  have CV := hide (fun W g (h : PAt W g (.new 1)) => PVote_any (.new 1) g 0 2 u W h (Inv.new (by decide) (by decide)))
  have hve : vErr (.new 1) 0 2 u = if -8000000000 ≤ u ∧ u ≤ 8000000000 then 0 else 3 := by
    unfold vErr
    by_cases q : -8000000000 ≤ u ∧ u ≤ 8000000000
    · rw [if_pos q, if_pos ⟨by decide, by decide, by omega, by omega, q.1, q.2⟩, if_neg (fun z => by cases z.1)]
    · rw [if_neg q, if_neg (fun z => q ⟨z.2.2.2.2.1, z.2.2.2.2.2⟩)]
  rw [hve] at CV
  have hdec : (-8000000000 ≤ u ∧ u ≤ 8000000000) → dec (oneS 2 u) u = 2 := fun q => dec_one hkk q
  have HDEC := hide hdec
  have HABD := hide (arm_bd (s := oneS 2 u) (u := u))
  obtain ⟨s1, hs1⟩ : ∃ s, s = oneS 2 u := ⟨_, rfl⟩
  rw [show (Vt.new 1).next 0 2 u = oneS 2 u from rfl, ← hs1] at HI CV
  rw [← hs1] at HDEC HABD
  clear hW0 hr l hve hdec hs1 k0 k1 k2 hkk
  all_goals
    go_enter Tryd.func7, Tryd.ntmps7
    go_upto_region 1 with fail
    rw [← HH.out]
    obtain ⟨k0, k1, k2⟩ := HK.out _ (Below.refl _ _)
    go_wp2_with fail
    refine C1.out.mono ?_
    rintro e w1 ⟨g, rfl, hg, hp, b1⟩
    have hgl := hp.lt
    have HV := hide (CV.out w1 g hp)
    have HB1 := hide b1
    clear hp b1 k0 k1 k2 CV C1
    by_cases hu : -8000000000 ≤ u ∧ u ≤ 8000000000
    · have hd := HDEC.out hu
      rw [if_pos hu] at HV
      have HU := hide hu
      clear hu
      go_wp2_with fail
      refine HV.out.mono ?_
      rintro e w2 ⟨rfl, hg2, hp2⟩
      have b2 := below_only HB1.out hg2 HB1.out.size hg
      have CA := hide (Arm_any s1 g u w2 (LL.out _ b2) hp2 HI.out)
      obtain ⟨ea, hea⟩ : ∃ x, x = armA s1 u := ⟨_, rfl⟩
      obtain ⟨ef, hef⟩ : ∃ x, x = armO s1 u := ⟨_, rfl⟩
      obtain ⟨ab, hab⟩ : ∃ x, x = armB s1 u := ⟨_, rfl⟩
      rw [← hea, ← hef, ← hab] at CA HABD
      rw [hd] at HABD
      have HB2 := hide b2
      clear HV hg2 hp2 b2 hea hef hab hd
      go_wp2_with fail
      refine CA.out.mono ?_
      rintro e w3 ⟨rfl, b3⟩
      have HB3 := hide (HB2.out.trans (b3.mono HB2.out.size))
      clear b3 CA
      obtain ⟨W4, hW4⟩ : ∃ W4, W4 = w3.alloc (.cells #[.int .i64 ea, .int .i64 ef] 36) := ⟨_, rfl⟩
      have hz4 : W4.heap.size = w3.heap.size + 1 := by rw [hW4]; simp
      have b4 : Below W0.heap.size W0 W4 := by rw [hW4]; exact HB3.out.alloc HB3.out.size _
      have e0 : W4.cell? ⟨w3.heap.size, 0, none⟩ = some (.int .i64 ea) := by rw [hW4]; simp [go_sem]
      have e1 : W4.cell? ⟨w3.heap.size, 1, none⟩ = some (.int .i64 ef) := by rw [hW4]; simp [go_sem]
      obtain ⟨k0, k1, k2⟩ := HK.out _ HB3.out
      have HB4 := hide b4
      have hs3 := HB3.out.size
      have hw3 : w.heap.size < w3.heap.size := by omega
      have HE0 := hide e0
      have HE1 := hide e1
      clear e0 e1
      cases ab
      · have CX := hide (CW.out _ b4)
        have H4 := hide hW4
        clear hW4 b4
        go_wp2_with fail
        rw [← H4.out]
        refine CX.out.mono ?_
        rintro e w5 ⟨rfl, b5⟩
        have HF := hide (HB.out.trans ((HB4.out.trans (b5.mono HB4.out.size)).mono HB.out.size))
        clear b5 k0 k1 k2
        go_wp2
        go_ret
        exact ⟨rfl, HF.out⟩
      · obtain ⟨_, _, q0, q2, q3⟩ := HABD.out rfl
        have CE := hide (PExt_any B X a n cap A O ea ef W4 (LL.out _ b4) (HR.out _ b4))
        have H4 := hide hW4
        have q1 : ef = (-1) := q0.trans (by decide)
        clear q0
        have w5 : wrap64 (u + 2678400) = u + 2678400 := IntWalk.wrap64_in _ (by have := HU.out; omega)
        subst q1
        clear hW4 b4 HABD
        by_cases hE : extE B X A O n ea (-1) = 0
        · have E := extE_ok hE
          have xB : eB B X A O n ea (-1) = B := by unfold eB; rw [if_pos hE]
          have xX : eX B X A O n ea (-1) = max X (ea + 1) := by unfold eX; rw [if_pos hE]
          have xN : eN B X A O n ea (-1) = n + 1 := by unfold eN; rw [if_pos hE]
          unfold ExtAny at CE
          rw [xB, xX, xN, hE] at CE
          obtain ⟨eb1, eb2⟩ := beg_bd E.b
          have zb : -1000 ≤ offC B X A O n (ea - 1) ∧ offC B X A O n (ea - 1) ≤ 1000 := by
            unfold offC
            rw [if_pos E.c]
            exact offP_bd (chkT_ok E.c).b (chkT_ok E.c).o (plc_le _ _ _)
          have CK := fun V p c (h : Ents V p (n + 1) (upd A n ea) (upd O n (oldO B O n + (-1)))) (q : Laid V) => Check_any B (max X (ea + 1)) p (n + 1) c (upd A n ea) (upd O n (oldO B O n + (-1))) V q h
          rw [E.check] at CK
          have CO := fun V p c (h : Ents V p (n + 1) (upd A n ea) (upd O n (oldO B O n + (-1)))) (q : Laid V) v => Offset_any B (max X (ea + 1)) p (n + 1) c (upd A n ea) (upd O n (oldO B O n + (-1))) v V q h
          have CO1 := fun V p c h q => CO V p c h q (ea - 1)
          have CO2 := fun V p c h q => CO V p c h q ea
          have CO4 := fun V p c h q => CO V p c h q u
          rw [off_before E (by omega)] at CO1
          rw [off_after E] at CO2
          rw [off_before E q2] at CO4
          have CO3 := fun V (q : Below W0.heap.size W0 V) => Offset_any B X a n cap A O (ea - 1) V (LL.out V q) (HR.out V q)
          have CO5 := fun V (q : Below W0.heap.size W0 V) => Offset_any B X a n cap A O u V (LL.out V q) (HR.out V q)
          obtain ⟨M, hM⟩ : ∃ M, M = max X (ea + 1) := ⟨_, rfl⟩
          have hMe : ea < M := by omega
          obtain ⟨z, hz⟩ : ∃ z, z = offC B X A O n (ea - 1) := ⟨_, rfl⟩
          obtain ⟨y, hy⟩ : ∃ z, z = offC B X A O n u := ⟨_, rfl⟩
          rw [← hM] at CE CK CO1 CO2 CO4
          rw [← hz] at CO1 CO2 CO3 zb
          rw [← hy] at CO4 CO5
          obtain ⟨zb1, zb2⟩ := zb
          have HCK := hide CK
          have HO1 := hide CO1
          have HO2 := hide CO2
          have HO3 := hide CO3
          have HO4 := hide CO4
          have HO5 := hide CO5
          clear CK CO CO1 CO2 CO3 CO4 CO5 hM hz hy xB xX xN hE E
          go_wp2_with fail
          rw [← H4.out]
          refine CE.out.mono ?_
          rintro e w5 ⟨⟨p, c, rfl, he⟩, b5⟩
          have f0 := (b5.cell (p := ⟨w3.heap.size, 0, none⟩) (by dsimp only; omega)).trans HE0.out
          have f1 := (b5.cell (p := ⟨w3.heap.size, 1, none⟩) (by dsimp only; omega)).trans HE1.out
          have hs5 := b5.size
          have q5 := HB4.out.trans (b5.mono HB4.out.size)
          clear k0 k1 k2
          have hs6 := q5.size
          obtain ⟨W6, hW6⟩ : ∃ W6, W6 = w5.alloc (.cells #[.int .i64 B, .int .i64 M, .slice p (n + 1) c] 43) := ⟨_, rfl⟩
          have hz6 : W6.heap.size = w5.heap.size + 1 := by rw [hW6]; simp
          have g6 : Below w5.heap.size w5 W6 := by rw [hW6]; exact (Below.refl _ _).alloc (Nat.le_refl _) _
          have q6 : Below W0.heap.size W0 W6 := q5.trans (g6.mono hs6)
          have t0 : W6.cell? ⟨w5.heap.size, 0, none⟩ = some (.int .i64 B) := by rw [hW6]; simp [go_sem]
          have t1 : W6.cell? ⟨w5.heap.size, 1, none⟩ = some (.int .i64 M) := by rw [hW6]; simp [go_sem]
          have t2 : W6.cell? ⟨w5.heap.size, 2, none⟩ = some (.slice p (n + 1) c) := by rw [hW6]; simp [go_sem]
          have f0 := (g6.cell (p := ⟨w3.heap.size, 0, none⟩) (by dsimp only; omega)).trans f0
          have f1 := (g6.cell (p := ⟨w3.heap.size, 1, none⟩) (by dsimp only; omega)).trans f1
          obtain ⟨k0, k1, k2⟩ := HK.out _ q6
          have hw6 : w.heap.size < W6.heap.size := by omega
          have hw63 : w3.heap.size < W6.heap.size := by omega
          have HKK := hide (fun V (q : Below W6.heap.size W6 V) => And.intro ((q.cell (p := ⟨w5.heap.size, 0, none⟩) (by dsimp only; omega)).trans t0) (And.intro ((q.cell (p := ⟨w5.heap.size, 1, none⟩) (by dsimp only; omega)).trans t1) (And.intro ((q.cell (p := ⟨w5.heap.size, 2, none⟩) (by dsimp only; omega)).trans t2)
            (And.intro ((q.cell (p := ⟨w3.heap.size, 0, none⟩) (by dsimp only; omega)).trans f0) (And.intro ((q.cell (p := ⟨w3.heap.size, 1, none⟩) (by dsimp only; omega)).trans f1) (And.intro ((q.cell (p := ⟨w.heap.size, 0, none⟩) (by dsimp only; omega)).trans k0) (And.intro ((q.cell (p := ⟨w.heap.size, 1, none⟩) (by dsimp only; omega)).trans k1) (And.intro ((q.cell (p := ⟨w.heap.size, 2, none⟩) (by dsimp only; omega)).trans k2) q))))))))
          have HE6 := hide (he.below g6)
          have HL6 := hide (fun V (q : Below W6.heap.size W6 V) => LL.out V (q6.trans (q.mono q6.size)))
          have P1 := hide (based (Nat.le_refl _) fun V (q : Below W6.heap.size W6 V) => HCK.out V p c (HE6.out.below q) (HL6.out V q))
          have O1 := hide (based (Nat.le_refl _) fun V (q : Below W6.heap.size W6 V) => HO1.out V p c (HE6.out.below q) (HL6.out V q))
          have O2 := hide (based (Nat.le_refl _) fun V (q : Below W6.heap.size W6 V) => HO2.out V p c (HE6.out.below q) (HL6.out V q))
          have O3 := hide (based (Nat.le_refl _) fun V (q : Below W6.heap.size W6 V) => HO3.out V (q6.trans (q.mono q6.size)))
          have O4 := hide (based (Nat.le_refl _) fun V (q : Below W6.heap.size W6 V) => HO4.out V p c (HE6.out.below q) (HL6.out V q))
          have O5 := hide (based (Nat.le_refl _) fun V (q : Below W6.heap.size W6 V) => HO5.out V (q6.trans (q.mono q6.size)))
          have P2 := hide (based (Nat.le_refl _) fun V (q : Below W6.heap.size W6 V) => CW.out V (q6.trans (q.mono q6.size)))
          have HQ6 := hide q6
          have H6 := hide hW6
          have v1 : wrap64 (ea - 1) = ea - 1 := IntWalk.wrap64_in _ (by omega)
          have v6 : (z + (-1) - z == (-1)) = true := by rw [beq_iff_eq]; omega
          clear he b5 q5 g6 q6 hW6 t0 t1 t2 f0 f1 k0 k1 k2 HCK HO1 HO2 HO3 HO4 HO5 CE
          obtain ⟨t0, t1, t2, f0, f1, k0, k1, k2, _⟩ := HKK.out _ (Below.refl _ _)
          go_wp2_with fail
          rw [← H6.out]
          with_reducible refine (P1.out _ (Below.refl _ _)).mono ?_
          rintro e w7 ⟨rfl, b7⟩
          clear t0 t1 t2 f0 f1 k0 k1 k2
          obtain ⟨t0, t1, t2, f0, f1, k0, k1, k2, _⟩ := HKK.out _ b7
          go_wp2_with fail
          clear t0 t1 t2 f0 f1 k0 k1 k2
          have hne := lt_some W6
          have y0 := fun V : Lt W6 => (HKK.out _ V.h).1
          have y1 := fun V : Lt W6 => (HKK.out _ V.h).2.1
          have y2 := fun V : Lt W6 => (HKK.out _ V.h).2.2.1
          have y3 := fun V : Lt W6 => (HKK.out _ V.h).2.2.2.1
          refine region_lt W6 (by kernel_rfl) (by kernel_rfl) (by assumption) ?_
          repeat (first | go_big_quiet_step (first | (go_at_call 23; with_reducible exact call_lt (O1.out _ (Lt.h _))) | (go_at_call 23; with_reducible exact call_lt (O2.out _ (Lt.h _)))) | quiet_step (first | (go_at_call 23; with_reducible exact call_lt (O1.out _ (Lt.h _))) | (go_at_call 23; with_reducible exact call_lt (O2.out _ (Lt.h _)))))
          refine wpQuiet_nil ?_
          intro _ hw'
          obtain ⟨V, rfl⟩ := hw'
          have bV := V.h
          obtain ⟨W7, hW7⟩ : ∃ W7, W7 = V.w := ⟨_, rfl⟩
          rw [← hW7] at bV ⊢
          clear hW7 V hne y0 y1 y2 y3
          clear b7
          have b7 := bV
          clear bV
          go_wp2_with fail
          have hne := lt_some W6
          have y0 := fun V : Lt W6 => (HKK.out _ V.h).1
          have y1 := fun V : Lt W6 => (HKK.out _ V.h).2.1
          have y2 := fun V : Lt W6 => (HKK.out _ V.h).2.2.1
          have y3 := fun V : Lt W6 => (HKK.out _ V.h).2.2.2.1
          have y4 := fun V : Lt W6 => (HKK.out _ V.h).2.2.2.2.1
          have y5 := fun V : Lt W6 => (HKK.out _ V.h).2.2.2.2.2.1
          have y6 := fun V : Lt W6 => (HKK.out _ V.h).2.2.2.2.2.2.1
          have y7 := fun V : Lt W6 => (HKK.out _ V.h).2.2.2.2.2.2.2.1
          refine region_lt W6 (by kernel_rfl) (by kernel_rfl) (by assumption) ?_
          repeat (first | go_big_quiet_step (first | (go_at_call 23; with_reducible exact call_lt (O3.out _ (Lt.h _))) | (go_at_call 23; with_reducible exact call_lt (O4.out _ (Lt.h _))) | (go_at_call 23; with_reducible exact call_lt (O5.out _ (Lt.h _))) | (go_at_call 8; with_reducible exact call_lt (P2.out _ (Lt.h _)))) | quiet_step (first | (go_at_call 23; with_reducible exact call_lt (O3.out _ (Lt.h _))) | (go_at_call 23; with_reducible exact call_lt (O4.out _ (Lt.h _))) | (go_at_call 23; with_reducible exact call_lt (O5.out _ (Lt.h _))) | (go_at_call 8; with_reducible exact call_lt (P2.out _ (Lt.h _)))))
          refine wpQuiet_nil ?_
          intro _ hw'
          obtain ⟨V, rfl⟩ := hw'
          have bV := V.h
          obtain ⟨W7, hW7⟩ : ∃ W7, W7 = V.w := ⟨_, rfl⟩
          rw [← hW7] at bV ⊢
          clear hW7 V hne y0 y1 y2 y3 y4 y5 y6 y7
          clear b7
          have HF := hide (HB.out.trans ((HQ6.out.trans (bV.mono HQ6.out.size)).mono HB.out.size))
          clear bV
          go_wp2
          go_ret
          exact ⟨rfl, HF.out⟩
        · have xN : eN B X A O n ea (-1) = 0 := by unfold eN; rw [if_neg hE]
          unfold ExtAny at CE
          rw [xN] at CE
          have hE2 : (extE B X A O n ea (-1) != 0) = true := by simpa using hE
          obtain ⟨v, hv⟩ : ∃ v, v = extE B X A O n ea (-1) := ⟨_, rfl⟩
          rw [← hv] at CE hE2
          generalize eB B X A O n ea (-1) = B' at CE
          generalize eX B X A O n ea (-1) = X' at CE
          clear hv hE xN
          go_wp2_with fail
          rw [← H4.out]
          refine CE.out.mono ?_
          rintro e w5 ⟨⟨p, c, rfl, he⟩, b5⟩
          have q5 := HB4.out.trans (b5.mono HB4.out.size)
          have q6 : Below W0.heap.size W0 (w5.alloc (.cells #[.int .i64 B', .int .i64 X', .slice p 0 c] 43)) := q5.alloc q5.size _
          have CX := hide (CW.out _ q6)
          have HQ6 := hide q6
          clear he b5 q5 q6 k0 k1 k2 CE
          go_wp2_with fail
          refine CX.out.mono ?_
          rintro e w7 ⟨rfl, b7⟩
          have HF := hide (HB.out.trans ((HQ6.out.trans (b7.mono HQ6.out.size)).mono HB.out.size))
          clear b7
          go_wp2
          go_ret
          exact ⟨rfl, HF.out⟩
    · have hv3 : (if -8000000000 ≤ u ∧ u ≤ 8000000000 then (0 : Int) else 3) = 3 := if_neg hu
      rw [hv3] at HV
      clear hu hv3
      go_wp2_with fail
      refine HV.out.mono ?_
      rintro e w2 ⟨rfl, hg2, hp2⟩
      have b2 := below_only HB1.out hg2 HB1.out.size hg
      have CX := hide (CW.out _ b2)
      have HB2 := hide b2
      clear HV hg2 hp2 b2
      go_wp2_with fail
      refine CX.out.mono ?_
      rintro e w5 ⟨rfl, b5⟩
      have HF := hide (HB.out.trans ((HB2.out.trans (b5.mono HB2.out.size)).mono HB.out.size))
      clear b5
      go_wp2
      go_ret
      exact ⟨rfl, HF.out⟩

theorem LeapvoteArms_walk (B X : Int) (a : Option Addr) (n cap : Nat) (A O : Nat → Int) (u : Int) (b : Bool) (w : World) (hr : Ents w a n A O) (l : Laid w) :
    Calls Tryd.prog 7 #[.agg #[.int .i64 B, .int .i64 X, .slice a n cap], .int .i64 u, .bool b] w fun e w' => e = .returned (.bool true) ∧ Below w.heap.size w w' := by
  by_cases hn : n ≤ 80
  · cases b
    · exact LeapvoteArms_f B X a n cap A O u w hr hn l
    · exact LeapvoteArms_t B X a n cap A O u w hr hn l
  · exact LeapvoteArms_long B X a n cap u b w (by omega) hr.1 l
end Go.Proofs.YtbekfofakpbhiaaDoor.Vot
