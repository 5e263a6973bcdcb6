
/- The walk of the law LeapvoteMajority. -/
import Derived.Test.YtbekfofakpbhiaaDoorVotS
import Derived.Test.YtbekfofakpbhiaaDoorVotU
namespace Go.Proofs.YtbekfofakpbhiaaDoor.Vot
open Go.RowKit Aid Civ Leap App Smr
set_option maxRecDepth 100000 in
set_option maxHeartbeats 3200000 in
theorem LeapvoteMajority_bad (n : Int) (y : Nat) (a : Option Addr) (m cap : Nat) (t : Int) (w : World) (hn : ¬ (1 ≤ n ∧ n ≤ 12)) (l : Laid w) :
    Calls Tryd.prog 5 #[.int .i64 n, .int .u8 (y : Int), .slice a m cap, .int .i32 t] w fun e w' => e = .returned (.bool true) ∧ Below w.heap.size w w' := by
  have C1 := hide (PNew_bad n w hn)
  have CW := hide (awake_any w l)
  clear l
  rcases (show n < 1 ∨ 12 < n by omega) with h | h
  all_goals
    clear hn
    go_enter Tryd.func5, Tryd.ntmps5
    go_wp2_with fail
    refine C1.out.mono ?_
    rintro e _ ⟨rfl, rfl⟩
    go_wp2_with fail
    refine CW.out.mono ?_
    rintro e w1 ⟨rfl, b1⟩
    have HF := hide b1
    clear b1
    go_wp2
    go_ret
    exact ⟨rfl, HF.out⟩
/-- what voter j says -/
def sayW (N y m : Nat) (X : Nat → Nat) (j : Nat) : Int := if j < N / 2 + 1 then ((y % 3 : Nat) : Int) else if j < m then ((X j % 4 : Nat) : Int) else 3
theorem sayW_bd (N y m : Nat) (X : Nat → Nat) (j : Nat) : 0 ≤ sayW N y m X j ∧ sayW N y m X j ≤ 3 := by
  unfold sayW
  split
  · omega
  · split <;> omega
set_option maxRecDepth 100000 in
set_option maxHeartbeats 12800000 in
theorem LeapvoteMajority_main (N y : Nat) (a : Option Addr) (m cap : Nat) (X : Nat → Nat) (t : Int) (w : World) (hN : 1 ≤ N ∧ N ≤ 12) (hy : y ≤ 255) (hr : BytesAt w a m X) (ht : -2147483648 ≤ t ∧ t ≤ 2147483647) (l : Laid w) :
    Calls Tryd.prog 5 #[.int .i64 (N : Int), .int .u8 (y : Int), .slice a m cap, .int .i32 t] w fun e w' => e = .returned (.bool true) ∧ Below w.heap.size w w' := by
  have C1 := hide (PNew_ok (N : Int) w (by omega) (by omega))
  have HL := hide l
  have HR := hide hr
  have hls := l.lt
  have hm63 := hr.1
  have HI0 := hide (Inv.new (n := (N : Int)) (by omega) (by omega))
  obtain ⟨t1, t2⟩ := ht
  obtain ⟨N1, N2⟩ := hN
  have ht0 : -8000000000 ≤ t ∧ t ≤ 8000000000 := by omega
  have HT := hide ht0
  have hq2 : ((N : Int).tdiv 2) = ((N / 2 : Nat) : Int) := by rw [Int.ofNat_tdiv]; rfl
  have hq3 : ((y : Int).tmod 3) = ((y % 3 : Nat) : Int) := by rw [Int.ofNat_tmod]; rfl
  have hd1 : 1 ≤ (N : Int) := by omega
  have hd2 : (N : Int) ≤ 12 := by omega
  have hd1q : decide ((N : Int) < 1) = false := by simp; omega
  have hd2q : decide (12 < (N : Int)) = false := by simp; omega
  obtain ⟨h, hh⟩ : ∃ h, h = N / 2 := ⟨_, rfl⟩
  obtain ⟨k, hk⟩ : ∃ k, k = y % 3 := ⟨_, rfl⟩
  rw [← hh] at hq2
  rw [← hk] at hq3
  have HH := hide hh
  have HKK := hide hk
  have hk3 : k < 3 := by omega
  have hh2 : h ≤ 6 := by omega
  clear l hr hh hk ht0
  go_enter Tryd.func5, Tryd.ntmps5
  go_wp2_with fail
  refine C1.out.mono ?_
  rintro e W0 ⟨g, rfl, hg, hp, hb⟩
  have hgl := hp.lt
  have HP := hide hp
  have HB := hide hb
  have hs0 := hb.size
  clear hp hb C1
  go_wp2_with fail
  go_loopw [39] (fun i wr => ∃ (j : Nat) (s : Vt), j ≤ N ∧ i = .int .i64 (j : Int) ∧ W0.grownBy wr (some g) ∧ PAt wr g s ∧ Md s N (sayW N y m X) t j ∧ Inv s) (fun i _ => N - (intOf i).toNat)
  case atStart => exact ⟨0, .new N, by omega, rfl, World.grownBy.refl _ _, HP.out, Md.new _ _ _, HI0.out⟩
  case round =>
    clear HP HI0
    obtain ⟨j, s, hj, rfl, hgr, hp, hmd, hi⟩ := hrel
    by_cases hlt : j < N
    · have hlt2 : (j : Int) < (N : Int) := by omega
      obtain ⟨e1, hmd2⟩ := hmd.next (by omega) (sayW_bd N y m X j) HT.out
      have F := PVote_any s g (j : Int) (sayW N y m X j) t wr hp hi
      rw [e1] at F
      have hi2 := hi.next (j : Int) (sayW N y m X j) t
      obtain ⟨sw, hsw⟩ : ∃ x, x = sayW N y m X j := ⟨_, rfl⟩
      rw [← hsw] at F hi2 hmd2
      have HF := hide F
      have HMD := hide hmd2
      have HI := hide hi2
      have HG := hide hgr
      clear F hmd2 hi2 hmd hi hp e1
      unfold sayW at hsw
      rw [← HH.out, ← HKK.out] at hsw
      by_cases h1 : j < h + 1
      · have h1q : (j : Int) < (h : Int) + 1 := by omega
        rw [if_pos h1] at hsw
        subst hsw
        clear hgr
        go_wp2_with fail
        refine HF.out.mono ?_
        rintro e w2 ⟨rfl, g2, p2⟩
        have HG2 := hide (grown2 HG.out g2)
        have HP2 := hide p2
        clear g2 p2
        go_wp2
        go_roundw
        case rel => exact ⟨j + 1, _, by omega, by go_num, HG2.out, HP2.out, HMD.out, HI.out⟩
        case measure => (simp [intOf]) <;> omega
      · have h1q : (h : Int) + 1 ≤ (j : Int) := by omega
        rw [if_neg h1] at hsw
        by_cases h2 : j < m
        · obtain ⟨b, off, rfl, hbl, hc⟩ := HR.out.2 (by omega)
          obtain ⟨c0, c1⟩ := hc j h2
          have c0 := (only_cell hgr (b := b) (o := off + j) (by omega) (by omega)).trans ((HB.out.cell (p := ⟨b, off + j, none⟩) hbl).trans c0)
          have h2q : (j : Int) < (m : Int) := by omega
          rw [if_pos h2] at hsw
          obtain ⟨x, hx⟩ : ∃ x, x = X j := ⟨_, rfl⟩
          rw [← hx] at c0 c1 hsw
          have hq4 : ((x : Int).tmod 4) = ((x % 4 : Nat) : Int) := by rw [Int.ofNat_tmod]; rfl
          obtain ⟨r, hr⟩ : ∃ r, r = x % 4 := ⟨_, rfl⟩
          have hr4 : r < 4 := by omega
          rw [← hr] at hq4 hsw
          subst hsw
          clear hx hr hgr hc h1
          go_wp2_with fail
          refine HF.out.mono ?_
          rintro e w2 ⟨rfl, g2, p2⟩
          have HG2 := hide (grown2 HG.out g2)
          have HP2 := hide p2
          clear g2 p2
          go_wp2
          go_roundw
          case rel => exact ⟨j + 1, _, by omega, by go_num, HG2.out, HP2.out, HMD.out, HI.out⟩
          case measure => (simp [intOf]) <;> omega
        · have h2q : (m : Int) ≤ (j : Int) := by omega
          rw [if_neg h2] at hsw
          subst hsw
          clear hgr h1 h2
          go_wp2_with fail
          refine HF.out.mono ?_
          rintro e w2 ⟨rfl, g2, p2⟩
          have HG2 := hide (grown2 HG.out g2)
          have HP2 := hide p2
          clear g2 p2
          go_wp2
          go_roundw
          case rel => exact ⟨j + 1, _, by omega, by go_num, HG2.out, HP2.out, HMD.out, HI.out⟩
          case measure => (simp [intOf]) <;> omega
    · obtain rfl : j = N := by omega
      have hb := below_only HB.out hgr hs0 hg
      have hW : ∀ i, i < j / 2 + 1 → sayW j y m X i = (k : Int) := fun i hi => by unfold sayW; rw [if_pos hi, HKK.out]
      have hdec := fun u (hu : -8000000000 ≤ u ∧ u ≤ 8000000000) => hmd.dec hi hW N1 (by omega) hu
      have d1 := hdec t HT.out
      have d2 := hdec (t + 86399) (by omega)
      have d3 := hdec (t + 86400) (by omega)
      rw [if_pos (by omega)] at d1 d2
      rw [if_neg (by omega)] at d3
      have hcv := fun J => hmd.cv hi HT.out J
      have v0 := hcv 0
      have v1 := hcv 1
      have v2 := hcv 2
      rw [if_pos (by omega)] at v0 v1 v2
      obtain ⟨s0, s1, s2, s3⟩ := cw_sum (sayW j y m X) j
      rw [← v0, ← v1, ← v2] at s3
      rw [← v0] at s0
      rw [← v1] at s1
      rw [← v2] at s2
      have hab : armB s t = ((k : Int) != 0) := by
        unfold armB
        rw [d1, nx_ok ⟨t1, t2⟩, Bool.and_true]
        rcases (show k = 0 ∨ k = 1 ∨ k = 2 by omega) with rfl | rfl | rfl <;> rfl
      have CC := hide (Counts_any s g t wr hp hi)
      have D1 := hide (fun W (q : Below wr.heap.size wr W) => Decision_any s g t W (hp.step q) hi)
      have D2 := hide (fun W (q : Below wr.heap.size wr W) => Decision_any s g (t + 86399) W (hp.step q) hi)
      have D3 := hide (fun W (q : Below wr.heap.size wr W) => Decision_any s g (t + 86400) W (hp.step q) hi)
      have CA := hide (fun W (q : Below wr.heap.size wr W) => Arm_any s g t W (HL.out.step (hb.trans (q.mono hb.size))) (hp.step q) hi)
      have CW := hide (fun W (q : Below wr.heap.size wr W) => awake_any W (HL.out.step (hb.trans (q.mono hb.size))))
      rw [d1] at D1
      rw [d2] at D2
      rw [d3] at D3
      rw [hab] at CA
      generalize cv s t 0 = x0 at CC s0 s1 s2 s3
      generalize cv s t 1 = x1 at CC s0 s1 s2 s3
      generalize cv s t 2 = x2 at CC s0 s1 s2 s3
      generalize armA s t = ea at CA
      generalize armO s t = ef at CA
      have HBB := hide hb
      have w1 : wrap64 (t + 86399) = t + 86399 := IntWalk.wrap64_in _ (by omega)
      have w2 : wrap64 (t + 86400) = t + 86400 := IntWalk.wrap64_in _ (by omega)
      clear hgr hp hmd hi hb hW hdec d1 d2 d3 hcv v0 v1 v2 hab
      go_wp2_with fail
      refine CC.out.mono ?_
      rintro e w2 ⟨rfl, b2⟩
      clear CC
      go_wp2_with fail
      with_reducible refine (D1.out _ b2).mono ?_
      rintro e w3 ⟨rfl, b3⟩
      have b3 := b2.trans (b3.mono b2.size)
      clear b2
      go_wp2_with fail
      with_reducible refine (D2.out _ b3).mono ?_
      rintro e w4 ⟨rfl, b4⟩
      have b4 := b3.trans (b4.mono b3.size)
      clear b3
      go_wp2_with fail
      with_reducible refine (D3.out _ b4).mono ?_
      rintro e w5 ⟨rfl, b5⟩
      have b5 := b4.trans (b5.mono b4.size)
      clear b4
      go_wp2_with fail
      with_reducible refine (CA.out _ b5).mono ?_
      rintro e w6 ⟨rfl, b6⟩
      have b6 := b5.trans (b6.mono b5.size)
      clear b5
      have b7 : Below wr.heap.size wr (w6.alloc (.cells #[.int .i64 ea, .int .i64 ef] 36)) := b6.alloc b6.size _
      have CX := hide (CW.out _ b7)
      have HB7 := hide (HBB.out.trans (b7.mono HBB.out.size))
      clear b6 b7
      go_wp2_with fail
      refine CX.out.mono ?_
      rintro e w8 ⟨rfl, b8⟩
      have HF := hide (HB7.out.trans (b8.mono HB7.out.size))
      clear b8
      go_wp2
      go_ret
      exact ⟨rfl, HF.out⟩
theorem LeapvoteMajority_walk (n : Int) (y : Nat) (a : Option Addr) (m cap : Nat) (X : Nat → Nat) (t : Int) (w : World) (hy : y ≤ 255) (hr : BytesAt w a m X) (t1 : -2147483648 ≤ t) (t2 : t ≤ 2147483647) (l : Laid w) :
    Calls Tryd.prog 5 #[.int .i64 n, .int .u8 (y : Int), .slice a m cap, .int .i32 t] w fun e w' => e = .returned (.bool true) ∧ Below w.heap.size w w' := by
  by_cases hn : 1 ≤ n ∧ n ≤ 12
  · obtain ⟨N, rfl⟩ : ∃ N : Nat, n = (N : Int) := ⟨n.toNat, by omega⟩
    exact LeapvoteMajority_main N y a m cap X t w (by omega) hy hr ⟨t1, t2⟩ l
  · exact LeapvoteMajority_bad n y a m cap t w hn l
end Go.Proofs.YtbekfofakpbhiaaDoor.Vot
