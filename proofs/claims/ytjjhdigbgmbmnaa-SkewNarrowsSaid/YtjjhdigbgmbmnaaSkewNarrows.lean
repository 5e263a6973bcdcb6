/- The walk of the law SkewNarrows. -/
import Derived.Test.YtjjhdigbgmbmnaaSkxN
namespace Go.Proofs.Ytjjhdigbgmbmnaa.Skw
open Go.RowKit Aid Fx
set_option maxRecDepth 100000 in
set_option maxHeartbeats 6400000 in
theorem SkewNarrows_walk (a : Option Addr) (n cap : Nat) (X L H : Nat → Int) (k x : Int) (w : World) (hr : GatesAt w a n X L H) (hcap : n ≤ cap) :
    Calls Try.prog 9 #[.slice a n cap, .int .i64 k, .int .i64 x] w fun e w' => e = .returned (.bool true) ∧ Below w.heap.size w w' := by
  have CF := hide (fun W => few_any a n cap W)
  have CW := hide awake_any
  have CC := hide (fun W (h : Below w.heap.size w W) => Check_any a n cap X L H W (hr.below h))
  have CP := hide (fun W (h : Below w.heap.size w W) => Passes_any a n cap X L H W (hr.below h) hcap)
  by_cases h24 : n ≤ 24
  · by_cases h0 : chkG X L H n = 0
    · rw [decide_eq_true h24] at CF
      rw [h0] at CC
      by_cases h3 : n < 3
      · have q1 : (n : Int) < 3 := by omega
        clear CP hr
        go_enter Try.func9, Try.ntmps9
        go_wp2_with fail
        with_reducible refine (CF.out _).mono ?_
        rintro e w1 ⟨rfl, hb⟩
        clear CF
        go_wp2_with fail
        with_reducible refine (CC.out _ hb).mono ?_
        rintro e w2 ⟨rfl, hbn⟩
        replace hb := rat_trans hb hbn
        clear hbn  CC
        go_wp2_with fail
        with_reducible refine (CW.out _).mono ?_
        rintro e w9 ⟨rfl, hb9⟩
        have HB := hide (rat_trans hb hb9)
        clear hb hb9 CW
        go_wp2
        go_ret
        exact ⟨rfl, HB.out⟩
      have q1 : decide ((n : Int) < 3) = false := by simp; omega
      by_cases hk0 : k < 0
      · clear CP hr
        go_enter Try.func9, Try.ntmps9
        go_wp2_with fail
        with_reducible refine (CF.out _).mono ?_
        rintro e w1 ⟨rfl, hb⟩
        clear CF
        go_wp2_with fail
        with_reducible refine (CC.out _ hb).mono ?_
        rintro e w2 ⟨rfl, hbn⟩
        replace hb := rat_trans hb hbn
        clear hbn  CC
        go_wp2_with fail
        with_reducible refine (CW.out _).mono ?_
        rintro e w9 ⟨rfl, hb9⟩
        have HB := hide (rat_trans hb hb9)
        clear hb hb9 CW
        go_wp2
        go_ret
        exact ⟨rfl, HB.out⟩
      have q2 : decide (k < 0) = false := by simp; omega
      by_cases hkn : (n : Int) ≤ k
      · clear CP hr hk0
        go_enter Try.func9, Try.ntmps9
        go_wp2_with fail
        with_reducible refine (CF.out _).mono ?_
        rintro e w1 ⟨rfl, hb⟩
        clear CF
        go_wp2_with fail
        with_reducible refine (CC.out _ hb).mono ?_
        rintro e w2 ⟨rfl, hbn⟩
        replace hb := rat_trans hb hbn
        clear hbn  CC
        go_wp2_with fail
        with_reducible refine (CW.out _).mono ?_
        rintro e w9 ⟨rfl, hb9⟩
        have HB := hide (rat_trans hb hb9)
        clear hb hb9 CW
        go_wp2
        go_ret
        exact ⟨rfl, HB.out⟩
      have q3 : decide ((n : Int) ≤ k) = false := by simp; omega
      by_cases hp : PaB X L H n
      · by_cases hx0 : x < 0
        · rw [decide_eq_true hp] at CP
          clear hr hk0 hkn hp
          go_enter Try.func9, Try.ntmps9
          go_wp2_with fail
          with_reducible refine (CF.out _).mono ?_
          rintro e w1 ⟨rfl, hb⟩
          clear CF
          go_wp2_with fail
          with_reducible refine (CC.out _ hb).mono ?_
          rintro e w2 ⟨rfl, hbn⟩
          replace hb := rat_trans hb hbn
          clear hbn  CC
          go_wp2_with fail
          with_reducible refine (CP.out _ hb).mono ?_
          rintro e w3 ⟨rfl, hbn⟩
          replace hb := rat_trans hb hbn
          clear hbn  CP
          go_wp2_with fail
          with_reducible refine (CW.out _).mono ?_
          rintro e w9 ⟨rfl, hb9⟩
          have HB := hide (rat_trans hb hb9)
          clear hb hb9 CW
          go_wp2
          go_ret
          exact ⟨rfl, HB.out⟩
        by_cases hx1 : 1073741824 < x
        · have q4 : decide (x < 0) = false := by simp; omega
          rw [decide_eq_true hp] at CP
          clear hr hk0 hkn hx0 hp
          go_enter Try.func9, Try.ntmps9
          go_wp2_with fail
          with_reducible refine (CF.out _).mono ?_
          rintro e w1 ⟨rfl, hb⟩
          clear CF
          go_wp2_with fail
          with_reducible refine (CC.out _ hb).mono ?_
          rintro e w2 ⟨rfl, hbn⟩
          replace hb := rat_trans hb hbn
          clear hbn  CC
          go_wp2_with fail
          with_reducible refine (CP.out _ hb).mono ?_
          rintro e w3 ⟨rfl, hbn⟩
          replace hb := rat_trans hb hbn
          clear hbn  CP
          go_wp2_with fail
          with_reducible refine (CW.out _).mono ?_
          rintro e w9 ⟨rfl, hb9⟩
          have HB := hide (rat_trans hb hb9)
          clear hb hb9 CW
          go_wp2
          go_ret
          exact ⟨rfl, HB.out⟩
        obtain ⟨kk, rfl⟩ : ∃ kk : Nat, k = (kk : Int) := ⟨k.toNat, by omega⟩
        exact SkewNarrows_main a n cap X L H kk x w hr hcap h24 (by omega) (by omega) hp (by omega)
      · rw [decide_eq_false hp] at CP
        clear hr hk0 hkn hp
        go_enter Try.func9, Try.ntmps9
        go_wp2_with fail
        with_reducible refine (CF.out _).mono ?_
        rintro e w1 ⟨rfl, hb⟩
        clear CF
        go_wp2_with fail
        with_reducible refine (CC.out _ hb).mono ?_
        rintro e w2 ⟨rfl, hbn⟩
        replace hb := rat_trans hb hbn
        clear hbn  CC
        go_wp2_with fail
        with_reducible refine (CP.out _ hb).mono ?_
        rintro e w3 ⟨rfl, hbn⟩
        replace hb := rat_trans hb hbn
        clear hbn  CP
        go_wp2_with fail
        with_reducible refine (CW.out _).mono ?_
        rintro e w9 ⟨rfl, hb9⟩
        have HB := hide (rat_trans hb hb9)
        clear hb hb9 CW
        go_wp2
        go_ret
        exact ⟨rfl, HB.out⟩
    · rw [decide_eq_true h24] at CF
      generalize chkG X L H n = c at CC h0
      have hcb : (c != 0) = true := by simp [h0]
      clear h0 CP hr
      go_enter Try.func9, Try.ntmps9
      go_wp2_with fail
      with_reducible refine (CF.out _).mono ?_
      rintro e w1 ⟨rfl, hb⟩
      clear CF
      go_wp2_with fail
      with_reducible refine (CC.out _ hb).mono ?_
      rintro e w2 ⟨rfl, hbn⟩
      replace hb := rat_trans hb hbn
      clear hbn  CC
      go_wp2_with fail
      with_reducible refine (CW.out _).mono ?_
      rintro e w9 ⟨rfl, hb9⟩
      have HB := hide (rat_trans hb hb9)
      clear hb hb9 CW
      go_wp2
      go_ret
      exact ⟨rfl, HB.out⟩
  · rw [decide_eq_false h24] at CF
    clear CC CP hr
    go_enter Try.func9, Try.ntmps9
    go_wp2_with fail
    with_reducible refine (CF.out _).mono ?_
    rintro e w1 ⟨rfl, hb⟩
    clear CF
    go_wp2_with fail
    with_reducible refine (CW.out _).mono ?_
    rintro e w9 ⟨rfl, hb9⟩
    have HB := hide (rat_trans hb hb9)
    clear hb hb9 CW
    go_wp2
    go_ret
    exact ⟨rfl, HB.out⟩
end Go.Proofs.Ytjjhdigbgmbmnaa.Skw
