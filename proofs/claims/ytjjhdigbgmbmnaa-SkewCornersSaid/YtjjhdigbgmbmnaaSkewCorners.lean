/- The walk of the law SkewCorners. -/
import Derived.Test.YtjjhdigbgmbmnaaSkxW
namespace Go.Proofs.Ytjjhdigbgmbmnaa.Skw
open Go.RowKit Aid Fx
set_option maxRecDepth 100000 in
set_option maxHeartbeats 6400000 in
theorem SkewCorners_walk (a : Option Addr) (n cap : Nat) (X L H : Nat → Int) (w : World) (hr : GatesAt w a n X L H) (hcap : n ≤ cap) :
    Calls Try.prog 8 #[.slice a n cap] w fun e w' => e = .returned (.bool true) ∧ Below w.heap.size w w' := by
  by_cases h : n ≤ 24 ∧ chkG X L H n = 0
  · exact SkewCorners_main a n cap X L H w hr hcap h.1 (chk_ok h.2)
  have CF := hide (fun W => few_any a n cap W)
  have CW := hide awake_any
  have CC := hide (fun W (h : Below w.heap.size w W) => Check_any a n cap X L H W (hr.below h))
  clear hr
  by_cases h24 : n ≤ 24
  · have h0 : ¬ chkG X L H n = 0 := fun q => h ⟨h24, q⟩
    rw [decide_eq_true h24] at CF
    clear h
    generalize chkG X L H n = c at *
    have hcb : (c != 0) = true := by simp [h0]
    clear h0
    go_enter Try.func8, Try.ntmps8
    go_wp2_with fail
    with_reducible refine (CF.out _).mono ?_
    rintro e w1 ⟨rfl, hb⟩
    clear CF
    go_wp2_with fail
    with_reducible refine (CC.out _ hb).mono ?_
    rintro e w2 ⟨rfl, hb2⟩
    replace hb := rat_trans hb hb2
    clear hb2 CC
    go_wp2_with fail
    with_reducible refine (CW.out _).mono ?_
    rintro e w3 ⟨rfl, hb3⟩
    have HB := hide (rat_trans hb hb3)
    clear hb hb3 CW
    go_wp2
    go_ret
    exact ⟨rfl, HB.out⟩
  · rw [decide_eq_false h24] at CF
    clear h CC
    go_enter Try.func8, Try.ntmps8
    go_wp2_with fail
    with_reducible refine (CF.out _).mono ?_
    rintro e w1 ⟨rfl, hb⟩
    clear CF
    go_wp2_with fail
    with_reducible refine (CW.out _).mono ?_
    rintro e w3 ⟨rfl, hb3⟩
    have HB := hide (rat_trans hb hb3)
    clear hb hb3 CW
    go_wp2
    go_ret
    exact ⟨rfl, HB.out⟩
end Go.Proofs.Ytjjhdigbgmbmnaa.Skw
