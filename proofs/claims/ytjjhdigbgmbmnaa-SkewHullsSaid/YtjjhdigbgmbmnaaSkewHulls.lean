/- The walk of the law SkewHulls. -/
import Derived.Test.YtjjhdigbgmbmnaaSkxP
import Derived.Test.YtjjhdigbgmbmnaaSkwY
namespace Go.Proofs.Ytjjhdigbgmbmnaa.Skw
open Go.RowKit Aid Fx
theorem low_len (X L H : Nat → Int) (n : Nat) : (rlowS X L H n).length ≤ 1024 := by
  unfold rlowS
  split
  · rename_i h
    have := filt_len (crnB X H n) n
    have := (chk_ok h).n2
    omega
  · simp
theorem upp_len (X L H : Nat → Int) (n : Nat) : (ruppS X L H n).length ≤ 1024 := by
  unfold ruppS
  split
  · rename_i h
    have := filt_len (crnB X (fun i => -L i) n) n
    have := (chk_ok h).n2
    omega
  · simp
set_option maxRecDepth 100000 in
set_option maxHeartbeats 6400000 in
theorem SkewHulls_walk (a : Option Addr) (n cap : Nat) (X L H : Nat → Int) (w : World) (hr : GatesAt w a n X L H) (hcap : n ≤ cap) :
    Calls Try.prog 4 #[.slice a n cap] w fun e w' => e = .returned (.bool true) ∧ Below w.heap.size w w' := by
  have CF := hide (fun W => few_any a n cap W)
  have CW := hide awake_any
  have HG := hide (fun W (h : Below w.heap.size w W) => hr.below h)
  clear hr
  by_cases h24 : n ≤ 24
  · rw [decide_eq_true h24] at CF
    have C1 := hide (fun W (h : Below w.heap.size w W) => Lower_any a n cap X L H W (HG.out W h) hcap)
    have C2 := hide (fun W (h : Below w.heap.size w W) => RLower_any a n cap X L H W (HG.out W h))
    have C3 := hide (fun W (h : Below w.heap.size w W) => Upper_any a n cap X L H W (HG.out W h) hcap)
    have C4 := hide (fun W (h : Below w.heap.size w W) => RUpper_any a n cap X L H W (HG.out W h))
    rw [low_same] at C1
    rw [upp_same] at C3
    have l1 := hide (low_len X L H n)
    have l2 := hide (upp_len X L H n)
    generalize rlowS X L H n = A at C1 C2 l1
    generalize ruppS X L H n = B at C3 C4 l2
    clear HG
    go_enter Try.func4, Try.ntmps4
    go_wp2_with fail
    with_reducible refine (CF.out _).mono ?_
    rintro e w1 ⟨rfl, hb⟩
    clear CF
    go_wp2_with fail
    with_reducible refine (C1.out _ hb).mono ?_
    rintro e w2 ⟨va, rfl, ova, hbn⟩
    replace hb := rat_trans hb hbn
    clear hbn C1
    go_wp2_with fail
    with_reducible refine (C2.out _ hb).mono ?_
    rintro e w3 ⟨vb, rfl, ovb, hbn⟩
    replace hb := rat_trans hb hbn
    have oa := row_step ova hbn
    clear hbn C2 ova
    go_wp2_with fail
    with_reducible refine (same_any A A va vb _ _ _ oa ovb l1.out l1.out).mono ?_
    rintro e w4 ⟨rfl, hbn⟩
    replace hb := rat_trans hb hbn
    rw [decide_eq_true (rfl : A = A)]
    clear hbn oa ovb
    go_wp2_with fail
    with_reducible refine (C3.out _ hb).mono ?_
    rintro e w5 ⟨vc, rfl, ovc, hbn⟩
    replace hb := rat_trans hb hbn
    clear hbn C3
    go_wp2_with fail
    with_reducible refine (C4.out _ hb).mono ?_
    rintro e w6 ⟨vd, rfl, ovd, hbn⟩
    replace hb := rat_trans hb hbn
    have oc := row_step ovc hbn
    clear hbn C4 ovc
    go_wp2_with fail
    with_reducible refine (same_any B B vc vd _ _ _ oc ovd l2.out l2.out).mono ?_
    rintro e w7 ⟨rfl, hbn⟩
    replace hb := rat_trans hb hbn
    rw [decide_eq_true (rfl : B = B)]
    clear hbn oc ovd
    go_wp2_with fail
    with_reducible refine (CW.out _).mono ?_
    rintro e w8 ⟨rfl, hb8⟩
    have HB := hide (rat_trans hb hb8)
    clear hb hb8 CW
    go_wp2
    go_ret
    exact ⟨rfl, HB.out⟩
  · rw [decide_eq_false h24] at CF
    go_enter Try.func4, Try.ntmps4
    go_wp2_with fail
    with_reducible refine (CF.out _).mono ?_
    rintro e w1 ⟨rfl, hb⟩
    go_wp2_with fail
    with_reducible refine (CW.out _).mono ?_
    rintro e w2 ⟨rfl, hb2⟩
    have HB := hide (rat_trans hb hb2)
    clear hb hb2
    go_wp2
    go_ret
    exact ⟨rfl, HB.out⟩
end Go.Proofs.Ytjjhdigbgmbmnaa.Skw
