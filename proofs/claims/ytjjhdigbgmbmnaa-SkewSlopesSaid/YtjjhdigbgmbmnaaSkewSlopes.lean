/- The walk of the law SkewSlopes. -/
import Derived.Test.YtjjhdigbgmbmnaaSkxC
import Derived.Test.YtjjhdigbgmbmnaaSkwY
namespace Go.Proofs.Ytjjhdigbgmbmnaa.Skw
open Go.RowKit Aid Fx
set_option maxRecDepth 100000 in
set_option maxHeartbeats 6400000 in
theorem SkewSlopes_walk (a : Option Addr) (n cap : Nat) (X L H : Nat → Int) (w : World) (hr : GatesAt w a n X L H) (hcap : n ≤ cap) :
    Calls Try.prog 3 #[.slice a n cap] w fun e w' => e = .returned (.bool true) ∧ Below w.heap.size w w' := by
  have CF := hide (fun W => few_any a n cap W)
  have CW := hide awake_any
  have HG := hide (fun W (h : Below w.heap.size w W) => hr.below h)
  clear hr
  by_cases h24 : n ≤ 24
  · rw [decide_eq_true h24] at CF
    have CS : Hid (∀ W, Below w.heap.size w W → Calls Try.prog 12 #[.slice a n cap] W fun e w' => e = .returned (.tuple #[.agg #[.int .i64 (slA X L H n).1, .int .i64 (slA X L H n).2], .agg #[.int .i64 (slB X L H n).1, .int .i64 (slB X L H n).2], .int .i64 (slE X L H n)]) ∧ Below W.heap.size W w') := hide fun W h => Slopes_any a n cap X L H W (HG.out W h) hcap
    have CR : Hid (∀ W, Below w.heap.size w W → Calls Try.prog 13 #[.slice a n cap] W fun e w' => e = .returned (.tuple #[.agg #[.int .i64 (slA X L H n).1, .int .i64 (slA X L H n).2], .agg #[.int .i64 (slB X L H n).1, .int .i64 (slB X L H n).2], .int .i64 (slE X L H n)]) ∧ Below W.heap.size W w') := hide fun W h => RSlopes_any a n cap X L H W (HG.out W h)
    have CC := hide (fun W (h : Below w.heap.size w W) => Check_any a n cap X L H W (HG.out W h))
    have CD := hide (fun W (h : Below w.heap.size w W) => RCheck_any a n cap X L H W (HG.out W h))
    have CP := hide (fun W (h : Below w.heap.size w W) => Passes_any a n cap X L H W (HG.out W h) hcap)
    have CQ := hide (fun W (h : Below w.heap.size w W) => RPasses_any a n cap X L H W (HG.out W h))
    generalize slA X L H n = A at CS CR
    generalize slB X L H n = B at CS CR
    generalize slE X L H n = E at CS CR
    generalize chkG X L H n = c at CC CD
    generalize decide (PaB X L H n) = d at CP CQ
    clear HG
    go_enter Try.func3, Try.ntmps3
    go_wp2_with fail
    with_reducible refine (CF.out _).mono ?_
    rintro e w1 ⟨rfl, hb⟩
    clear CF
    go_wp2_with fail
    with_reducible refine (CS.out _ hb).mono ?_
    rintro e w2 ⟨rfl, hb2⟩
    replace hb := rat_trans hb hb2
    clear hb2 CS
    go_upto_region 4 with fail
    have hup := ((Below.refl w2.heap.size w2).alloc (Nat.le_refl _) (.cells #[.int .i64 A.1, .int .i64 A.2] 26)).alloc (by simp) (.cells #[.int .i64 B.1, .int .i64 B.2] 26)
    have Eg2 := (RatAt.newv (n := A.1) (d := A.2) (W := w2) rfl).alloc (.cells #[.int .i64 B.1, .int .i64 B.2] 26)
    have Fg2 : RatAt ((w2.alloc (.cells #[.int .i64 A.1, .int .i64 A.2] 26)).alloc (.cells #[.int .i64 B.1, .int .i64 B.2] 26)) (w2.heap.size + 1) B.1 B.2 := RatAt.newv1 rfl
    replace hb := rat_trans hb hup
    clear hup
    generalize hW : ((w2.alloc (.cells #[.int .i64 A.1, .int .i64 A.2] 26)).alloc (.cells #[.int .i64 B.1, .int .i64 B.2] 26)) = W2 at Eg2 Fg2 hb ⊢
    clear hW
    generalize w2.heap.size = g2 at Eg2 Fg2 ⊢
    go_wp2_with fail
    with_reducible refine (CR.out _ hb).mono ?_
    rintro e w3 ⟨rfl, hb3⟩
    replace hb := rat_trans hb hb3
    replace Eg2 := Eg2.step hb3
    replace Fg2 := Fg2.step hb3
    clear hb3 CR
    go_upto_region 5 with fail
    have hup := ((Below.refl w3.heap.size w3).alloc (Nat.le_refl _) (.cells #[.int .i64 A.1, .int .i64 A.2] 26)).alloc (by simp) (.cells #[.int .i64 B.1, .int .i64 B.2] 26)
    have Eg3 := (RatAt.newv (n := A.1) (d := A.2) (W := w3) rfl).alloc (.cells #[.int .i64 B.1, .int .i64 B.2] 26)
    have Fg3 : RatAt ((w3.alloc (.cells #[.int .i64 A.1, .int .i64 A.2] 26)).alloc (.cells #[.int .i64 B.1, .int .i64 B.2] 26)) (w3.heap.size + 1) B.1 B.2 := RatAt.newv1 rfl
    replace hb := rat_trans hb hup
    replace Eg2 := Eg2.step hup
    replace Fg2 := Fg2.step hup
    clear hup
    generalize hW : ((w3.alloc (.cells #[.int .i64 A.1, .int .i64 A.2] 26)).alloc (.cells #[.int .i64 B.1, .int .i64 B.2] 26)) = W3 at Eg3 Fg3 Eg2 Fg2 hb ⊢
    clear hW
    generalize w3.heap.size = g3 at Eg3 Fg3 ⊢
    go_wp2_with fail
    with_reducible refine (CC.out _ hb).mono ?_
    rintro e w4 ⟨rfl, hb4⟩
    replace hb := rat_trans hb hb4
    replace Eg2 := Eg2.step hb4
    replace Fg2 := Fg2.step hb4
    replace Eg3 := Eg3.step hb4
    replace Fg3 := Fg3.step hb4
    clear hb4 CC
    go_wp2_with fail
    with_reducible refine (CD.out _ hb).mono ?_
    rintro e w5 ⟨rfl, hb5⟩
    replace hb := rat_trans hb hb5
    replace Eg2 := Eg2.step hb5
    replace Fg2 := Fg2.step hb5
    replace Eg3 := Eg3.step hb5
    replace Fg3 := Fg3.step hb5
    clear hb5 CD
    go_wp2_with fail
    with_reducible refine (CP.out _ hb).mono ?_
    rintro e w6 ⟨rfl, hb6⟩
    replace hb := rat_trans hb hb6
    replace Eg2 := Eg2.step hb6
    replace Fg2 := Fg2.step hb6
    replace Eg3 := Eg3.step hb6
    replace Fg3 := Fg3.step hb6
    clear hb6 CP
    go_wp2_with fail
    with_reducible refine (CQ.out _ hb).mono ?_
    rintro e w7 ⟨rfl, hb7⟩
    replace hb := rat_trans hb hb7
    obtain ⟨a0, a1, _⟩ := (Eg2.step hb7).cells
    obtain ⟨a2, a3, _⟩ := (Fg2.step hb7).cells
    obtain ⟨b0, b1, _⟩ := (Eg3.step hb7).cells
    obtain ⟨b2, b3, _⟩ := (Fg3.step hb7).cells
    clear hb7 CQ Eg2 Fg2 Eg3 Fg3
    go_wp2_with fail
    with_reducible refine (CW.out _).mono ?_
    rintro e w8 ⟨rfl, hb8⟩
    have HB := hide (rat_trans hb hb8)
    clear hb hb8 a0 a1 a2 a3 b0 b1 b2 b3 CW
    go_wp2
    go_ret
    exact ⟨rfl, HB.out⟩
  · rw [decide_eq_false h24] at CF
    go_enter Try.func3, Try.ntmps3
    go_wp2_with fail
    with_reducible refine (CF.out _).mono ?_
    rintro e w1 ⟨rfl, hb⟩
    go_wp2_with fail
    with_reducible refine (CW.out _).mono ?_
    rintro e w2 ⟨rfl, hb2⟩
    have HB := hide (rat_trans hb hb2)
    clear hb hb2
    go_wp2
    go_ret
    exact ⟨rfl, HB.out⟩
end Go.Proofs.Ytjjhdigbgmbmnaa.Skw
