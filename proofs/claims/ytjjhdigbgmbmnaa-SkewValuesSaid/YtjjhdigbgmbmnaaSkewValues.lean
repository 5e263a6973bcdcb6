/- The walk of the law SkewValues. -/
import Derived.Test.YtjjhdigbgmbmnaaSkxL
import Derived.Test.YtjjhdigbgmbmnaaSkwY
namespace Go.Proofs.Ytjjhdigbgmbmnaa.Skw
open Go.RowKit Aid Fx
set_option maxRecDepth 100000 in
set_option maxHeartbeats 6400000 in
theorem SkewValues_walk (a : Option Addr) (n cap : Nat) (X L H : Nat → Int) (x : Int) (w : World) (hr : GatesAt w a n X L H) (hcap : n ≤ cap) :
    Calls Try.prog 5 #[.slice a n cap, .int .i64 x] w fun e w' => e = .returned (.bool true) ∧ Below w.heap.size w w' := by
  have CF := hide (fun W => few_any a n cap W)
  have CW := hide awake_any
  have HG := hide (fun W (h : Below w.heap.size w W) => hr.below h)
  clear hr
  by_cases h24 : n ≤ 24
  · rw [decide_eq_true h24] at CF
    have CS : Hid (∀ W, Below w.heap.size w W → Calls Try.prog 23 #[.slice a n cap, .int .i64 x] W fun e w' => e = .returned (.tuple #[.agg #[.int .i64 (atA X L H n x).1, .int .i64 (atA X L H n x).2], .agg #[.int .i64 (atB X L H n x).1, .int .i64 (atB X L H n x).2], .int .i64 (atE X L H n x)]) ∧ Below W.heap.size W w') := hide fun W h => At_any a n cap X L H x W (HG.out W h) hcap
    have CR : Hid (∀ W, Below w.heap.size w W → Calls Try.prog 24 #[.slice a n cap, .int .i64 x] W fun e w' => e = .returned (.tuple #[.agg #[.int .i64 (atA X L H n x).1, .int .i64 (atA X L H n x).2], .agg #[.int .i64 (atB X L H n x).1, .int .i64 (atB X L H n x).2], .int .i64 (atE X L H n x)]) ∧ Below W.heap.size W w') := hide fun W h => RAt_any a n cap X L H x W (HG.out W h)
    generalize atA X L H n x = A at CS CR
    generalize atB X L H n x = B at CS CR
    generalize atE X L H n x = E at CS CR
    clear HG
    go_enter Try.func5, Try.ntmps5
    go_wp2_with fail
    with_reducible refine (CF.out _).mono ?_
    rintro e w1 ⟨rfl, hb⟩
    clear CF
    go_wp2_with fail
    with_reducible refine (CS.out _ hb).mono ?_
    rintro e w2 ⟨rfl, hb2⟩
    replace hb := rat_trans hb hb2
    clear hb2 CS
    go_upto_region 4 with fail
    have hup := ((Below.refl w2.heap.size w2).alloc (Nat.le_refl _) (.cells #[.int .i64 A.1, .int .i64 A.2] 26)).alloc (by simp) (.cells #[.int .i64 B.1, .int .i64 B.2] 26)
    have Eg2 := (RatAt.newv (n := A.1) (d := A.2) (W := w2) rfl).alloc (.cells #[.int .i64 B.1, .int .i64 B.2] 26)
    have Fg2 : RatAt ((w2.alloc (.cells #[.int .i64 A.1, .int .i64 A.2] 26)).alloc (.cells #[.int .i64 B.1, .int .i64 B.2] 26)) (w2.heap.size + 1) B.1 B.2 := RatAt.newv1 rfl
    replace hb := rat_trans hb hup
    clear hup
    generalize hW : ((w2.alloc (.cells #[.int .i64 A.1, .int .i64 A.2] 26)).alloc (.cells #[.int .i64 B.1, .int .i64 B.2] 26)) = W2 at Eg2 Fg2 hb ⊢
    clear hW
    generalize w2.heap.size = g2 at Eg2 Fg2 ⊢
    go_wp2_with fail
    with_reducible refine (CR.out _ hb).mono ?_
    rintro e w3 ⟨rfl, hb3⟩
    replace hb := rat_trans hb hb3
    replace Eg2 := Eg2.step hb3
    replace Fg2 := Fg2.step hb3
    clear hb3 CR
    go_upto_region 5 with fail
    have hup := ((Below.refl w3.heap.size w3).alloc (Nat.le_refl _) (.cells #[.int .i64 A.1, .int .i64 A.2] 26)).alloc (by simp) (.cells #[.int .i64 B.1, .int .i64 B.2] 26)
    have Eg3 := (RatAt.newv (n := A.1) (d := A.2) (W := w3) rfl).alloc (.cells #[.int .i64 B.1, .int .i64 B.2] 26)
    have Fg3 : RatAt ((w3.alloc (.cells #[.int .i64 A.1, .int .i64 A.2] 26)).alloc (.cells #[.int .i64 B.1, .int .i64 B.2] 26)) (w3.heap.size + 1) B.1 B.2 := RatAt.newv1 rfl
    replace hb := rat_trans hb hup
    replace Eg2 := Eg2.step hup
    replace Fg2 := Fg2.step hup
    clear hup
    generalize hW : ((w3.alloc (.cells #[.int .i64 A.1, .int .i64 A.2] 26)).alloc (.cells #[.int .i64 B.1, .int .i64 B.2] 26)) = W3 at Eg3 Fg3 Eg2 Fg2 hb ⊢
    clear hW
    generalize w3.heap.size = g3 at Eg3 Fg3 ⊢
    obtain ⟨a0, a1, _⟩ := Eg2.cells
    obtain ⟨a2, a3, _⟩ := Fg2.cells
    obtain ⟨b0, b1, _⟩ := Eg3.cells
    obtain ⟨b2, b3, _⟩ := Fg3.cells
    clear Eg2 Fg2 Eg3 Fg3
    go_wp2_with fail
    with_reducible refine (CW.out _).mono ?_
    rintro e w8 ⟨rfl, hb8⟩
    have HB := hide (rat_trans hb hb8)
    clear hb hb8 a0 a1 a2 a3 b0 b1 b2 b3 CW
    go_wp2
    go_ret
    exact ⟨rfl, HB.out⟩
  · rw [decide_eq_false h24] at CF
    go_enter Try.func5, Try.ntmps5
    go_wp2_with fail
    with_reducible refine (CF.out _).mono ?_
    rintro e w1 ⟨rfl, hb⟩
    go_wp2_with fail
    with_reducible refine (CW.out _).mono ?_
    rintro e w2 ⟨rfl, hb2⟩
    have HB := hide (rat_trans hb hb2)
    clear hb hb2
    go_wp2
    go_ret
    exact ⟨rfl, HB.out⟩
end Go.Proofs.Ytjjhdigbgmbmnaa.Skw
