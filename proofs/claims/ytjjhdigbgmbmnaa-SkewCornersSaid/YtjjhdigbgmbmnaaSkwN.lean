/- The contract of skew.Passes. -/
import Derived.Test.YtjjhdigbgmbmnaaSkwM
namespace Go.Proofs.Ytjjhdigbgmbmnaa.Skw
open Go.RowKit Aid Fx
/-- a line passes the gates -/
def PaB (X L H : Nat → Int) (n : Nat) : Prop := chkG X L H n = 0 ∧ (n = 1 ∨ topR (sl1 X L H) n ≤ botR (sl2 X L H) n)
noncomputable instance (X L H : Nat → Int) (n : Nat) : Decidable (PaB X L H n) := by unfold PaB; exact inferInstance
set_option maxRecDepth 100000 in
set_option maxHeartbeats 3200000 in
theorem Passes_any (a : Option Addr) (n cap : Nat) (X L H : Nat → Int) (w : World) (hr : GatesAt w a n X L H) (hcap : n ≤ cap) :
    Calls Try.prog 16 #[.slice a n cap] w fun e w' => e = .returned (.bool (decide (PaB X L H n))) ∧ Below w.heap.size w w' := by
  have hn63 := hr.1
  obtain ⟨R, hR⟩ : ∃ R, R = decide (PaB X L H n) := ⟨_, rfl⟩
  rw [← hR]
  have HR := hide hR
  clear hR
  have CC := hide (fun W (h : Below w.heap.size w W) => Check_any a n cap X L H W (hr.below h))
  have CS := hide (fun W (h : Below w.heap.size w W) (ok : GOk X L H n) (h2 : 2 ≤ n) => slopes_any a n cap X L H W (hr.below h) ok h2 hcap)
  clear hr
  by_cases hc : chkG X L H n = 0
  · rw [hc] at CC
    have HO := hide (chk_ok hc)
    by_cases h1 : n = 1
    · have hE : R = true := by rw [HR.out, decide_eq_true_iff]; exact ⟨hc, .inl h1⟩
      subst hE
      clear CS
      subst h1
      go_enter Try.func16, Try.ntmps16
      go_wp2_with fail
      refine (CC.out _ (Below.refl _ _)).mono ?_
      rintro e w1 ⟨rfl, hb⟩
      go_wp2
      go_ret
      exact ⟨rfl, hb⟩
    · have h2 : 2 ≤ n := by have := HO.out.n1; omega
      have hn1 : ((n : Int) == 1) = false := by simp; omega
      go_enter Try.func16, Try.ntmps16
      go_wp2_with fail
      refine (CC.out _ (Below.refl _ _)).mono ?_
      rintro e w1 ⟨rfl, hb⟩
      clear CC
      go_wp2_with fail
      refine (CS.out _ hb HO.out h2).mono ?_
      rintro e w2 ⟨p, q, r, s, rfl, SB, hb2⟩
      have B2 := rat_trans hb hb2
      clear CS hb hb2
      have e2 : R = decide (Rat.divInt p q ≤ Rat.divInt r s) := by
        rw [HR.out, decide_eq_decide, SB.top.eq, SB.bot.eq]
        exact ⟨fun h => by rcases h.2 with k | k; exact absurd k h1; exact k, fun h => ⟨hc, .inr h⟩⟩
      rw [← e2]
      clear e2 SB
      have HB2 := hide B2
      clear B2
      go_wp2
      go_ret
      refine ⟨rfl, ?_⟩
      repeat (first | with_reducible refine Below.drew ?_ | with_reducible refine below_drewN ?_ _ | with_reducible refine Below.setCell ?_ (by first | (dsimp only; omega) | (simp; omega)) _ | with_reducible refine rat_up ?_ _ | exact HB2.out)
  · have hE : R = false := by rw [HR.out, decide_eq_false_iff_not]; exact fun h => hc h.1
    subst hE
    clear CS HR
    generalize chkG X L H n = c at *
    have hcb : (c != 0) = true := by simp [hc]
    go_enter Try.func16, Try.ntmps16
    go_wp2_with fail
    refine (CC.out _ (Below.refl _ _)).mono ?_
    rintro e w1 ⟨rfl, hb⟩
    go_wp2
    go_ret
    exact ⟨rfl, hb⟩
end Go.Proofs.Ytjjhdigbgmbmnaa.Skw
