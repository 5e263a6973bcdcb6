/- Plain: what the examples of the chapter give. -/
import Derived.Test.YtjjhdigbgmbmnaaSkwW
import Derived.Test.YtjjhdigbgmbmnaaSkwR
namespace Go.Proofs.Ytjjhdigbgmbmnaa.Skw
open Go.RowKit Aid Fx
def t3 (a b c : Int) (i : Nat) : Int := if i = 0 then a else if i = 1 then b else c
theorem gates3 (w : World) (x0 l0 h0 x1 l1 h1 x2 l2 h2 : Int) : GatesAt (w.alloc (.cells #[.int .i64 x0, .int .i64 l0, .int .i64 h0, .int .i64 x1, .int .i64 l1, .int .i64 h1, .int .i64 x2, .int .i64 l2, .int .i64 h2] 43)) (some ⟨w.heap.size, 0, none⟩) 3 (t3 x0 x1 x2) (t3 l0 l1 l2) (t3 h0 h1 h2) := by
  refine ⟨by omega, fun _ => ⟨_, 0, rfl, by simp, fun i hi => ?_⟩⟩
  match i, hi with
  | 0, _ => exact ⟨by simp [go_sem, t3], by simp [go_sem, t3], by simp [go_sem, t3]⟩
  | 1, _ => exact ⟨by simp [go_sem, t3], by simp [go_sem, t3], by simp [go_sem, t3]⟩
  | 2, _ => exact ⟨by simp [go_sem, t3], by simp [go_sem, t3], by simp [go_sem, t3]⟩
theorem three {P : Nat → Nat → Prop} (h1 : P 0 1) (h2 : P 0 2) (h3 : P 1 2) : ∀ i j, i < j → j < 3 → P i j := by
  intro i j hij hj
  have e : (i = 0 ∧ j = 1) ∨ (i = 0 ∧ j = 2) ∨ (i = 1 ∧ j = 2) := by omega
  rcases e with ⟨rfl, rfl⟩ | ⟨rfl, rfl⟩ | ⟨rfl, rfl⟩
  · exact h1
  · exact h2
  · exact h3
theorem top3 {f : Nat → Nat → Rat} {r : Rat} (h1 : f 0 1 ≤ r) (h2 : f 0 2 ≤ r) (h3 : f 1 2 ≤ r) (i j : Nat) (hij : i < j) (hj : j < 3) (he : f i j = r) : topR f 3 = r :=
  (IsTop.eq ⟨⟨i, j, hij, hj, he⟩, three h1 h2 h3⟩).symm
theorem bot3 {f : Nat → Nat → Rat} {r : Rat} (h1 : r ≤ f 0 1) (h2 : r ≤ f 0 2) (h3 : r ≤ f 1 2) (i j : Nat) (hij : i < j) (hj : j < 3) (he : f i j = r) : botR f 3 = r :=
  (IsBot.eq ⟨⟨i, j, hij, hj, he⟩, three h1 h2 h3⟩).symm
theorem exl_top : topR (sl1 (t3 0 10 20) (t3 0 5 0) (t3 10 20 12)) 3 = Rat.divInt (-1) 2 := top3 (by decide +kernel) (by decide +kernel) (by decide +kernel) 0 1 (by omega) (by omega) (by decide +kernel)
theorem exl_bot : botR (sl2 (t3 0 10 20) (t3 0 5 0) (t3 10 20 12)) 3 = Rat.divInt 3 5 := bot3 (by decide +kernel) (by decide +kernel) (by decide +kernel) 0 2 (by omega) (by omega) (by decide +kernel)
theorem exl_chk : chkG (t3 0 10 20) (t3 0 5 0) (t3 10 20 12) 3 = 0 := by decide +kernel
theorem exm_chk : chkG (t3 0 1 2) (t3 0 1 3) (t3 0 1 3) 3 = 0 := by decide +kernel
theorem exm_top : topR (sl1 (t3 0 1 2) (t3 0 1 3) (t3 0 1 3)) 3 = Rat.divInt 2 1 := top3 (by decide +kernel) (by decide +kernel) (by decide +kernel) 1 2 (by omega) (by omega) (by decide +kernel)
theorem exm_bot : botR (sl2 (t3 0 1 2) (t3 0 1 3) (t3 0 1 3)) 3 = Rat.divInt 1 1 := bot3 (by decide +kernel) (by decide +kernel) (by decide +kernel) 0 1 (by omega) (by omega) (by decide +kernel)
theorem exl_sl : slE (t3 0 10 20) (t3 0 5 0) (t3 10 20 12) 3 = 0 ∧ slA (t3 0 10 20) (t3 0 5 0) (t3 10 20 12) 3 = (-1, 2) ∧ slB (t3 0 10 20) (t3 0 5 0) (t3 10 20 12) 3 = (3, 5) := by
  have h : slE (t3 0 10 20) (t3 0 5 0) (t3 10 20 12) 3 = 0 := by
    unfold slE
    rw [exl_chk, if_neg (by decide), exl_top, exl_bot, if_neg (by decide +kernel)]
  refine ⟨h, ?_, ?_⟩
  · unfold slA
    rw [if_pos h, exl_top]
    decide +kernel
  · unfold slB
    rw [if_pos h, exl_bot]
    decide +kernel
theorem exm_sl : slE (t3 0 1 2) (t3 0 1 3) (t3 0 1 3) 3 = 11 := by
  unfold slE
  rw [exm_chk, if_neg (by decide), exm_top, exm_bot, if_pos (by decide +kernel)]
theorem exl_pa : PaB (t3 0 10 20) (t3 0 5 0) (t3 10 20 12) 3 := by
  refine ⟨exl_chk, .inr ?_⟩
  rw [exl_top, exl_bot]
  decide +kernel
theorem exm_pa : ¬ PaB (t3 0 1 2) (t3 0 1 3) (t3 0 1 3) 3 := by
  rintro ⟨_, h | h⟩
  · omega
  · rw [exm_top, exm_bot] at h
    exact absurd h (by decide +kernel)
theorem exl_at (x : Int) (p q : Rat) (hx : ¬ (x < 0 ∨ 1073741824 < x)) (hp : topR (va1 (t3 0 10 20) (t3 0 5 0) (t3 10 20 12) x) 3 = p) (hq : botR (va2 (t3 0 10 20) (t3 0 5 0) (t3 10 20 12) x) 3 = q) :
    atE (t3 0 10 20) (t3 0 5 0) (t3 10 20 12) 3 x = 0 ∧ atA (t3 0 10 20) (t3 0 5 0) (t3 10 20 12) 3 x = (p.num, (p.den : Int)) ∧ atB (t3 0 10 20) (t3 0 5 0) (t3 10 20 12) 3 x = (q.num, (q.den : Int)) := by
  have h : atE (t3 0 10 20) (t3 0 5 0) (t3 10 20 12) 3 x = 0 := by
    unfold atE
    rw [exl_chk, if_neg (by decide), if_neg hx, if_neg (by decide), exl_top, exl_bot, if_pos (by decide +kernel)]
  refine ⟨h, ?_, ?_⟩
  · unfold atA
    rw [if_pos h, if_neg (by decide), hp]
  · unfold atB
    rw [if_pos h, if_neg (by decide), hq]
theorem exl_10 : atE (t3 0 10 20) (t3 0 5 0) (t3 10 20 12) 3 10 = 0 ∧ atA (t3 0 10 20) (t3 0 5 0) (t3 10 20 12) 3 10 = (5, 1) ∧ atB (t3 0 10 20) (t3 0 5 0) (t3 10 20 12) 3 10 = (11, 1) :=
  have h := exl_at 10 (Rat.divInt 5 1) (Rat.divInt 11 1) (by decide) (top3 (by decide +kernel) (by decide +kernel) (by decide +kernel) 0 1 (by omega) (by omega) (by decide +kernel)) (bot3 (by decide +kernel) (by decide +kernel) (by decide +kernel) 0 2 (by omega) (by omega) (by decide +kernel))
  ⟨h.1, h.2.1.trans (by decide +kernel), h.2.2.trans (by decide +kernel)⟩
theorem exl_30 : atE (t3 0 10 20) (t3 0 5 0) (t3 10 20 12) 3 30 = 0 ∧ atA (t3 0 10 20) (t3 0 5 0) (t3 10 20 12) 3 30 = (-5, 1) ∧ atB (t3 0 10 20) (t3 0 5 0) (t3 10 20 12) 3 30 = (18, 1) :=
  have h := exl_at 30 (Rat.divInt (-5) 1) (Rat.divInt 18 1) (by decide) (top3 (by decide +kernel) (by decide +kernel) (by decide +kernel) 0 2 (by omega) (by omega) (by decide +kernel)) (bot3 (by decide +kernel) (by decide +kernel) (by decide +kernel) 0 2 (by omega) (by omega) (by decide +kernel))
  ⟨h.1, h.2.1.trans (by decide +kernel), h.2.2.trans (by decide +kernel)⟩
theorem exl_low : lowS (t3 0 10 20) (t3 0 5 0) (t3 10 20 12) 3 = [0, 2] := by decide +kernel
theorem exl_upp : uppS (t3 0 10 20) (t3 0 5 0) (t3 10 20 12) 3 = [0, 1, 2] := by decide +kernel
end Go.Proofs.Ytjjhdigbgmbmnaa.Skw
