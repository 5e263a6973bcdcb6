/- Plain: the least bound over ordered pairs of gates is the least one over pairs; the turned gates give the greatest lower bound. -/
import Derived.Test.YtjjhdigbgmbmnaaSkxJ
import Derived.Test.YtjjhdigbgmbmnaaSkwR
namespace Go.Proofs.Ytjjhdigbgmbmnaa.Skw
open Go.RowKit Aid Fx
theorem bd_left {X L H : Nat → Int} {x : Int} {i j : Nat} (hij : X i < X j) (h : bdO (X i) (X j) x) : bdR (X i) (H i) (X j) (L j) (H j) x = va2 X L H x i j := by
  unfold bdR va2 vN2
  unfold bdO at h
  by_cases h1 : x = X i
  · rw [if_pos h1, if_pos (by omega), eq_iff (by omega) (by omega), h1]
    have e : X i - X i = 0 := by omega
    rw [e, Int.mul_zero, Int.add_zero, Int.mul_one]
  · rw [if_neg h1]
    by_cases h2 : X i < x ∧ x < X j
    · rw [if_pos h2, if_neg (by omega), if_neg (by omega)]
    · rw [if_neg h2, if_neg (by omega), if_pos (by omega)]
      congr 1
      grind
theorem bd_right {X L H : Nat → Int} {x : Int} {i j : Nat} (hij : X i < X j) (h : bdO (X j) (X i) x) : bdR (X j) (H j) (X i) (L i) (H i) x = va2 X L H x i j := by
  unfold bdR va2 vN2
  unfold bdO at h
  by_cases h1 : x = X j
  · rw [if_pos h1, if_neg (by omega), if_pos (by omega), eq_iff (by omega) (by omega), h1]
    have e : X j - X j = 0 := by omega
    rw [e, Int.mul_zero, Int.zero_add, Int.mul_one]
  · rw [if_neg h1, if_neg (by omega), if_pos (by omega), if_neg (by omega), if_pos (by omega)]
    congr 1
    grind
theorem bd_same {X L H : Nat → Int} {x : Int} {i : Nat} (h : bdO (X i) (X i) x) : x = X i ∧ bdR (X i) (H i) (X i) (L i) (H i) x = Rat.divInt (H i) 1 := by
  unfold bdO at h
  have e : x = X i := by omega
  refine ⟨e, ?_⟩
  unfold bdR
  rw [if_pos e]
theorem bd_own {X L H : Nat → Int} {x : Int} {i j : Nat} (h : x = X i) : bdR (X i) (H i) (X j) (L j) (H j) x = Rat.divInt (H i) 1 := by
  unfold bdR
  rw [if_pos h]
theorem va2_lt {X L H : Nat → Int} {n : Nat} {x : Int} (ok : GOk X L H n) (hx : 0 ≤ x ∧ x ≤ 1073741824) {i j : Nat} (hij : i < j) (hj : j < n) : va2 X L H x i j < Rat.divInt 4611686018427387904 1 := by
  have h := ok.inc i j hij hj
  have hb := vN_bd (ok.r i (by omega)) (ok.r j hj) hx
  unfold va2
  rw [lt_iff (by omega) (by omega)]
  have : 4611686018427387904 * 1 ≤ 4611686018427387904 * (X j - X i) := by omega
  omega
theorem gbot_bot {X L H : Nat → Int} {n : Nat} {x : Int} {U : Rat} (ok : GOk X L H n) (hx : 0 ≤ x ∧ x ≤ 1073741824) (h2 : 2 ≤ n) (h : GBot X L H x n (fun _ _ => True) U) : IsBot (va2 X L H x) n U := by
  have up : ∀ i j, i < j → j < n → U ≤ va2 X L H x i j := by
    intro i j hij hj
    have hinc := ok.inc i j hij hj
    by_cases hs : x < X j
    · have ho : bdO (X i) (X j) x := by unfold bdO; omega
      rw [← bd_left hinc ho]
      exact h.h i j (by omega) hj trivial ho
    · have ho : bdO (X j) (X i) x := by unfold bdO; omega
      rw [← bd_right hinc ho]
      exact h.h j i hj (by omega) trivial ho
  refine ⟨?_, up⟩
  rcases h.i with e | ⟨i, j, hi, hj, ho, e⟩
  · have h1 := up 0 1 (by omega) (by omega)
    rw [e] at h1
    exact absurd (va2_lt ok hx (show 0 < 1 by omega) (by omega)) (Rat.not_lt.2 h1)
  · rcases Nat.lt_trichotomy i j with h1 | h1 | h1
    · exact ⟨i, j, h1, hj, by rw [← e]; exact (bd_left (ok.inc i j h1 hj) ho).symm⟩
    · subst h1
      obtain ⟨e1, e2⟩ := bd_same (L := L) (H := H) ho
      rw [e2] at e
      by_cases hl : i + 1 < n
      · have hinc := ok.inc i (i + 1) (by omega) hl
        refine ⟨i, i + 1, by omega, hl, ?_⟩
        rw [← bd_left (L := L) (H := H) hinc (.inl e1), bd_own e1]
        exact e
      · have hinc := ok.inc 0 i (by omega) hi
        refine ⟨0, i, by omega, hi, ?_⟩
        rw [← bd_right (L := L) (H := H) hinc (.inl e1), bd_own e1]
        exact e
    · exact ⟨j, i, h1, hi, by rw [← e]; exact (bd_right (ok.inc j i h1 hi) ho).symm⟩
theorem gbot_one {X L H : Nat → Int} {x : Int} {U : Rat} (hx : x = X 0) (h : GBot X L H x 1 (fun _ _ => True) U) (hr : InR (X 0) (L 0) (H 0)) : U = Rat.divInt (H 0) 1 := by
  have h0 := h.h 0 0 (by omega) (by omega) trivial (.inl hx)
  rw [bd_own hx] at h0
  rcases h.i with e | ⟨i, j, hi, hj, ho, e⟩
  · rw [e] at h0
    obtain ⟨_, _, _, _, _, h6⟩ := hr
    exact absurd ((le_iff (by omega) (by omega)).1 h0) (by omega)
  · have e1 : i = 0 := by omega
    have e2 : j = 0 := by omega
    subst e1 e2
    rw [bd_own hx] at e
    exact e.symm
/-- the gates with their values negated -/
theorem turn_ok {X L H : Nat → Int} {n : Nat} (ok : GOk X L H n) : GOk X (fun i => -H i) (fun i => -L i) n :=
  ⟨ok.n1, ok.n2, fun i hi => by
    obtain ⟨x1, x2, x3, x4, x5, x6⟩ := ok.r i hi
    exact ⟨x1, x2, by omega, by omega, by omega, by omega⟩, fun i hi => by have := ok.lh i hi; omega, ok.inc⟩
theorem turn_va (X L H : Nat → Int) (x : Int) (i j : Nat) : va2 X (fun i => -H i) (fun i => -L i) x i j = - va1 X L H x i j := by
  unfold va1 va2
  rw [← neg_eq]
  congr 1
  unfold vN1 vN2
  by_cases h1 : x ≤ X i
  · rw [if_pos h1, if_pos h1]; grind
  · rw [if_neg h1, if_neg h1]
    by_cases h2 : X j ≤ x
    · rw [if_pos h2, if_pos h2]; grind
    · rw [if_neg h2, if_neg h2]; grind
theorem turn_top {X L H : Nat → Int} {n : Nat} {x : Int} {U : Rat} (h : IsBot (va2 X (fun i => -H i) (fun i => -L i) x) n U) : IsTop (va1 X L H x) n (-U) := by
  rw [top_neg, Rat.neg_neg]
  have e : (fun i j => - va1 X L H x i j) = va2 X (fun i => -H i) (fun i => -L i) x := by funext i j; exact (turn_va X L H x i j).symm
  rw [e]
  exact h
/-- what the reference's At gives where there is a line -/
theorem rat_vals {X L H : Nat → Int} {n : Nat} {x : Int} {U V : Rat} (ok : GOk X L H n) (hx : 0 ≤ x ∧ x ≤ 1073741824) (hE : atE X L H n x = 0) (hU : GBot X (fun i => -H i) (fun i => -L i) x n (fun _ _ => True) U) (hV : GBot X L H x n (fun _ _ => True) V) :
    atA X L H n x = (-U.num, (U.den : Int)) ∧ atB X L H n x = (V.num, (V.den : Int)) := by
  have hx' : ¬ (x < 0 ∨ 1073741824 < x) := by omega
  have hc := ok_chk ok
  unfold atA atB
  rw [if_pos hE, if_pos hE]
  by_cases h1 : n = 1
  · subst h1
    have e : X 0 = x := by
      unfold atE at hE
      rw [if_neg (by rw [hc]; decide), if_neg hx', if_pos rfl] at hE
      split at hE
      · assumption
      · cases hE
    have r0 := ok.r 0 (by omega)
    rw [if_pos rfl, if_pos rfl, gbot_one e.symm hV r0, gbot_one e.symm hU ((turn_ok ok).r 0 (by omega))]
    have k : ∀ z : Int, (Rat.divInt z 1).num = z ∧ ((Rat.divInt z 1).den : Int) = 1 := fun z => by
      rw [num_eq (by omega), den_eq (by omega)]
      simp
    rw [(k (H 0)).1, (k (H 0)).2, (k (-L 0)).1, (k (-L 0)).2, Int.neg_neg]
    exact ⟨rfl, rfl⟩
  · have h2 : 2 ≤ n := by have := ok.n1; omega
    rw [if_neg h1, if_neg h1]
    have t := (turn_top (gbot_bot (turn_ok ok) hx h2 hU)).eq
    have v := (gbot_bot ok hx h2 hV).eq
    rw [← t, ← v]
    exact ⟨by rw [Rat.neg_num, Rat.neg_den], rfl⟩
end Go.Proofs.Ytjjhdigbgmbmnaa.Skw
