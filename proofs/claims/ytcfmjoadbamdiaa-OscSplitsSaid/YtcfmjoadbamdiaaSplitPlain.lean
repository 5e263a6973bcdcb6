/- Plain laws for OscSplits: dividing a segment changes no reading. -/
import Derived.Test.YtcfmjoadbamdiaaOscPlain
namespace Go.Proofs.Ytcfmjoadbamdiaa.OscP
def cutA (A : Nat → Int) (i : Nat) (at_ : Int) (j : Nat) : Int := if j < i then A j else if j = i then at_ else A (j - 1)
theorem gain_cut {A P : Nat → Int} {n i : Nat} {at_ q t : Int} (hi : 1 ≤ i) (hin : i ≤ n) (h1 : A (i - 1) < at_) (h2 : i < n → at_ < A i) (hq : q = P (i - 1) ∨ t ≤ at_)
    (hinc : ∀ j, j + 1 < n → A j < A (j + 1)) :
    gain (cutA A i at_) (cutA P i q) (n + 1) t = gain A P n t := by
  have f0 : ∀ k, k + 1 ≤ i → sumTo (fun j => cutA P i q j * dd (cutA A i at_) (n + 1) t j) k = sumTo (fun j => P j * dd A n t j) k := by
    intro k hk
    refine sumTo_congr fun j hj => ?_
    have e1 : cutA P i q j = P j := by unfold cutA; rw [if_pos (by omega)]
    have e2 : dd (cutA A i at_) (n + 1) t j = dd A n t j := by
      unfold dd cutA
      rw [if_pos (show j + 1 < n + 1 by omega), if_pos (show j + 1 < n by omega), if_pos (show j + 1 < i by omega), if_pos (show j < i by omega)]
    simp only [e1, e2]
  have f1 : ∀ d, i + d ≤ n → sumTo (fun j => cutA P i q j * dd (cutA A i at_) (n + 1) t j) (i + d + 1) = sumTo (fun j => P j * dd A n t j) (i + d) := by
    intro d
    induction d with
    | zero =>
      intro _
      obtain ⟨k, rfl⟩ : ∃ k, i = k + 1 := ⟨i - 1, by omega⟩
      simp only [Nat.add_zero]
      rw [sumTo_succ, sumTo_succ, sumTo_succ, f0 k (by omega)]
      have e1 : cutA P (k + 1) q k = P k := by unfold cutA; rw [if_pos (by omega)]
      have e2 : cutA P (k + 1) q (k + 1) = q := by unfold cutA; rw [if_neg (by omega), if_pos rfl]
      simp only [e1, e2]
      simp only [Nat.add_sub_cancel] at h1 hq
      have d1 : dd (cutA A (k + 1) at_) (n + 1) t k = max 0 (min t at_ - A k) := by
        unfold dd cutA
        rw [if_pos (show k + 1 < n + 1 by omega), if_neg (show ¬ k + 1 < k + 1 by omega), if_pos rfl, if_pos (show k < k + 1 by omega)]
      have d2 : dd (cutA A (k + 1) at_) (n + 1) t (k + 1) = max 0 ((if k + 1 < n then min t (A (k + 1)) else t) - at_) := by
        unfold dd cutA
        rw [if_neg (show ¬ k + 1 < k + 1 by omega), if_pos rfl]
        by_cases h : k + 1 < n
        · rw [if_pos (show k + 1 + 1 < n + 1 by omega), if_neg (show ¬ k + 1 + 1 < k + 1 by omega), if_neg (show ¬ k + 1 + 1 = k + 1 by omega), if_pos h]
          rw [show k + 1 + 1 - 1 = k + 1 by omega]
        · rw [if_neg (show ¬ k + 1 + 1 < n + 1 by omega), if_neg h]
      have d3 : dd A n t k = max 0 ((if k + 1 < n then min t (A (k + 1)) else t) - A k) := rfl
      have hs : dd (cutA A (k + 1) at_) (n + 1) t k + dd (cutA A (k + 1) at_) (n + 1) t (k + 1) = dd A n t k := by
        rw [d1, d2, d3]
        split
        · have := h2 (by assumption); omega
        · omega
      rcases hq with hq | hq
      · subst hq
        rw [← hs, Int.mul_add]
        omega
      · have z : dd (cutA A (k + 1) at_) (n + 1) t (k + 1) = 0 := by
          rw [d2]
          split <;> omega
        rw [z] at hs ⊢
        rw [← hs]
        simp
    | succ d ih =>
      intro hd
      rw [show i + (d + 1) = i + d + 1 by omega, sumTo_succ, ih (by omega), sumTo_succ (fun j => P j * dd A n t j) (i + d)]
      have e1 : cutA P i q (i + d + 1) = P (i + d) := by unfold cutA; rw [if_neg (by omega), if_neg (by omega)]; rfl
      have e2 : dd (cutA A i at_) (n + 1) t (i + d + 1) = dd A n t (i + d) := by
        unfold dd cutA
        rw [if_neg (show ¬ i + d + 1 < i by omega), if_neg (show ¬ i + d + 1 = i by omega), if_neg (show ¬ i + d + 1 + 1 < i by omega), if_neg (show ¬ i + d + 1 + 1 = i by omega)]
        rw [show i + d + 1 - 1 = i + d by omega, show i + d + 1 + 1 - 1 = i + d + 1 by omega]
        by_cases h : i + d + 1 < n
        · rw [if_pos (show i + d + 1 + 1 < n + 1 by omega), if_pos h]
        · rw [if_neg (show ¬ i + d + 1 + 1 < n + 1 by omega), if_neg h]
      simp only [e1, e2]
  have := f1 (n - i) (by omega)
  rw [show i + (n - i) = n by omega] at this
  exact this
theorem ok_chk {ph : Int} {A P : Nat → Int} {n : Nat} (ok : Ok ph A P n) : chk ph A P n = 0 := by
  have h1 := ok.n1
  have h2 := ok.n16
  have h3 := ok.ph1
  have h4 := ok.ph2
  unfold chk
  rw [if_neg (by omega), if_neg (by omega), if_neg (by omega)]
  refine firstE_zero fun i hi => ?_
  have := ok.ain i hi
  have := ok.pin i hi
  unfold segE
  rw [if_neg (by omega), if_neg, if_neg]
  · rintro ⟨h0, hle⟩
    have := ok.inc (i - 1) (by omega)
    rw [show i - 1 + 1 = i by omega] at this
    omega
  · rintro ⟨rfl, h⟩
    exact h ok.a0
theorem cut_ok {ph : Int} {A P : Nat → Int} {n i : Nat} {at_ q : Int} (ok : Ok ph A P n) (hn : n < 16) (hi : 1 ≤ i) (hin : i ≤ n) (h1 : A (i - 1) < at_) (h2 : i < n → at_ < A i) (ha : 0 ≤ at_ ∧ at_ ≤ 1125899906842624)
    (hq : -500000 ≤ q ∧ q ≤ 500000) : Ok ph (cutA A i at_) (cutA P i q) (n + 1) := by
  refine ⟨by omega, by omega, ok.ph1, ok.ph2, ?_, fun j hj => ?_, fun j hj => ?_, fun j hj => ?_⟩
  · unfold cutA; rw [if_pos (by omega)]; exact ok.a0
  · unfold cutA
    split
    · exact ok.ain j (by omega)
    · split
      · exact ha
      · exact ok.ain (j - 1) (by omega)
  · unfold cutA
    split
    · exact ok.pin j (by omega)
    · split
      · exact hq
      · exact ok.pin (j - 1) (by omega)
  · unfold cutA
    rcases Nat.lt_trichotomy (j + 1) i with h | h | h
    · rw [if_pos (by omega), if_pos h]; exact ok.inc j (by omega)
    · subst h
      rw [if_pos (by omega), if_neg (by omega), if_pos rfl]
      simpa using h1
    · by_cases hj2 : j = i
      · subst hj2
        rw [if_neg (by omega), if_pos rfl, if_neg (by omega), if_neg (by omega)]
        exact h2 (by omega)
      · rw [if_neg (by omega), if_neg hj2, if_neg (by omega), if_neg (by omega)]
        have := ok.inc (j - 1) (by omega)
        rwa [show j - 1 + 1 = j + 1 - 1 by omega] at this
theorem rd_cut {ph : Int} {A P : Nat → Int} {n i : Nat} {at_ q t : Int} (hi : 1 ≤ i) (hin : i ≤ n) (h1 : A (i - 1) < at_) (h2 : i < n → at_ < A i) (hq : q = P (i - 1) ∨ t ≤ at_)
    (hinc : ∀ j, j + 1 < n → A j < A (j + 1)) : rd ph (cutA A i at_) (cutA P i q) (n + 1) t = rd ph A P n t := by
  rw [rd_eq, rd_eq, gain_cut hi hin h1 h2 hq hinc]
/-- where a time lies among the beginnings -/
theorem place_ex (A : Nat → Int) (at_ : Int) (n : Nat) : ∃ K, K ≤ n ∧ (∀ j, j < K → A j < at_) ∧ (K < n → at_ ≤ A K) := by
  induction n with
  | zero => exact ⟨0, by omega, fun j hj => by omega, fun h => by omega⟩
  | succ n ih =>
    obtain ⟨K, h1, h2, h3⟩ := ih
    by_cases h : K < n
    · exact ⟨K, by omega, h2, fun _ => h3 h⟩
    · have : K = n := by omega
      subst this
      by_cases ha : A K < at_
      · refine ⟨K + 1, by omega, fun j hj => ?_, fun h => by omega⟩
        by_cases hj2 : j < K
        · exact h2 j hj2
        · have : j = K := by omega
          subst this; exact ha
      · exact ⟨K, by omega, h2, fun _ => by omega⟩
end Go.Proofs.Ytcfmjoadbamdiaa.OscP
