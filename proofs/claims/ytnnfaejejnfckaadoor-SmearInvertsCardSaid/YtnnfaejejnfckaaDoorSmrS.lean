/- Plain law of layer 7: the instant of a reading where the offset steps. -/
import Derived.Test.YtnnfaejejnfckaaDoorSmrH
namespace Go.Proofs.YtnnfaejejnfckaaDoor.Smr
open Go.RowKit Aid Civ Leap
def stk (P : Nat → Bool) (v : Nat → Int) : Nat → Int × Bool
  | 0 => (0, false)
  | k + 1 => if (stk P v k).2 = true then stk P v k else if P k = true then (v k, true) else (0, false)
theorem stk_none {P : Nat → Bool} {v : Nat → Int} : ∀ {k : Nat}, (stk P v k).2 = false → stk P v k = (0, false) := by
  intro k
  induction k with
  | zero => intro _; rfl
  | succ k ih =>
    intro h
    unfold stk at h ⊢
    by_cases h1 : (stk P v k).2 = true
    · rw [if_pos h1] at h; rw [h] at h1; cases h1
    · rw [if_neg h1] at h ⊢
      by_cases h2 : P k = true
      · rw [if_pos h2] at h; cases h
      · rw [if_neg h2]
theorem stk_keep {P : Nat → Bool} {v : Nat → Int} {k : Nat} (h : (stk P v k).2 = true) : ∀ {n : Nat}, k ≤ n → stk P v n = stk P v k := by
  intro n
  induction n with
  | zero => intro hk; obtain rfl : k = 0 := by omega
            rfl
  | succ n ih =>
    intro hk
    rcases Nat.lt_or_ge n k with h1 | h1
    · obtain rfl : k = n + 1 := by omega
      rfl
    · have := ih h1
      show (if (stk P v n).2 = true then stk P v n else _) = _
      rw [this, if_pos h]
theorem stk_hit {P : Nat → Bool} {v : Nat → Int} {k n : Nat} (h : (stk P v k).2 = false) (hp : P k = true) (hk : k < n) : stk P v n = (v k, true) := by
  have e : stk P v (k + 1) = (v k, true) := by
    show (if (stk P v k).2 = true then stk P v k else if P k = true then (v k, true) else (0, false)) = _
    rw [if_neg (by rw [h]; simp), if_pos hp]
  have := stk_keep (P := P) (v := v) (k := k + 1) (by rw [e]) (n := n) hk
  rw [this, e]
theorem stk_miss {P : Nat → Bool} {v : Nat → Int} {k : Nat} (h : (stk P v k).2 = false) (hp : P k = false) : (stk P v (k + 1)).2 = false := by
  show (if (stk P v k).2 = true then stk P v k else if P k = true then (v k, true) else (0, false)).2 = false
  rw [if_neg (by rw [h]; simp), if_neg (by rw [hp]; simp)]
theorem stk_same {P : Nat → Bool} {v : Nat → Int} {k : Nat} (h : (stk P v k).2 = false) (hp : P k = false) : stk P v (k + 1) = (0, false) := stk_none (stk_miss h hp)
theorem stk_set {P : Nat → Bool} {v : Nat → Int} {k : Nat} (h : (stk P v k).2 = false) (hp : P k = true) : stk P v (k + 1) = (v k, true) := stk_hit h hp (by omega)
theorem stk_ex {P : Nat → Bool} {v : Nat → Int} {n : Nat} (h : (stk P v n).2 = true) : ∃ k, k < n ∧ P k = true ∧ stk P v n = (v k, true) ∧ (∀ i, i < k → P i = false) := by
  induction n with
  | zero => cases h
  | succ n ih =>
    by_cases h1 : (stk P v n).2 = true
    · obtain ⟨k, hk, hp, he, hm⟩ := ih h1
      exact ⟨k, by omega, hp, by rw [stk_keep h1 (by omega)]; exact he, hm⟩
    · have h2 : (stk P v n).2 = false := by simpa using h1
      have e : stk P v (n + 1) = if P n = true then (v n, true) else (0, false) := by
        show (if (stk P v n).2 = true then stk P v n else _) = _
        rw [if_neg h1]
      by_cases h3 : P n = true
      · refine ⟨n, by omega, h3, by rw [e, if_pos h3], fun i hi => ?_⟩
        cases h4 : P i with
        | false => rfl
        | true =>
          exfalso
          have h5 : (stk P v i).2 = false := by
            cases h6 : (stk P v i).2 with
            | false => rfl
            | true => rw [stk_keep h6 (show i ≤ n by omega), h6] at h2; cases h2
          rw [stk_hit h5 h4 hi] at h2; cases h2
      · rw [e, if_neg h3] at h; cases h
theorem stk_all {P : Nat → Bool} {v : Nat → Int} {n : Nat} (h : (stk P v n).2 = false) : ∀ i, i < n → P i = false := by
  intro i hi
  cases h4 : P i with
  | false => rfl
  | true =>
    exfalso
    have h5 : (stk P v i).2 = false := by
      cases h6 : (stk P v i).2 with
      | false => rfl
      | true => rw [stk_keep h6 (show i ≤ n by omega), h6] at h; cases h
    rw [stk_hit h5 h4 hi] at h; cases h
def gE (A O : Nat → Int) (i : Nat) : Int := (A i + O i) * 1000000000
def mxI (a b : Int) : Int := if a < b then b else a
def mnI (a b : Int) : Int := if b < a then b else a
def loS (A O : Nat → Int) (i : Nat) : Int := if i = 0 then -8000000000000000000 else mxI (-8000000000000000000) (gE A O (i - 1))
def hiS (A O : Nat → Int) (n i : Nat) : Int := if i < n then mnI 8000000000000000000 (gE A O i - 1) else 8000000000000000000
def taS (B : Int) (O : Nat → Int) (u : Int) (i : Nat) : Int := u + offP B O i * 1000000000
def nxS (B : Int) (A O : Nat → Int) (u : Int) (i : Nat) : Int := mxI (loS A O i) (taS B O u i + 1)
def okS (B : Int) (A O : Nat → Int) (n : Nat) (u : Int) (i : Nat) : Bool := decide (loS A O i ≤ taS B O u i) && decide (taS B O u i ≤ hiS A O n i)
def okG (B : Int) (A O : Nat → Int) (n : Nat) (u : Int) (i : Nat) : Bool := decide (nxS B A O u i ≤ hiS A O n i) && instB (nxS B A O u i - offP B O i * 1000000000)
def steT (B : Int) (A O : Nat → Int) (n : Nat) (u : Int) : Int × Bool :=
  if (stk (okS B A O n u) (taS B O u) (n + 1)).2 = true then stk (okS B A O n u) (taS B O u) (n + 1) else stk (okG B A O n u) (nxS B A O u) (n + 1)
end Go.Proofs.YtnnfaejejnfckaaDoor.Smr
