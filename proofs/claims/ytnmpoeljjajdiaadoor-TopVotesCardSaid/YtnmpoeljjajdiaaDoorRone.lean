
/- The contracts of the reference's Floor (timesyncref01) at positive divisors, for any world. -/
import Derived.Test.YtnmpoeljjajdiaaDoorAid
import Derived.Handy
import Derived.Laws.BitsLemmas
namespace Go.Proofs.YtnmpoeljjajdiaaDoor.Ro
open Go.RowKit Aid
theorem wraps64 (n : Int) (h₀ : 0 ≤ n) (h₁ : n < 2 ^ 64) : IntKind.u64.wrap n = n := by rw [IntKind.wrap_u64]; omega
theorem or2 (a b : Nat) (ha : 2 * a < 18446744073709551616) (hb : b < 2) : bits .or .u64 ((2 * a : Nat) : Int) (b : Int) = ((2 * a + b : Nat) : Int) := by
  have := bits_join .u64 64 (by decide) wraps64 1 ((2 * a : Nat) : Int) (b : Int) (by omega) (by omega) (by omega) (by omega) (by omega) (by omega)
  rw [this]; omega
theorem div_step (X c b : Nat) (hc : 1 ≤ c) (hb : b < 2) :
    (c ≤ 2 * (X % c) + b → (2 * X + b) / c = 2 * (X / c) + 1 ∧ (2 * X + b) % c = 2 * (X % c) + b - c) ∧
    (2 * (X % c) + b < c → (2 * X + b) / c = 2 * (X / c) ∧ (2 * X + b) % c = 2 * (X % c) + b) := by
  have e := Nat.div_add_mod X c
  have l := Nat.mod_lt X (show c > 0 by omega)
  constructor
  · intro h
    have e2 : 2 * X + b = (2 * (X % c) + b - c) + c * (2 * (X / c) + 1) := by
      rw [Nat.mul_add, Nat.mul_left_comm]; omega
    constructor
    · rw [e2, Nat.add_mul_div_left _ _ (by omega), Nat.div_eq_of_lt (by omega)]; omega
    · rw [e2, Nat.add_mul_mod_self_left, Nat.mod_eq_of_lt (by omega)]
  · intro h
    have e2 : 2 * X + b = (2 * (X % c) + b) + c * (2 * (X / c)) := by
      rw [Nat.mul_left_comm]; omega
    constructor
    · rw [e2, Nat.add_mul_div_left _ _ (by omega), Nat.div_eq_of_lt (by omega)]; omega
    · rw [e2, Nat.add_mul_mod_self_left, Nat.mod_eq_of_lt (by omega)]
theorem pow_le {k : Nat} (h : k ≤ 127) : 2 ^ k ≤ 170141183460469231731687303715884105728 := Nat.pow_le_pow_right (n := 2) (by omega) h
def sgn (neg : Bool) (lo : Nat) : Int := if neg = true then -(lo : Int) else (lo : Int)
theorem floor_neg (a : Int) (c : Nat) (hc : 1 ≤ c) (ha : a < 0) :
    (a.natAbs % c = 0 → a / (c : Int) = -((a.natAbs / c : Nat) : Int)) ∧ (0 < a.natAbs % c → a / (c : Int) = -((a.natAbs / c + 1 : Nat) : Int)) := by
  have e := Nat.div_add_mod a.natAbs c
  have l := Nat.mod_lt a.natAbs (show c > 0 by omega)
  have en : a = -((c : Int) * ((a.natAbs / c : Nat) : Int)) - ((a.natAbs % c : Nat) : Int) := by
    have : (a.natAbs : Int) = (c : Int) * ((a.natAbs / c : Nat) : Int) + ((a.natAbs % c : Nat) : Int) := by
      rw [← Int.natCast_mul, ← Int.natCast_add, e]
    omega
  generalize a.natAbs / c = q at *
  generalize a.natAbs % c = r at *
  constructor
  · intro h
    subst h
    rw [en]
    simp
    rw [Int.neg_mul_eq_mul_neg]
    exact Int.mul_ediv_cancel_left _ (by omega)
  · intro h
    have e2 : a = ((c : Int) - (r : Int)) + (c : Int) * (-((q : Int) + 1)) := by rw [en, Int.mul_neg, Int.mul_add]; omega
    rw [e2, Int.add_mul_ediv_left _ _ (by omega), Int.ediv_eq_zero_of_lt (by omega) (by omega)]
    omega
theorem floor_pos (a : Int) (c : Nat) (ha : ¬ a < 0) : a / (c : Int) = ((a.natAbs / c : Nat) : Int) := by
  have : a = (a.natAbs : Int) := by omega
  rw [Int.natCast_ediv, ← this]
end Go.Proofs.YtnmpoeljjajdiaaDoor.Ro
