
/- The contracts of the reference's Floor (timesyncref01) at positive divisors, for any world. -/
import Derived.Test.YtbekfofakpbhiaaDoorAid
import Derived.Handy
import Derived.Laws.BitsLemmas
namespace Go.Proofs.YtbekfofakpbhiaaDoor.Ro
open Go.RowKit Aid
theorem wraps64 (n : Int) (h₀ : 0 ≤ n) (h₁ : n < 2 ^ 64) : IntKind.u64.wrap n = n := by rw [IntKind.wrap_u64]; omega
theorem or2 (a b : Nat) (ha : 2 * a < 18446744073709551616) (hb : b < 2) : bits .or .u64 ((2 * a : Nat) : Int) (b : Int) = ((2 * a + b : Nat) : Int) := by
  have := bits_join .u64 64 (by decide) wraps64 1 ((2 * a : Nat) : Int) (b : Int) (by omega) (by omega) (by omega) (by omega) (by omega) (by omega)
  rw [this]; omega
theorem div_step (X c b : Nat) (hc : 1 ≤ c) (hb : b < 2) :
    (c ≤ 2 * (X % c) + b → (2 * X + b) / c = 2 * (X / c) + 1 ∧ (2 * X + b) % c = 2 * (X % c) + b - c) ∧
    (2 * (X % c) + b < c → (2 * X + b) / c = 2 * (X / c) ∧ (2 * X + b) % c = 2 * (X % c) + b) := by
  have e := Nat.div_add_mod X c
  have l := Nat.mod_lt X (show c > 0 by omega)
  constructor
  · intro h
    have e2 : 2 * X + b = (2 * (X % c) + b - c) + c * (2 * (X / c) + 1) := by
      rw [Nat.mul_add, Nat.mul_left_comm]; omega
    constructor
    · rw [e2, Nat.add_mul_div_left _ _ (by omega), Nat.div_eq_of_lt (by omega)]; omega
    · rw [e2, Nat.add_mul_mod_self_left, Nat.mod_eq_of_lt (by omega)]
  · intro h
    have e2 : 2 * X + b = (2 * (X % c) + b) + c * (2 * (X / c)) := by
      rw [Nat.mul_left_comm]; omega
    constructor
    · rw [e2, Nat.add_mul_div_left _ _ (by omega), Nat.div_eq_of_lt (by omega)]; omega
    · rw [e2, Nat.add_mul_mod_self_left, Nat.mod_eq_of_lt (by omega)]
theorem pow_le {k : Nat} (h : k ≤ 127) : 2 ^ k ≤ 170141183460469231731687303715884105728 := Nat.pow_le_pow_right (n := 2) (by omega) h
set_option maxRecDepth 100000 in
set_option maxHeartbeats 1600000 in
theorem divide_any (lo c : Nat) (w : World) (h1 : lo ≤ 9223372036854775808) (hc : 1 ≤ c) (hc2 : c ≤ 9223372036854775808) :
    Calls Tryd.prog 60 #[.int .u64 0, .int .u64 lo, .int .u64 c] w fun e w' => e = .returned (.tuple #[.int .u64 0, .int .u64 ((lo / c : Nat) : Int), .int .u64 ((lo % c : Nat) : Int)]) ∧ w = w' := by
  go_enter Tryd.func60, Tryd.ntmps60
  go_wp2
  go_loopw [0, 1, 9, 10, 11, 12] (fun h l q1 q0 r i wr => ∃ (k M : Nat), k ≤ 128 ∧ M = lo * 2 ^ k ∧ h = .int .u64 ((M % 340282366920938463463374607431768211456 / 18446744073709551616 : Nat) : Int) ∧ l = .int .u64 ((M % 18446744073709551616 : Nat) : Int) ∧ q1 = .int .u64 0 ∧ q0 = .int .u64 ((M / 340282366920938463463374607431768211456 / c : Nat) : Int) ∧ r = .int .u64 ((M / 340282366920938463463374607431768211456 % c : Nat) : Int) ∧ i = .int .i64 k ∧ w = wr) (fun _ _ _ _ _ i _ => 128 - (intOf i).toNat)
  case atStart =>
    have z : lo / 340282366920938463463374607431768211456 = 0 := Nat.div_eq_of_lt (by omega)
    refine ⟨0, lo, by omega, by simp, ?_, ?_, rfl, ?_, ?_, rfl, rfl⟩
    · rw [show lo % 340282366920938463463374607431768211456 / 18446744073709551616 = 0 by omega]; rfl
    · rw [show lo % 18446744073709551616 = lo by omega]
    · rw [z]; simp
    · rw [z]; simp
  case round =>
    obtain ⟨k, M, hk, hM, rfl, rfl, rfl, rfl, rfl, rfl, rfl⟩ := hrel
    by_cases hlt : k < 128
    · have hM2 : 2 * M = lo * 2 ^ (k + 1) := by have := Nat.mul_assoc lo (2 ^ k) 2; rw [hM, Nat.pow_succ, ← this]; omega
      have hp := pow_le (k := k) (by omega)
      have hX : M / 340282366920938463463374607431768211456 ≤ 4611686018427387904 := by
        have : M ≤ 9223372036854775808 * 170141183460469231731687303715884105728 := by rw [hM]; exact Nat.mul_le_mul h1 hp
        omega
      have HM := hide hM2
      have hX' : 2 * M / 340282366920938463463374607431768211456 = 2 * (M / 340282366920938463463374607431768211456) + M % 340282366920938463463374607431768211456 / 18446744073709551616 / 9223372036854775808 := by omega
      have hH' : 2 * M % 340282366920938463463374607431768211456 / 18446744073709551616 = 2 * (M % 340282366920938463463374607431768211456 / 18446744073709551616 % 9223372036854775808) + M % 18446744073709551616 / 9223372036854775808 := by omega
      have hL' : 2 * M % 18446744073709551616 = 2 * (M % 18446744073709551616 % 9223372036854775808) := by omega
      have hHb : M % 340282366920938463463374607431768211456 / 18446744073709551616 < 18446744073709551616 := by omega
      have hLb : M % 18446744073709551616 < 18446744073709551616 := by omega
      have dv := div_step (M / 340282366920938463463374607431768211456) c (M % 340282366920938463463374607431768211456 / 18446744073709551616 / 9223372036854775808) hc (by omega)
      rw [← hX'] at dv
      have hq : M / 340282366920938463463374607431768211456 / c ≤ M / 340282366920938463463374607431768211456 := Nat.div_le_self _ _
      have hr : M / 340282366920938463463374607431768211456 % c < c := Nat.mod_lt _ (by omega)
      have hq2 : 2 * M / 340282366920938463463374607431768211456 / c ≤ 2 * M / 340282366920938463463374607431768211456 := Nat.div_le_self _ _
      generalize hx : M / 340282366920938463463374607431768211456 / c = Q at *
      generalize hy : M / 340282366920938463463374607431768211456 % c = R at *
      generalize M % 340282366920938463463374607431768211456 / 18446744073709551616 = H at *
      generalize M % 18446744073709551616 = L at *
      have t1 : (R : Int) / 9223372036854775808 = 0 := by omega
      obtain ⟨hb, hhb⟩ : ∃ hb : Nat, hb = H / 9223372036854775808 := ⟨_, rfl⟩
      obtain ⟨lb, hlb⟩ : ∃ lb : Nat, lb = L / 9223372036854775808 := ⟨_, rfl⟩
      rw [← hhb] at hX' dv
      rw [← hlb] at hH'
      have t2 : (H : Int) / 9223372036854775808 = (hb : Int) := by omega
      have t3 : (L : Int) / 9223372036854775808 = (lb : Int) := by omega
      obtain ⟨r2, hr2⟩ : ∃ r2 : Nat, r2 = 2 * R + hb := ⟨_, rfl⟩
      have t4 : bits .or .u64 (IntKind.u64.wrap ((R : Int) * 2)) (hb : Int) = (r2 : Int) := by
        rw [wraps64 _ (by omega) (by omega), show (R : Int) * 2 = ((2 * R : Nat) : Int) by omega, or2 R hb (by omega) (by omega), hr2]
      have t12 : bits .or .u64 ((R : Int) * 2) (hb : Int) = (r2 : Int) := by
        rw [show (R : Int) * 2 = ((2 * R : Nat) : Int) by omega, or2 R hb (by omega) (by omega), hr2]
      obtain ⟨h2, hh2⟩ : ∃ h2 : Nat, h2 = 2 * (H % 9223372036854775808) + lb := ⟨_, rfl⟩
      have t5 : bits .or .u64 (IntKind.u64.wrap ((H : Int) * 2)) (lb : Int) = (h2 : Int) := by
        rw [IntKind.wrap_u64, show (H : Int) * 2 % 18446744073709551616 = ((2 * (H % 9223372036854775808) : Nat) : Int) by omega, or2 _ lb (by omega) (by omega), hh2]
      obtain ⟨l2, hl2⟩ : ∃ l2 : Nat, l2 = 2 * (L % 9223372036854775808) := ⟨_, rfl⟩
      have t6 : IntKind.u64.wrap ((L : Int) * 2) = (l2 : Int) := by rw [IntKind.wrap_u64]; omega
      have t7 : (Q : Int) / 9223372036854775808 = 0 := by omega
      have t8 : bits .or .u64 0 0 = 0 := by decide
      have t9 : IntKind.u64.wrap ((Q : Int) * 2) = ((2 * Q : Nat) : Int) := by rw [wraps64 _ (by omega) (by omega)]; omega
      rw [← hr2] at dv
      rw [← hh2] at hH'
      rw [← hl2] at hL'
      by_cases hge : c ≤ r2
      · obtain ⟨d1, d2⟩ := dv.1 hge
        have t10 : bits .or .u64 ((2 * Q : Nat) : Int) 1 = ((2 * Q + 1 : Nat) : Int) := or2 Q 1 (by omega) (by omega)
        obtain ⟨q2, hq3⟩ : ∃ q2 : Nat, q2 = 2 * Q := ⟨_, rfl⟩
        rw [← hq3] at t9 t10 d1
        obtain ⟨q3, hq4⟩ : ∃ q3 : Nat, q3 = q2 + 1 := ⟨_, rfl⟩
        rw [← hq4] at t10 d1
        obtain ⟨r3, hr3⟩ : ∃ r3 : Nat, r3 = r2 - c := ⟨_, rfl⟩
        rw [← hr3] at d2
        have t11 : IntKind.u64.wrap ((r2 : Int) - (c : Int)) = (r3 : Int) := by rw [wraps64 _ (by omega) (by omega)]; omega
        have HD := hide (And.intro d1 (And.intro d2 (And.intro hH' hL')))
        clear dv d1 d2 hH' hL' hX' hX hM hM2 hx hy hq hr hq2 hp hh2 hl2 hq3 hq4 hr2 hr3 hhb hlb hHb hLb
        go_wp2
        go_roundw
        case rel => exact ⟨k + 1, 2 * M, by omega, HM.out, by rw [HD.out.2.2.1], by rw [HD.out.2.2.2], rfl, by rw [HD.out.1], by rw [HD.out.2.1], by go_num, by first | rfl | trivial⟩
        case measure => (simp [intOf]) <;> omega
      · obtain ⟨d1, d2⟩ := dv.2 (by omega)
        obtain ⟨q2, hq3⟩ : ∃ q2 : Nat, q2 = 2 * Q := ⟨_, rfl⟩
        rw [← hq3] at t9 d1
        have HD := hide (And.intro d1 (And.intro d2 (And.intro hH' hL')))
        clear dv d1 d2 hH' hL' hX' hX hM hM2 hx hy hq hr hq2 hp hh2 hl2 hq3 hr2 hhb hlb hHb hLb
        go_wp2
        go_roundw
        case rel => exact ⟨k + 1, 2 * M, by omega, HM.out, by rw [HD.out.2.2.1], by rw [HD.out.2.2.2], rfl, by rw [HD.out.1], by rw [HD.out.2.1], by go_num, by first | rfl | trivial⟩
        case measure => (simp [intOf]) <;> omega
    · obtain rfl : k = 128 := by omega
      have e : M / 340282366920938463463374607431768211456 = lo := by
        rw [hM, show (2 : Nat) ^ 128 = 340282366920938463463374607431768211456 from by decide]; exact Nat.mul_div_cancel _ (by decide)
      rw [e]
      rw [show ((128 : Nat) : Int) = 128 from rfl]
      clear hM e
      go_wp2
      go_ret3
      exact ⟨rfl, rfl⟩
theorem size_any (n : Int) (w : World) (h1 : -9223372036854775808 ≤ n) (h2 : n ≤ 9223372036854775807) :
    Calls Tryd.prog 59 #[.int .i64 n] w fun e w' => e = .returned (.int .u64 (n.natAbs : Int)) ∧ w = w' := by
  by_cases h : n < 0
  · go_enter Tryd.func59, Tryd.ntmps59
    go_wp2
    go_ret
    exact ⟨ret_int (by first | omega | (rw [IntKind.wrap_u64]; omega) | (simp only [IntKind.wrap_u64]; omega)), rfl⟩
  · go_enter Tryd.func59, Tryd.ntmps59
    go_wp2
    go_ret
    exact ⟨ret_int (by first | omega | (rw [IntKind.wrap_u64]; omega)), rfl⟩
set_option maxRecDepth 100000 in
theorem product_one (a : Nat) (w : World) (h : a ≤ 9223372036854775808) :
    Calls Tryd.prog 58 #[.int .u64 a, .int .u64 1] w fun e w' => e = .returned (.tuple #[.int .u64 0, .int .u64 a]) ∧ w = w' := by
  obtain ⟨x, hx⟩ : ∃ x : Nat, x = a / 4294967296 := ⟨_, rfl⟩
  obtain ⟨y, hy⟩ : ∃ y : Nat, y = a % 4294967296 := ⟨_, rfl⟩
  have t1 : (a : Int) / 4294967296 = (x : Int) := by omega
  have t2 : (a : Int) % 4294967296 = (y : Int) := by omega
  have t3 : (y : Int) / 4294967296 = 0 := by omega
  have t4 : (x : Int) / 4294967296 = 0 := by omega
  have t5 : (x : Int) % 4294967296 = (x : Int) := by omega
  have t6 : (y : Int) % 4294967296 = (y : Int) := by omega
  have b1 : x ≤ 2147483648 := by omega
  have b2 : y < 4294967296 := by omega
  have t7 : (x : Int) * 4294967296 + (y : Int) = (a : Int) := by omega
  have t8 : IntKind.u64.wrap ((x : Int) * 4294967296) = (x : Int) * 4294967296 := wraps64 _ (by omega) (by omega)
  have t9 : IntKind.u64.wrap ((a : Int)) = (a : Int) := wraps64 _ (by omega) (by omega)
  clear hx hy
  go_enter Tryd.func58, Tryd.ntmps58
  go_wp2
  go_ret2
  exact ⟨rfl, rfl⟩
def sgn (neg : Bool) (lo : Nat) : Int := if neg = true then -(lo : Int) else (lo : Int)
set_option maxRecDepth 100000 in
theorem signed_any (neg : Bool) (lo : Nat) (w : World) (h : lo ≤ 9223372036854775808) (h2 : lo = 9223372036854775808 → neg = true) :
    Calls Tryd.prog 61 #[.bool neg, .int .u64 0, .int .u64 lo] w fun e w' => e = .returned (.tuple #[.int .i64 (sgn neg lo), .bool true]) ∧ w = w' := by
  cases neg
  · have hl : lo ≤ 9223372036854775807 := by
      have : lo ≠ 9223372036854775808 := fun e => by have := h2 e; cases this
      omega
    have e : sgn false lo = (lo : Int) := rfl
    rw [e]
    have t0 : ((lo : Int) == 9223372036854775808) = false := by simp; omega
    clear h2 e
    go_enter Tryd.func61, Tryd.ntmps61
    go_wp2
    go_ret2
    exact ⟨rfl, rfl⟩
  · have e : sgn true lo = -(lo : Int) := rfl
    rw [e]
    clear h2 e
    by_cases h0 : lo = 0
    · subst h0
      go_enter Tryd.func61, Tryd.ntmps61
      go_wp2
      go_ret2
      exact ⟨rfl, rfl⟩
    · by_cases h63 : lo = 9223372036854775808
      · subst h63
        clear h h0
        rw [show ((9223372036854775808 : Nat) : Int) = 9223372036854775808 from rfl]
        go_enter Tryd.func61, Tryd.ntmps61
        go_wp2
        go_ret2
        exact ⟨rfl, rfl⟩
      · have t0 : ((lo : Int) == 9223372036854775808) = false := by simp; omega
        have t1 : ((lo : Int) == 0) = false := by simp; omega
        obtain ⟨m, hm⟩ : ∃ m : Nat, m = lo - 1 := ⟨_, rfl⟩
        have t2 : IntKind.u64.wrap ((lo : Int) - 1) = (m : Int) := by rw [wraps64 _ (by omega) (by omega)]; omega
        have b1 : m ≤ 9223372036854775807 := by omega
        have t4 : IntKind.i64.wrap (-(m : Int) - 1) = -(m : Int) - 1 := IntWalk.i64_in _ (by omega)
        have e : -(lo : Int) = -(m : Int) - 1 := by omega
        rw [e]
        have b2 : lo ≤ 9223372036854775807 := by omega
        clear hm e h0 h63 h
        go_enter Tryd.func61, Tryd.ntmps61
        go_wp2
        go_ret2
        exact ⟨rfl, rfl⟩
theorem floor_neg (a : Int) (c : Nat) (hc : 1 ≤ c) (ha : a < 0) :
    (a.natAbs % c = 0 → a / (c : Int) = -((a.natAbs / c : Nat) : Int)) ∧ (0 < a.natAbs % c → a / (c : Int) = -((a.natAbs / c + 1 : Nat) : Int)) := by
  have e := Nat.div_add_mod a.natAbs c
  have l := Nat.mod_lt a.natAbs (show c > 0 by omega)
  have en : a = -((c : Int) * ((a.natAbs / c : Nat) : Int)) - ((a.natAbs % c : Nat) : Int) := by
    have : (a.natAbs : Int) = (c : Int) * ((a.natAbs / c : Nat) : Int) + ((a.natAbs % c : Nat) : Int) := by
      rw [← Int.natCast_mul, ← Int.natCast_add, e]
    omega
  generalize a.natAbs / c = q at *
  generalize a.natAbs % c = r at *
  constructor
  · intro h
    subst h
    rw [en]
    simp
    rw [Int.neg_mul_eq_mul_neg]
    exact Int.mul_ediv_cancel_left _ (by omega)
  · intro h
    have e2 : a = ((c : Int) - (r : Int)) + (c : Int) * (-((q : Int) + 1)) := by rw [en, Int.mul_neg, Int.mul_add]; omega
    rw [e2, Int.add_mul_ediv_left _ _ (by omega), Int.ediv_eq_zero_of_lt (by omega) (by omega)]
    omega
theorem floor_pos (a : Int) (c : Nat) (ha : ¬ a < 0) : a / (c : Int) = ((a.natAbs / c : Nat) : Int) := by
  have : a = (a.natAbs : Int) := by omega
  rw [Int.natCast_ediv, ← this]
set_option maxRecDepth 100000 in
set_option maxHeartbeats 800000 in
theorem MulDiv_one (a c : Int) (w : World) (hc : 1 ≤ c) (hc2 : c ≤ 9223372036854775807) (h1 : -9223372036854775808 ≤ a) (h2 : a ≤ 9223372036854775807) :
    Calls Tryd.prog 57 #[.int .i64 a, .int .i64 1, .int .i64 c] w fun e w' => e = .returned (.tuple #[.int .i64 (a / c), .bool true]) ∧ w = w' := by
  have S0 := hide (size_any a w h1 h2)
  have S1 := hide (size_any 1 w (by omega) (by omega))
  have S2 := hide (size_any c w (by omega) (by omega))
  have P0 := hide (product_one a.natAbs w (by omega))
  have D0 := hide (divide_any a.natAbs c.natAbs w (by omega) (by omega) (by omega))
  rw [show ((Int.natAbs 1 : Nat) : Int) = 1 from rfl] at S1
  have hc0 : (c == 0) = false := by simp; omega
  have hq : a.natAbs / c.natAbs ≤ a.natAbs := Nat.div_le_self _ _
  have hr : a.natAbs % c.natAbs < c.natAbs := Nat.mod_lt _ (by omega)
  have ec : c = (c.natAbs : Int) := by omega
  have hcd : decide (c < 0) = false := by simp; omega
  by_cases ha : a < 0
  · obtain ⟨f1, f2⟩ := floor_neg a c.natAbs (by omega) ha
    rw [← ec] at f1 f2
    by_cases h0 : a.natAbs % c.natAbs = 0
    · have e := f1 h0
      rw [h0] at D0
      have G := signed_any true (a.natAbs / c.natAbs) w (by omega) (fun _ => rfl)
      rw [show sgn true (a.natAbs / c.natAbs) = a / c by rw [e]; rfl] at G
      have HG := hide G
      generalize a / c = v at *
      generalize a.natAbs / c.natAbs = q at *
      clear f1 f2 e G h0 hr ec hq
      generalize a.natAbs = na at *
      generalize c.natAbs = nc at *
      go_enter Tryd.func57, Tryd.ntmps57
      go_wp2_with fail
      with_reducible refine S0.out.mono ?_
      rintro e w' ⟨rfl, rfl⟩
      go_wp2_with fail
      with_reducible refine S1.out.mono ?_
      rintro e w' ⟨rfl, rfl⟩
      go_wp2_with fail
      with_reducible refine P0.out.mono ?_
      rintro e w' ⟨rfl, rfl⟩
      go_wp2_with fail
      with_reducible refine S2.out.mono ?_
      rintro e w' ⟨rfl, rfl⟩
      go_wp2_with fail
      with_reducible refine D0.out.mono ?_
      rintro e w' ⟨rfl, rfl⟩
      go_wp2_with fail
      with_reducible refine HG.out.mono ?_
      rintro e w' ⟨rfl, rfl⟩
      go_wp2
      go_ret2
      exact ⟨rfl, rfl⟩
    · have e := f2 (by omega)
      have hq1 : a.natAbs / c.natAbs + 1 ≤ 9223372036854775808 := by
        rcases Nat.eq_or_lt_of_le (show 1 ≤ c.natAbs by omega) with h | h
        · rw [← h] at h0; omega
        · have := Nat.div_le_div_left (c := 2) (show 2 ≤ c.natAbs by omega) (by omega) (a := a.natAbs)
          omega
      have G := signed_any true (a.natAbs / c.natAbs + 1) w hq1 (fun _ => rfl)
      rw [show sgn true (a.natAbs / c.natAbs + 1) = a / c by rw [e]; rfl] at G
      have HG := hide G
      have hrp : 0 < a.natAbs % c.natAbs := by omega
      generalize a / c = v at *
      generalize a.natAbs / c.natAbs = q at *
      generalize a.natAbs % c.natAbs = r at *
      clear f1 f2 e G h0 hr ec hq
      generalize a.natAbs = na at *
      generalize c.natAbs = nc at *
      obtain ⟨q1, hq2⟩ : ∃ q1 : Nat, q1 = q + 1 := ⟨_, rfl⟩
      rw [← hq2] at HG
      have t1 : IntKind.u64.wrap ((q : Int) + 1) = (q1 : Int) := by rw [wraps64 _ (by omega) (by omega)]; omega
      have t2 : ((q1 : Int) == 0) = false := by simp; omega
      have t3 : (0 : Int) < (r : Int) := by omega
      clear hq2 hq1 hrp
      go_enter Tryd.func57, Tryd.ntmps57
      go_wp2_with fail
      with_reducible refine S0.out.mono ?_
      rintro e w' ⟨rfl, rfl⟩
      go_wp2_with fail
      with_reducible refine S1.out.mono ?_
      rintro e w' ⟨rfl, rfl⟩
      go_wp2_with fail
      with_reducible refine P0.out.mono ?_
      rintro e w' ⟨rfl, rfl⟩
      go_wp2_with fail
      with_reducible refine S2.out.mono ?_
      rintro e w' ⟨rfl, rfl⟩
      go_wp2_with fail
      with_reducible refine D0.out.mono ?_
      rintro e w' ⟨rfl, rfl⟩
      go_wp2_with fail
      with_reducible refine HG.out.mono ?_
      rintro e w' ⟨rfl, rfl⟩
      go_wp2
      go_ret2
      exact ⟨rfl, rfl⟩
  · have e := floor_pos a c.natAbs ha
    rw [← ec] at e
    have G := signed_any false (a.natAbs / c.natAbs) w (by omega) (fun h => by omega)
    rw [show sgn false (a.natAbs / c.natAbs) = a / c by rw [e]; rfl] at G
    have HG := hide G
    generalize a / c = v at *
    generalize a.natAbs / c.natAbs = q at *
    generalize a.natAbs % c.natAbs = r at *
    clear e G hr ec hq
    generalize a.natAbs = na at *
    generalize c.natAbs = nc at *
    go_enter Tryd.func57, Tryd.ntmps57
    go_wp2_with fail
    with_reducible refine S0.out.mono ?_
    rintro e w' ⟨rfl, rfl⟩
    go_wp2_with fail
    with_reducible refine S1.out.mono ?_
    rintro e w' ⟨rfl, rfl⟩
    go_wp2_with fail
    with_reducible refine P0.out.mono ?_
    rintro e w' ⟨rfl, rfl⟩
    go_wp2_with fail
    with_reducible refine S2.out.mono ?_
    rintro e w' ⟨rfl, rfl⟩
    go_wp2_with fail
    with_reducible refine D0.out.mono ?_
    rintro e w' ⟨rfl, rfl⟩
    go_wp2_with fail
    with_reducible refine HG.out.mono ?_
    rintro e w' ⟨rfl, rfl⟩
    go_wp2
    go_ret2
    exact ⟨rfl, rfl⟩
theorem Floor_any (a c : Int) (w : World) (hc : 1 ≤ c) (hc2 : c ≤ 9223372036854775807) (h1 : -9223372036854775808 ≤ a) (h2 : a ≤ 9223372036854775807) :
    Calls Tryd.prog 54 #[.int .i64 a, .int .i64 c] w fun e w' => e = .returned (.tuple #[.int .i64 (a / c), .bool true]) ∧ w = w' := by
  have M := hide (MulDiv_one a c w hc hc2 h1 h2)
  generalize a / c = v at *
  go_enter Tryd.func54, Tryd.ntmps54
  go_wp2_with fail
  with_reducible refine M.out.mono ?_
  rintro e w' ⟨rfl, rfl⟩
  go_wp2
  go_ret2
  exact ⟨rfl, rfl⟩
end Go.Proofs.YtbekfofakpbhiaaDoor.Ro
