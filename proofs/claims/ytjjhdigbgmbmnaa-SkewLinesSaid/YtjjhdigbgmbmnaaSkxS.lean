/- Plain: gates that a line passes have bounds that hold its slope and its values; exact gates determine them. -/
import Derived.Test.YtjjhdigbgmbmnaaSkxM
namespace Go.Proofs.Ytjjhdigbgmbmnaa.Skw
open Go.RowKit Aid Fx
/-- a line passes the gates -/
structure Thru (A B : Int) (X L H : Nat → Int) (n : Nat) : Prop where
  ok : GOk X L H n
  n2 : 2 ≤ n
  lo : ∀ i, i < n → L i ≤ A + B * X i
  hi : ∀ i, i < n → A + B * X i ≤ H i
theorem thru_sl {A B : Int} {X L H : Nat → Int} {n : Nat} (t : Thru A B X L H n) : topR (sl1 X L H) n ≤ Rat.divInt B 1 ∧ Rat.divInt B 1 ≤ botR (sl2 X L H) n := by
  obtain ⟨⟨i, j, hij, hj, e⟩, _⟩ := top_is (f := sl1 X L H) t.n2
  obtain ⟨⟨i', j', hij', hj', e'⟩, _⟩ := bot_is (f := sl2 X L H) t.n2
  rw [← e, ← e']
  have h1 := t.ok.inc i j hij hj
  have h2 := t.ok.inc i' j' hij' hj'
  have a1 := t.lo j hj
  have a2 := t.hi i (by omega)
  have b1 := t.hi j' hj'
  have b2 := t.lo i' (by omega)
  unfold sl1 sl2
  rw [le_iff (by omega) (by omega), le_iff (by omega) (by omega)]
  have e1 : B * (X j - X i) = B * X j - B * X i := Int.mul_sub _ _ _
  have e2 : B * (X j' - X i') = B * X j' - B * X i' := Int.mul_sub _ _ _
  omega
theorem thru_va {A B : Int} {X L H : Nat → Int} {n : Nat} (t : Thru A B X L H n) (x : Int) : topR (va1 X L H x) n ≤ Rat.divInt (A + B * x) 1 ∧ Rat.divInt (A + B * x) 1 ≤ botR (va2 X L H x) n := by
  have m : ∀ {a b c : Int}, 0 ≤ c → a ≤ b → a * c ≤ b * c := fun h k => Int.mul_le_mul_of_nonneg_right k h
  have mm : ∀ {a b c : Int}, c ≤ 0 → a ≤ b → b * c ≤ a * c := fun {a b c} h k => by
    have := Int.mul_le_mul_of_nonneg_right k (show 0 ≤ -c by omega)
    rw [Int.mul_neg, Int.mul_neg] at this
    omega
  have id1 : ∀ i j, (A + B * X i) * (X j - x) + (A + B * X j) * (x - X i) = (A + B * x) * (X j - X i) := fun i j => by grind
  constructor
  · obtain ⟨⟨i, j, hij, hj, e⟩, _⟩ := top_is (f := va1 X L H x) t.n2
    rw [← e]
    have h1 := t.ok.inc i j hij hj
    have a1 := t.lo i (by omega)
    have a2 := t.hi i (by omega)
    have b1 := t.lo j hj
    have b2 := t.hi j hj
    have k := id1 i j
    unfold va1 vN1
    rw [le_iff (by omega) (by omega), Int.mul_one]
    split
    · have p1 := m (show 0 ≤ X j - x by omega) a1
      have p2 := mm (show x - X i ≤ 0 by omega) b2
      omega
    split
    · have p1 := mm (show X j - x ≤ 0 by omega) a2
      have p2 := m (show 0 ≤ x - X i by omega) b1
      omega
    · have p1 := m (show 0 ≤ X j - x by omega) a1
      have p2 := m (show 0 ≤ x - X i by omega) b1
      omega
  · obtain ⟨⟨i, j, hij, hj, e⟩, _⟩ := bot_is (f := va2 X L H x) t.n2
    rw [← e]
    have h1 := t.ok.inc i j hij hj
    have a1 := t.lo i (by omega)
    have a2 := t.hi i (by omega)
    have b1 := t.lo j hj
    have b2 := t.hi j hj
    have k := id1 i j
    unfold va2 vN2
    rw [le_iff (by omega) (by omega), Int.mul_one]
    split
    · have p1 := m (show 0 ≤ X j - x by omega) a2
      have p2 := mm (show x - X i ≤ 0 by omega) b1
      omega
    split
    · have p1 := mm (show X j - x ≤ 0 by omega) a1
      have p2 := m (show 0 ≤ x - X i by omega) b2
      omega
    · have p1 := m (show 0 ≤ X j - x by omega) a2
      have p2 := m (show 0 ≤ x - X i by omega) b2
      omega
theorem thru_exact {A B : Int} {X L H : Nat → Int} {n : Nat} (t : Thru A B X L H n) (he : ∀ i, i < n → L i = H i) (x : Int) : topR (sl1 X L H) n = Rat.divInt B 1 ∧ botR (sl2 X L H) n = Rat.divInt B 1 ∧ topR (va1 X L H x) n = Rat.divInt (A + B * x) 1 ∧ botR (va2 X L H x) n = Rat.divInt (A + B * x) 1 := by
  have yl : ∀ i, i < n → L i = A + B * X i := fun i hi => by have := t.lo i hi; have := t.hi i hi; have := he i hi; omega
  have yh : ∀ i, i < n → H i = A + B * X i := fun i hi => by have := he i hi; have := yl i hi; omega
  obtain ⟨⟨i, j, hij, hj, e1⟩, _⟩ := top_is (f := sl1 X L H) t.n2
  obtain ⟨⟨i2, j2, hij2, hj2, e2⟩, _⟩ := bot_is (f := sl2 X L H) t.n2
  obtain ⟨⟨i3, j3, hij3, hj3, e3⟩, _⟩ := top_is (f := va1 X L H x) t.n2
  obtain ⟨⟨i4, j4, hij4, hj4, e4⟩, _⟩ := bot_is (f := va2 X L H x) t.n2
  have h1 := t.ok.inc i j hij hj
  have h2 := t.ok.inc i2 j2 hij2 hj2
  have h3 := t.ok.inc i3 j3 hij3 hj3
  have h4 := t.ok.inc i4 j4 hij4 hj4
  refine ⟨?_, ?_, ?_, ?_⟩
  · rw [← e1]
    unfold sl1
    rw [eq_iff (by omega) (by omega), yl j hj, yh i (by omega)]
    grind
  · rw [← e2]
    unfold sl2
    rw [eq_iff (by omega) (by omega), yh j2 hj2, yl i2 (by omega)]
    grind
  · rw [← e3]
    unfold va1 vN1
    rw [eq_iff (by omega) (by omega), yl j3 hj3, yh i3 (by omega), yl i3 (by omega), yh j3 hj3]
    split
    · grind
    split <;> grind
  · rw [← e4]
    unfold va2 vN2
    rw [eq_iff (by omega) (by omega), yl j4 hj4, yh i4 (by omega), yl i4 (by omega), yh j4 hj4]
    split
    · grind
    split <;> grind
theorem one_num (z : Int) : (Rat.divInt z 1).num = z ∧ ((Rat.divInt z 1).den : Int) = 1 := by
  rw [num_eq (by omega), den_eq (by omega)]
  simp
/-- what the method gates of a line makes -/
structure LineOk (A B : Int) (n n2 n3 : Nat) (X U V : Nat → Int) : Prop where
  h2 : 2 ≤ n
  h20 : n ≤ 20
  e2 : n2 = n
  e3 : n3 = n
  a : -100000 ≤ A ∧ A ≤ 100000
  b : -1000 ≤ B ∧ B ≤ 1000
  p : ∀ i, i < n → (0 ≤ X i ∧ X i ≤ 100000) ∧ (0 < i → X (i - 1) < X i) ∧ (0 ≤ U i ∧ U i ≤ 100000) ∧ (0 ≤ V i ∧ V i ≤ 100000)
theorem line_bd {A B x : Int} (a : -100000 ≤ A ∧ A ≤ 100000) (b : -1000 ≤ B ∧ B ≤ 1000) (hx : 0 ≤ x ∧ x ≤ 100000) : (-100000000 ≤ B * x ∧ B * x ≤ 100000000) ∧ (-100100000 ≤ A + B * x ∧ A + B * x ≤ 100100000) := by
  have e : (B * x).natAbs = B.natAbs * x.natAbs := Int.natAbs_mul B x
  have h : B.natAbs * x.natAbs ≤ 1000 * 100000 := Nat.mul_le_mul (by omega) (by omega)
  omega
theorem line_thru {A B : Int} {n n2 n3 : Nat} {X U V : Nat → Int} (k : LineOk A B n n2 n3 X U V) : Thru A B X (fun i => A + B * X i - U i) (fun i => A + B * X i + V i) n := by
  have h2 := k.h2
  have h20 := k.h20
  refine ⟨⟨by omega, by omega, fun i hi => ?_, fun i hi => ?_, fun i j hij hj => ?_⟩, h2, fun i hi => ?_, fun i hi => ?_⟩
  · obtain ⟨p1, p2, p3, p4⟩ := k.p i hi
    have := line_bd k.a k.b p1
    exact ⟨by omega, by omega, by omega, by omega, by omega, by omega⟩
  · obtain ⟨p1, p2, p3, p4⟩ := k.p i hi
    omega
  · induction j with
    | zero => omega
    | succ j ih =>
      have := (k.p (j + 1) hj).2.1 (by omega)
      rw [Nat.add_sub_cancel] at this
      by_cases e : i = j
      · subst e; exact this
      · have := ih (by omega) (by omega)
        omega
  · have := (k.p i hi).2.2.1
    omega
  · have := (k.p i hi).2.2.2
    omega
end Go.Proofs.Ytjjhdigbgmbmnaa.Skw
