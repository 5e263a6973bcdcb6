/- Plain laws of layer 52 (skew): fractions, their order, the greatest and the least of a family over every two places. -/
import Init
namespace Go.Proofs.Ytjjhdigbgmbmnaa.Skw
theorem div_mul {n d : Int} (h : 0 < d) : Rat.divInt n d * (d : Rat) = (n : Rat) := by
  rw [Rat.divInt_eq_div]
  exact Rat.div_mul_cancel (by intro e; have := Rat.intCast_inj.1 (e.trans (show (0 : Rat) = ((0 : Int) : Rat) from rfl)); omega)
theorem lt_iff {n d m e : Int} (h : 0 < d) (k : 0 < e) : Rat.divInt n d < Rat.divInt m e ↔ n * e < m * d := by
  have a := div_mul (n := n) h
  have b := div_mul (n := m) k
  have hd : (0 : Rat) < (d : Rat) := by exact_mod_cast h
  have he : (0 : Rat) < (e : Rat) := by exact_mod_cast k
  rw [← Rat.intCast_lt_intCast, Rat.intCast_mul, Rat.intCast_mul, ← a, ← b]
  generalize Rat.divInt n d = x
  generalize Rat.divInt m e = y
  have e1 : x * d * e = (d * e) * x := by grind
  have e2 : y * e * d = (d * e) * y := by grind
  rw [e1, e2]
  exact (Rat.mul_lt_mul_left (Rat.mul_pos hd he)).symm
theorem le_iff {n d m e : Int} (h : 0 < d) (k : 0 < e) : Rat.divInt n d ≤ Rat.divInt m e ↔ n * e ≤ m * d := by
  rw [← Rat.not_lt, lt_iff k h]; omega
theorem eq_iff {n d m e : Int} (h : 0 < d) (k : 0 < e) : Rat.divInt n d = Rat.divInt m e ↔ n * e = m * d := Rat.divInt_eq_divInt_iff (by omega) (by omega)
theorem num_eq {n d : Int} (h : 0 < d) : (Rat.divInt n d).num = n / (Nat.gcd n.natAbs d.natAbs : Int) := by
  rw [Rat.num_divInt, Int.sign_eq_one_of_pos h, Int.one_mul, Int.gcd_comm]; rfl
theorem den_eq {n d : Int} (h : 0 < d) : ((Rat.divInt n d).den : Int) = d / (Nat.gcd n.natAbs d.natAbs : Int) := by
  rw [Rat.den_divInt, if_neg (by omega), Int.gcd_comm]
  rw [Int.natCast_ediv, Int.natAbs_of_nonneg (by omega)]; rfl
theorem neg_eq (n d : Int) : Rat.divInt (-n) d = - Rat.divInt n d := by
  rw [Rat.neg_divInt]
theorem num_den_eq {r : Rat} : Rat.divInt r.num r.den = r := Rat.num_divInt_den r
/-- the greatest of a family over every two places -/
def IsTop (f : Nat → Nat → Rat) (n : Nat) (r : Rat) : Prop := (∃ i j, i < j ∧ j < n ∧ f i j = r) ∧ ∀ i j, i < j → j < n → f i j ≤ r
def IsBot (f : Nat → Nat → Rat) (n : Nat) (r : Rat) : Prop := (∃ i j, i < j ∧ j < n ∧ f i j = r) ∧ ∀ i j, i < j → j < n → r ≤ f i j
theorem IsTop.uniq {f : Nat → Nat → Rat} {n : Nat} {r s : Rat} (h : IsTop f n r) (k : IsTop f n s) : r = s := by
  obtain ⟨⟨i, j, a, b, rfl⟩, c⟩ := h
  obtain ⟨⟨i', j', a', b', rfl⟩, c'⟩ := k
  exact Rat.le_antisymm (c' _ _ a b) (c _ _ a' b')
theorem IsBot.uniq {f : Nat → Nat → Rat} {n : Nat} {r s : Rat} (h : IsBot f n r) (k : IsBot f n s) : r = s := by
  obtain ⟨⟨i, j, a, b, rfl⟩, c⟩ := h
  obtain ⟨⟨i', j', a', b', rfl⟩, c'⟩ := k
  exact Rat.le_antisymm (c _ _ a' b') (c' _ _ a b)
noncomputable def topR (f : Nat → Nat → Rat) (n : Nat) : Rat := open Classical in if h : ∃ r, IsTop f n r then h.choose else 0
noncomputable def botR (f : Nat → Nat → Rat) (n : Nat) : Rat := open Classical in if h : ∃ r, IsBot f n r then h.choose else 0
theorem IsTop.eq {f : Nat → Nat → Rat} {n : Nat} {r : Rat} (h : IsTop f n r) : r = topR f n := by
  have e : ∃ r, IsTop f n r := ⟨r, h⟩
  unfold topR
  rw [dif_pos e]
  exact h.uniq e.choose_spec
theorem IsBot.eq {f : Nat → Nat → Rat} {n : Nat} {r : Rat} (h : IsBot f n r) : r = botR f n := by
  have e : ∃ r, IsBot f n r := ⟨r, h⟩
  unfold botR
  rw [dif_pos e]
  exact h.uniq e.choose_spec
theorem top_ex (f : Nat → Nat → Rat) : ∀ n, 2 ≤ n → ∃ r, IsTop f n r := by
  intro n
  have row : ∀ j, 1 ≤ j → ∃ i, i < j ∧ ∀ k, k < j → f k j ≤ f i j := by
    intro j hj
    have : ∀ m, 1 ≤ m → m ≤ j → ∃ i, i < m ∧ ∀ k, k < m → f k j ≤ f i j := by
      intro m
      induction m with
      | zero => intro h; omega
      | succ m ih =>
        intro _ hm
        by_cases h0 : m = 0
        · subst h0
          exact ⟨0, by omega, fun k hk => by rw [show k = 0 by omega]; exact Rat.le_refl⟩
        · obtain ⟨i, hi, hk⟩ := ih (by omega) (by omega)
          rcases Rat.le_total (a := f i j) (b := f m j) with c | c
          · exact ⟨m, by omega, fun k hk' => by
              by_cases e : k = m
              · rw [e]; exact Rat.le_refl
              · exact Rat.le_trans (hk k (by omega)) c⟩
          · exact ⟨i, by omega, fun k hk' => by
              by_cases e : k = m
              · rw [e]; exact c
              · exact hk k (by omega)⟩
    exact this j hj (Nat.le_refl _)
  induction n with
  | zero => intro h; omega
  | succ n ih =>
    intro hn
    obtain ⟨i, hi, hk⟩ := row n (by omega)
    by_cases h1 : n = 1
    · subst h1
      refine ⟨f i 1, ⟨i, 1, hi, by omega, rfl⟩, fun a b hab hb => ?_⟩
      rw [show b = 1 by omega]
      exact hk a (by omega)
    · obtain ⟨r, ⟨a, b, hab, hb, rfl⟩, hr⟩ := ih (by omega)
      rcases Rat.le_total (a := f a b) (b := f i n) with c | c
      · refine ⟨f i n, ⟨i, n, hi, by omega, rfl⟩, fun x y hxy hy => ?_⟩
        by_cases e : y = n
        · rw [e]; exact hk x (by omega)
        · exact Rat.le_trans (hr x y hxy (by omega)) c
      · refine ⟨f a b, ⟨a, b, hab, by omega, rfl⟩, fun x y hxy hy => ?_⟩
        by_cases e : y = n
        · rw [e]; exact Rat.le_trans (hk x (by omega)) c
        · exact hr x y hxy (by omega)
theorem top_neg {f : Nat → Nat → Rat} {n : Nat} {r : Rat} : IsTop f n r ↔ IsBot (fun i j => - f i j) n (-r) := by
  constructor
  · rintro ⟨⟨i, j, a, b, e⟩, c⟩
    exact ⟨⟨i, j, a, b, congrArg (fun x => -x) e⟩, fun i j a b => Rat.neg_le_neg (c i j a b)⟩
  · rintro ⟨⟨i, j, a, b, e⟩, c⟩
    exact ⟨⟨i, j, a, b, by have := congrArg (fun x => -x) e; simpa only [Rat.neg_neg] using this⟩, fun i j a b => Rat.neg_le_neg_iff.1 (c i j a b)⟩
theorem bot_ex (f : Nat → Nat → Rat) (n : Nat) (h : 2 ≤ n) : ∃ r, IsBot f n r := by
  obtain ⟨r, hr⟩ := top_ex (fun i j => - f i j) n h
  have := top_neg.1 hr
  simp only [Rat.neg_neg] at this
  exact ⟨_, this⟩
theorem top_is {f : Nat → Nat → Rat} {n : Nat} (h : 2 ≤ n) : IsTop f n (topR f n) := by
  obtain ⟨r, hr⟩ := top_ex f n h
  rw [← hr.eq]; exact hr
theorem bot_is {f : Nat → Nat → Rat} {n : Nat} (h : 2 ≤ n) : IsBot f n (botR f n) := by
  obtain ⟨r, hr⟩ := bot_ex f n h
  rw [← hr.eq]; exact hr

/-- what compare gives -/
def cmpV (an ad bn bd : Int) : Int := if an / ad = bn / bd then (an - an / ad * ad) * bd - (bn - bn / bd * bd) * ad else if an / ad < bn / bd then -1 else 1
theorem cmp_key {an ad bn bd : Int} : an * bd - bn * ad = ad * bd * (an / ad - bn / bd) + (an % ad * bd - bn % bd * ad) := by
  have e1 := Int.mul_ediv_add_emod an ad
  have e2 := Int.mul_ediv_add_emod bn bd
  generalize an / ad = q1 at *
  generalize bn / bd = q2 at *
  generalize an % ad = r1 at *
  generalize bn % bd = r2 at *
  subst e1 e2
  grind
theorem mod_bd {an ad bd : Int} (h : 0 < ad) (k : 0 < bd) : 0 ≤ an % ad * bd ∧ an % ad * bd ≤ ad * bd - bd := by
  have a := Int.emod_nonneg an (show ad ≠ 0 by omega)
  have b := Int.emod_lt_of_pos an h
  refine ⟨Int.mul_nonneg a (by omega), ?_⟩
  have := Int.mul_le_mul_of_nonneg_right (show an % ad ≤ ad - 1 by omega) (show 0 ≤ bd by omega)
  have e : (ad - 1) * bd = ad * bd - bd := by grind
  omega
theorem cmp_eq {an ad bn bd : Int} (e : an / ad = bn / bd) : cmpV an ad bn bd = an % ad * bd - bn % bd * ad := by
  unfold cmpV
  rw [if_pos e]
  have e1 := Int.mul_ediv_add_emod an ad
  have e2 := Int.mul_ediv_add_emod bn bd
  generalize an / ad = q1 at *
  generalize bn / bd = q2 at *
  generalize an % ad = r1 at *
  generalize bn % bd = r2 at *
  subst e1 e2
  grind
theorem cmp_tri {an ad bn bd : Int} (h : 0 < ad) (k : 0 < bd) : (0 < cmpV an ad bn bd ↔ bn * ad < an * bd) ∧ (cmpV an ad bn bd < 0 ↔ an * bd < bn * ad) := by
  have key := cmp_key (an := an) (ad := ad) (bn := bn) (bd := bd)
  obtain ⟨a1, a2⟩ := mod_bd (an := an) h k
  obtain ⟨b1, b2⟩ := mod_bd (an := bn) k h
  have hc : bd * ad = ad * bd := Int.mul_comm _ _
  have hD : 0 < ad * bd := Int.mul_pos h k
  by_cases e : an / ad = bn / bd
  · rw [cmp_eq e]
    rw [e, Int.sub_self, Int.mul_zero] at key
    constructor <;> constructor <;> intro _ <;> omega
  · by_cases l : an / ad < bn / bd
    · have c : cmpV an ad bn bd = -1 := by unfold cmpV; rw [if_neg e, if_pos l]
      have := Int.mul_le_mul_of_nonneg_left (show an / ad - bn / bd ≤ -1 by omega) (show 0 ≤ ad * bd by omega)
      rw [c]
      constructor <;> constructor <;> intro _ <;> omega
    · have c : cmpV an ad bn bd = 1 := by unfold cmpV; rw [if_neg e, if_neg l]
      have := Int.mul_le_mul_of_nonneg_left (show 1 ≤ an / ad - bn / bd by omega) (show 0 ≤ ad * bd by omega)
      rw [c]
      constructor <;> constructor <;> intro _ <;> omega
theorem cmp_pos {an ad bn bd : Int} (h : 0 < ad) (k : 0 < bd) : 0 < cmpV an ad bn bd ↔ Rat.divInt bn bd < Rat.divInt an ad := (cmp_tri h k).1.trans (lt_iff k h).symm
theorem cmp_neg {an ad bn bd : Int} (h : 0 < ad) (k : 0 < bd) : cmpV an ad bn bd < 0 ↔ Rat.divInt an ad < Rat.divInt bn bd := (cmp_tri h k).2.trans (lt_iff h k).symm
theorem cmp_le {an ad bn bd : Int} (h : 0 < ad) (k : 0 < bd) : cmpV an ad bn bd ≤ 0 ↔ Rat.divInt an ad ≤ Rat.divInt bn bd := by
  rw [← Rat.not_lt, ← cmp_pos h k]; omega
/-- quotient and remainder of Go, at positive divisors -/
theorem tdiv_ways (n : Int) {d : Int} (h : 0 < d) : (0 ≤ n.tmod d ∧ n.tdiv d = n / d ∧ n.tmod d = n % d) ∨ (n.tmod d < 0 ∧ n.tdiv d - 1 = n / d ∧ n.tmod d + d = n % d) := by
  have e1 := Int.mul_ediv_add_emod n d
  have e2 := Int.mul_tdiv_add_tmod n d
  have a := Int.emod_nonneg n (show d ≠ 0 by omega)
  have b := Int.emod_lt_of_pos n h
  have c : -d < n.tmod d ∧ n.tmod d < d := by
    constructor
    · have := Int.lt_tmod_of_pos n h; omega
    · exact Int.tmod_lt_of_pos n h
  by_cases q : 0 ≤ n.tmod d
  · left
    have : n.tdiv d = n / d := by
      apply Classical.byContradiction
      intro hn
      rcases Int.lt_or_gt_of_ne hn with l | l
      · have := Int.mul_le_mul_of_nonneg_left (show n.tdiv d + 1 ≤ n / d by omega) (show 0 ≤ d by omega)
        have e : d * (n.tdiv d + 1) = d * n.tdiv d + d := by grind
        omega
      · have := Int.mul_le_mul_of_nonneg_left (show n / d + 1 ≤ n.tdiv d by omega) (show 0 ≤ d by omega)
        have e : d * (n / d + 1) = d * (n / d) + d := by grind
        omega
    refine ⟨q, this, ?_⟩
    rw [this] at e2
    omega
  · right
    have : n.tdiv d - 1 = n / d := by
      apply Classical.byContradiction
      intro hn
      rcases Int.lt_or_gt_of_ne hn with l | l
      · have := Int.mul_le_mul_of_nonneg_left (show n.tdiv d ≤ n / d by omega) (show 0 ≤ d by omega)
        omega
      · have := Int.mul_le_mul_of_nonneg_left (show n / d + 2 ≤ n.tdiv d by omega) (show 0 ≤ d by omega)
        have e : d * (n / d + 2) = d * (n / d) + 2 * d := by grind
        omega
    refine ⟨by omega, this, ?_⟩
    rw [show n.tdiv d = n / d + 1 by omega] at e2
    have e : d * (n / d + 1) = d * (n / d) + d := by grind
    omega
/-- the whole parts are compared first, then what is left -/
theorem less_key {an ad bn bd : Int} (h : 0 < ad) (k : 0 < bd) : (an * bd < bn * ad) ↔ (an / ad < bn / bd ∨ (an / ad = bn / bd ∧ an % ad * bd < bn % bd * ad)) := by
  rw [← (cmp_tri h k).2]
  by_cases e : an / ad = bn / bd
  · rw [cmp_eq e]; omega
  · unfold cmpV
    rw [if_neg e]
    split <;> omega
end Go.Proofs.Ytjjhdigbgmbmnaa.Skw
