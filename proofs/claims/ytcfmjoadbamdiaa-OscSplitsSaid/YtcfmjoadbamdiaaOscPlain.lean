/- Plain laws of layer 9 (oscillators): no program. -/
namespace Go.Proofs.Ytcfmjoadbamdiaa.OscP
def B : Int := 1000000000
def sumTo (f : Nat → Int) : Nat → Int
  | 0 => 0
  | k + 1 => sumTo f k + f k
theorem sumTo_succ (f : Nat → Int) (k : Nat) : sumTo f (k + 1) = sumTo f k + f k := rfl
theorem sumTo_congr {f g : Nat → Int} {n : Nat} (h : ∀ i, i < n → f i = g i) : sumTo f n = sumTo g n := by
  induction n with
  | zero => rfl
  | succ n ih => rw [sumTo_succ, sumTo_succ, ih fun i hi => h i (by omega), h n (by omega)]
theorem sumTo_add (f g : Nat → Int) (n : Nat) : sumTo (fun i => f i + g i) n = sumTo f n + sumTo g n := by
  induction n with
  | zero => rfl
  | succ n ih => simp only [sumTo_succ, ih]; omega
theorem sumTo_mul (c : Int) (f : Nat → Int) (n : Nat) : sumTo (fun i => c * f i) n = c * sumTo f n := by
  induction n with
  | zero => simp [sumTo]
  | succ n ih => simp only [sumTo_succ, ih, Int.mul_add]
theorem sumTo_le {f g : Nat → Int} {n : Nat} (h : ∀ i, i < n → f i ≤ g i) : sumTo f n ≤ sumTo g n := by
  induction n with
  | zero => exact Int.le_refl _
  | succ n ih => have := ih fun i hi => h i (by omega); have := h n (by omega); simp only [sumTo_succ]; omega
/-- the time spent in segment i until t -/
def dd (A : Nat → Int) (n : Nat) (t : Int) (i : Nat) : Int :=
  max 0 ((if i + 1 < n then min t (A (i + 1)) else t) - A i)
def wholeT (A P : Nat → Int) (n : Nat) (t : Int) (i : Nat) : Int := P i * (dd A n t i / B)
def restT (A P : Nat → Int) (n : Nat) (t : Int) (i : Nat) : Int := P i * (dd A n t i % B)
def rd (ph : Int) (A P : Nat → Int) (n : Nat) (t : Int) : Int :=
  ph + t + sumTo (wholeT A P n t) n + sumTo (restT A P n t) n / B
def gain (A P : Nat → Int) (n : Nat) (t : Int) : Int := sumTo (fun i => P i * dd A n t i) n
theorem rd_eq (ph : Int) (A P : Nat → Int) (n : Nat) (t : Int) : rd ph A P n t = ph + t + gain A P n t / B := by
  have h : gain A P n t = B * sumTo (wholeT A P n t) n + sumTo (restT A P n t) n := by
    unfold gain
    rw [← sumTo_mul, ← sumTo_add]
    refine sumTo_congr fun i _ => ?_
    unfold wholeT restT
    have e := Int.mul_ediv_add_emod (dd A n t i) B
    rw [← Int.mul_assoc, Int.mul_comm B, Int.mul_assoc, ← Int.mul_add]
    rw [e]
  unfold rd
  rw [h, Int.mul_add_ediv_left _ _ (by decide)]
  omega
/-- valid: as Check says -/
structure Ok (ph : Int) (A P : Nat → Int) (n : Nat) : Prop where
  n1 : 1 ≤ n
  n16 : n ≤ 16
  ph1 : -1125899906842624 ≤ ph
  ph2 : ph ≤ 1125899906842624
  a0 : A 0 = 0
  ain : ∀ i, i < n → 0 ≤ A i ∧ A i ≤ 1125899906842624
  pin : ∀ i, i < n → -500000 ≤ P i ∧ P i ≤ 500000
  inc : ∀ i, i + 1 < n → A i < A (i + 1)
/-- partial sums of dd telescope -/
theorem dd_sum {A : Nat → Int} {n : Nat} {t : Int} (h0 : A 0 = 0) (hi : ∀ i, i + 1 < n → A i < A (i + 1)) (ht : 0 ≤ t) :
    ∀ k, k < n → sumTo (dd A n t) k = min t (A k) := by
  intro k
  induction k with
  | zero => intro _; rw [h0]; simp only [sumTo]; omega
  | succ k ih =>
    intro hk
    rw [sumTo_succ, ih (by omega)]
    unfold dd
    rw [if_pos hk]
    have := hi k hk
    omega
theorem dd_total {A : Nat → Int} {n : Nat} {t : Int} (hn : 1 ≤ n) (h0 : A 0 = 0) (hi : ∀ i, i + 1 < n → A i < A (i + 1)) (ht : 0 ≤ t) :
    sumTo (dd A n t) n = t := by
  obtain ⟨m, rfl⟩ : ∃ m, n = m + 1 := ⟨n - 1, by omega⟩
  rw [sumTo_succ, dd_sum h0 hi ht m (by omega)]
  unfold dd
  rw [if_neg (by omega)]
  omega
theorem dd_mono {A : Nat → Int} {n : Nat} {t u : Int} (h : t ≤ u) (i : Nat) : dd A n t i ≤ dd A n u i := by
  unfold dd
  split <;> omega
theorem dd_nn {A : Nat → Int} {n : Nat} {t : Int} (i : Nat) : 0 ≤ dd A n t i := by unfold dd; omega
theorem gain_diff {A P : Nat → Int} {n : Nat} {t u c : Int} (hn : 1 ≤ n) (h0 : A 0 = 0) (hi : ∀ i, i + 1 < n → A i < A (i + 1)) (ht : 0 ≤ t) (hu : t ≤ u)
    (hp : ∀ i, i < n → -c ≤ P i ∧ P i ≤ c) : -(c * (u - t)) ≤ gain A P n u - gain A P n t ∧ gain A P n u - gain A P n t ≤ c * (u - t) := by
  have hd : sumTo (fun i => dd A n u i + (-1) * dd A n t i) n = u - t := by
    rw [sumTo_add, sumTo_mul]
    have e1 := dd_total (t := u) hn h0 hi (by omega)
    have e2 := dd_total (t := t) hn h0 hi ht
    rw [e1, e2]
    omega
  have hg : gain A P n u - gain A P n t = sumTo (fun i => P i * (dd A n u i + (-1) * dd A n t i)) n := by
    have : (fun i => P i * (dd A n u i + (-1) * dd A n t i)) = fun i => P i * dd A n u i + (-1) * (P i * dd A n t i) := by
      funext i
      rw [Int.mul_add, Int.mul_left_comm]
    rw [this, sumTo_add, sumTo_mul]
    unfold gain
    omega
  have hs : sumTo (fun i => c * (dd A n u i + (-1) * dd A n t i)) n = c * (u - t) := by rw [sumTo_mul, hd]
  have hs' : sumTo (fun i => (-c) * (dd A n u i + (-1) * dd A n t i)) n = (-c) * (u - t) := by rw [sumTo_mul, hd]
  rw [hg, ← hs]
  have hneg : -(c * (u - t)) = (-c) * (u - t) := by rw [Int.neg_mul]
  have key : ∀ i, 0 ≤ dd A n u i + (-1) * dd A n t i := fun i => by have := dd_mono (A := A) (n := n) hu i; omega
  constructor
  · rw [hs, hneg, ← hs']
    exact sumTo_le fun i hi' => Int.mul_le_mul_of_nonneg_right (hp i hi').1 (key i)
  · exact sumTo_le fun i hi' => Int.mul_le_mul_of_nonneg_right (hp i hi').2 (key i)
theorem ediv_diff {x y c d : Int} (h1 : -(c * d) ≤ y - x) (h2 : y - x ≤ c * d) :
    y / B - x / B ≤ (c * d + (B - 1)) / B ∧ x / B - y / B ≤ (c * d + (B - 1)) / B := by
  unfold B
  generalize c * d = e at *
  omega
theorem ceil_split {c d : Int} : (c * d + (B - 1)) / B = d / B * c + (d % B * c + (B - 1)) / B := by
  have e := Int.mul_ediv_add_emod d B
  have h : c * d + (B - 1) = B * (d / B * c) + (d % B * c + (B - 1)) := by
    have : c * d = B * (d / B * c) + d % B * c := by
      conv => lhs; rw [← e]
      rw [Int.mul_add, Int.mul_comm c (d % B), Int.mul_left_comm c B, Int.mul_comm c]
    omega
  rw [h, Int.mul_add_ediv_left _ _ (by decide)]
theorem rd_drift {ph : Int} {A P : Nat → Int} {n : Nat} {t d c : Int} (hn : 1 ≤ n) (h0 : A 0 = 0) (hi : ∀ i, i + 1 < n → A i < A (i + 1)) (ht : 0 ≤ t) (hd : 0 ≤ d)
    (hp : ∀ i, i < n → -c ≤ P i ∧ P i ≤ c) :
    rd ph A P n (t + d) - rd ph A P n t - d ≤ d / B * c + (d % B * c + (B - 1)) / B ∧ d - (rd ph A P n (t + d) - rd ph A P n t) ≤ d / B * c + (d % B * c + (B - 1)) / B := by
  have g := gain_diff hn h0 hi ht (show t ≤ t + d by omega) hp
  rw [show t + d - t = d by omega] at g
  have e := ediv_diff g.1 g.2
  rw [← ceil_split, rd_eq, rd_eq]
  omega
theorem rd_mono {ph : Int} {A P : Nat → Int} {n : Nat} (ok : Ok ph A P n) {t u : Int} (ht : 0 ≤ t) (hu : t ≤ u) : rd ph A P n t ≤ rd ph A P n u := by
  have g := gain_diff (c := 500000) ok.n1 ok.a0 ok.inc ht hu ok.pin
  rw [rd_eq, rd_eq]
  have := g.1
  unfold B
  omega
/-- sizes -/
theorem sumTo_bd {f : Nat → Int} {c : Int} {n : Nat} (h : ∀ i, i < n → -c ≤ f i ∧ f i ≤ c) : -(c * n) ≤ sumTo f n ∧ sumTo f n ≤ c * n := by
  induction n with
  | zero => simp [sumTo]
  | succ n ih =>
    have i1 := ih fun i hi => h i (by omega)
    have i2 := h n (by omega)
    rw [sumTo_succ, show ((n + 1 : Nat) : Int) = (n : Int) + 1 by omega, Int.mul_add]
    omega
theorem mul_bd {p x a b : Int} (hp : -a ≤ p ∧ p ≤ a) (hx : 0 ≤ x ∧ x ≤ b) : -(a * b) ≤ p * x ∧ p * x ≤ a * b := by
  have ha : 0 ≤ a := by omega
  have h1 := Int.mul_le_mul_of_nonneg_right hp.1 hx.1
  have h2 := Int.mul_le_mul_of_nonneg_right hp.2 hx.1
  have h3 := Int.mul_le_mul_of_nonneg_left hx.2 ha
  rw [Int.neg_mul] at h1
  omega
theorem dd_bd {A P : Nat → Int} {n : Nat} {ph t : Int} (ok : Ok ph A P n) (ht : 0 ≤ t ∧ t ≤ 1125899906842624) (i : Nat) (hi : i < n) :
    0 ≤ dd A n t i ∧ dd A n t i ≤ 1125899906842624 := by
  have := ok.ain i hi
  unfold dd
  split <;> omega
theorem wholeT_bd {A P : Nat → Int} {n : Nat} {ph t : Int} (ok : Ok ph A P n) (ht : 0 ≤ t ∧ t ≤ 1125899906842624) (i : Nat) (hi : i < n) :
    -563000000000 ≤ wholeT A P n t i ∧ wholeT A P n t i ≤ 563000000000 := by
  have := dd_bd ok ht i hi
  have := mul_bd (b := 1126000) (ok.pin i hi) (show 0 ≤ dd A n t i / B ∧ dd A n t i / B ≤ 1126000 by unfold B; omega)
  unfold wholeT
  omega
theorem restT_bd {A P : Nat → Int} {n : Nat} {ph t : Int} (ok : Ok ph A P n) (ht : 0 ≤ t ∧ t ≤ 1125899906842624) (i : Nat) (hi : i < n) :
    -500000000000000 ≤ restT A P n t i ∧ restT A P n t i ≤ 500000000000000 := by
  have := dd_bd ok ht i hi
  have := mul_bd (b := 1000000000) (ok.pin i hi) (show 0 ≤ dd A n t i % B ∧ dd A n t i % B ≤ 1000000000 by unfold B; omega)
  unfold restT
  omega
theorem wsum_bd {A P : Nat → Int} {n : Nat} {ph t : Int} (ok : Ok ph A P n) (ht : 0 ≤ t ∧ t ≤ 1125899906842624) (k : Nat) (hk : k ≤ n) :
    -9008000000000 ≤ sumTo (wholeT A P n t) k ∧ sumTo (wholeT A P n t) k ≤ 9008000000000 := by
  have := sumTo_bd (n := k) fun i hi => wholeT_bd ok ht i (by omega)
  have := ok.n16
  omega
theorem rsum_bd {A P : Nat → Int} {n : Nat} {ph t : Int} (ok : Ok ph A P n) (ht : 0 ≤ t ∧ t ≤ 1125899906842624) (k : Nat) (hk : k ≤ n) :
    -8000000000000000 ≤ sumTo (restT A P n t) k ∧ sumTo (restT A P n t) k ≤ 8000000000000000 := by
  have := sumTo_bd (n := k) fun i hi => restT_bd ok ht i (by omega)
  have := ok.n16
  omega
theorem rd_bd {A P : Nat → Int} {n : Nat} {ph t : Int} (ok : Ok ph A P n) (ht : 0 ≤ t ∧ t ≤ 1125899906842624) :
    -2300000000000000 ≤ rd ph A P n t ∧ rd ph A P n t ≤ 2300000000000000 := by
  have := wsum_bd ok ht n (by omega)
  have := rsum_bd ok ht n (by omega)
  have := ok.ph1
  have := ok.ph2
  unfold rd B
  omega
/-- the first error of a row of checks -/
def firstE (e : Nat → Int) : Nat → Int
  | 0 => 0
  | k + 1 => if firstE e k = 0 then e k else firstE e k
theorem firstE_hit {e : Nat → Int} {k n : Nat} (h0 : firstE e k = 0) (hk : k < n) (he : e k ≠ 0) : firstE e n = e k := by
  induction n with
  | zero => omega
  | succ n ih =>
    rcases Nat.lt_or_ge k n with h | h
    · unfold firstE
      rw [ih h, if_neg he]
    · have : n = k := by omega
      subst this
      unfold firstE
      rw [if_pos h0]
theorem firstE_all {e : Nat → Int} {n : Nat} (h : firstE e n = 0) : ∀ i, i < n → e i = 0 := by
  induction n with
  | zero => intro i hi; omega
  | succ n ih =>
    unfold firstE at h
    split at h
    · intro i hi
      rcases Nat.lt_or_ge i n with hh | hh
      · exact ih (by assumption) i hh
      · have : i = n := by omega
        subst this; exact h
    · exact absurd h (by assumption)
theorem firstE_zero {e : Nat → Int} {n : Nat} (h : ∀ i, i < n → e i = 0) : firstE e n = 0 := by
  induction n with
  | zero => rfl
  | succ n ih =>
    unfold firstE
    rw [ih fun i hi => h i (by omega), if_pos rfl, h n (by omega)]
def segE (A P : Nat → Int) (i : Nat) : Int :=
  if A i < 0 ∨ 1125899906842624 < A i ∨ P i < -500000 ∨ 500000 < P i then 3
  else if i = 0 ∧ A i ≠ 0 then 7
  else if 0 < i ∧ A i ≤ A (i - 1) then 12
  else 0
def chk (ph : Int) (A P : Nat → Int) (n : Nat) : Int :=
  if n = 0 then 14 else if 16 < n then 6 else if ph < -1125899906842624 ∨ 1125899906842624 < ph then 3 else firstE (segE A P) n
theorem chk_ok {ph : Int} {A P : Nat → Int} {n : Nat} (h : chk ph A P n = 0) : Ok ph A P n := by
  unfold chk at h
  split at h
  · omega
  split at h
  · omega
  split at h
  · omega
  have hs := firstE_all h
  have key : ∀ i, i < n → (0 ≤ A i ∧ A i ≤ 1125899906842624) ∧ (-500000 ≤ P i ∧ P i ≤ 500000) ∧ (i = 0 → A i = 0) ∧ (0 < i → A (i - 1) < A i) := by
    intro i hi
    have := hs i hi
    unfold segE at this
    split at this
    · omega
    split at this
    · omega
    split at this
    · omega
    omega
  exact ⟨by omega, by omega, by omega, by omega, (key 0 (by omega)).2.2.1 rfl, fun i hi => (key i hi).1, fun i hi => (key i hi).2.1, fun i hi => (key (i + 1) hi).2.2.2 (by omega)⟩
def rate (A P : Nat → Int) (t : Int) : Nat → Int
  | 0 => P 0
  | k + 1 => if A k ≤ t then P k else rate A P t k
def most (P : Nat → Int) : Nat → Int
  | 0 => 0
  | k + 1 => max (max (most P k) (P k)) (-P k)
theorem most_bd {P : Nat → Int} {n : Nat} : (0 ≤ most P n) ∧ ∀ i, i < n → -most P n ≤ P i ∧ P i ≤ most P n := by
  induction n with
  | zero => exact ⟨by simp [most], fun i hi => by omega⟩
  | succ n ih =>
    unfold most
    refine ⟨by omega, fun i hi => ?_⟩
    rcases Nat.lt_or_ge i n with h | h
    · have := ih.2 i h; omega
    · have : i = n := by omega
      subst this; omega
theorem most_le {P : Nat → Int} {n : Nat} {c : Int} (h0 : 0 ≤ c) (h : ∀ i, i < n → -c ≤ P i ∧ P i ≤ c) : most P n ≤ c := by
  induction n with
  | zero => simpa [most] using h0
  | succ n ih =>
    have := ih fun i hi => h i (by omega)
    have := h n (by omega)
    unfold most; omega
end Go.Proofs.Ytcfmjoadbamdiaa.OscP
