/- Plain: the chain that hull keeps holds exactly the corners, those points that lie strictly below each line from a point before to one after. -/
import Derived.Test.YtjjhdigbgmbmnaaSkwV
namespace Go.Proofs.Ytjjhdigbgmbmnaa.Skw
open Go.RowKit Aid Fx
section
variable {X H : Nat → Int} {n : Nat}
/-- the slope from one point to a later one -/
def S (X H : Nat → Int) (i j : Nat) : Rat := Rat.divInt (H j - H i) (X j - X i)
def Inc (X : Nat → Int) (n : Nat) : Prop := ∀ i j, i < j → j < n → X i < X j
theorem s_key (inc : Inc X n) {i j k : Nat} (h1 : i < j) (h2 : j < k) (h3 : k < n) :
    ∃ u v : Int, (S X H i j ≤ S X H j k ↔ u ≤ v) ∧ (S X H i j ≤ S X H i k ↔ u ≤ v) ∧ (S X H i k ≤ S X H j k ↔ u ≤ v) ∧ (S X H j k ≤ S X H i j ↔ v ≤ u) ∧ (S X H i k ≤ S X H i j ↔ v ≤ u) ∧ (S X H j k ≤ S X H i k ↔ v ≤ u) ∧ (0 < turnV (X i) (H i) (X j) (H j) (X k) (H k) ↔ u < v) ∧ ((H j - H i) * (X k - X i) < (H k - H i) * (X j - X i) ↔ u < v) := by
  have a1 := inc i j h1 (by omega)
  have a2 := inc j k h2 h3
  have e1 : H k - H i = (H j - H i) + (H k - H j) := by omega
  have e2 : X k - X i = (X j - X i) + (X k - X j) := by omega
  refine ⟨(H j - H i) * (X k - X j), (H k - H j) * (X j - X i), ?_⟩
  unfold S turnV
  rw [le_iff (by omega) (by omega), le_iff (by omega) (by omega), le_iff (by omega) (by omega), le_iff (by omega) (by omega), le_iff (by omega) (by omega), le_iff (by omega) (by omega), e1, e2]
  generalize H j - H i = a
  generalize H k - H j = c
  generalize X j - X i = b at *
  generalize X k - X j = d at *
  simp only [Int.mul_add, Int.add_mul]
  rw [Int.mul_comm b c]
  refine ⟨?_, ?_, ?_, ?_, ?_, ?_, ?_, ?_⟩ <;> first | exact trivial | exact Iff.rfl | omega
/-- all points lie on or above the line through two corners -/
structure Edge (X H : Nat → Int) (K p x : Nat) : Prop where
  lt : p < x
  b : x < K
  lo : ∀ y, y < p → S X H y p ≤ S X H p x
  mid : ∀ y, p < y → y < x → S X H p x ≤ S X H p y
  hi : ∀ y, x < y → y < K → S X H p x ≤ S X H x y
/-- a chain of corners, the last one first -/
def Good (X H : Nat → Int) (K : Nat) : List Nat → Prop
  | [] => True
  | [x] => x = 0
  | x :: p :: t => Edge X H K p x ∧ Good X H K (p :: t) ∧ (∀ q, t.head? = some q → S X H q p < S X H p x)
theorem Edge.before (inc : Inc X n) {K p x : Nat} (e : Edge X H K p x) (hK : K ≤ n) {i : Nat} (hi : i < x) : S X H i x ≤ S X H p x := by
  have h1 := e.lt
  have h2 := e.b
  rcases Nat.lt_trichotomy i p with h | h | h
  · obtain ⟨u, v, k1, _, k3, _⟩ := s_key (H := H) inc h h1 (by omega)
    exact k3.2 (k1.1 (e.lo i h))
  · subst h; exact Rat.le_refl
  · obtain ⟨u, v, _, _, _, _, k5, k6, _⟩ := s_key (H := H) inc h hi (by omega)
    exact k6.2 (k5.1 (e.mid i h hi))
theorem Edge.behind (inc : Inc X n) {K p x : Nat} (e : Edge X H K p x) (hK : K ≤ n) {j : Nat} (hp : p < j) (hj : j < K) : S X H p x ≤ S X H p j := by
  have h1 := e.lt
  rcases Nat.lt_trichotomy j x with h | h | h
  · exact e.mid j hp h
  · subst h; exact Rat.le_refl
  · obtain ⟨u, v, k1, k2, _⟩ := s_key (H := H) inc h1 h (by omega)
    exact k2.2 (k1.1 (e.hi j h hj))
theorem good_lift (inc : Inc X n) {K : Nat} (hK : K < n) : ∀ (l : List Nat) (x p : Nat), Good X H K (x :: p :: l) → S X H p x ≤ S X H x K → Good X H (K + 1) (x :: p :: l)
  | [], x, p, g, h => by
    obtain ⟨e, g2, _⟩ := g
    refine ⟨⟨e.lt, by have := e.b; omega, e.lo, e.mid, fun y h1 h2 => ?_⟩, g2, fun q hq => by cases hq⟩
    rcases Nat.lt_or_ge y K with h3 | h3
    · exact e.hi y h1 h3
    · obtain rfl : y = K := by omega
      exact h
  | q :: l, x, p, g, h => by
    obtain ⟨e, g2, lk⟩ := g
    have e2 := g2.1
    have h1 := e.lt
    have h2 := e.b
    have h3 := e2.lt
    refine ⟨⟨e.lt, by omega, e.lo, e.mid, fun y k1 k2 => ?_⟩, good_lift inc hK l p q g2 ?_, lk⟩
    · rcases Nat.lt_or_ge y K with h3 | h3
      · exact e.hi y k1 h3
      · obtain rfl : y = K := by omega
        exact h
    · obtain ⟨u, v, k1, k2, _⟩ := s_key (H := H) inc h1 h2 (by omega)
      exact Rat.le_trans (Rat.le_of_lt (lk q rfl)) (k2.2 (k1.1 h))
theorem pop_good (inc : Inc X n) {K : Nat} (hK : K < n) : ∀ (l : List Nat) (t : Nat), Good X H K (t :: l) → t < K → (∀ y, t < y → y < K → S X H t K ≤ S X H t y) → Good X H (K + 1) (K :: popW (lowC X H) K (t :: l))
  | [], t, g, ht, hy => by
    have g0 : t = 0 := g
    subst g0
    exact ⟨⟨ht, by omega, fun y h => by omega, hy, fun y h1 h2 => by omega⟩, rfl, fun q hq => by cases hq⟩
  | p :: l, t, g, ht, hy => by
    obtain ⟨e, g2, lk⟩ := id g
    have h1 := e.lt
    obtain ⟨u, v, k1, k2, k3, k4, k5, k6, k7, _⟩ := s_key (H := H) inc h1 ht hK
    unfold popW
    by_cases hc : lowC X H p t K = true
    · rw [if_pos hc]
      have hlt : u < v := k7.1 (by unfold lowC at hc; exact of_decide_eq_true hc)
      have hs : S X H p t < S X H t K := Rat.not_le.1 fun h => by have := k4.1 h; omega
      refine ⟨⟨ht, by omega, fun y hyt => ?_, hy, fun y a b => by omega⟩, good_lift inc hK l t p g (Rat.le_of_lt hs), fun q hq => ?_⟩
      · exact Rat.le_trans (e.before inc (by omega) hyt) (Rat.le_of_lt hs)
      · cases hq; exact hs
    · rw [if_neg hc]
      have hge : v ≤ u := by
        rcases Int.lt_or_le u v with h | h
        · exact absurd (decide_eq_true (k7.2 h)) (by unfold lowC at hc; exact hc)
        · exact h
      refine pop_good inc hK l p g2 (by omega) fun y a b => ?_
      exact Rat.le_trans (k5.2 hge) (e.behind inc (by omega) a b)
theorem hull_good (inc : Inc X n) : ∀ K, K ≤ n → Good X H K (hullS (lowC X H) K) ∧ (∀ t, (hullS (lowC X H) K).head? = some t → t + 1 = K) ∧ (0 < K → hullS (lowC X H) K ≠ [])
  | 0, _ => ⟨trivial, fun t h => (by cases h), fun h => (by omega)⟩
  | K + 1, hK => by
    obtain ⟨g, top, ne⟩ := hull_good inc K (by omega)
    refine ⟨?_, fun t h => (by unfold hullS at h; cases h; rfl), fun _ => (by unfold hullS; exact List.cons_ne_nil _ _)⟩
    unfold hullS
    generalize hst : hullS (lowC X H) K = st at *
    match st, g, top, ne with
    | [], _, _, ne =>
      rcases Nat.eq_zero_or_pos K with h | h
      · subst h; exact rfl
      · exact absurd rfl (ne h)
    | t :: l, g, top, _ =>
      have := top t rfl
      exact pop_good inc (by omega) l t g (by omega) fun y a b => by omega
/-- the reference's corner -/
def crn (X H : Nat → Int) (n k : Nat) : Prop := ∀ i, i < k → ∀ j, k < j → j < n → (H k - H i) * (X j - X i) < (H j - H i) * (X k - X i)
theorem good_in (inc : Inc X n) : ∀ (l : List Nat) (h : Nat), Good X H n (h :: l) → ∀ x ∈ l, crn X H n x
  | [], _, _ => fun x hx => by cases hx
  | [p], h, g => fun x hx => by
    have e : x = p := by simpa using hx
    have e0 : p = 0 := g.2.1
    subst e e0
    intro i hi
    omega
  | p :: q :: t, h, g => fun x hx => by
    obtain ⟨e, g2, lk⟩ := g
    rcases List.mem_cons.1 hx with rfl | hx
    · intro i hi j hj hjn
      have e2 := g2.1
      have s1 := e2.before inc (Nat.le_refl _) hi
      have s2 := lk q rfl
      have s3 := e.behind inc (Nat.le_refl _) hj hjn
      obtain ⟨u, v, k1, k2, k3, k4, k5, k6, k7, k8⟩ := s_key (H := H) inc hi hj hjn
      refine k8.2 (Int.not_le.1 fun hvu => ?_)
      have s4 := k4.2 hvu
      exact absurd s2 (Rat.not_lt.2 (Rat.le_trans s3 (Rat.le_trans s4 s1)))
    · exact good_in inc (q :: t) p g2 x hx
theorem good_out : ∀ (l : List Nat) (h x : Nat), Good X H n (h :: l) → x < h → x ∉ l → ∃ p s, Edge X H n p s ∧ p < x ∧ x < s
  | [], h, x, g, hx, _ => by
    have : h = 0 := g
    omega
  | p :: t, h, x, g, hx, hm => by
    rcases Nat.lt_trichotomy x p with k | k | k
    · exact good_out t p x g.2.1 k fun q => hm (List.mem_cons_of_mem _ q)
    · subst k; exact absurd (List.mem_cons_self ..) hm
    · exact ⟨p, h, g.1, k, hx⟩
theorem hull_mem (inc : Inc X n) (x : Nat) : x ∈ hullS (lowC X H) n ↔ x < n ∧ crn X H n x := by
  obtain ⟨g, top, ne⟩ := hull_good (H := H) inc n (Nat.le_refl _)
  have dn := hull_down (lowC X H) n
  constructor
  · intro hx
    refine ⟨dn.1 x hx, ?_⟩
    generalize hst : hullS (lowC X H) n = st at *
    match st, g, top, hx with
    | h :: l, g, top, hx =>
      rcases List.mem_cons.1 hx with rfl | hx
      · have := top x rfl
        intro i _ j hj hjn
        omega
      · exact good_in inc l h g x hx
  · rintro ⟨hxn, hc⟩
    have hne := ne (by omega)
    generalize hst : hullS (lowC X H) n = st at *
    match st, g, top, hne with
    | [], _, _, hne => exact absurd rfl hne
    | h :: l, g, top, _ =>
      have := top h rfl
      rcases Classical.em (x ∈ h :: l) with hm | hm
      · exact hm
      · have h1 : x ≠ h := fun e => hm (e ▸ List.mem_cons_self ..)
        obtain ⟨p, s, e, hp, hs⟩ := good_out l h x g (by omega) fun q => hm (List.mem_cons_of_mem _ q)
        have hsn := e.b
        obtain ⟨u, v, k1, k2, k3, k4, k5, k6, k7, k8⟩ := s_key (H := H) inc hp hs hsn
        have b1 := k5.1 (e.mid x hp hs)
        have b2 := k8.1 (hc p hp s hs hsn)
        omega
end
theorem down_eq : ∀ (l m : List Nat), l.Pairwise (· > ·) → m.Pairwise (· > ·) → (∀ x, x ∈ l ↔ x ∈ m) → l = m
  | [], [], _, _, _ => rfl
  | [], b :: m, _, _, h => by have := (h b).2 (List.mem_cons_self ..); cases this
  | a :: l, [], _, _, h => by have := (h a).1 (List.mem_cons_self ..); cases this
  | a :: l, b :: m, hl, hm, h => by
    obtain ⟨l1, l2⟩ := List.pairwise_cons.1 hl
    obtain ⟨m1, m2⟩ := List.pairwise_cons.1 hm
    have e : a = b := by
      rcases List.mem_cons.1 ((h a).1 (List.mem_cons_self ..)) with k | k
      · exact k
      · rcases List.mem_cons.1 ((h b).2 (List.mem_cons_self ..)) with q | q
        · exact q.symm
        · have := l1 b q
          have := m1 a k
          omega
    subst e
    rw [down_eq l m l2 m2 fun x => ?_]
    constructor
    · intro hx
      rcases List.mem_cons.1 ((h x).1 (List.mem_cons_of_mem _ hx)) with k | k
      · have := l1 x hx; omega
      · exact k
    · intro hx
      rcases List.mem_cons.1 ((h x).2 (List.mem_cons_of_mem _ hx)) with k | k
      · have := m1 x hx; omega
      · exact k
open Classical in
noncomputable def crnB (X H : Nat → Int) (n k : Nat) : Bool := decide (crn X H n k)
theorem hull_filter {X H : Nat → Int} {n : Nat} (inc : Inc X n) : (hullS (lowC X H) n).reverse = (List.range n).filter (crnB X H n) := by
  have e : hullS (lowC X H) n = ((List.range n).filter (crnB X H n)).reverse := by
    refine down_eq _ _ (hull_down _ n).2 ?_ fun x => ?_
    · rw [List.pairwise_reverse]
      exact List.Pairwise.filter _ List.pairwise_lt_range
    · rw [hull_mem inc, List.mem_reverse, List.mem_filter, List.mem_range]
      unfold crnB
      simp
  rw [e, List.reverse_reverse]
theorem upp_low (X L : Nat → Int) : uppC X L = lowC X (fun i => -L i) := by
  funext i j k
  unfold uppC lowC turnV
  rw [decide_eq_decide]
  have e : (X j - X i) * (-L k - -L j) - (-L j - -L i) * (X k - X j) = -((X j - X i) * (L k - L j) - (L j - L i) * (X k - X j)) := by grind
  rw [e]
  omega
noncomputable def rlowS (X L H : Nat → Int) (n : Nat) : List Nat := if chkG X L H n = 0 then (List.range n).filter (crnB X H n) else []
noncomputable def ruppS (X L H : Nat → Int) (n : Nat) : List Nat := if chkG X L H n = 0 then (List.range n).filter (crnB X (fun i => -L i) n) else []
theorem low_same (X L H : Nat → Int) (n : Nat) : lowS X L H n = rlowS X L H n := by
  unfold lowS rlowS
  split
  · rename_i h
    exact hull_filter (chk_ok h).inc
  · rfl
theorem upp_same (X L H : Nat → Int) (n : Nat) : uppS X L H n = ruppS X L H n := by
  unfold uppS ruppS
  split
  · rename_i h
    rw [upp_low]
    exact hull_filter (chk_ok h).inc
  · rfl
end Go.Proofs.Ytjjhdigbgmbmnaa.Skw
