/- Plain: the gates that have their tops only at given places; the corners as a list in memory. -/
import Derived.Test.YtjjhdigbgmbmnaaSkxU
import Derived.Test.YtjjhdigbgmbmnaaSkxV
namespace Go.Proofs.Ytjjhdigbgmbmnaa.Skw
open Go.RowKit Aid Fx
def wide (k : Nat) (v : Int) (f : Nat → Int) (j : Nat) : Int := if j < k then v else f j
theorem wide_step (k : Nat) (v : Int) (f : Nat → Int) : upd (wide k v f) k v = wide (k + 1) v f := by
  funext j
  unfold upd wide
  by_cases h1 : j = k
  · rw [if_pos h1, if_pos (by omega)]
  · rw [if_neg h1]
    by_cases h2 : j < k
    · rw [if_pos h2, if_pos (by omega)]
    · rw [if_neg h2, if_neg (by omega)]
theorem wide_none (v : Int) (f : Nat → Int) : wide 0 v f = f := by funext j; unfold wide; rw [if_neg (by omega)]
/-- v, but f at the first k places that P names -/
def only (P : Nat → Nat) (v : Int) (f : Nat → Int) : Nat → Nat → Int
  | 0, _ => v
  | k + 1, j => if j = P k then f j else only P v f k j
theorem only_step (P : Nat → Nat) (v : Int) (f : Nat → Int) (k : Nat) : upd (only P v f k) (P k) (f (P k)) = only P v f (k + 1) := by
  funext j
  unfold upd
  conv => rhs; unfold only
  by_cases h : j = P k
  · rw [if_pos h, if_pos h, h]
  · rw [if_neg h, if_neg h]
theorem only_or (P : Nat → Nat) (v : Int) (f : Nat → Int) : ∀ k j, only P v f k j = v ∨ only P v f k j = f j
  | 0, _ => .inl rfl
  | k + 1, j => by
    unfold only
    split
    · exact .inr rfl
    · exact only_or P v f k j
theorem only_at (P : Nat → Nat) (v : Int) (f : Nat → Int) : ∀ k i, i < k → only P v f k (P i) = f (P i)
  | 0, _, h => by omega
  | k + 1, i, h => by
    unfold only
    split
    · rfl
    · rename_i hne
      refine only_at P v f k i ?_
      rcases Nat.lt_or_ge i k with h1 | h1
      · exact h1
      · obtain rfl : i = k := by omega
        exact absurd rfl hne
theorem rowG_congr {X L H L' H' : Nat → Int} : ∀ n, (∀ i, i < n → L i = L' i) → (∀ i, i < n → H i = H' i) → rowG X L H n = rowG X L' H' n
  | 0, _, _ => rfl
  | n + 1, a, b => by
    unfold rowG
    rw [rowG_congr n (fun i hi => a i (by omega)) (fun i hi => b i (by omega)), a n (by omega), b n (by omega)]
theorem row_first (X L H : Nat → Int) (P Q : Nat → Nat) (n : Nat) (u v : Int) : rowG X (wide n u L) (wide n v H) n = rowG X (only Q u L 0) (only P v H 0) n :=
  rowG_congr n (fun i hi => by unfold wide; rw [if_pos hi]; rfl) (fun i hi => by unfold wide; rw [if_pos hi]; rfl)
/-- the places P k, k < m, rise from 0 to n - 1 and are those of the list -/
structure Rise (P : Nat → Nat) (m n : Nat) (l : List Nat) : Prop where
  pos : 0 < m
  len : m = l.length
  at_ : ∀ i, i < m → P i = l.getD i 0
  mem : ∀ x, x ∈ l → ∃ i, i < m ∧ P i = x
  lt : ∀ i, i < m → P i < n
  inc : ∀ i, 0 < i → i < m → P (i - 1) < P i
  first : P 0 = 0
  last : P (m - 1) = n - 1
theorem Rise.le {P : Nat → Nat} {m n : Nat} {l : List Nat} (r : Rise P m n l) : m ≤ n := by
  have key : ∀ i, i < m → i ≤ P i := by
    intro i
    induction i with
    | zero => intro _; exact Nat.zero_le _
    | succ i ih =>
      intro hi
      have a := ih (by omega)
      have b := r.inc (i + 1) (by omega) hi
      rw [Nat.add_sub_cancel] at b
      omega
  have h0 := r.pos
  have a := key (m - 1) (by omega)
  have b := r.lt (m - 1) (by omega)
  omega
theorem good_last {X H : Nat → Int} {n : Nat} : ∀ (l : List Nat) (x : Nat), Good X H n (x :: l) → (x :: l).getLast? = some 0
  | [], x, g => by
    have : x = 0 := g
    subst this; rfl
  | p :: t, x, g => by
    rw [List.getLast?_cons_cons]
    exact good_last t p g.2.1
theorem low_rise {X H : Nat → Int} {n : Nat} (inc : Inc X n) (hn : 0 < n) : ∃ P m, Rise P m n (hullS (lowC X H) n).reverse := by
  obtain ⟨g, top, ne⟩ := hull_good (H := H) inc n (Nat.le_refl _)
  have dn := hull_down (lowC X H) n
  have hne := ne hn
  generalize hullS (lowC X H) n = st at *
  have hl : 0 < st.length := List.length_pos_iff.2 hne
  have key : ∀ i, (hi : i < st.length) → st.reverse.getD i 0 = st[st.length - 1 - i]'(by omega) := by
    intro i hi
    rw [List.getD_eq_getElem?_getD, List.getElem?_reverse hi, List.getElem?_eq_getElem (by omega)]
    rfl
  refine ⟨fun i => st.reverse.getD i 0, st.length, hl, by rw [List.length_reverse], fun i _ => rfl, ?_, ?_, ?_, ?_, ?_⟩
  · intro x hx
    obtain ⟨i, hi, e⟩ := List.mem_iff_getElem.1 hx
    refine ⟨i, by rw [List.length_reverse] at hi; exact hi, ?_⟩
    show st.reverse.getD i 0 = x
    rw [List.getD_eq_getElem?_getD, List.getElem?_eq_getElem hi, e]
    rfl
  · intro i hi
    show st.reverse.getD i 0 < n
    rw [key i hi]
    exact dn.1 _ (List.getElem_mem _)
  · intro i h0 hi
    show st.reverse.getD (i - 1) 0 < st.reverse.getD i 0
    rw [key i hi, key (i - 1) (by omega)]
    exact List.pairwise_iff_getElem.1 dn.2 _ _ (by omega) (by omega) (by omega)
  · show st.reverse.getD 0 0 = 0
    rw [List.getD_eq_getElem?_getD, ← List.head?_eq_getElem?, List.head?_reverse]
    match st, g, hne with
    | x :: l, g, _ => rw [good_last l x g]; rfl
  · show st.reverse.getD (st.length - 1) 0 = n - 1
    rw [List.getD_eq_getElem?_getD, List.getElem?_reverse (by omega), Nat.sub_self]
    clear key hl
    match st, top, hne with
    | x :: l, top, _ =>
      have := top x rfl
      show x = n - 1
      omega
theorem lowS_rise {X L H : Nat → Int} {n : Nat} (ok : GOk X L H n) : ∃ P m, Rise P m n (lowS X L H n) ∧ ∀ x, x ∈ hullS (lowC X H) n → ∃ i, i < m ∧ P i = x := by
  obtain ⟨P, m, r⟩ := low_rise (H := H) ok.inc (by have := ok.n1; omega)
  have e : lowS X L H n = (hullS (lowC X H) n).reverse := by unfold lowS; rw [if_pos (ok_chk ok)]
  exact ⟨P, m, by rw [e]; exact r, fun x hx => r.mem x (List.mem_reverse.2 hx)⟩
theorem uppS_rise {X L H : Nat → Int} {n : Nat} (ok : GOk X L H n) : ∃ P m, Rise P m n (uppS X L H n) ∧ ∀ x, x ∈ hullS (uppC X L) n → ∃ i, i < m ∧ P i = x := by
  obtain ⟨P, m, r⟩ := low_rise (H := fun i => -L i) ok.inc (by have := ok.n1; omega)
  have e : uppS X L H n = (hullS (lowC X fun i => -L i) n).reverse := by unfold uppS; rw [if_pos (ok_chk ok), upp_low]
  refine ⟨P, m, by rw [e]; exact r, fun x hx => r.mem x (List.mem_reverse.2 ?_)⟩
  rw [upp_low] at hx
  exact hx
/-- a row of ints as cells -/
theorem row_ints {w : World} {base m : Nat} {v : Value} {l : List Nat} {P : Nat → Nat} {n : Nat} (h : w.ownsRow base 3 1 v l.length (ints l)) (r : Rise P m n l) :
    ∃ g c, v = .slice (some ⟨g, 0, none⟩) m c ∧ g < w.heap.size ∧ ∀ i, i < m → w.cell? ⟨g, i, none⟩ = some (.int .i64 (P i : Int)) := by
  have h0 := r.pos
  have hl := r.len
  rw [← hl] at h
  rcases h.2 with ⟨_, h⟩ | ⟨g, cap, cur, hv, hb, hg, hn, hm, hs, ht⟩
  · omega
  · refine ⟨g, cap, hv, (Array.getElem?_eq_some_iff.1 hg).1, fun i hi => ?_⟩
    refine (cell_of_row w g i _ _ _ hg).trans ?_
    rw [← Array.getElem?_toList, ← List.getElem?_take_of_lt (show i < m * 1 by omega), ht]
    unfold ints
    rw [List.getElem?_map, List.getElem?_eq_getElem (by omega), r.at_ i hi, List.getD_eq_getElem?_getD, List.getElem?_eq_getElem (by omega)]
    rfl
theorem corners_same {X L H : Nat → Int} {n m q : Nat} {P Q : Nat → Nat} (ok : GOk X L H n) (hp : ∀ x, x ∈ hullS (lowC X H) n → ∃ i, i < m ∧ P i = x) (hq : ∀ x, x ∈ hullS (uppC X L) n → ∃ i, i < q ∧ Q i = x) :
    slE X (only Q (-1073741824) L q) (only P 1073741824 H m) n = slE X L H n ∧ slA X (only Q (-1073741824) L q) (only P 1073741824 H m) n = slA X L H n ∧ slB X (only Q (-1073741824) L q) (only P 1073741824 H m) n = slB X L H n := by
  have b1 : ∀ i, i < n → only Q (-1073741824) L q i ≤ L i ∧ -1073741824 ≤ only Q (-1073741824) L q i := fun i hi => by
    obtain ⟨a1, a2, a3, a4, a5, a6⟩ := ok.r i hi
    rcases only_or Q (-1073741824) L q i with e | e <;> rw [e] <;> omega
  have b2 : ∀ i, i < n → H i ≤ only P 1073741824 H m i ∧ only P 1073741824 H m i ≤ 1073741824 := fun i hi => by
    obtain ⟨a1, a2, a3, a4, a5, a6⟩ := ok.r i hi
    rcases only_or P 1073741824 H m i with e | e <;> rw [e] <;> omega
  refine part_same ⟨fun i hi => (b1 i hi).1, fun i hi => (b2 i hi).1, fun i _ h => ?_, fun i _ h => ?_⟩ ok ⟨ok.n1, ok.n2, fun i hi => ?_, fun i hi => ?_, ok.inc⟩
  · obtain ⟨k, hk, rfl⟩ := hp i h
    exact only_at P _ H m k hk
  · obtain ⟨k, hk, rfl⟩ := hq i h
    exact only_at Q _ L q k hk
  · obtain ⟨a1, a2, a3, a4, a5, a6⟩ := ok.r i hi
    have c1 := b1 i hi
    have c2 := b2 i hi
    exact ⟨a1, a2, c1.2, by omega, by omega, c2.2⟩
  · have c1 := b1 i hi
    have c2 := b2 i hi
    have := ok.lh i hi
    omega
end Go.Proofs.Ytjjhdigbgmbmnaa.Skw
