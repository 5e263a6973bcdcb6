/- Plain: the gates of the corners of both hulls alone have the same bounds of slopes. -/
import Derived.Test.YtjjhdigbgmbmnaaSkxQ
import Derived.Test.YtjjhdigbgmbmnaaSkwM
namespace Go.Proofs.Ytjjhdigbgmbmnaa.Skw
open Go.RowKit Aid Fx
/-- the gates with their tops only at P, their bottoms only at Q -/
structure Part (X L H L' H' : Nat → Int) (n : Nat) : Prop where
  low : ∀ i, i < n → L' i ≤ L i
  high : ∀ i, i < n → H i ≤ H' i
  top : ∀ i, i < n → i ∈ hullS (lowC X H) n → H' i = H i
  bot : ∀ i, i < n → i ∈ hullS (uppC X L) n → L' i = L i
/-- s is the slope of a line through the gates -/
def Fits (X L H : Nat → Int) (n : Nat) (s : Rat) : Prop := ∀ i j, i < j → j < n → sl1 X L H i j ≤ s ∧ s ≤ sl2 X L H i j
/-- the value at a point, less the slope -/
def lev (X Y : Nat → Int) (s : Rat) (i : Nat) : Rat := (Y i : Rat) - s * (X i : Rat)
theorem div_le {n d : Int} {s : Rat} (h : 0 < d) : Rat.divInt n d ≤ s ↔ (n : Rat) ≤ s * (d : Rat) := by
  have e := div_mul (n := n) h
  have hd : (0 : Rat) < (d : Rat) := by exact_mod_cast h
  rw [← e, ← Rat.not_lt, ← Rat.not_lt, Rat.mul_comm s, Rat.mul_comm (Rat.divInt n d), Rat.mul_lt_mul_left hd]
theorem le_div {n d : Int} {s : Rat} (h : 0 < d) : s ≤ Rat.divInt n d ↔ s * (d : Rat) ≤ (n : Rat) := by
  have e := div_mul (n := n) h
  have hd : (0 : Rat) < (d : Rat) := by exact_mod_cast h
  rw [← e, ← Rat.not_lt, ← Rat.not_lt, Rat.mul_comm s, Rat.mul_comm (Rat.divInt n d), Rat.mul_lt_mul_left hd]
theorem fit_one {X L H : Nat → Int} {s : Rat} {i j : Nat} (h : X i < X j) : (sl1 X L H i j ≤ s ↔ lev X L s j ≤ lev X H s i) ∧ (s ≤ sl2 X L H i j ↔ lev X L s i ≤ lev X H s j) := by
  unfold sl1 sl2 lev
  rw [div_le (by omega), le_div (by omega)]
  push_cast
  constructor <;> constructor <;> intro h <;> grind
theorem fits_iff {X L H : Nat → Int} {n : Nat} {s : Rat} (ok : GOk X L H n) : Fits X L H n s ↔ ∀ i j, i < n → j < n → lev X L s j ≤ lev X H s i := by
  constructor
  · intro h i j hi hj
    rcases Nat.lt_trichotomy i j with k | k | k
    · exact (fit_one (ok.inc i j k hj)).1.1 (h i j k hj).1
    · subst k
      unfold lev
      have := ok.lh i hi
      have q : (L i : Rat) ≤ (H i : Rat) := by exact_mod_cast this
      grind
    · exact (fit_one (ok.inc j i k hi)).2.1 (h j i k hi).2
  · intro h i j hij hj
    exact ⟨(fit_one (ok.inc i j hij hj)).1.2 (h i j (by omega) hj), (fit_one (ok.inc i j hij hj)).2.2 (h j i hj (by omega))⟩
theorem good_out2 {X H : Nat → Int} {n : Nat} : ∀ (l : List Nat) (h x : Nat), Good X H n (h :: l) → x < h → x ∉ l → ∃ p s, p ∈ h :: l ∧ s ∈ h :: l ∧ Edge X H n p s ∧ p < x ∧ x < s
  | [], h, x, g, hx, _ => by
    have : h = 0 := g
    omega
  | p :: t, h, x, g, hx, hm => by
    rcases Nat.lt_trichotomy x p with k | k | k
    · obtain ⟨a, b, h1, h2, h3⟩ := good_out2 t p x g.2.1 k fun q => hm (List.mem_cons_of_mem _ q)
      exact ⟨a, b, List.mem_cons_of_mem _ h1, List.mem_cons_of_mem _ h2, h3⟩
    · subst k; exact absurd (List.mem_cons_self ..) hm
    · exact ⟨p, h, List.mem_cons_of_mem _ (List.mem_cons_self ..), List.mem_cons_self .., g.1, k, hx⟩
theorem off_hull {X H : Nat → Int} {n : Nat} (inc : Inc X n) (s : Rat) {x : Nat} (hx : x < n) : ∃ p, p < n ∧ p ∈ hullS (lowC X H) n ∧ lev X H s p ≤ lev X H s x := by
  rcases Classical.em (x ∈ hullS (lowC X H) n) with hm | hm
  · exact ⟨x, hx, hm, Rat.le_refl⟩
  obtain ⟨g, top, ne⟩ := hull_good (H := H) inc n (Nat.le_refl _)
  have dn := hull_down (lowC X H) n
  have hne := ne (by omega)
  generalize hst : hullS (lowC X H) n = st at *
  match st, g, top, hne with
  | [], _, _, hne => exact absurd rfl hne
  | h :: l, g, top, _ =>
    have := top h rfl
    have h1 : x ≠ h := fun e => hm (e ▸ List.mem_cons_self ..)
    obtain ⟨p, q, m1, m2, e, hp, hq⟩ := good_out2 l h x g (by omega) fun z => hm (List.mem_cons_of_mem _ z)
    have a1 := inc p x hp hx
    have a2 := inc x q hq e.b
    have a3 := inc p q e.lt e.b
    have key := e.mid x hp hq
    unfold S at key
    rw [le_iff (by omega) (by omega)] at key
    by_cases c1 : lev X H s p ≤ lev X H s x
    · exact ⟨p, dn.1 p m1, m1, c1⟩
    by_cases c2 : lev X H s q ≤ lev X H s x
    · exact ⟨q, dn.1 q m2, m2, c2⟩
    exfalso
    have d1 := Rat.not_le.1 c1
    have d2 := Rat.not_le.1 c2
    unfold lev at d1 d2
    have k : ((H q : Rat) - H p) * ((X x : Rat) - X p) ≤ ((H x : Rat) - H p) * ((X q : Rat) - X p) := by exact_mod_cast key
    have b1 : (0 : Rat) < (X x : Rat) - X p := by
      have : (X p : Rat) < (X x : Rat) := by exact_mod_cast a1
      grind
    have b2 : (0 : Rat) < (X q : Rat) - X x := by
      have : (X x : Rat) < (X q : Rat) := by exact_mod_cast a2
      grind
    have z1 := Rat.mul_pos (show (0 : Rat) < ((H p : Rat) - s * X p) - ((H x : Rat) - s * X x) by grind) b2
    have z2 := Rat.mul_pos (show (0 : Rat) < ((H q : Rat) - s * X q) - ((H x : Rat) - s * X x) by grind) b1
    grind
theorem off_upper {X L : Nat → Int} {n : Nat} (inc : Inc X n) (s : Rat) {x : Nat} (hx : x < n) : ∃ p, p < n ∧ p ∈ hullS (uppC X L) n ∧ lev X L s x ≤ lev X L s p := by
  obtain ⟨p, h1, h2, h3⟩ := off_hull (H := fun i => -L i) inc (-s) hx
  refine ⟨p, h1, by rw [upp_low]; exact h2, ?_⟩
  unfold lev at h3 ⊢
  push_cast at h3
  grind
theorem part_fits {X L H L' H' : Nat → Int} {n : Nat} {s : Rat} (k : Part X L H L' H' n) (ok : GOk X L H n) (ok' : GOk X L' H' n) : Fits X L H n s ↔ Fits X L' H' n s := by
  rw [fits_iff ok, fits_iff ok']
  constructor
  · intro h i j hi hj
    have a := h i j hi hj
    have b1 : (L' j : Rat) ≤ (L j : Rat) := by exact_mod_cast k.low j hj
    have b2 : (H i : Rat) ≤ (H' i : Rat) := by exact_mod_cast k.high i hi
    unfold lev at a ⊢
    grind
  · intro h i j hi hj
    obtain ⟨p, p1, p2, p3⟩ := off_hull (H := H) ok.inc s hi
    obtain ⟨q, q1, q2, q3⟩ := off_upper (L := L) ok.inc s hj
    have a := h p q p1 q1
    unfold lev at a p3 q3 ⊢
    rw [k.top p p1 p2, k.bot q q1 q2] at a
    grind
theorem fits_bd {X L H : Nat → Int} {n : Nat} {s : Rat} (h2 : 2 ≤ n) : Fits X L H n s ↔ topR (sl1 X L H) n ≤ s ∧ s ≤ botR (sl2 X L H) n := by
  have t := top_is (f := sl1 X L H) h2
  have b := bot_is (f := sl2 X L H) h2
  constructor
  · intro h
    obtain ⟨⟨i, j, h1, h2, e⟩, _⟩ := t
    obtain ⟨⟨i', j', h1', h2', e'⟩, _⟩ := b
    rw [← e, ← e']
    exact ⟨(h i j h1 h2).1, (h i' j' h1' h2').2⟩
  · rintro ⟨h1, h2⟩ i j hij hj
    exact ⟨Rat.le_trans (t.2 i j hij hj) h1, Rat.le_trans h2 (b.2 i j hij hj)⟩
theorem part_same {X L H L' H' : Nat → Int} {n : Nat} (k : Part X L H L' H' n) (ok : GOk X L H n) (ok' : GOk X L' H' n) : slE X L' H' n = slE X L H n ∧ slA X L' H' n = slA X L H n ∧ slB X L' H' n = slB X L H n := by
  have c1 := ok_chk ok
  have c2 := ok_chk ok'
  by_cases h1 : n = 1
  · have e1 : slE X L H n = 11 := by unfold slE; rw [if_neg (by rw [c1]; decide), if_pos (.inl h1)]
    have e2 : slE X L' H' n = 11 := by unfold slE; rw [if_neg (by rw [c2]; decide), if_pos (.inl h1)]
    exact ⟨by rw [e1, e2], by rw [(sl_bad e1 (by decide)).1, (sl_bad e2 (by decide)).1], by rw [(sl_bad e1 (by decide)).2, (sl_bad e2 (by decide)).2]⟩
  have h2 : 2 ≤ n := by have := ok.n1; omega
  have F : ∀ s, (topR (sl1 X L H) n ≤ s ∧ s ≤ botR (sl2 X L H) n) ↔ (topR (sl1 X L' H') n ≤ s ∧ s ≤ botR (sl2 X L' H') n) := fun s => by
    rw [← fits_bd h2, ← fits_bd h2]
    exact part_fits k ok ok'
  by_cases hle : topR (sl1 X L H) n ≤ botR (sl2 X L H) n
  · have a1 := (F _).1 ⟨Rat.le_refl, hle⟩
    have a2 := (F _).1 ⟨hle, Rat.le_refl⟩
    have hle' : topR (sl1 X L' H') n ≤ botR (sl2 X L' H') n := Rat.le_trans a1.1 a1.2
    have b1 := (F _).2 ⟨Rat.le_refl, hle'⟩
    have b2 := (F _).2 ⟨hle', Rat.le_refl⟩
    have e1 : topR (sl1 X L' H') n = topR (sl1 X L H) n := Rat.le_antisymm a1.1 b1.1
    have e2 : botR (sl2 X L' H') n = botR (sl2 X L H) n := Rat.le_antisymm b2.2 a2.2
    have e3 : slE X L' H' n = slE X L H n := by unfold slE; rw [c1, c2, e1, e2]
    refine ⟨e3, ?_, ?_⟩
    · unfold slA; rw [e3, e1]
    · unfold slB; rw [e3, e2]
  · have hle' : ¬ topR (sl1 X L' H') n ≤ botR (sl2 X L' H') n := fun h => by
      have b1 := (F _).2 ⟨Rat.le_refl, h⟩
      exact hle (Rat.le_trans b1.1 b1.2)
    have e1 : slE X L H n = 11 := by unfold slE; rw [if_neg (by rw [c1]; decide), if_pos (.inr hle)]
    have e2 : slE X L' H' n = 11 := by unfold slE; rw [if_neg (by rw [c2]; decide), if_pos (.inr hle')]
    exact ⟨by rw [e1, e2], by rw [(sl_bad e1 (by decide)).1, (sl_bad e2 (by decide)).1], by rw [(sl_bad e1 (by decide)).2, (sl_bad e2 (by decide)).2]⟩
end Go.Proofs.Ytjjhdigbgmbmnaa.Skw
