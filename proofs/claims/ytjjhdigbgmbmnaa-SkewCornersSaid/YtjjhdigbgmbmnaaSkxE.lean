/- Plain, and the state of the walk, of the law SkewTight. -/
import Derived.Test.YtjjhdigbgmbmnaaSkxC
import Derived.Test.YtjjhdigbgmbmnaaSkxD
namespace Go.Proofs.Ytjjhdigbgmbmnaa.Skw
open Go.RowKit Aid Fx
structure Fo (w : World) (A P : Nat) (a1 a2 b1 b2 p q r s : Int) (W : World) : Prop where
  bel : Below w.heap.size w W
  ra : RatAt W A a1 a2
  rb : RatAt W (A + 1) b1 b2
  tp : RatAt W P p q
  tq : RatAt W (P + 1) r s
  na : w.heap.size ≤ A
  ap : A + 2 ≤ P
theorem Fo.step {w : World} {A P : Nat} {a1 a2 b1 b2 p q r s : Int} {W W' : World} (h : Fo w A P a1 a2 b1 b2 p q r s W) (k : Below W.heap.size W W') : Fo w A P a1 a2 b1 b2 p q r s W' :=
  ⟨rat_trans h.bel k, h.ra.step k, h.rb.step k, h.tp.step k, h.tq.step k, h.na, h.ap⟩
theorem Fo.setP {w : World} {A P : Nat} {a1 a2 b1 b2 p q r s : Int} {W : World} (h : Fo w A P a1 a2 b1 b2 p q r s W) (p' q' : Int) : Fo w A P a1 a2 b1 b2 p' q' r s ((W.setCell ⟨P, 0, none⟩ (.int .i64 p')).setCell ⟨P, 1, none⟩ (.int .i64 q')) := by
  have := h.na
  have := h.ap
  exact ⟨(h.bel.setCell (p := ⟨P, 0, none⟩) (by dsimp only; omega) _).setCell (p := ⟨P, 1, none⟩) (by dsimp only; omega) _, h.ra.other (by omega) _ _, h.rb.other (by omega) _ _, h.tp.put _ _, h.tq.other (by omega) _ _, h.na, h.ap⟩
theorem Fo.setQ {w : World} {A P : Nat} {a1 a2 b1 b2 p q r s : Int} {W : World} (h : Fo w A P a1 a2 b1 b2 p q r s W) (r' s' : Int) : Fo w A P a1 a2 b1 b2 p q r' s' ((W.setCell ⟨P + 1, 0, none⟩ (.int .i64 r')).setCell ⟨P + 1, 1, none⟩ (.int .i64 s')) := by
  have := h.na
  have := h.ap
  exact ⟨(h.bel.setCell (p := ⟨P + 1, 0, none⟩) (by dsimp only; omega) _).setCell (p := ⟨P + 1, 1, none⟩) (by dsimp only; omega) _, h.ra.other (by omega) _ _, h.rb.other (by omega) _ _, h.tp.other (by omega) _ _, h.tq.put _ _, h.na, h.ap⟩
/-- whether a bound was met -/
def Hit (f : Nat → Nat → Rat) (n : Nat) (U : Rat) (seen : Nat → Nat → Prop) (b : Bool) : Prop := b = true ↔ ∃ i j, i < j ∧ j < n ∧ seen i j ∧ f i j = U
theorem Hit.none {f : Nat → Nat → Rat} {n : Nat} {U : Rat} {S : Nat → Nat → Prop} (h : ∀ i j, ¬ S i j) : Hit f n U S false :=
  ⟨fun h => (by cases h), fun ⟨i, j, _, _, h3, _⟩ => absurd h3 (h i j)⟩
theorem Hit.sub {f : Nat → Nat → Rat} {n : Nat} {U : Rat} {S T : Nat → Nat → Prop} {b : Bool} (h : Hit f n U S b) (hs : ∀ i j, i < j → j < n → (S i j ↔ T i j)) : Hit f n U T b :=
  ⟨fun e => by obtain ⟨i, j, h1, h2, h3, h4⟩ := h.1 e; exact ⟨i, j, h1, h2, (hs i j h1 h2).1 h3, h4⟩, fun ⟨i, j, h1, h2, h3, h4⟩ => h.2 ⟨i, j, h1, h2, (hs i j h1 h2).2 h3, h4⟩⟩
theorem Hit.more {f : Nat → Nat → Rat} {n : Nat} {U : Rat} {S T : Nat → Nat → Prop} {b : Bool} {i j : Nat} (h : Hit f n U S b) (hij : i < j) (hj : j < n) (hs : ∀ x y, T x y ↔ S x y ∨ (x = i ∧ y = j)) : Hit f n U T (b || decide (f i j = U)) := by
  constructor
  · intro e
    rcases Bool.or_eq_true_iff.1 e with e | e
    · obtain ⟨x, y, h1, h2, h3, h4⟩ := h.1 e
      exact ⟨x, y, h1, h2, (hs x y).2 (.inl h3), h4⟩
    · exact ⟨i, j, hij, hj, (hs i j).2 (.inr ⟨rfl, rfl⟩), of_decide_eq_true e⟩
  · rintro ⟨x, y, h1, h2, h3, h4⟩
    rcases (hs x y).1 h3 with k | ⟨rfl, rfl⟩
    · rw [h.2 ⟨x, y, h1, h2, k, h4⟩]; rfl
    · rw [decide_eq_true h4, Bool.or_true]
/-- a fraction not in lowest terms that less can compare -/
def FitI (p q : Int) : Prop := (1 ≤ q ∧ q ≤ 1073741824) ∧ (-4611686018427387904 ≤ p ∧ p ≤ 4611686018427387904)
theorem sl_num {X L H : Nat → Int} {n : Nat} (ok : GOk X L H n) (h2 : 2 ≤ n) : (Fit (topR (sl1 X L H) n) ∧ -2147483648 ≤ (topR (sl1 X L H) n).num ∧ (topR (sl1 X L H) n).num ≤ 2147483648) ∧ (Fit (botR (sl2 X L H) n) ∧ -2147483648 ≤ (botR (sl2 X L H) n).num ∧ (botR (sl2 X L H) n).num ≤ 2147483648) := by
  obtain ⟨⟨i, j, hij, hj, e⟩, _⟩ := top_is (f := sl1 X L H) h2
  obtain ⟨⟨i', j', hij', hj', e'⟩, _⟩ := bot_is (f := sl2 X L H) h2
  have h1 := ok.inc i j hij hj
  have h1' := ok.inc i' j' hij' hj'
  obtain ⟨x1, x2, x3, x4, x5, x6⟩ := ok.r i (by omega)
  obtain ⟨y1, y2, y3, y4, y5, y6⟩ := ok.r j hj
  obtain ⟨z1, z2, z3, z4, z5, z6⟩ := ok.r i' (by omega)
  obtain ⟨u1, u2, u3, u4, u5, u6⟩ := ok.r j' hj'
  rw [← e, ← e']
  have b1 := low_bd (n := L j - H i) (d := X j - X i) (by omega)
  have b2 := low_bd (n := H j' - L i') (d := X j' - X i') (by omega)
  unfold sl1 sl2
  exact ⟨⟨fit_of (by omega) (by omega), by omega, by omega⟩, ⟨fit_of (by omega) (by omega), by omega, by omega⟩⟩
end Go.Proofs.Ytjjhdigbgmbmnaa.Skw
