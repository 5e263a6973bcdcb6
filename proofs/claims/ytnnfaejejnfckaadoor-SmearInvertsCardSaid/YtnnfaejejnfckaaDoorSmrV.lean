/- Plain law of layer 7: where readings first reach a time; that the package and its reference find the same instant. -/
import Derived.Test.YtnnfaejejnfckaaDoorSmrJ
namespace Go.Proofs.YtnnfaejejnfckaaDoor.Smr
open Go.RowKit Aid Civ Leap
def CutAt (p : Int → Prop) (a b r : Int) : Prop := a ≤ r ∧ r ≤ b ∧ ∀ y, a ≤ y → y < b → (p y ↔ r ≤ y)
theorem cut_nat (p : Int → Prop) (hm : ∀ i j, i ≤ j → p i → p j) (a : Int) : ∀ N : Nat, ∃ r, CutAt p a (a + N) r := by
  intro N
  induction N with
  | zero => exact ⟨a, by omega, by omega, fun y h1 h2 => by omega⟩
  | succ N ih =>
    obtain ⟨r, r0, r1, hr⟩ := ih
    by_cases h : r < a + N
    · refine ⟨r, r0, by omega, fun y h1 h2 => ?_⟩
      by_cases hi : y < a + N
      · exact hr y h1 hi
      · exact ⟨fun _ => by omega, fun _ => hm r y (by omega) ((hr r r0 h).2 (Int.le_refl _))⟩
    · have e : r = a + N := by omega
      by_cases hp : p (a + N)
      · refine ⟨r, r0, by omega, fun y h1 h2 => ?_⟩
        by_cases hi : y < a + N
        · exact hr y h1 hi
        · have : y = a + N := by omega
          subst this
          exact ⟨fun _ => by omega, fun _ => hp⟩
      · refine ⟨a + ((N + 1 : Nat) : Int), by omega, by omega, fun y h1 h2 => ?_⟩
        by_cases hi : y < a + N
        · have := hr y h1 hi
          exact ⟨fun k => by have := this.1 k; omega, fun k => by omega⟩
        · have : y = a + N := by omega
          subst this
          exact ⟨fun k => absurd k hp, fun k => by omega⟩
theorem cut_ex (p : Int → Prop) (hm : ∀ i j, i ≤ j → p i → p j) {a b : Int} (h : a ≤ b) : ∃ r, CutAt p a b r := by
  obtain ⟨r, hr⟩ := cut_nat p hm a (b - a).toNat
  rw [show a + (((b - a).toNat : Nat) : Int) = b by omega] at hr
  exact ⟨r, hr⟩
def loW (u : Int) : Int := mxI (-8000000000000000000) (u - 1000000000000)
def hiW (u : Int) : Int := mnI 8000000000000000000 (u + 1000000000000)
def loR (u : Int) : Int := mxI (-8000000000000000000) (u - 2000000000000)
def hiR (u : Int) : Int := mnI 8000000000000000000 (u + 2000000000000)
theorem agree {f : Int → Int} (near : ∀ t, -1000000000000 ≤ t - f t ∧ t - f t ≤ 1000000000000) {u r x : Int} (hu : -8000000000000000000 ≤ u ∧ u ≤ 8000000000000000000) (h : CutAt (fun t => u ≤ f t) (loW u) (hiW u + 1) r) (k : CutAt (fun t => u ≤ f t) (loR u) (hiR u) x) :
    (r ≤ hiW u ↔ u ≤ f x) ∧ (r ≤ hiW u → r = x) := by
  obtain ⟨h1, h2, h3⟩ := h
  obtain ⟨k1, k2, k3⟩ := k
  have b1 : loW u = -8000000000000000000 ∨ loW u = u - 1000000000000 := by unfold loW mxI; split <;> simp
  have b1' : -8000000000000000000 ≤ loW u ∧ u - 1000000000000 ≤ loW u ∧ (loW u ≤ u) := by unfold loW mxI; split <;> omega
  have b2 : hiW u ≤ 8000000000000000000 ∧ hiW u ≤ u + 1000000000000 ∧ u ≤ hiW u := by unfold hiW mnI; split <;> omega
  have b2' : hiW u = 8000000000000000000 ∨ hiW u = u + 1000000000000 := by unfold hiW mnI; split <;> simp
  have c1 : -8000000000000000000 ≤ loR u ∧ loR u ≤ loW u := by unfold loR loW mxI; split <;> split <;> omega
  have c2 : hiR u ≤ 8000000000000000000 ∧ hiW u ≤ hiR u ∧ (hiR u = 8000000000000000000 ∨ u + 1000000000000 < hiR u) := by unfold hiR hiW mnI; split <;> split <;> omega
  have main : u ≤ f x → r ≤ hiW u ∧ r = x := by
    intro hx
    have n1 := near x
    have x1 : loW u ≤ x := by omega
    have x2 : x ≤ hiW u := by
      rcases b2' with e | e
      · omega
      · rcases Int.lt_or_le (u + 1000000000000) x with g | g
        · have n2 := near (u + 1000000000000)
          have := (k3 (u + 1000000000000) (by omega) (by omega)).1 (by omega)
          omega
        · omega
    have r1 := (h3 x x1 (by omega)).1 hx
    refine ⟨by omega, ?_⟩
    rcases Int.lt_or_le r x with g | g
    · have p1 := (h3 r h1 (by omega)).2 (Int.le_refl _)
      have := (k3 r (by omega) (by omega)).1 p1
      omega
    · omega
  have conv : r ≤ hiW u → u ≤ f x := by
    intro hr
    have p1 := (h3 r h1 (by omega)).2 (Int.le_refl _)
    rcases Int.lt_or_le r (hiR u) with g | g
    · have q := (k3 r (by omega) g).1 p1
      rcases Int.lt_or_le x (hiR u) with g2 | g2
      · exact (k3 x k1 g2).2 (Int.le_refl _)
      · omega
    · have e : r = hiR u := by omega
      have e2 : x = hiR u := by
        rcases Int.lt_or_le x (hiR u) with g2 | g2
        · have q1 := (k3 x k1 g2).2 (Int.le_refl _)
          have := main q1
          omega
        · omega
      rw [e2, ← e]; exact p1
  exact ⟨⟨conv, fun hx => (main hx).1⟩, fun hr => (main (conv hr)).2⟩
def winR (f : Int → Int) (u r : Int) : Int × Bool := (r, decide (r ≤ hiW u) && instB (f r))
def winS (f : Int → Int) (u x : Int) : Int × Bool := (x, decide (u ≤ f x) && instB (f x))
theorem win_same {f : Int → Int} (near : ∀ t, -1000000000000 ≤ t - f t ∧ t - f t ≤ 1000000000000) {c u r x : Int} (hu : instB u = true) (h : CutAt (fun t => u ≤ f t) (loW u) (hiW u + 1) r) (k : CutAt (fun t => u ≤ f t) (loR u) (hiR u) x) :
    taiV c u (winR f u r) = taiV c u (winS f u x) ∧ taiE c u (winR f u r) = taiE c u (winS f u x) := by
  obtain ⟨a1, a2⟩ := agree near (instB_iff.1 hu) h k
  by_cases g : r ≤ hiW u
  · have e := a2 g
    subst e
    have : winR f u r = winS f u r := by unfold winR winS; rw [decide_eq_true g, decide_eq_true (a1.1 g)]
    rw [this]
    exact ⟨rfl, rfl⟩
  · have e1 : (winR f u r).2 = false := by unfold winR; rw [decide_eq_false g]; rfl
    have e2 : (winS f u x).2 = false := by unfold winS; rw [decide_eq_false (fun q => g (a1.2 q))]; rfl
    unfold taiV taiE
    rw [e1, e2]
    simp
end Go.Proofs.YtnnfaejejnfckaaDoor.Smr
