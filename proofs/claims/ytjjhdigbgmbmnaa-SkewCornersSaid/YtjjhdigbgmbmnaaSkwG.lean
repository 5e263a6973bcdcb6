/- Plain law of layer 52: when gates are valid; slices of gates in memory. -/
import Derived.Test.YtjjhdigbgmbmnaaSkwC
import Derived.Test.YtjjhdigbgmbmnaaOpen
namespace Go.Proofs.Ytjjhdigbgmbmnaa.Skw
open Go.RowKit Aid Opn Go.ChangeShapes Go.WideShapes
def firstE (e : Nat → Int) : Nat → Int
  | 0 => 0
  | k + 1 => if firstE e k = 0 then e k else firstE e k
theorem firstE_hit {e : Nat → Int} {k : Nat} (h : firstE e k = 0) : ∀ {n : Nat}, k < n → e k ≠ 0 → firstE e n = e k := by
  intro n hk he
  induction n with
  | zero => omega
  | succ n ih =>
    rcases Nat.lt_or_ge k n with h1 | h1
    · have := ih h1
      unfold firstE
      rw [if_neg (by rw [this]; exact he), this]
    · obtain rfl : k = n := by omega
      unfold firstE
      rw [if_pos h]
theorem step_pass {e : Nat → Int} {k : Nat} (h : firstE e k = 0) (he : e k = 0) : firstE e (k + 1) = 0 := by unfold firstE; rw [if_pos h]; exact he
theorem firstE_all {e : Nat → Int} {n : Nat} (h : firstE e n = 0) : ∀ i, i < n → e i = 0 := by
  induction n with
  | zero => intro i hi; omega
  | succ n ih =>
    intro i hi
    unfold firstE at h
    split at h
    · rename_i h2
      rcases Nat.lt_or_ge i n with h1 | h1
      · exact ih h2 i h1
      · obtain rfl : i = n := by omega
        exact h
    · rename_i h2; exact absurd h h2
theorem firstE_of {e : Nat → Int} {n : Nat} (h : ∀ i, i < n → e i = 0) : firstE e n = 0 := by
  induction n with
  | zero => rfl
  | succ n ih => exact step_pass (ih fun i hi => h i (by omega)) (h n (by omega))
def InR (x l h : Int) : Prop := 0 ≤ x ∧ x ≤ 1073741824 ∧ -1073741824 ≤ l ∧ l ≤ 1073741824 ∧ -1073741824 ≤ h ∧ h ≤ 1073741824
instance (x l h : Int) : Decidable (InR x l h) := by unfold InR; exact inferInstance
def gE (X L H : Nat → Int) (i : Nat) : Int := if InR (X i) (L i) (H i) then (if H i < L i ∨ (0 < i ∧ X i ≤ X (i - 1)) then 12 else 0) else 3
def chkG (X L H : Nat → Int) (n : Nat) : Int := if n = 0 then 14 else if 1024 < n then 6 else firstE (gE X L H) n
structure GOk (X L H : Nat → Int) (n : Nat) : Prop where
  n1 : 1 ≤ n
  n2 : n ≤ 1024
  r : ∀ i, i < n → InR (X i) (L i) (H i)
  lh : ∀ i, i < n → L i ≤ H i
  inc : ∀ i j, i < j → j < n → X i < X j
theorem chk_ok {X L H : Nat → Int} {n : Nat} (h : chkG X L H n = 0) : GOk X L H n := by
  unfold chkG at h
  split at h
  · cases h
  split at h
  · cases h
  have a := firstE_all h
  have b : ∀ i, i < n → InR (X i) (L i) (H i) ∧ L i ≤ H i ∧ (0 < i → X (i - 1) < X i) := by
    intro i hi
    have q := a i hi
    unfold gE at q
    split at q
    · split at q
      · cases q
      · rename_i h1 h2
        exact ⟨h1, by omega, fun h0 => by omega⟩
    · cases q
  refine ⟨by omega, by omega, fun i hi => (b i hi).1, fun i hi => (b i hi).2.1, fun i j hij hj => ?_⟩
  induction j with
  | zero => omega
  | succ j ih =>
    have q := (b (j + 1) hj).2.2 (by omega)
    rw [Nat.add_sub_cancel] at q
    by_cases e : i = j
    · rw [e]; exact q
    · have := ih (by omega) (by omega)
      omega
theorem ok_chk {X L H : Nat → Int} {n : Nat} (k : GOk X L H n) : chkG X L H n = 0 := by
  unfold chkG
  have := k.n1
  have := k.n2
  rw [if_neg (by omega), if_neg (by omega)]
  apply firstE_of
  intro i hi
  unfold gE
  rw [if_pos (k.r i hi), if_neg]
  rintro (h | ⟨h, h2⟩)
  · have := k.lh i hi; omega
  · have := k.inc (i - 1) i (by omega) hi; omega
def GatesAt (w : World) (a : Option Addr) (n : Nat) (X L H : Nat → Int) : Prop :=
  n ≤ 9223372036854775807 ∧ (0 < n → ∃ b off, a = some ⟨b, off, none⟩ ∧ b < w.heap.size ∧ ∀ i, i < n → w.cell? ⟨b, off + i * 3, none⟩ = some (.int .i64 (X i)) ∧ w.cell? ⟨b, off + i * 3 + 1, none⟩ = some (.int .i64 (L i)) ∧ w.cell? ⟨b, off + i * 3 + 2, none⟩ = some (.int .i64 (H i)))
theorem GatesAt.below {w w' : World} {a : Option Addr} {n : Nat} {X L H : Nat → Int} (h : GatesAt w a n X L H) (hb : Below w.heap.size w w') : GatesAt w' a n X L H :=
  ⟨h.1, fun h0 => by
    obtain ⟨b, off, e, hlt, hc⟩ := h.2 h0
    exact ⟨b, off, e, Nat.lt_of_lt_of_le hlt hb.size, fun i hi => ⟨(hb.cell (p := ⟨b, _, none⟩) hlt).trans (hc i hi).1, (hb.cell (p := ⟨b, _, none⟩) hlt).trans (hc i hi).2.1, (hb.cell (p := ⟨b, _, none⟩) hlt).trans (hc i hi).2.2⟩⟩⟩
theorem GatesAt.at_ {w : World} {a : Option Addr} {n : Nat} {X L H : Nat → Int} (h : GatesAt w a n X L H) (h0 : 0 < n) : ∃ b off, a = some ⟨b, off, none⟩ ∧ b < w.heap.size ∧ ∀ i, i < n → w.cell? ⟨b, off + i * 3, none⟩ = some (.int .i64 (X i)) ∧ w.cell? ⟨b, off + i * 3 + 1, none⟩ = some (.int .i64 (L i)) ∧ w.cell? ⟨b, off + i * 3 + 2, none⟩ = some (.int .i64 (H i)) := h.2 h0
theorem GatesAt.sub {w : World} {a : Option Addr} {n m : Nat} {X L H : Nat → Int} (h : GatesAt w a n X L H) (hm : m ≤ n) : GatesAt w a m X L H :=
  ⟨by have := h.1; omega, fun h0 => by
    obtain ⟨b, off, e, hlt, hc⟩ := h.2 (by omega)
    exact ⟨b, off, e, hlt, fun i hi => hc i (by omega)⟩⟩
theorem open_gates {T : Type} {enc : TypeId × Value → T} {w : World} {base : Nat} {spare : Nat → Bool} {held : Bool} {r : Reach} {b0 : Nat} {v : Value} {d : DataW T} {p : List MemPlace}
    (hv : Value.okWide Try.prog w r b0 22 v) (h : DataW.Trod enc Try.prog w base spare held 22 v d p) :
    ∃ (a : Option Addr) (n cap : Nat) (X L H : Nat → Int), v = .slice a n cap ∧ GatesAt w a n X L H := by
  obtain ⟨a0, n0, c0, rfl⟩ := okWide_slice Try.underlying22 hv
  obtain ⟨fuel, hf⟩ := h
  obtain ⟨a, n, cap, e, hn, hc⟩ := slice_ints Try.underlying22 Try.underlying43 (by kernel_rfl) (by kernel_rfl) (by decide) (by
    intro j f hj
    match j, hj with
    | 0, hj => cases hj; exact Try.underlying3
    | 1, hj => cases hj; exact Try.underlying3
    | 2, hj => cases hj; exact Try.underlying3) hf
  refine ⟨a, n, cap, fun i => intAt w a (i * 3), fun i => intAt w a (i * 3 + 1), fun i => intAt w a (i * 3 + 2), e, by omega, fun h0 => ?_⟩
  obtain ⟨b, off, ha, hb, hf⟩ := hc h0
  exact ⟨b, off, ha, hb, fun i hi => ⟨(hf i hi 0 (by decide)).1, (hf i hi 1 (by decide)).1, (hf i hi 2 (by decide)).1⟩⟩
end Go.Proofs.Ytjjhdigbgmbmnaa.Skw
