/- Plain: bounds as they are met, from a first value on; the reference's contract speaks of them. -/
import Derived.Test.YtjjhdigbgmbmnaaSkwL
namespace Go.Proofs.Ytjjhdigbgmbmnaa.Skw
open Go.RowKit Aid Fx
/-- a fraction that less can compare -/
def Fit (U : Rat) : Prop := (1 ≤ (U.den : Int) ∧ (U.den : Int) ≤ 1073741824) ∧ (-4611686018427387904 ≤ U.num ∧ U.num ≤ 4611686018427387904)
structure RTop (f : Nat → Nat → Rat) (n : Nat) (init : Rat) (seen : Nat → Nat → Prop) (U : Rat) : Prop where
  i : U = init ∨ ∃ i j, i < j ∧ j < n ∧ f i j = U
  h : ∀ i j, i < j → j < n → seen i j → f i j ≤ U
  fit : Fit U
structure RBot (f : Nat → Nat → Rat) (n : Nat) (init : Rat) (seen : Nat → Nat → Prop) (U : Rat) : Prop where
  i : U = init ∨ ∃ i j, i < j ∧ j < n ∧ f i j = U
  h : ∀ i j, i < j → j < n → seen i j → U ≤ f i j
  fit : Fit U
section
variable {f : Nat → Nat → Rat} {n : Nat} {init U : Rat} {S T : Nat → Nat → Prop} {i j : Nat}
theorem RTop.sub (h : RTop f n init S U) (hs : ∀ a b, a < b → b < n → T a b → S a b) : RTop f n init T U := ⟨h.i, fun a b h1 h2 h3 => h.h a b h1 h2 (hs a b h1 h2 h3), h.fit⟩
theorem RBot.sub (h : RBot f n init S U) (hs : ∀ a b, a < b → b < n → T a b → S a b) : RBot f n init T U := ⟨h.i, fun a b h1 h2 h3 => h.h a b h1 h2 (hs a b h1 h2 h3), h.fit⟩
theorem RTop.keep (h : RTop f n init S U) (hs : ∀ a b, T a b → S a b ∨ (a = i ∧ b = j)) (hc : f i j ≤ U) : RTop f n init T U :=
  ⟨h.i, fun a b h1 h2 h3 => by
    rcases hs a b h3 with k | ⟨rfl, rfl⟩
    · exact h.h a b h1 h2 k
    · exact hc, h.fit⟩
theorem RBot.keep (h : RBot f n init S U) (hs : ∀ a b, T a b → S a b ∨ (a = i ∧ b = j)) (hc : U ≤ f i j) : RBot f n init T U :=
  ⟨h.i, fun a b h1 h2 h3 => by
    rcases hs a b h3 with k | ⟨rfl, rfl⟩
    · exact h.h a b h1 h2 k
    · exact hc, h.fit⟩
theorem RTop.turn (h : RTop f n init S U) (hij : i < j) (hj : j < n) (hs : ∀ a b, T a b → S a b ∨ (a = i ∧ b = j)) (hc : U < f i j) (hf : Fit (f i j)) : RTop f n init T (f i j) :=
  ⟨.inr ⟨i, j, hij, hj, rfl⟩, fun a b h1 h2 h3 => by
    rcases hs a b h3 with k | ⟨rfl, rfl⟩
    · exact Rat.le_trans (h.h a b h1 h2 k) (Rat.le_of_lt hc)
    · exact Rat.le_refl, hf⟩
theorem RBot.turn (h : RBot f n init S U) (hij : i < j) (hj : j < n) (hs : ∀ a b, T a b → S a b ∨ (a = i ∧ b = j)) (hc : f i j < U) (hf : Fit (f i j)) : RBot f n init T (f i j) :=
  ⟨.inr ⟨i, j, hij, hj, rfl⟩, fun a b h1 h2 h3 => by
    rcases hs a b h3 with k | ⟨rfl, rfl⟩
    · exact Rat.le_trans (Rat.le_of_lt hc) (h.h a b h1 h2 k)
    · exact Rat.le_refl, hf⟩
theorem RTop.all (h : RTop f n init S U) (h2 : 2 ≤ n) (hs : ∀ a b, a < b → b < n → S a b) (hi : ∀ a b, a < b → b < n → init < f a b) : IsTop f n U := by
  refine ⟨?_, fun a b x y => h.h a b x y (hs a b x y)⟩
  rcases h.i with rfl | h'
  · exact absurd (hi 0 1 (by omega) (by omega)) (Rat.not_lt.2 (h.h 0 1 (by omega) (by omega) (hs 0 1 (by omega) (by omega))))
  · exact h'
theorem RBot.all (h : RBot f n init S U) (h2 : 2 ≤ n) (hs : ∀ a b, a < b → b < n → S a b) (hi : ∀ a b, a < b → b < n → f a b < init) : IsBot f n U := by
  refine ⟨?_, fun a b x y => h.h a b x y (hs a b x y)⟩
  rcases h.i with rfl | h'
  · exact absurd (hi 0 1 (by omega) (by omega)) (Rat.not_lt.2 (h.h 0 1 (by omega) (by omega) (hs 0 1 (by omega) (by omega))))
  · exact h'
end
theorem fit_of {n d : Int} (h : 1 ≤ d ∧ d ≤ 1073741824) (k : -4611686018427387904 ≤ n ∧ n ≤ 4611686018427387904) : Fit (Rat.divInt n d) := by
  have := low_bd (n := n) h.1
  exact ⟨by omega, by omega⟩
theorem rless_any (U V : Rat) (w : World) (hu : Fit U) (hv : Fit V) :
    Calls Try.prog 31 #[.agg #[.int .i64 U.num, .int .i64 U.den], .agg #[.int .i64 V.num, .int .i64 V.den]] w fun e w' => e = .returned (.bool (decide (U < V))) ∧ Below w.heap.size w w' := by
  have h := less_any U.num U.den V.num V.den w hu.1 hv.1 hu.2 hv.2
  rw [Rat.num_divInt_den, Rat.num_divInt_den] at h
  exact h
theorem init_num : (Rat.divInt (-1099511627776) 1).num = -1099511627776 ∧ ((Rat.divInt (-1099511627776) 1).den : Int) = 1 := by decide +kernel
theorem init_num2 : (Rat.divInt 1099511627776 1).num = 1099511627776 ∧ ((Rat.divInt 1099511627776 1).den : Int) = 1 := by decide +kernel
end Go.Proofs.Ytjjhdigbgmbmnaa.Skw
