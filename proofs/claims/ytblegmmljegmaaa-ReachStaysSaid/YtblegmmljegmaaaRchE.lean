/- The map of answered polls: plain facts, and the walk of answered. -/
import Derived.Test.YtblegmmljegmaaaRchB
import Derived.Maps.OwnSet
import Derived.Maps.RangeWalk
import Derived.WalkKit
namespace Go.Proofs.Ytblegmmljegmaaa.Rch
open Go.RowKit Go.Maps Aid
abbrev DU := DataW Unit
theorem law3 : Keyed Try.prog 3 := int_keyed (q := .i64) (by kernel_rfl)
theorem und45 : Try.prog.underlying 45 = some (.map 3 3) := by kernel_rfl
theorem und3 : Try.prog.underlying 3 = some (.int .i64) := by kernel_rfl
theorem zero3 (w : World) : (zeroValue 3).run Try.prog w = .ok (.int .i64 0) w := by kernel_rfl
/-- the bit of an age -/
def bitv (b : Int) (j : Nat) : Int := b / 2 ^ j % 2 * 2 ^ j
structure FillD (b : Int) (k : Nat) (D : DU) : Prop where
  tidy : Tidy D
  has : ∀ kl, Maps.has D kl = true ↔ ∃ j : Nat, j < k ∧ kl = .int .i64 j
  at_ : ∀ j : Nat, j < k → ∀ z, D.atKey (.int .i64 j) z = .lit (.int .i64 (bitv b j))
structure StripD (b : Int) (k : Nat) (D : DU) : Prop where
  tidy : Tidy D
  has : ∀ kl, Maps.has D kl = true ↔ ∃ j : Nat, j < 8 ∧ (j < k → bitv b j ≠ 0) ∧ kl = .int .i64 j
  at_ : ∀ j : Nat, j < 8 → (j < k → bitv b j ≠ 0) → ∀ z, D.atKey (.int .i64 j) z = .lit (.int .i64 (bitv b j))
theorem lit_ne {i j : Nat} (h : i ≠ j) : (Lit.int .i64 (i : Int)) ≠ Lit.int .i64 (j : Int) := fun e => by
  injection e with _ e; omega
theorem fill_step {b : Int} {k : Nat} {D : DU} (h : FillD b k D) (t : Tidy (D.put (.int .i64 (k : Int)) (.lit (.int .i64 (bitv b k))))) : FillD b (k + 1) (D.put (.int .i64 (k : Int)) (.lit (.int .i64 (bitv b k)))) := by
  refine ⟨t, fun kl => ?_, fun j hj z => ?_⟩
  · by_cases e : kl = .int .i64 (k : Int)
    · subst e
      rw [has_put_same h.tidy.isMap (k := .int .i64 (k : Int)) trivial]
      exact ⟨fun _ => ⟨k, by omega, rfl⟩, fun _ => rfl⟩
    · rw [has_put_other e, h.has]
      constructor
      · rintro ⟨j, hj, rfl⟩; exact ⟨j, by omega, rfl⟩
      · rintro ⟨j, hj, rfl⟩
        refine ⟨j, ?_, rfl⟩
        by_cases hjk : j = k
        · subst hjk; exact absurd rfl e
        · omega
  · by_cases e : j = k
    · subst e
      exact atKey_put_same h.tidy.isMap (k := .int .i64 (j : Int)) trivial _ _
    · rw [atKey_put_other (lit_ne e)]
      exact h.at_ j (by omega) z
theorem strip_start {b : Int} {D : DU} (h : FillD b 8 D) : StripD b 0 D :=
  ⟨h.tidy, fun kl => (h.has kl).trans ⟨fun ⟨j, hj, e⟩ => ⟨j, hj, fun h => by omega, e⟩, fun ⟨j, hj, _, e⟩ => ⟨j, hj, e⟩⟩, fun j hj _ z => h.at_ j hj z⟩
theorem strip_keep {b : Int} {k : Nat} {D : DU} (h : StripD b k D) (hk : bitv b k ≠ 0) : StripD b (k + 1) D := by
  have key : ∀ j : Nat, (j < k → bitv b j ≠ 0) ↔ (j < k + 1 → bitv b j ≠ 0) := fun j => ⟨fun h1 h2 => by
    by_cases e : j = k
    · subst e; exact hk
    · exact h1 (by omega), fun h1 h2 => h1 (by omega)⟩
  exact ⟨h.tidy, fun kl => (h.has kl).trans ⟨fun ⟨j, hj, hb, e⟩ => ⟨j, hj, (key j).1 hb, e⟩, fun ⟨j, hj, hb, e⟩ => ⟨j, hj, (key j).2 hb, e⟩⟩, fun j hj hb z => h.at_ j hj ((key j).2 hb) z⟩
theorem strip_drop {b : Int} {k : Nat} {D : DU} (h : StripD b k D) (hk : bitv b k = 0) (t : Tidy (D.del (.int .i64 (k : Int)))) : StripD b (k + 1) (D.del (.int .i64 (k : Int))) := by
  refine ⟨t, fun kl => ?_, fun j hj hb z => ?_⟩
  · by_cases e : kl = .int .i64 (k : Int)
    · subst e
      rw [has_del_same]
      refine ⟨fun h => by simp at h, fun ⟨j, hj, hb, e⟩ => ?_⟩
      have : j = k := by injection e with _ e; omega
      subst this
      exact absurd hk (hb (by omega))
    · rw [has_del_other e, h.has]
      constructor
      · rintro ⟨j, hj, hb, rfl⟩
        refine ⟨j, hj, fun h1 => hb ?_, rfl⟩
        by_cases e2 : j = k
        · subst e2; exact absurd rfl e
        · omega
      · rintro ⟨j, hj, hb, rfl⟩; exact ⟨j, hj, fun h1 => hb (by omega), rfl⟩
  · have e : j ≠ k := fun e => by subst e; exact hb (by omega) hk
    rw [atKey_del_other (lit_ne e)]
    exact h.at_ j hj (fun h1 => hb (by omega)) z
end Go.Proofs.Ytblegmmljegmaaa.Rch
