/- A region that draws its order, whose operations read cells that lie below a base world and whose callees write nothing below it: walked once, in the order of the text (the class: all worlds below which the base world lies unchanged). -/
import Derived.Test.YtjjhdigbgmbmnaaAid
namespace Go.Proofs.Ytjjhdigbgmbmnaa.Aid
open Go.RowKit
structure Lt (W0 : World) where
  w : World
  h : Below W0.heap.size W0 w
theorem lt_some (W0 : World) : Nonempty (Lt W0) := ⟨⟨W0, Below.refl _ _⟩⟩
theorem region_lt {P : Program} {id : Nat} {Q : Exit → Act → World → Prop} {a : Act} {w : World} {l : List Oper} (W0 : World) (hm : P.follows .mixedOrders = true) (hB : Region.lexB .any l.toArray = true) (h0 : Below W0.heap.size W0 w)
    (h : wpQuiet P l.toArray (fun w' => ∃ V : Lt W0, w' = V.w) (fun a' => ∀ w', (∃ V : Lt W0, w' = V.w) → Q .normal a' w') l a) : (Code.region id l.toArray true).wp P Q a w :=
  wp_region_quiet (C := fun w' => ∃ V : Lt W0, w' = V.w) hm hB ⟨⟨_, Below.drew h0⟩, rfl⟩ (by simpa using h)
theorem call_lt {P : Program} {f : FuncId} {args : Array Value} {W0 : World} {V : Lt W0} {v : Value} (h : Calls P f args V.w fun e w' => e = .returned v ∧ Below W0.heap.size W0 w') :
    Calls P f args V.w fun e w'' => e = .returned v ∧ ∃ V' : Lt W0, w'' = V'.w :=
  h.mono fun _ _ ⟨he, hb⟩ => ⟨he, ⟨_, hb⟩, rfl⟩
end Go.Proofs.Ytjjhdigbgmbmnaa.Aid
