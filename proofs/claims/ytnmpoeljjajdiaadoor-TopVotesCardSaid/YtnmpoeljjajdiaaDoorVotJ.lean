
/- The contracts of layer 54: Extend of the reference where it succeeds. -/
import Derived.Test.YtnmpoeljjajdiaaDoorVotI
namespace Go.Proofs.YtnmpoeljjajdiaaDoor.Vot
open Go.RowKit Aid Civ Leap App
def BoxAt (w : World) (b : Nat) (B M : Int) (v : Value) : Prop := w.heap[b]? = some (.cells #[.int .i64 B, .int .i64 M, v] 24 (0, 0))
theorem box_new (w : World) (B M : Int) (v : Value) : BoxAt (w.alloc (.cells #[.int .i64 B, .int .i64 M, v] 24)) w.heap.size B M v := heap_alloc_new w _
theorem BoxAt.cells {w : World} {b : Nat} {B M : Int} {v : Value} (h : BoxAt w b B M v) : w.cell? ⟨b, 0, none⟩ = some (.int .i64 B) ∧ w.cell? ⟨b, 1, none⟩ = some (.int .i64 M) ∧ w.cell? ⟨b, 2, none⟩ = some v ∧ ∀ i, w.frozen? ⟨b, i, none⟩ = false :=
  ⟨cell_of_row w b 0 _ _ _ h, cell_of_row w b 1 _ _ _ h, cell_of_row w b 2 _ _ _ h, fun i => by unfold BoxAt at h; simp [World.frozen?, h]⟩
theorem BoxAt.put {w : World} {b : Nat} {B M : Int} {v : Value} (h : BoxAt w b B M v) (u : Value) : BoxAt (w.setCell ⟨b, 2, none⟩ u) b B M u := by
  unfold BoxAt at *
  simp [World.setCell, Array.getElem?_modify, h]
theorem BoxAt.below {w w' : World} {b K : Nat} {B M : Int} {v : Value} (h : BoxAt w b B M v) (hb : Below K w w') (hg : b < K) : BoxAt w' b B M v := (hb.block b hg).trans h
end Go.Proofs.YtnmpoeljjajdiaaDoor.Vot
