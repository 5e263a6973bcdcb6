/- How the laws' arguments are opened (layer 27); the walks of ReachChecks, ReachShifts, ReachAdapts. -/
import Derived.Test.YtblegmmljegmaaaRchI
import Derived.Test.YtblegmmljegmaaaOpen
import Derived.Deep.RegionHeld3
namespace Go.Proofs.Ytblegmmljegmaaa.Rch
open Go.RowKit Aid Opn Go.ChangeShapes Go.WideShapes
theorem open_reg {H : Type} {enc : TypeId × Value → H} {w : World} {base : Nat} {spare : Nat → Bool} {held : Bool} {r : Reach} {b0 : Nat} {v : Value} {d : DataW H} {p : List MemPlace}
    (hv : Value.okWide Try.prog w r b0 23 v) (h : DataW.Trod enc Try.prog w base spare held 23 v d p) :
    ∃ (hi lo hold clr sil : Int), v = .agg #[.int .i64 hi, .int .i64 lo, .int .i64 hold, .int .i64 clr, .int .i64 sil] := by
  obtain ⟨l, e, hl, hc⟩ := agg_cells Try.underlying23 (by kernel_rfl) (by kernel_rfl) (by
    intro j f hj
    match j, hj with
    | 0, hj | 1, hj | 2, hj | 3, hj | 4, hj => cases hj; exact Try.underlying3) hv h
  match l, hl with
  | [x0, x1, x2, x3, x4], _ =>
    obtain ⟨n0, e0, _⟩ := hc 0 (by decide)
    obtain ⟨n1, e1, _⟩ := hc 1 (by decide)
    obtain ⟨n2, e2, _⟩ := hc 2 (by decide)
    obtain ⟨n3, e3, _⟩ := hc 3 (by decide)
    obtain ⟨n4, e4, _⟩ := hc 4 (by decide)
    simp at e0 e1 e2 e3 e4
    subst e0 e1 e2 e3 e4
    exact ⟨n0, n1, n2, n3, n4, e⟩
theorem box_below {w : World} {o : Obj} {W : World} (h : Below (w.heap.size + 1) (w.alloc o) W) : Below w.heap.size w W := ((Below.refl _ _).alloc (Nat.le_refl _) _).trans (h.mono (by omega))
theorem conf_cells {w : World} {x0 x1 x2 x3 x4 : Value} {T : TypeId} {W : World} (h : Below (w.heap.size + 1) (w.alloc (.cells #[x0, x1, x2, x3, x4] T)) W) :
    W.cell? ⟨w.heap.size, 0, none⟩ = some x0 ∧ W.cell? ⟨w.heap.size, 1, none⟩ = some x1 ∧ W.cell? ⟨w.heap.size, 2, none⟩ = some x2 ∧ W.cell? ⟨w.heap.size, 3, none⟩ = some x3 ∧ W.cell? ⟨w.heap.size, 4, none⟩ = some x4 ∧ Below (w.heap.size + 1) (w.alloc (.cells #[x0, x1, x2, x3, x4] T)) W :=
  ⟨(h.cell (p := ⟨w.heap.size, 0, none⟩) (by simp)).trans (by simp [go_sem]), (h.cell (p := ⟨w.heap.size, 1, none⟩) (by simp)).trans (by simp [go_sem]), (h.cell (p := ⟨w.heap.size, 2, none⟩) (by simp)).trans (by simp [go_sem]),
   (h.cell (p := ⟨w.heap.size, 3, none⟩) (by simp)).trans (by simp [go_sem]), (h.cell (p := ⟨w.heap.size, 4, none⟩) (by simp)).trans (by simp [go_sem]), h⟩
end Go.Proofs.Ytblegmmljegmaaa.Rch
