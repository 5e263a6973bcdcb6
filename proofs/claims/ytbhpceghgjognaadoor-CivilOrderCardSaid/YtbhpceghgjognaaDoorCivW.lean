/- Layer 5: how a civil time among the arguments is opened. -/
import Derived.Test.YtbhpceghgjognaaDoorCivP
import Derived.Test.YtbhpceghgjognaaDoorOpen
namespace Go.Proofs.YtbhpceghgjognaaDoor.Civ
open Go.RowKit Aid Opn Go.ChangeShapes Go.WideShapes
theorem open_civ {H : Type} {enc : TypeId × Value → H} {w : World} {base : Nat} {spare : Nat → Bool} {held : Bool} {r : Reach} {b0 : Nat} {v : Value} {d : DataW H} {p : List MemPlace}
    (hv : Value.okWide Tryd.prog w r b0 23 v) (h : DataW.Trod enc Tryd.prog w base spare held 23 v d p) :
    ∃ (x0 x1 x2 x3 x4 x5 x6 : Int), v = .agg #[.int .i64 x0, .int .i64 x1, .int .i64 x2, .int .i64 x3, .int .i64 x4, .int .i64 x5, .int .i64 x6] := by
  obtain ⟨l, e, hl, hc⟩ := agg_cells Tryd.underlying23 (by kernel_rfl) (by kernel_rfl) (by
    intro j f hj
    match j, hj with
    | 0, hj | 1, hj | 2, hj | 3, hj | 4, hj | 5, hj | 6, hj => cases hj; exact Tryd.underlying3) hv h
  match l, hl with
  | [x0, x1, x2, x3, x4, x5, x6], _ =>
    obtain ⟨n0, e0, _⟩ := hc 0 (by decide)
    obtain ⟨n1, e1, _⟩ := hc 1 (by decide)
    obtain ⟨n2, e2, _⟩ := hc 2 (by decide)
    obtain ⟨n3, e3, _⟩ := hc 3 (by decide)
    obtain ⟨n4, e4, _⟩ := hc 4 (by decide)
    obtain ⟨n5, e5, _⟩ := hc 5 (by decide)
    obtain ⟨n6, e6, _⟩ := hc 6 (by decide)
    simp at e0 e1 e2 e3 e4 e5 e6
    subst e0 e1 e2 e3 e4 e5 e6
    exact ⟨n0, n1, n2, n3, n4, n5, n6, e⟩
theorem step_alloc {W : World} {b : Nat} {x0 x1 x2 x3 x4 x5 x6 : Int} (t : Box7 W b x0 x1 x2 x3 x4 x5 x6) (o : Obj) : Box7 (W.alloc o) b x0 x1 x2 x3 x4 x5 x6 := t.step ((Below.refl _ _).alloc (Nat.le_refl _) o)
end Go.Proofs.YtbhpceghgjognaaDoor.Civ
