
/- How the laws' arguments of layer 54 are opened. -/
import Derived.Test.YtbekfofakpbhiaaDoorLeapQ
import Derived.Test.YtbekfofakpbhiaaDoorOpen
namespace Go.Proofs.YtbekfofakpbhiaaDoor.Vot
open Go.RowKit Aid Opn Go.ChangeShapes Go.WideShapes
theorem open_ent {H : Type} {enc : TypeId × Value → H} {w : World} {base : Nat} {spare : Nat → Bool} {held : Bool} {r : Reach} {b0 : Nat} {v : Value} {d : DataW H} {p : List MemPlace}
    (hv : Value.okWide Tryd.prog w r b0 36 v) (h : DataW.Trod enc Tryd.prog w base spare held 36 v d p) :
    ∃ (K W : Int), v = .agg #[.int .i64 K, .int .i64 W] := by
  obtain ⟨l, e, hl, hc⟩ := Opn.agg_cells Tryd.underlying36 (by kernel_rfl) (by kernel_rfl) (by
    intro j f hj
    match j, hj with
    | 0, hj | 1, hj => cases hj; exact Tryd.underlying3) hv h
  match l, hl with
  | [x0, x1], _ =>
    obtain ⟨n0, e0, _⟩ := hc 0 (by decide)
    obtain ⟨n1, e1, _⟩ := hc 1 (by decide)
    simp at e0 e1
    subst e0 e1
    exact ⟨n0, n1, e⟩
def OpsAt (w : World) (a : Option Addr) (n : Nat) (K I U : Nat → Int) : Prop :=
  n ≤ 9223372036854775807 ∧ (0 < n → ∃ b off, a = some ⟨b, off, none⟩ ∧ b < w.heap.size ∧ ∀ i, i < n → w.cell? ⟨b, off + i * 3, none⟩ = some (.int .i64 (K i)) ∧ w.cell? ⟨b, off + i * 3 + 1, none⟩ = some (.int .i64 (I i)) ∧ w.cell? ⟨b, off + i * 3 + 2, none⟩ = some (.int .i64 (U i)))
theorem open_ops {H : Type} {enc : TypeId × Value → H} {w : World} {base : Nat} {spare : Nat → Bool} {held : Bool} {r : Reach} {b0 : Nat} {v : Value} {d : DataW H} {p : List MemPlace}
    (hv : Value.okWide Tryd.prog w r b0 22 v) (h : DataW.Trod enc Tryd.prog w base spare held 22 v d p) :
    ∃ (a : Option Addr) (n cap : Nat) (K I U : Nat → Int), v = .slice a n cap ∧ OpsAt w a n K I U := by
  obtain ⟨a0, n0, c0, rfl⟩ := okWide_slice Tryd.underlying22 hv
  obtain ⟨fuel, hf⟩ := h
  obtain ⟨a, n, cap, e, hn, hc⟩ := slice_ints Tryd.underlying22 Tryd.underlying29 (by kernel_rfl) (by kernel_rfl) (by decide) (by
    intro j f hj
    match j, hj with
    | 0, hj => cases hj; exact Tryd.underlying3
    | 1, hj => cases hj; exact Tryd.underlying3
    | 2, hj => cases hj; exact Tryd.underlying3) hf
  refine ⟨a, n, cap, fun i => intAt w a (i * 3), fun i => intAt w a (i * 3 + 1), fun i => intAt w a (i * 3 + 2), e, by omega, fun h0 => ?_⟩
  obtain ⟨b, off, ha, hb, hf⟩ := hc h0
  exact ⟨b, off, ha, hb, fun i hi => ⟨(hf i hi 0 (by decide)).1, (hf i hi 1 (by decide)).1, (hf i hi 2 (by decide)).1⟩⟩
end Go.Proofs.YtbekfofakpbhiaaDoor.Vot
