/- A list of gates as an argument. -/
import Derived.Test.YtjjhdigbgmbmnaaSkwG
namespace Go.Proofs.Ytjjhdigbgmbmnaa.Skw
open Go.RowKit Aid Opn Go.ChangeShapes Go.WideShapes
theorem open_gates2 {T : Type} {enc : TypeId × Value → T} {w : World} {base : Nat} {spare : Nat → Bool} {held : Bool} {r : Reach} {b0 : Nat} {v : Value} {d : DataW T} {p : List MemPlace}
    (hv : Value.okWide Try.prog w r b0 22 v) (h : DataW.Trod enc Try.prog w base spare held 22 v d p) :
    ∃ (a : Option Addr) (n cap : Nat) (X L H : Nat → Int), v = .slice a n cap ∧ GatesAt w a n X L H ∧ n ≤ cap := by
  obtain ⟨a0, n0, c0, rfl⟩ := okWide_slice Try.underlying22 hv
  obtain ⟨fuel, hf⟩ := h
  obtain ⟨a, n, cap, e, hn, hc⟩ := slice_ints Try.underlying22 Try.underlying43 (by kernel_rfl) (by kernel_rfl) (by decide) (by
    intro j f hj
    match j, hj with
    | 0, hj => cases hj; exact Try.underlying3
    | 1, hj => cases hj; exact Try.underlying3
    | 2, hj => cases hj; exact Try.underlying3) hf
  refine ⟨a, n, cap, fun i => intAt w a (i * 3), fun i => intAt w a (i * 3 + 1), fun i => intAt w a (i * 3 + 2), e, ⟨by omega, fun h0 => ?_⟩, hn.1⟩
  obtain ⟨b, off, ha, hb, hf⟩ := hc h0
  exact ⟨b, off, ha, hb, fun i hi => ⟨(hf i hi 0 (by decide)).1, (hf i hi 1 (by decide)).1, (hf i hi 2 (by decide)).1⟩⟩
end Go.Proofs.Ytjjhdigbgmbmnaa.Skw
