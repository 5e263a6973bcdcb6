/- How an oscillator that came in is opened. -/
import Derived.Test.YtcfmjoadbamdiaaOscA
import Derived.Test.YtcfmjoadbamdiaaOpen
namespace Go.Proofs.Ytcfmjoadbamdiaa.OscO
open Go.RowKit Go.Joins Opn
theorem seg_open {H : Type} {enc : TypeId × Value → H} {w : World} {base : Nat} {spare : Nat → Bool} {held : Bool} {fuel : Nat} {v : Value} {x : DataW H × List MemPlace}
    (h : DataW.trod enc Try.prog w base spare held fuel 22 [v] = some x) : ∃ (a : Option Addr) (n cap : Nat) (A P : Nat → Int), v = .slice a n cap ∧ OscW.SegsAt w a n A P ∧ n ≤ cap ∧ cap ≤ 9223372036854775807 := by
  obtain ⟨a, n, cap, e, hn, hc⟩ := slice_ints Try.underlying22 Try.underlying32 (by kernel_rfl) (by kernel_rfl) (by decide) (by
    intro j f hj
    match j, hj with
    | 0, hj => cases hj; exact Try.underlying3
    | 1, hj => cases hj; exact Try.underlying3) h
  refine ⟨a, n, cap, fun i => intAt w a (i * 2), fun i => intAt w a (i * 2 + 1), e, ⟨by omega, fun h0 => ?_⟩, hn.1, hn.2⟩
  obtain ⟨b, off, ha, hb, hf⟩ := hc h0
  exact ⟨b, off, ha, hb, fun i hi => ⟨(hf i hi 0 (by decide)).1, (hf i hi 1 (by decide)).1⟩⟩
theorem open_osc {H : Type} {enc : TypeId × Value → H} {w : World} {base : Nat} {spare : Nat → Bool} {held : Bool} {r : Reach} {b0 : Nat} {v : Value} {d : DataW H} {p : List MemPlace}
    (hv : Value.okWide Try.prog w r b0 24 v) (h : DataW.Trod enc Try.prog w base spare held 24 v d p) :
    ∃ (ph : Int) (a : Option Addr) (n cap : Nat) (A P : Nat → Int), v = .agg #[.int .i64 ph, .slice a n cap] ∧ OscW.SegsAt w a n A P ∧ n ≤ cap ∧ cap ≤ 9223372036854775807 := by
  obtain ⟨c0, c1, y0, y1, m, hv, _, _, hy0, hy1⟩ := open_agg2 Try.underlying24 (by kernel_rfl) (by kernel_rfl) hv h
  obtain ⟨ph, hph, _, wph⟩ := DataW.trod_int Try.underlying3 hy0
  obtain ⟨a, n, cap, A, P, hs, hr, hcap⟩ := seg_open hy1
  simp only [List.cons.injEq, and_true] at hph
  subst hph hs
  exact ⟨ph, a, n, cap, A, P, hv, hr, hcap⟩
end Go.Proofs.Ytcfmjoadbamdiaa.OscO
