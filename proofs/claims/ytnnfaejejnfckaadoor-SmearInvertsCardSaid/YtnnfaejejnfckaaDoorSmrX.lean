/- Layer 7: how a policy among the arguments is opened; the law's small. -/
import Derived.Test.YtnnfaejejnfckaaDoorLeapQ
import Derived.Test.YtnnfaejejnfckaaDoorSmrW
namespace Go.Proofs.YtnnfaejejnfckaaDoor.Smr
open Go.RowKit Aid Civ Leap Opn Go.ChangeShapes Go.WideShapes
theorem open_smr {H : Type} {enc : TypeId × Value → H} {w : World} {base : Nat} {spare : Nat → Bool} {held : Bool} {r : Reach} {b0 : Nat} {v : Value} {d : DataW H} {p : List MemPlace}
    (hv : Value.okWide Tryd.prog w r b0 26 v) (h : DataW.Trod enc Tryd.prog w base spare held 26 v d p) :
    ∃ (K W : Int), v = .agg #[.int .i64 K, .int .i64 W] := by
  obtain ⟨l, e, hl, hc⟩ := agg_cells Tryd.underlying26 (by kernel_rfl) (by kernel_rfl) (by
    intro j f hj
    match j, hj with
    | 0, hj | 1, hj => cases hj; exact Tryd.underlying3) hv h
  match l, hl with
  | [x0, x1], _ =>
    obtain ⟨n0, e0, _⟩ := hc 0 (by decide)
    obtain ⟨n1, e1, _⟩ := hc 1 (by decide)
    simp at e0 e1
    subst e0 e1
    exact ⟨n0, n1, e⟩
theorem open_u32 {H : Type} {enc : TypeId × Value → H} {w : World} {base : Nat} {spare : Nat → Bool} {held : Bool} {r : Reach} {b0 : Nat} {v : Value} {d : DataW H} {p : List MemPlace}
    (hv : Value.okWide Tryd.prog w r b0 36 v) (h : DataW.Trod enc Tryd.prog w base spare held 36 v d p) :
    ∃ n : Nat, v = .int .u32 (n : Int) ∧ n ≤ 4294967295 := by
  obtain ⟨n, e, _, _, hw⟩ := Go.ChangeShapes.open_int Tryd.underlying36 hv h
  have : 0 ≤ n ∧ n ≤ 4294967295 := by simpa [Lit.wf, IntKind.min, IntKind.max, IntKind.signed, IntKind.bits] using hw
  exact ⟨n.toNat, by rw [e, show ((n.toNat : Nat) : Int) = n by omega], by omega⟩
theorem small_any (B X : Int) (a : Option Addr) (n cap : Nat) (w : World) (b : Bool) (hb : b = decide (n ≤ 80)) :
    Calls Tryd.prog 10 #[.agg #[.int .i64 B, .int .i64 X, .slice a n cap]] w fun e w' => e = .returned (.bool b) ∧ Below w.heap.size w w' := by
  by_cases h : n ≤ 80
  · obtain rfl : b = true := by rw [hb]; exact decide_eq_true h
    have h2 : (n : Int) ≤ 80 := by omega
    have h3 : decide ((n : Int) ≤ 80) = true := decide_eq_true h2
    clear hb
    go_enter Tryd.func10, Tryd.ntmps10
    go_wp2
    go_ret
    exact ⟨by first | rfl | exact ret_bool (by simpa using h2), bb1 _⟩
  · obtain rfl : b = false := by rw [hb]; exact decide_eq_false h
    have h2 : ¬ (n : Int) ≤ 80 := by omega
    have h3 : decide ((n : Int) ≤ 80) = false := decide_eq_false h2
    clear hb
    go_enter Tryd.func10, Tryd.ntmps10
    go_wp2
    go_ret
    exact ⟨by first | rfl | exact ret_bool (by simpa using h2), bb1 _⟩
end Go.Proofs.YtnnfaejejnfckaaDoor.Smr
