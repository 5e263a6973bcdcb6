
/- How the arguments of the law LeapvoteMajority are opened. -/
import Derived.Test.YtbekfofakpbhiaaDoorVotQ
import Derived.ChangeSlices
namespace Go.Proofs.YtbekfofakpbhiaaDoor.Vot
open Go.RowKit Aid Opn Go.ChangeShapes Go.WideShapes
def BytesAt (w : World) (a : Option Addr) (n : Nat) (X : Nat → Nat) : Prop :=
  n ≤ 9223372036854775807 ∧ (0 < n → ∃ b off, a = some ⟨b, off, none⟩ ∧ b < w.heap.size ∧ ∀ i, i < n → w.cell? ⟨b, off + i, none⟩ = some (.int .u8 (X i : Int)) ∧ X i ≤ 255)
theorem open_u8s {H : Type} {enc : TypeId × Value → H} {w : World} {base : Nat} {spare : Nat → Bool} {held : Bool} {r : Reach} {b0 : Nat} {v : Value} {d : DataW H} {p : List MemPlace}
    (hv : Value.okWide Tryd.prog w r b0 48 v) (h : DataW.Trod enc Tryd.prog w base spare held 48 v d p) :
    ∃ (a : Option Addr) (n cap : Nat) (X : Nat → Nat), v = .slice a n cap ∧ BytesAt w a n X := by
  obtain ⟨a0, n0, c0, rfl⟩ := okWide_slice Tryd.underlying48 hv
  obtain ⟨fuel, hf⟩ := h
  rcases Go.ChangeShapes.open_ints Tryd.underlying48 Tryd.underlying5 (by kernel_rfl) hf with ⟨e, _⟩ | ⟨a, len, cap, zs, e, _, hl, hm, hz, _, hc, hw⟩
  · simp [Value.cells] at e
    obtain ⟨rfl, rfl, rfl⟩ := e
    exact ⟨none, 0, 0, fun _ => 0, rfl, by omega, fun h0 => absurd h0 (by omega)⟩
  · simp [Value.cells] at e
    obtain ⟨rfl, rfl, rfl⟩ := e
    unfold maxLen at hm
    refine ⟨some a, n0, c0, fun i => (zs.getD i 0).toNat, rfl, by omega, fun h0 => ?_⟩
    have hlz : n0 ≤ zs.length := by rw [hz]; split <;> omega
    have hp0 : 0 < n0 := h0
    have hs := World.cell?_spot (hc 0 (by omega))
    have hbk := World.block_lt_of_cell? w _ (hc 0 (by omega))
    obtain ⟨b, off, spot⟩ := a
    have e2 : ∀ o, spot = none → (⟨b, off, spot⟩ : Addr).add o = ⟨b, off + o, none⟩ := by
      intro o hs; subst hs; unfold Addr.add; split <;> simp_all
    have hsp : spot = none := by
      have : ((⟨b, off, spot⟩ : Addr).add 0).spot = none := hs
      simpa [Addr.add] using this
    rw [e2 _ hsp] at hbk
    subst hsp
    refine ⟨b, off, rfl, hbk, fun i hi => ?_⟩
    have q := hc i (by omega)
    rw [e2 _ rfl] at q
    have hiz : i < zs.length := by omega
    have wq := hw (zs.getD i 0) (by
      rw [List.getD_eq_getElem?_getD, List.getElem?_eq_getElem hiz]
      exact List.getElem_mem hiz)
    have wb : 0 ≤ zs.getD i 0 ∧ zs.getD i 0 ≤ 255 := by simpa [Lit.wf, IntKind.min, IntKind.max, IntKind.signed, IntKind.bits] using wq
    exact ⟨by rw [q, show (((zs.getD i 0).toNat : Nat) : Int) = zs.getD i 0 by omega], by show (zs.getD i 0).toNat ≤ 255; omega⟩
theorem open_u8 {H : Type} {enc : TypeId × Value → H} {w : World} {base : Nat} {spare : Nat → Bool} {held : Bool} {r : Reach} {b0 : Nat} {v : Value} {d : DataW H} {p : List MemPlace}
    (hv : Value.okWide Tryd.prog w r b0 5 v) (h : DataW.Trod enc Tryd.prog w base spare held 5 v d p) :
    ∃ n : Nat, v = .int .u8 (n : Int) ∧ n ≤ 255 := by
  obtain ⟨n, e, _, _, hw⟩ := Go.ChangeShapes.open_int Tryd.underlying5 hv h
  have : 0 ≤ n ∧ n ≤ 255 := by simpa [Lit.wf, IntKind.min, IntKind.max, IntKind.signed, IntKind.bits] using hw
  exact ⟨n.toNat, by rw [e, show ((n.toNat : Nat) : Int) = n by omega], by omega⟩
theorem open_i32 {H : Type} {enc : TypeId × Value → H} {w : World} {base : Nat} {spare : Nat → Bool} {held : Bool} {r : Reach} {b0 : Nat} {v : Value} {d : DataW H} {p : List MemPlace}
    (hv : Value.okWide Tryd.prog w r b0 21 v) (h : DataW.Trod enc Tryd.prog w base spare held 21 v d p) :
    ∃ n : Int, v = .int .i32 n ∧ -2147483648 ≤ n ∧ n ≤ 2147483647 := by
  obtain ⟨n, e, _, _, hw⟩ := Go.ChangeShapes.open_int Tryd.underlying21 hv h
  have : -2147483648 ≤ n ∧ n ≤ 2147483647 := by simpa [Lit.wf, IntKind.min, IntKind.max, IntKind.signed, IntKind.bits] using hw
  exact ⟨n, e, this⟩
end Go.Proofs.YtbekfofakpbhiaaDoor.Vot
