/- A line as an argument. -/
import Derived.Test.YtjjhdigbgmbmnaaSkwG
import Derived.ChangeSlices
namespace Go.Proofs.Ytjjhdigbgmbmnaa.Skw
open Go.RowKit Aid Opn Go.Deep Go.ChangeShapes Go.WideShapes Go.Joins
def IntsAt (w : World) (a : Option Addr) (n : Nat) (X : Nat → Int) : Prop :=
  n ≤ 9223372036854775807 ∧ (0 < n → ∃ b off, a = some ⟨b, off, none⟩ ∧ b < w.heap.size ∧ ∀ i, i < n → w.cell? ⟨b, off + i, none⟩ = some (.int .i64 (X i)))
theorem ints_open {T : Type} {enc : TypeId × Value → T} {w : World} {base : Nat} {spare : Nat → Bool} {held : Bool} {fuel : Nat} {c : Value} {x : DataW T × List MemPlace}
    (h : DataW.trod enc Try.prog w base spare held fuel 32 [c] = some x) : ∃ (a : Option Addr) (n cap : Nat) (X : Nat → Int), c = .slice a n cap ∧ IntsAt w a n X := by
  rcases Go.ChangeShapes.open_ints Try.underlying32 Try.underlying3 (by kernel_rfl) h with ⟨e, _⟩ | ⟨a, len, cap, zs, e, _, hl, hm, hz, _, hc, hw⟩
  · simp at e
    subst e
    exact ⟨none, 0, 0, fun _ => 0, rfl, by omega, fun h0 => absurd h0 (by omega)⟩
  · simp at e
    subst e
    unfold maxLen at hm
    refine ⟨some a, len, cap, fun i => zs.getD i 0, rfl, by omega, fun h0 => ?_⟩
    have hlz : len ≤ zs.length := by rw [hz]; split <;> omega
    have hs := World.cell?_spot (hc 0 (by omega))
    have hbk := World.block_lt_of_cell? w _ (hc 0 (by omega))
    obtain ⟨b, off, spot⟩ := a
    have e2 : ∀ o, spot = none → (⟨b, off, spot⟩ : Addr).add o = ⟨b, off + o, none⟩ := by
      intro o hs; subst hs; unfold Addr.add; split <;> simp_all
    have hsp : spot = none := by
      have : ((⟨b, off, spot⟩ : Addr).add 0).spot = none := hs
      simpa [Addr.add] using this
    rw [e2 _ hsp] at hbk
    subst hsp
    refine ⟨b, off, rfl, hbk, fun i hi => ?_⟩
    have q := hc i (by omega)
    rwa [e2 _ rfl] at q
section
variable {P : Program} {T : Type} {enc : TypeId × Value → T} {w : World} {base : Nat} {spare : Nat → Bool} {held : Bool}
theorem agg_read {r : Reach} {b0 : Nat} {t : TypeId} {fs : Array Field} {v : Value} {d : DataW T} {p : List MemPlace} (hs : P.underlying t = some (.struct fs)) (hone : oneCellFields P fs = true) (hC : P.cellsOf t = fs.size)
    (hv : Value.okWide P w r b0 t v) (h : DataW.Trod enc P w base spare held t v d p) :
    ∃ l : List Value, v = .agg l.toArray ∧ l.length = fs.size ∧ ∀ (j : Nat) (f : Field), fs[j]? = some f → ∃ c n y, l[j]? = some c ∧ DataW.trod enc P w base spare held n f.type [c] = some y := by
  obtain ⟨cs, rfl, hsz⟩ := okWide_struct hs hv
  obtain ⟨fuel, hf⟩ := h
  obtain ⟨ys, n', hn', hy, hlen, hyl, hg⟩ := DataW.trod_struct hs hf
  have hl : cs.toList.length = fs.size := by rw [Array.length_toList, hsz, hC]
  refine ⟨cs.toList, by simp, hl, fun j f hfj => ?_⟩
  have hj : j < fs.size := (Array.getElem?_eq_some_iff.1 hfj).1
  obtain ⟨ho, hk⟩ := hone_of hone j _ hfj
  have h1 := hg j _ hfj
  have ec : (Value.cells (.agg cs)).toList = cs.toList := rfl
  rw [ho, hk, ec, List.drop_eq_getElem_cons (by omega), List.getElem?_eq_getElem (by omega)] at h1
  exact ⟨_, _, _, List.getElem?_eq_getElem (by omega), h1⟩
end
theorem open_line {T : Type} {enc : TypeId × Value → T} {w : World} {base : Nat} {spare : Nat → Bool} {held : Bool} {r : Reach} {b0 : Nat} {v : Value} {d : DataW T} {p : List MemPlace}
    (hv : Value.okWide Try.prog w r b0 37 v) (h : DataW.Trod enc Try.prog w base spare held 37 v d p) :
    ∃ (A B : Int) (a1 : Option Addr) (n1 c1 : Nat) (X : Nat → Int) (a2 : Option Addr) (n2 c2 : Nat) (U : Nat → Int) (a3 : Option Addr) (n3 c3 : Nat) (V : Nat → Int), v = .agg #[.int .i64 A, .int .i64 B, .slice a1 n1 c1, .slice a2 n2 c2, .slice a3 n3 c3] ∧ IntsAt w a1 n1 X ∧ IntsAt w a2 n2 U ∧ IntsAt w a3 n3 V := by
  obtain ⟨l, e, hl, hc⟩ := agg_read Try.underlying37 (by kernel_rfl) (by kernel_rfl) hv h
  match l, hl with
  | [x0, x1, x2, x3, x4], _ =>
    obtain ⟨c0, n0, y0, e0, t0⟩ := hc 0 _ rfl
    obtain ⟨c1, n1, y1, e1, t1⟩ := hc 1 _ rfl
    obtain ⟨c2, n2, y2, e2, t2⟩ := hc 2 _ rfl
    obtain ⟨c3, n3, y3, e3, t3⟩ := hc 3 _ rfl
    obtain ⟨c4, n4, y4, e4, t4⟩ := hc 4 _ rfl
    simp at e0 e1 e2 e3 e4
    subst e0 e1 e2 e3 e4
    obtain ⟨A, hA, _⟩ := DataW.trod_int Try.underlying3 t0
    obtain ⟨B, hB, _⟩ := DataW.trod_int Try.underlying3 t1
    obtain ⟨a1, m1, k1, X, hX, i1⟩ := ints_open t2
    obtain ⟨a2, m2, k2, U, hU, i2⟩ := ints_open t3
    obtain ⟨a3, m3, k3, V, hV, i3⟩ := ints_open t4
    simp only [List.cons.injEq, and_true] at hA hB
    subst hA hB hX hU hV
    exact ⟨_, _, _, _, _, _, _, _, _, _, _, _, _, _, e, i1, i2, i3⟩
end Go.Proofs.Ytjjhdigbgmbmnaa.Skw
