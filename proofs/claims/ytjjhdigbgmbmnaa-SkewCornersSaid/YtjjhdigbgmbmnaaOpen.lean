/- How arguments are opened: a slice of structs whose fields are all int. -/
import Derived.Test.YtjjhdigbgmbmnaaAid
import Derived.Deep.Slices
import Derived.Deep.Fields
import Derived.Lib.SmallJoins
import Derived.ChangeOld
namespace Go.Proofs.Ytjjhdigbgmbmnaa.Opn
open Go.RowKit Go.Deep Go.ChangeShapes Go.WideShapes
theorem wf_bd {n : Int} (h : (Lit.int .i64 n).wf = true) : -9223372036854775808 ≤ n ∧ n ≤ 9223372036854775807 := by
  simpa [Lit.wf, IntKind.min, IntKind.max, IntKind.signed, IntKind.bits] using h
def intAt (w : World) (a : Option Addr) (o : Nat) : Int := match a with
  | some a => match w.cell? (a.add o) with
    | some (.int _ n) => n
    | _ => 0
  | none => 0
theorem intAt_of {w : World} {b off o : Nat} {n : Int} (h : w.cell? ⟨b, off + o, none⟩ = some (.int .i64 n)) : intAt w (some ⟨b, off, none⟩) o = n := by
  have e : (⟨b, off, none⟩ : Addr).add o = ⟨b, off + o, none⟩ := by unfold Addr.add; split <;> simp_all
  simp [intAt, e, h]
section
variable {H : Type} {enc : TypeId × Value → H} {P : Program} {w : World} {base : Nat} {spare : Nat → Bool} {held : Bool}
theorem slice_ints {t e : TypeId} {fs : Array Field} {fuel : Nat} {v : Value} {x : DataW H × List MemPlace} (ht : P.underlying t = some (.slice e)) (he : P.underlying e = some (.struct fs))
    (hone : oneCellFields P fs = true) (hC : P.cellsOf e = fs.size) (hpos : 0 < fs.size) (hint : ∀ (j : Nat) (f : Field), fs[j]? = some f → P.underlying f.type = some (.int .i64)) (h : DataW.trod enc P w base spare held fuel t [v] = some x) :
    ∃ (a : Option Addr) (n cap : Nat), v = .slice a n cap ∧ (n ≤ cap ∧ cap ≤ 9223372036854775807) ∧
      (0 < n → ∃ b off, a = some ⟨b, off, none⟩ ∧ b < w.heap.size ∧ ∀ i, i < n → ∀ j, j < fs.size →
        w.cell? ⟨b, off + (i * fs.size + j), none⟩ = some (.int .i64 (intAt w a (i * fs.size + j))) ∧ -9223372036854775808 ≤ intAt w a (i * fs.size + j) ∧ intAt w a (i * fs.size + j) ≤ 9223372036854775807) := by
  rcases open_slice ht h with ⟨hcs, _⟩ | ⟨a, len, cap, m, n, D, Pl, hcs, hb, hl, hm, hmm, hx, hi⟩
  · simp at hcs
    exact ⟨none, 0, 0, hcs, ⟨by omega, by omega⟩, fun h => by omega⟩
  · simp at hcs
    unfold maxLen at hm
    refine ⟨some a, len, cap, hcs, ⟨hl, by omega⟩, fun h0 => ?_⟩
    have key : ∀ i, i < len → ∀ j, j < fs.size → ∃ n : Int, w.cell? (a.add (i * fs.size + j)) = some (.int .i64 n) ∧ (Lit.int .i64 n).wf = true := by
      intro i hil j hj
      obtain ⟨cs', hc, ht'⟩ := hi i (by rw [hmm]; split <;> omega)
      rw [hC] at hc
      obtain ⟨ys, n', hn', hy, hlen, hyl, hf⟩ := DataW.trod_struct he ht'
      obtain ⟨_, hcl, hat⟩ := World.cells?_some hc
      have hfj : fs[j]? = some fs[j] := Array.getElem?_eq_getElem hj
      obtain ⟨ho, hk⟩ := hone_of hone j _ hfj
      have h1 := hf j _ hfj
      rw [ho, hk, List.drop_eq_getElem_cons (by omega), List.getElem?_eq_getElem (by omega)] at h1
      have e1 : (cs'[j] :: List.drop (j + 1) cs').take 1 = [cs'[j]] := rfl
      rw [e1] at h1
      obtain ⟨z, hz, _, hw⟩ := DataW.trod_int (hint j _ hfj) h1
      refine ⟨z, ?_, hw⟩
      rw [← Go.Deep.add_add, hat j hj, List.getElem?_eq_getElem (by omega)]
      simp at hz
      rw [hz]
    obtain ⟨z, hz, _⟩ := key 0 h0 0 hpos
    have hs := World.cell?_spot hz
    have hbk := World.block_lt_of_cell? w _ hz
    obtain ⟨b, off, spot⟩ := a
    have e : ∀ o, spot = none → (⟨b, off, spot⟩ : Addr).add o = ⟨b, off + o, none⟩ := by
      intro o hs; subst hs; unfold Addr.add; split <;> simp_all
    have hsp : spot = none := by
      have : ((⟨b, off, spot⟩ : Addr).add (0 * fs.size + 0)).spot = none := hs
      simpa [Addr.add] using this
    rw [e _ hsp] at hbk
    subst hsp
    refine ⟨b, off, rfl, hbk, fun i hil j hj => ?_⟩
    obtain ⟨n, hn, hw⟩ := key i hil j hj
    rw [e _ rfl] at hn
    rw [intAt_of hn]
    exact ⟨hn, wf_bd hw⟩
theorem slice_ints2 {t e : TypeId} {fs : Array Field} {fuel : Nat} {v : Value} {x : DataW H × List MemPlace} (ht : P.underlying t = some (.slice e)) (he : P.underlying e = some (.struct fs))
    (hone : oneCellFields P fs = true) (hC : P.cellsOf e = fs.size) (hpos : 0 < fs.size) (hint : ∀ (j : Nat) (f : Field), fs[j]? = some f → P.underlying f.type = some (.int .i64)) (h : DataW.trod enc P w base spare held fuel t [v] = some x) :
    ∃ (a : Option Addr) (n cap : Nat), v = .slice a n cap ∧ (n ≤ cap ∧ cap ≤ 9223372036854775807) ∧ (a = none → cap = 0) ∧
      (0 < n → ∃ b off, a = some ⟨b, off, none⟩ ∧ b < w.heap.size ∧ ∀ i, i < n → ∀ j, j < fs.size →
        w.cell? ⟨b, off + (i * fs.size + j), none⟩ = some (.int .i64 (intAt w a (i * fs.size + j))) ∧ -9223372036854775808 ≤ intAt w a (i * fs.size + j) ∧ intAt w a (i * fs.size + j) ≤ 9223372036854775807) := by
  rcases open_slice ht h with ⟨hcs, _⟩ | ⟨a, len, cap, m, n, D, Pl, hcs, hb, hl, hm, hmm, hx, hi⟩
  · simp at hcs
    exact ⟨none, 0, 0, hcs, ⟨by omega, by omega⟩, fun _ => rfl, fun h => by omega⟩
  · simp at hcs
    unfold maxLen at hm
    refine ⟨some a, len, cap, hcs, ⟨hl, by omega⟩, (fun h => by cases h), fun h0 => ?_⟩
    have key : ∀ i, i < len → ∀ j, j < fs.size → ∃ n : Int, w.cell? (a.add (i * fs.size + j)) = some (.int .i64 n) ∧ (Lit.int .i64 n).wf = true := by
      intro i hil j hj
      obtain ⟨cs', hc, ht'⟩ := hi i (by rw [hmm]; split <;> omega)
      rw [hC] at hc
      obtain ⟨ys, n', hn', hy, hlen, hyl, hf⟩ := DataW.trod_struct he ht'
      obtain ⟨_, hcl, hat⟩ := World.cells?_some hc
      have hfj : fs[j]? = some fs[j] := Array.getElem?_eq_getElem hj
      obtain ⟨ho, hk⟩ := hone_of hone j _ hfj
      have h1 := hf j _ hfj
      rw [ho, hk, List.drop_eq_getElem_cons (by omega), List.getElem?_eq_getElem (by omega)] at h1
      have e1 : (cs'[j] :: List.drop (j + 1) cs').take 1 = [cs'[j]] := rfl
      rw [e1] at h1
      obtain ⟨z, hz, _, hw⟩ := DataW.trod_int (hint j _ hfj) h1
      refine ⟨z, ?_, hw⟩
      rw [← Go.Deep.add_add, hat j hj, List.getElem?_eq_getElem (by omega)]
      simp at hz
      rw [hz]
    obtain ⟨z, hz, _⟩ := key 0 h0 0 hpos
    have hs := World.cell?_spot hz
    have hbk := World.block_lt_of_cell? w _ hz
    obtain ⟨b, off, spot⟩ := a
    have e : ∀ o, spot = none → (⟨b, off, spot⟩ : Addr).add o = ⟨b, off + o, none⟩ := by
      intro o hs; subst hs; unfold Addr.add; split <;> simp_all
    have hsp : spot = none := by
      have : ((⟨b, off, spot⟩ : Addr).add (0 * fs.size + 0)).spot = none := hs
      simpa [Addr.add] using this
    rw [e _ hsp] at hbk
    subst hsp
    refine ⟨b, off, rfl, hbk, fun i hil j hj => ?_⟩
    obtain ⟨n, hn, hw⟩ := key i hil j hj
    rw [e _ rfl] at hn
    rw [intAt_of hn]
    exact ⟨hn, wf_bd hw⟩
/-- a struct by value whose fields are all int -/
theorem agg_cells {r : Reach} {b0 : Nat} {t : TypeId} {fs : Array Field} {v : Value} {d : DataW H} {p : List MemPlace} (hs : P.underlying t = some (.struct fs)) (hone : oneCellFields P fs = true) (hC : P.cellsOf t = fs.size)
    (hint : ∀ (j : Nat) (f : Field), fs[j]? = some f → P.underlying f.type = some (.int .i64)) (hv : Value.okWide P w r b0 t v) (h : DataW.Trod enc P w base spare held t v d p) :
    ∃ l : List Value, v = .agg l.toArray ∧ l.length = fs.size ∧ ∀ j, j < fs.size → ∃ n : Int, l[j]? = some (.int .i64 n) ∧ -9223372036854775808 ≤ n ∧ n ≤ 9223372036854775807 := by
  obtain ⟨cs, rfl, hsz⟩ := okWide_struct hs hv
  obtain ⟨fuel, hf⟩ := h
  obtain ⟨ys, n', hn', hy, hlen, hyl, hg⟩ := DataW.trod_struct hs hf
  have hl : cs.toList.length = fs.size := by rw [Array.length_toList, hsz, hC]
  refine ⟨cs.toList, by simp, hl, fun j hj => ?_⟩
  have hfj : fs[j]? = some fs[j] := Array.getElem?_eq_getElem hj
  obtain ⟨ho, hk⟩ := hone_of hone j _ hfj
  have h1 := hg j _ hfj
  have ec : (Value.cells (.agg cs)).toList = cs.toList := rfl
  rw [ho, hk, ec, List.drop_eq_getElem_cons (by omega), List.getElem?_eq_getElem (by omega)] at h1
  have e1 : (cs.toList[j] :: List.drop (j + 1) cs.toList).take 1 = [cs.toList[j]] := rfl
  rw [e1] at h1
  obtain ⟨z, hz, _, hw⟩ := DataW.trod_int (hint j _ hfj) h1
  simp only [List.cons.injEq, and_true] at hz
  exact ⟨z, by rw [List.getElem?_eq_getElem (by omega), hz], wf_bd hw⟩
theorem opn_int {r : Reach} {b0 : Nat} {t : TypeId} {v : Value} {d : DataW H} {p : List MemPlace} (ht : P.underlying t = some (.int .i64)) (hv : Value.okWide P w r b0 t v) (h : DataW.Trod enc P w base spare held t v d p) :
    ∃ n : Int, v = .int .i64 n ∧ -9223372036854775808 ≤ n ∧ n ≤ 9223372036854775807 := by
  obtain ⟨n, e, _, _, hw⟩ := Go.ChangeShapes.open_int ht hv h
  exact ⟨n, e, wf_bd hw⟩
theorem opn_bool {r : Reach} {b0 : Nat} {t : TypeId} {v : Value} {d : DataW H} {p : List MemPlace} (ht : P.underlying t = some .bool) (hv : Value.okWide P w r b0 t v) (h : DataW.Trod enc P w base spare held t v d p) :
    ∃ b : Bool, v = .bool b := by
  obtain ⟨b, e, _, _⟩ := open_bool ht hv h
  exact ⟨b, e⟩
end
end Go.Proofs.Ytjjhdigbgmbmnaa.Opn
