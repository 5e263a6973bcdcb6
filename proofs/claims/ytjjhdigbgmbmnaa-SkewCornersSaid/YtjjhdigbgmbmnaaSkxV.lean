/- A row of gates whose tops and bottoms are stored into in place. -/
import Derived.Test.YtjjhdigbgmbmnaaSkxI
namespace Go.Proofs.Ytjjhdigbgmbmnaa.Skw
open Go.RowKit Aid Fx App
def upd (f : Nat → Int) (i : Nat) (v : Int) (j : Nat) : Int := if j = i then v else f j
/-- the cell of a row at a place -/
def cellG (X L H : Nat → Int) (j : Nat) : Value := if j % 3 = 0 then .int .i64 (X (j / 3)) else if j % 3 = 1 then .int .i64 (L (j / 3)) else .int .i64 (H (j / 3))
theorem rowG_cell (X L H : Nat → Int) (n j : Nat) (hj : j < n * 3) : (rowG X L H n)[j]? = some (cellG X L H j) := by
  obtain ⟨q, r, hr, hq⟩ : ∃ q r, r < 3 ∧ j = q * 3 + r := ⟨j / 3, j % 3, by omega, by omega⟩
  obtain ⟨g1, g2, g3⟩ := rowG_get X L H n q (by omega)
  have e1 : j / 3 = q := by omega
  have e2 : j % 3 = r := by omega
  unfold cellG
  rw [e1, e2]
  match r, hr, hq with
  | 0, _, hq => rw [hq]; exact g1
  | 1, _, hq => rw [hq]; exact g2
  | 2, _, hq => rw [hq]; exact g3
theorem rowG_set (X L H L' H' : Nat → Int) (n p : Nat) (v : Value) (hp : p < n * 3) (h : cellG X L' H' p = v) (hne : ∀ j, j < n * 3 → j ≠ p → cellG X L' H' j = cellG X L H j) : (rowG X L H n).set p v = rowG X L' H' n := by
  refine List.ext_getElem? fun j => ?_
  by_cases hj : j < n * 3
  · by_cases e : j = p
    · subst e
      rw [List.getElem?_set_self (by rw [rowG_len]; exact hj), rowG_cell _ _ _ _ _ hj, h]
    · rw [List.getElem?_set_ne (by omega), rowG_cell _ _ _ _ _ hj, rowG_cell _ _ _ _ _ hj, hne j hj e]
  · rw [List.getElem?_eq_none (by rw [List.length_set, rowG_len]; omega), List.getElem?_eq_none (by rw [rowG_len]; omega)]
theorem rowG_hi (X L H : Nat → Int) (n i : Nat) (v : Int) (hi : i < n) : (rowG X L H n).set (i * 3 + 2) (.int .i64 v) = rowG X L (upd H i v) n := by
  refine rowG_set X L H L (upd H i v) n _ _ (by omega) ?_ fun j hj hne => ?_
  · unfold cellG
    rw [if_neg (by omega), if_neg (by omega)]
    have e : (i * 3 + 2) / 3 = i := by omega
    rw [e]
    unfold upd
    rw [if_pos rfl]
  · unfold cellG
    split
    · rfl
    split
    · rfl
    · unfold upd
      rw [if_neg (by omega)]
theorem rowG_lo (X L H : Nat → Int) (n i : Nat) (v : Int) (hi : i < n) : (rowG X L H n).set (i * 3 + 1) (.int .i64 v) = rowG X (upd L i v) H n := by
  refine rowG_set X L H (upd L i v) H n _ _ (by omega) ?_ fun j hj hne => ?_
  · unfold cellG
    rw [if_neg (by omega), if_pos (by omega)]
    have e : (i * 3 + 1) / 3 = i := by omega
    rw [e]
    unfold upd
    rw [if_pos rfl]
  · unfold cellG
    split
    · rfl
    split
    · unfold upd
      rw [if_neg (by omega)]
    · rfl
theorem row_store {w : World} {base g n c p : Nat} {e : TypeId} {xs : List Value} (h : w.ownsRow base e 3 (.slice (some ⟨g, 0, none⟩) n c) n xs) (v : Value) (hp : p < n * 3) : (w.setCell ⟨g, p, none⟩ v).ownsRow base e 3 (.slice (some ⟨g, 0, none⟩) n c) n (xs.set p v) := by
  obtain ⟨hl, h⟩ := h
  refine ⟨by rw [List.length_set]; exact hl, ?_⟩
  rcases h with ⟨h, _⟩ | ⟨g', cap, cur, hv, hb, hg, hn, hm, hs, ht⟩
  · cases h
  · cases hv
    refine .inr ⟨g, c, cur.setIfInBounds p v, rfl, hb, ?_, hn, hm, by rw [Array.size_setIfInBounds]; exact hs, ?_⟩
    · simp [World.setCell, Array.getElem?_modify, hg]
    · rw [Array.toList_setIfInBounds, List.take_set, ht]
end Go.Proofs.Ytjjhdigbgmbmnaa.Skw
