/- Lists of cells for OscSplits: what the three appends make is the divided row. -/
import Derived.Test.YtcfmjoadbamdiaaSplitA
import Derived.Test.YtcfmjoadbamdiaaApp
namespace Go.Proofs.Ytcfmjoadbamdiaa.OscW
open Go.RowKit OscP Aid App
def cellF (A P : Nat → Int) (j : Nat) : Value := if j % 2 = 0 then .int .i64 (A (j / 2)) else .int .i64 (P (j / 2))
def rowL (A P : Nat → Int) (i m : Nat) : List Value := (List.range (m * 2)).map fun j => cellF A P (i * 2 + j)
theorem rowL_len (A P : Nat → Int) (i m : Nat) : (rowL A P i m).length = m * 2 := by simp [rowL]
theorem rowL_one (A P : Nat → Int) (i m : Nat) : ∀ u ∈ rowL A P i m, u.oneCell' = true := by
  intro u hu
  simp only [rowL, List.mem_map] at hu
  obtain ⟨j, _, rfl⟩ := hu
  unfold cellF; split <;> rfl
theorem rowL_get {A P : Nat → Int} {i m j : Nat} (h : j < m * 2) : (rowL A P i m)[j]? = some (cellF A P (i * 2 + j)) := by
  simp [rowL, h]
theorem segs_cell {w : World} {b off n : Nat} {A P : Nat → Int} (hc : ∀ i, i < n → w.cell? ⟨b, off + i * 2, none⟩ = some (.int .i64 (A i)) ∧ w.cell? ⟨b, off + i * 2 + 1, none⟩ = some (.int .i64 (P i))) (o : Nat) (ho : o < n * 2) :
    w.cell? ⟨b, off + o, none⟩ = some (cellF A P o) := by
  have h := hc (o / 2) (by omega)
  unfold cellF
  split
  · have e : off + o / 2 * 2 = off + o := by omega
    rw [← e]; exact h.1
  · have e : off + o / 2 * 2 + 1 = off + o := by omega
    rw [← e]; exact h.2
theorem segs_src {w : World} {b off n : Nat} {A P : Nat → Int} (hc : ∀ i, i < n → w.cell? ⟨b, off + i * 2, none⟩ = some (.int .i64 (A i)) ∧ w.cell? ⟨b, off + i * 2 + 1, none⟩ = some (.int .i64 (P i))) (i m : Nat) (h : i + m ≤ n) :
    Src w 2 (some ⟨b, off + i * 2, none⟩) m (rowL A P i m) :=
  ⟨rowL_len _ _ _ _, fun _ => ⟨_, rfl, fun j u hu => by
    have e : (⟨b, off + i * 2, none⟩ : Addr).add j = ⟨b, off + (i * 2 + j), none⟩ := by unfold Addr.add; split <;> simp_all <;> omega
    by_cases hj : j < m * 2
    · rw [rowL_get hj] at hu
      rw [e, ← hu]
      exact segs_cell hc _ (by omega)
    · rw [List.getElem?_eq_none (by rw [rowL_len]; omega)] at hu
      cases hu⟩⟩
theorem cut_row (A P : Nat → Int) (K n : Nat) (at_ q : Int) (hK : K ≤ n) : ((([] : List Value) ++ rowL A P 0 K) ++ [.int .i64 at_, .int .i64 q]) ++ rowL A P K (n - K) = rowL (cutA A K at_) (cutA P K q) 0 (n + 1) := by
  refine List.ext_getElem? fun j => ?_
  by_cases hj : j < (n + 1) * 2
  · rw [rowL_get hj]
    by_cases h1 : j < K * 2
    · rw [List.getElem?_append_left (by simp [rowL_len]; omega), List.getElem?_append_left (by simp [rowL_len]; omega)]
      simp only [List.nil_append]
      rw [rowL_get h1]
      unfold cellF cutA
      have e : (0 * 2 + j) / 2 < K := by omega
      simp only [if_pos e]
    · by_cases h2 : j < K * 2 + 2
      · rw [List.getElem?_append_left (by simp [rowL_len]; omega), List.getElem?_append_right (by simp [rowL_len]; omega)]
        simp only [List.nil_append, rowL_len]
        have e1 : ¬ (0 * 2 + j) / 2 < K := by omega
        have e2 : (0 * 2 + j) / 2 = K := by omega
        unfold cellF cutA
        rw [if_neg e1, if_neg e1, if_pos e2, if_pos e2]
        rcases (show j = K * 2 ∨ j = K * 2 + 1 by omega) with h | h
        · subst h
          rw [if_pos (by omega)]; simp
        · subst h
          rw [if_neg (by omega)]; simp
      · rw [List.getElem?_append_right (by simp [rowL_len]; omega)]
        simp only [List.nil_append, List.length_append, rowL_len, List.length_cons, List.length_nil]
        rw [rowL_get (by omega)]
        unfold cellF cutA
        have e1 : ¬ (0 * 2 + j) / 2 < K := by omega
        have e2 : ¬ (0 * 2 + j) / 2 = K := by omega
        rw [if_neg e1, if_neg e1, if_neg e2, if_neg e2]
        have e3 : (K * 2 + (j - (K * 2 + 2))) / 2 = (0 * 2 + j) / 2 - 1 := by omega
        have e4 : (K * 2 + (j - (K * 2 + 2))) % 2 = (0 * 2 + j) % 2 := by omega
        rw [show K * 2 + (0 + 1 + 1) = K * 2 + 2 by omega, e3, e4]
  · rw [List.getElem?_eq_none (by simp [rowL_len]; omega), List.getElem?_eq_none (by rw [rowL_len]; omega)]
theorem row_segs {w : World} {base g n cap : Nat} {A P : Nat → Int} (h : w.ownsRow base 32 2 (.slice (some ⟨g, 0, none⟩) n cap) n (rowL A P 0 n)) (hn : n ≤ 1000) : SegsAt w (some ⟨g, 0, none⟩) n A P := by
  refine ⟨by omega, fun h0 => ⟨g, 0, rfl, (h.lt _ rfl).2, fun i hi => ?_⟩⟩
  rw [h.cellAt _ (by omega), h.cellAt _ (by omega), rowL_get (by omega), rowL_get (by omega)]
  unfold cellF
  exact ⟨by rw [if_pos (by omega)]; congr 4; omega, by rw [if_neg (by omega)]; congr 4; omega⟩
end Go.Proofs.Ytcfmjoadbamdiaa.OscW
