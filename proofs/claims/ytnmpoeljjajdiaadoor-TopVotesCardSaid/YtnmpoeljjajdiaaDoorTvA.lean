
/- Plain laws of the statement TopVotes: the next month's start is a month's start; whose majority it is. -/
import Derived.Test.YtnmpoeljjajdiaaDoorVotS
namespace Go.Proofs.YtnmpoeljjajdiaaDoor.Vot
open Go.RowKit Aid Civ Leap App Smr
theorem nx_ok7 {u : Int} (h : -7100000000 ≤ u ∧ u ≤ 7100000000) : nxB u = true := by
  have hu : -8000000000 ≤ u ∧ u ≤ 8000000000 := by omega
  obtain ⟨_, e2⟩ := nxV_in hu
  rw [e2, beq_iff_eq]
  obtain ⟨⟨y1, y2⟩, _, _⟩ := date_bd hu
  have D := dateOf_spec (n := u / 86400) (by unfold ys; omega)
  unfold nxY nxM
  have y3 : (dateOf (u / 86400)).1 - 1 < 2153 := ys_2153 (n := u / 86400) (by omega) (by rw [Int.sub_add_cancel]; exact D.y1)
  generalize dateOf (u / 86400) = t at D y1 y2 y3
  obtain ⟨y, m, d⟩ := t
  dsimp only at D y1 y2 y3 ⊢
  have d1 := D.d1
  have d2 := D.d2
  have d3 := D.d3
  have m1 := D.m1
  have m2 := D.m2
  have mb := md_bd y (m : Int)
  have key : ∀ Y M : Int, 1600 ≤ Y → Y ≤ 2200 → 1 ≤ M → M ≤ 12 → -8000000000 ≤ secN Y M 1 0 0 0 → secN Y M 1 0 0 0 ≤ 8000000000 → secE Y M 1 0 0 0 0 = 0 := by
    intro Y M a b c e f g
    unfold secE
    rw [if_pos]
    refine ⟨?_, f, g⟩
    unfold chkC
    rw [if_pos]
    have := md_pos (y := Y) c e
    exact okB_valid.2 ⟨by omega, by omega, c, e, by omega, by omega, by omega, by omega, by omega, by omega, by omega, by omega, by omega, by omega⟩
  by_cases hm : m = 12
  · rw [if_pos hm, if_pos hm]
    have e : ms y 13 = ms y 12 + md y 12 := rfl
    rw [ms_13] at e
    have es : secN (y + 1) 1 1 0 0 0 = 86400 * (ys y + yd y) := by unfold secN; rw [ys_next, show ((1 : Int).toNat) = 1 from rfl, ms_1]; omega
    subst hm
    have : md y ((12 : Nat) : Int) = md y 12 := rfl
    exact key _ _ (by omega) (by omega) (by omega) (by omega) (by omega) (by omega)
  · rw [if_neg hm, if_neg hm]
    have e : ms y (m + 1) = ms y m + md y (m : Int) := rfl
    have es : secN y ((m : Int) + 1) 1 0 0 0 = 86400 * (ys y + ms y (m + 1)) := by unfold secN; rw [show ((m : Int) + 1).toNat = m + 1 by omega]; omega
    exact key _ _ (by omega) (by omega) (by omega) (by omega) (by omega) (by omega)
/-- the day that begins the next month -/
theorem nx_day {u : Int} (h : nxB u = true) : ∃ (Y : Int) (M : Nat), 1 ≤ M ∧ M ≤ 12 ∧ nxV u = 86400 * (ys Y + ms Y M) ∧ -8000000000 ≤ nxV u ∧ nxV u ≤ 8000000000 ∧
    ys Y + ms Y M = u / 86400 - (dateOf (u / 86400)).2.2 + 1 + md (dateOf (u / 86400)).1 ((dateOf (u / 86400)).2.1 : Int) := by
  obtain ⟨hu, _, _⟩ := nx_bd h
  obtain ⟨e1, e2⟩ := nxV_in hu
  rw [e2] at h
  rw [e1]
  have D := dateOf_spec (n := u / 86400) (by unfold ys; omega)
  have hs : secV (nxY u) (nxM u) 1 0 0 0 0 = secN (nxY u) (nxM u) 1 0 0 0 ∧ -8000000000 ≤ secN (nxY u) (nxM u) 1 0 0 0 ∧ secN (nxY u) (nxM u) 1 0 0 0 ≤ 8000000000 := by
    unfold secE at h
    unfold secV
    by_cases q : chkC (nxY u) (nxM u) 1 0 0 0 0 = 0 ∧ -8000000000 ≤ secN (nxY u) (nxM u) 1 0 0 0 ∧ secN (nxY u) (nxM u) 1 0 0 0 ≤ 8000000000
    · rw [if_pos q]; exact ⟨rfl, q.2⟩
    · rw [if_neg q] at h; exact absurd h (by decide)
  rw [hs.1]
  obtain ⟨_, b1, b2⟩ := hs
  unfold nxY nxM at b1 b2 ⊢
  generalize dateOf (u / 86400) = t at D b1 b2
  obtain ⟨y, m, d⟩ := t
  dsimp only at D b1 b2 ⊢
  have d1 := D.d1
  have m1 := D.m1
  have m2 := D.m2
  by_cases hm : m = 12
  · rw [if_pos hm, if_pos hm] at b1 b2 ⊢
    have e : ms y 13 = ms y 12 + md y 12 := rfl
    rw [ms_13] at e
    subst hm
    have e12 : md y ((12 : Nat) : Int) = md y 12 := rfl
    have es : secN (y + 1) 1 1 0 0 0 = 86400 * (ys (y + 1) + ms (y + 1) 1) := by unfold secN; rw [show ((1 : Int).toNat) = 1 from rfl]; omega
    refine ⟨y + 1, 1, by omega, by omega, es, b1, b2, ?_⟩
    rw [ys_next, ms_1]
    omega
  · rw [if_neg hm, if_neg hm] at b1 b2 ⊢
    have e : ms y (m + 1) = ms y m + md y (m : Int) := rfl
    have es : secN y ((m : Int) + 1) 1 0 0 0 = 86400 * (ys y + ms y (m + 1)) := by unfold secN; rw [show ((m : Int) + 1).toNat = m + 1 by omega]; omega
    exact ⟨y, m + 1, by omega, by omega, es, b1, b2, by omega⟩
theorem nx_beg {u : Int} (h : nxB u = true) : begB (nxV u) = true := by
  obtain ⟨Y, M, h1, h2, h3, h4, h5, _⟩ := nx_day h
  have D := date_of (y := Y) (d := 1) (m := M) h1 h2 (by omega) (by have := md_pos (y := Y) (m := (M : Int)) (by omega) (by omega); omega)
  rw [show ys Y + ms Y M + 1 - 1 = ys Y + ms Y M by omega] at D
  refine beg_intro ⟨h4, h5⟩ ?_ (by omega)
  rw [h3, show 86400 * (ys Y + ms Y M) / 86400 = ys Y + ms Y M by omega, dateOf_eq (by unfold ys at *; omega) D]
/-- the month behind the second ahead of a month's start begins there -/
theorem nx_prev {a : Int} (h : begB a = true) (k : nxB (a - 1) = true) : nxV (a - 1) = a := by
  obtain ⟨hb, hd, h0⟩ := beg_elim h
  obtain ⟨Y, M, h1, h2, h3, _, _, h6⟩ := nx_day k
  obtain ⟨hu, _, _⟩ := nx_bd k
  have D := dateOf_spec (n := (a - 1) / 86400) (by unfold ys; omega)
  have e : a / 86400 = (a - 1) / 86400 + 1 := by omega
  rw [h3, h6]
  generalize dateOf ((a - 1) / 86400) = t at D
  obtain ⟨y, m, d⟩ := t
  dsimp only at D ⊢
  have d1 := D.d1
  have d2 := D.d2
  have d3 := D.d3
  by_cases q : d < md y (m : Int)
  · have D2 := date_of (y := y) (d := d + 1) (m := m) D.m1 D.m2 (by omega) (by omega)
    rw [show ys y + ms y m + (d + 1) - 1 = a / 86400 by omega] at D2
    rw [dateOf_eq (by unfold ys at *; omega) D2] at hd
    dsimp only at hd
    omega
  · omega
theorem cw_bd (W : Nat → Int) (j : Int) (m : Nat) : 0 ≤ cw W j m ∧ cw W j m ≤ m := by
  induction m with
  | zero => exact ⟨Int.le_refl _, Int.le_refl _⟩
  | succ m ih =>
    have e : cw W j (m + 1) = cw W j m + if W m = j then 1 else 0 := rfl
    rw [e]
    split <;> omega
/-- what the statement looks for -/
def wantW (W : Nat → Int) (N : Nat) : Nat → Int
  | 0 => 3
  | k + 1 => if (N : Int) < 2 * cw W (k : Int) N then (k : Int) else wantW W N k
theorem want_dec {s : Vt} {N : Nat} {W : Nat → Int} {t : Int} (h : Md s N W t N) (hi : Inv s) (ht : -8000000000 ≤ t ∧ t ≤ 8000000000) : Vot.dec s t = wantW W N 3 := by
  obtain ⟨a, b, c, d⟩ := cw_sum W N
  unfold Vot.dec
  have hif : ∀ x : Int, (if t < t + 86400 then x else 0) = x := fun x => if_pos (by omega)
  rw [h.cv hi ht, h.cv hi ht, h.cv hi ht, h.nn, hif, hif, hif]
  have e3 : wantW W N 3 = if (N : Int) < 2 * cw W 2 N then 2 else if (N : Int) < 2 * cw W 1 N then 1 else if (N : Int) < 2 * cw W 0 N then 0 else 3 := rfl
  rw [e3]
  by_cases q0 : (N : Int) < 2 * cw W 0 N
  · rw [if_pos q0, if_neg (by omega), if_neg (by omega), if_pos q0]
  · rw [if_neg q0]
    by_cases q1 : (N : Int) < 2 * cw W 1 N
    · rw [if_pos q1, if_neg (by omega), if_pos q1]
    · rw [if_neg q1]
      by_cases q2 : (N : Int) < 2 * cw W 2 N
      · rw [if_pos q2, if_pos q2]
      · rw [if_neg q2, if_neg q2, if_neg q1, if_neg q0]
end Go.Proofs.YtnmpoeljjajdiaaDoor.Vot
