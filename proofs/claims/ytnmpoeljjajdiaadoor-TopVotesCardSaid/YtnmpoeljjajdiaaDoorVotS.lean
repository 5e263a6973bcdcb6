
/- Plain laws of layer 54: a majority that votes alike decides. -/
import Derived.Test.YtnmpoeljjajdiaaDoorVotR
namespace Go.Proofs.YtnmpoeljjajdiaaDoor.Vot
open Go.RowKit Aid Civ Leap App Smr
theorem nx_ok {u : Int} (h : -2147483648 ≤ u ∧ u ≤ 2147483647) : nxB u = true := by
  have hu : -8000000000 ≤ u ∧ u ≤ 8000000000 := by omega
  obtain ⟨_, e2⟩ := nxV_in hu
  rw [e2, beq_iff_eq]
  obtain ⟨⟨y1, y2⟩, _, _⟩ := date_bd hu
  have D := dateOf_spec (n := u / 86400) (by unfold ys; omega)
  unfold nxY nxM
  have y3 : (dateOf (u / 86400)).1 - 1 < 2153 := ys_2153 (n := u / 86400) (by omega) (by rw [Int.sub_add_cancel]; exact D.y1)
  generalize dateOf (u / 86400) = t at D y1 y2 y3
  obtain ⟨y, m, d⟩ := t
  dsimp only at D y1 y2 y3 ⊢
  have d1 := D.d1
  have d2 := D.d2
  have d3 := D.d3
  have m1 := D.m1
  have m2 := D.m2
  have mb := md_bd y (m : Int)
  have key : ∀ Y M : Int, 1600 ≤ Y → Y ≤ 2200 → 1 ≤ M → M ≤ 12 → -8000000000 ≤ secN Y M 1 0 0 0 → secN Y M 1 0 0 0 ≤ 8000000000 → secE Y M 1 0 0 0 0 = 0 := by
    intro Y M a b c e f g
    unfold secE
    rw [if_pos]
    refine ⟨?_, f, g⟩
    unfold chkC
    rw [if_pos]
    have := md_pos (y := Y) c e
    exact okB_valid.2 ⟨by omega, by omega, c, e, by omega, by omega, by omega, by omega, by omega, by omega, by omega, by omega, by omega, by omega⟩
  by_cases hm : m = 12
  · rw [if_pos hm, if_pos hm]
    have e : ms y 13 = ms y 12 + md y 12 := rfl
    rw [ms_13] at e
    have es : secN (y + 1) 1 1 0 0 0 = 86400 * (ys y + yd y) := by unfold secN; rw [ys_next, show ((1 : Int).toNat) = 1 from rfl, ms_1]; omega
    subst hm
    have : md y ((12 : Nat) : Int) = md y 12 := rfl
    exact key _ _ (by omega) (by omega) (by omega) (by omega) (by omega) (by omega)
  · rw [if_neg hm, if_neg hm]
    have e : ms y (m + 1) = ms y m + md y (m : Int) := rfl
    have es : secN y ((m : Int) + 1) 1 0 0 0 = 86400 * (ys y + ms y (m + 1)) := by unfold secN; rw [show ((m : Int) + 1).toNat = m + 1 by omega]; omega
    exact key _ _ (by omega) (by omega) (by omega) (by omega) (by omega) (by omega)
/-- how many of the first are j -/
def cw (W : Nat → Int) (j : Int) : Nat → Int
  | 0 => 0
  | i + 1 => cw W j i + if W i = j then 1 else 0
theorem cw_sum (W : Nat → Int) (m : Nat) : 0 ≤ cw W 0 m ∧ 0 ≤ cw W 1 m ∧ 0 ≤ cw W 2 m ∧ cw W 0 m + cw W 1 m + cw W 2 m ≤ m := by
  induction m with
  | zero => exact ⟨Int.le_refl _, Int.le_refl _, Int.le_refl _, Int.le_refl _⟩
  | succ m ih =>
    obtain ⟨a, b, c, d⟩ := ih
    have e : ∀ j, cw W j (m + 1) = cw W j m + if W m = j then 1 else 0 := fun _ => rfl
    rw [e, e, e]
    by_cases h0 : W m = 0
    · rw [if_pos h0, if_neg (by omega), if_neg (by omega)]; omega
    · by_cases h1 : W m = 1
      · rw [if_neg h0, if_pos h1, if_neg (by omega)]; omega
      · by_cases h2 : W m = 2
        · rw [if_neg h0, if_neg h1, if_pos h2]; omega
        · rw [if_neg h0, if_neg h1, if_neg h2]; omega
theorem cw_most {W : Nat → Int} {k : Int} {M : Nat} (h : ∀ i, i < M → W i = k) : ∀ m, M ≤ m → (M : Int) ≤ cw W k m := by
  have base : ∀ m, m ≤ M → cw W k m = m := by
    intro m
    induction m with
    | zero => intro _; rfl
    | succ m ih =>
      intro hm
      have e : cw W k (m + 1) = cw W k m + if W m = k then 1 else 0 := rfl
      rw [e, ih (by omega), if_pos (h m (by omega))]
      omega
  intro m
  induction m with
  | zero => intro hm; rw [base 0 (by omega)]; omega
  | succ m ih =>
    intro hm
    by_cases q : M ≤ m
    · have := ih q
      have e : cw W k (m + 1) = cw W k m + if W m = k then 1 else 0 := rfl
      rw [e]
      split <;> omega
    · rw [base (m + 1) (by omega)]; omega
theorem cw_one (W : Nat → Int) {j k : Int} (hjk : j ≠ k) (m : Nat) : 0 ≤ cw W j m ∧ cw W j m + cw W k m ≤ m := by
  induction m with
  | zero => exact ⟨Int.le_refl _, Int.le_refl _⟩
  | succ m ih =>
    have e : ∀ j, cw W j (m + 1) = cw W j m + if W m = j then 1 else 0 := fun _ => rfl
    rw [e, e]
    by_cases h0 : W m = j
    · rw [if_pos h0, if_neg (by omega)]; omega
    · rw [if_neg h0]
      split <;> omega
/-- the first i voters have voted W at t -/
structure Md (s : Vt) (n : Int) (W : Nat → Int) (t : Int) (i : Nat) : Prop where
  nn : s.n = n
  p : ∀ j, s.P j = decide (j < i)
  ww : ∀ j, j < i → s.I j = W j
  tt : ∀ j, j < i → s.T j = t
  l : s.c = true → s.L = t
theorem Md.new (n : Int) (W : Nat → Int) (t : Int) : Md (.new n) n W t 0 := ⟨rfl, fun j => by simp [Vt.new], fun j h => by omega, fun j h => by omega, fun h => by cases h⟩
theorem Md.next {s : Vt} {n : Int} {W : Nat → Int} {t : Int} {i : Nat} (h : Md s n W t i) (hi : (i : Int) < n) (hw : 0 ≤ W i ∧ W i ≤ 3) (ht : -8000000000 ≤ t ∧ t ≤ 8000000000) : vErr s (i : Int) (W i) t = 0 ∧ Md (s.next (i : Int) (W i) t) n W t (i + 1) := by
  obtain ⟨e1, e2⟩ := vErr_fine (s := s) (k := (i : Int)) (i := W i) (u := t) ⟨by omega, by rw [h.nn]; exact hi, hw.1, hw.2, ht.1, ht.2⟩ (fun q => by have := h.l q.1; omega)
  refine ⟨e1, ?_⟩
  rw [e2, Int.toNat_natCast]
  refine ⟨h.nn, fun j => ?_, fun j hj => ?_, fun j hj => ?_, fun _ => rfl⟩
  · show upd s.P i true j = _
    unfold upd
    by_cases e : j = i
    · rw [if_pos e]; subst e; simp
    · rw [if_neg e, h.p]
      by_cases q : j < i
      · rw [decide_eq_true q, decide_eq_true (by omega)]
      · rw [decide_eq_false q, decide_eq_false (by omega)]
  · show upd s.I i (W i) j = _
    unfold upd
    by_cases e : j = i
    · rw [if_pos e, e]
    · rw [if_neg e]; exact h.ww j (by omega)
  · show upd s.T i t j = _
    unfold upd
    by_cases e : j = i
    · rw [if_pos e]
    · rw [if_neg e]; exact h.tt j (by omega)
theorem Md.cnt {s : Vt} {N : Nat} {W : Nat → Int} {t : Int} (h : Md s N W t N) (u j : Int) : ∀ m, m ≤ N → Vot.cnt s u j m = if u < t + 86400 then cw W j m else 0 := by
  intro m
  induction m with
  | zero => intro _; split <;> rfl
  | succ m ih =>
    intro hm
    have e : Vot.cnt s u j (m + 1) = Vot.cnt s u j m + if isV s u j m = true then 1 else 0 := rfl
    have e2 : cw W j (m + 1) = cw W j m + if W m = j then 1 else 0 := rfl
    have hv : isV s u j m = true ↔ (W m = j ∧ u < t + 86400) := by
      unfold isV
      rw [h.p, h.ww m (by omega), h.tt m (by omega), decide_eq_true (show m < N by omega)]
      simp
    rw [e, ih (by omega), e2]
    by_cases q : u < t + 86400
    · rw [if_pos q, if_pos q]
      by_cases r : W m = j
      · rw [if_pos r, if_pos (hv.2 ⟨r, q⟩)]
      · rw [if_neg r, if_neg (fun z => r (hv.1 z).1)]
    · rw [if_neg q, if_neg q, if_neg (fun z => q (hv.1 z).2)]; rfl
theorem Md.cv {s : Vt} {N : Nat} {W : Nat → Int} {t : Int} (h : Md s N W t N) (hi : Inv s) {u : Int} (hu : -8000000000 ≤ u ∧ u ≤ 8000000000) (j : Int) : Vot.cv s u j = if u < t + 86400 then cw W j N else 0 := by
  unfold Vot.cv
  rw [if_pos hu, cnt_12 hi u j N h.nn, h.cnt u j N (Nat.le_refl _)]
theorem Md.dec {s : Vt} {N : Nat} {W : Nat → Int} {t k : Int} (h : Md s N W t N) (hi : Inv s) (hm : ∀ i, i < N / 2 + 1 → W i = k) (hN : 1 ≤ N) (hk : k = 0 ∨ k = 1 ∨ k = 2) {u : Int} (hu : -8000000000 ≤ u ∧ u ≤ 8000000000) :
    Vot.dec s u = if u < t + 86400 then k else 3 := by
  unfold Vot.dec
  rw [h.cv hi hu, h.cv hi hu, h.cv hi hu, h.nn]
  by_cases q : u < t + 86400
  · rw [if_pos q, if_pos q, if_pos q, if_pos q]
    have a := cw_most hm N (by omega)
    rcases hk with rfl | rfl | rfl
    · rw [if_pos (by omega)]
    · have b := (cw_one W (show (0 : Int) ≠ 1 by omega) N).2
      rw [if_neg (by omega), if_pos (by omega)]
    · have b := (cw_one W (show (0 : Int) ≠ 2 by omega) N).2
      have c := (cw_one W (show (1 : Int) ≠ 2 by omega) N).2
      rw [if_neg (by omega), if_neg (by omega), if_pos (by omega)]
  · rw [if_neg q, if_neg q, if_neg q, if_neg q, if_neg (by omega), if_neg (by omega), if_neg (by omega)]
end Go.Proofs.YtnmpoeljjajdiaaDoor.Vot
