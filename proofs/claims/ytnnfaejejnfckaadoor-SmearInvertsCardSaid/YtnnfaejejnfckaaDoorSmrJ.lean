/- Plain laws of layer 7: readings rise; readings of all kinds agree outside of windows, and by a second within. -/
import Derived.Test.YtnnfaejejnfckaaDoorSmrX
namespace Go.Proofs.YtnnfaejejnfckaaDoor.Smr
open Go.RowKit Aid Civ Leap
theorem readE_ok {c t u : Int} (h : readE c t u = 0) : c = 0 ∧ instB t = true ∧ instB u = true ∧ readV c t u = u := by
  rcases read_ways c t u with ⟨_, h2, _, e⟩ | ⟨_, _, _, e⟩ | ⟨_, _, _, _, e⟩ | ⟨h1, h2, h3, h4, _⟩
  · rw [e] at h; exact absurd h h2
  · rw [e] at h; cases h
  · rw [e] at h; cases h
  · exact ⟨h1, h2, h3, h4⟩
theorem readV_bd (c t u : Int) : -8000000000000000000 ≤ readV c t u ∧ readV c t u ≤ 8000000000000000000 := by
  unfold readV
  split
  · rename_i h; exact instB_iff.1 h.2.2
  · omega
theorem rises_of {B X : Int} {A O : Nat → Int} {n : Nat} {K W t : Int} (d : Nat) (hK : K ≠ 1) (h1 : readE (chkS B X A O n K W) t (rdT B A O n K W t) = 0) (h2 : readE (chkS B X A O n K W) (t + d) (rdT B A O n K W (t + d)) = 0) :
    readV (chkS B X A O n K W) t (rdT B A O n K W t) ≤ readV (chkS B X A O n K W) (t + d) (rdT B A O n K W (t + d)) ∧ readV (chkS B X A O n K W) (t + d) (rdT B A O n K W (t + d)) - readV (chkS B X A O n K W) t (rdT B A O n K W t) ≤ 2 * d := by
  obtain ⟨c0, _, _, e1⟩ := readE_ok h1
  obtain ⟨_, _, _, e2⟩ := readE_ok h2
  obtain ⟨T, hp⟩ := chkS_ok c0
  rw [e1, e2]
  unfold rdT
  exact rd_rise (pol_of T hp) (by unfold KW at hp; omega) t d
theorem step_rd {B X : Int} {A O : Nat → Int} {n : Nat} (T : Tab B X A O n) (t : Int) : rdT B A O n 1 0 t = t - offP B O (plc (frm 1 0 A O) t n) * 1000000000 := by
  unfold rdT rd rdv
  obtain ⟨hp, h1, h2⟩ := plc_spec (frm 1 0 A O) t n
  rw [if_neg (fun h => by have := h1 h.1; have := h.2; omega)]
theorem quo_no {y W : Int} (hW : 1 ≤ W) (hW2 : W ≤ 172800) (h : y = 1 ∨ y = -1) : -y * 1000000000 / W ≠ 0 := by
  rcases h with rfl | rfl
  · have : -1 * 1000000000 / W ≤ -1 := Int.ediv_le_of_le_mul (by omega) (by omega)
    omega
  · have : 1 ≤ - -1 * 1000000000 / W := Int.le_ediv_of_mul_le (by omega) (by omega)
    omega
theorem joins_of {B X : Int} {A O : Nat → Int} {n : Nat} {K W t : Int} (h1 : readE (chkS B X A O n K W) t (rdT B A O n K W t) = 0) (h2 : readE (chkS B X A O n 1 0) t (rdT B A O n 1 0 t) = 0) :
    (actB (chkS B X A O n K W) t (inT A O n K W t) = false → readV (chkS B X A O n K W) t (rdT B A O n K W t) = readV (chkS B X A O n 1 0) t (rdT B A O n 1 0 t)) ∧
    (actB (chkS B X A O n K W) t (inT A O n K W t) = true → -1000000000 ≤ readV (chkS B X A O n K W) t (rdT B A O n K W t) - readV (chkS B X A O n 1 0) t (rdT B A O n 1 0 t) ∧ readV (chkS B X A O n K W) t (rdT B A O n K W t) - readV (chkS B X A O n 1 0) t (rdT B A O n 1 0 t) ≤ 1000000000 ∧ rateT B X A O n K W t ≠ 0) := by
  obtain ⟨c0, i0, _, e1⟩ := readE_ok h1
  obtain ⟨_, _, _, e2⟩ := readE_ok h2
  obtain ⟨T, hp⟩ := chkS_ok c0
  have P := pol_of T hp
  have hw := pol_w hp
  have SG : Sep (frm 1 0 A O) 0 n := by have := sep_of T (K := 1) (W := 0) (.inl ⟨rfl, rfl⟩) 1; simpa using this
  have hfg : ∀ i, frm K W A O i ≤ frm 1 0 A O i ∧ frm 1 0 A O i ≤ frm K W A O i + W * 1000000000 := fun i => by
    have := shf_bd (K := K) hw.1
    rw [frm_step]
    unfold frm
    omega
  rw [e1, e2, step_rd T]
  unfold rateT
  rw [c0]
  have ha : actB 0 t (inT A O n K W t) = inT A O n K W t := by unfold actB; rw [i0]; simp
  rw [ha]
  constructor
  · intro hf
    have g : ¬ InW (frm K W A O) (W * 1000000000) t (plc (frm K W A O) t n) := by unfold inT at hf; exact of_decide_eq_false hf
    rw [plc_join SG hfg g]
    unfold rdT rd rdv
    rw [if_neg g]
  · intro hf
    rw [if_pos hf]
    have g : InW (frm K W A O) (W * 1000000000) t (plc (frm K W A O) t n) := by unfold inT at hf; exact of_decide_eq_true hf
    obtain ⟨hq, p1, p2⟩ := plc_spec (frm K W A O) t n
    have hst : stepT B A O n K W t = 1 ∨ stepT B A O n K W t = -1 := by
      have := (loc_bd T hp t).2
      have hs := step_in T hp t
      rw [hf] at hs
      rcases this with h | h
      · have : stepT B A O n K W t = 0 := h
        rw [this] at hs; cases hs
      · exact h.1
    obtain ⟨g1, g2⟩ := g
    obtain ⟨k, hk⟩ : ∃ k, plc (frm K W A O) t n = k + 1 := ⟨plc (frm K W A O) t n - 1, by omega⟩
    rw [hk] at g1 g2 hq p1
    rw [Nat.add_sub_cancel] at g2 p1
    have p1 := p1 g1
    have W1 : 1 ≤ W := by omega
    have hin := rd_in P hq p1 (by omega) W1
    have fb := floor_bd (s := O k - offP B O k) (x := t - frm K W A O k) (W := W) (by have := P.one k hq; omega) W1 (by omega) (by omega)
    have hj := plc_join_in SG P.sep P.L0 hfg hq p1 g2
    have o := P.one k hq
    unfold rdT
    rw [hin]
    have fin : -1000000000 ≤ t - offP B O k * 1000000000 - (O k - offP B O k) * (t - frm K W A O k) / W - (t - offP B O (plc (frm 1 0 A O) t n) * 1000000000) ∧ t - offP B O k * 1000000000 - (O k - offP B O k) * (t - frm K W A O k) / W - (t - offP B O (plc (frm 1 0 A O) t n) * 1000000000) ≤ 1000000000 := by
      generalize (O k - offP B O k) * (t - frm K W A O k) / W = v at *
      rcases hj with h | h
      · rw [h]; omega
      · rw [h, offP_succ]; omega
    exact ⟨fin.1, fin.2, quo_no W1 hw.2 hst⟩
theorem chk_one {B X : Int} {A O : Nat → Int} {n : Nat} {K W : Int} (h : chkS B X A O n K W = 0) : chkS B X A O n 1 0 = 0 := by
  unfold chkS at *
  split at h
  · rename_i k; rw [if_pos k]; rfl
  · rename_i k; exact absurd h k
end Go.Proofs.YtnnfaejejnfckaaDoor.Smr
