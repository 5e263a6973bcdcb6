
/- Plain laws: the label of a TAI second leads back to it; outside of windows smeared time is the label. -/
import Derived.Test.YtnmpoeljjajdiaaDoorTopA
import Derived.Test.YtnmpoeljjajdiaaDoorSmrG
namespace Go.Proofs.YtnmpoeljjajdiaaDoor.Leap
open Go.RowKit Aid Civ Smr
theorem exB_iff {B : Int} {A O : Nat → Int} {t : Int} : ∀ {n : Nat}, exB B A O t n = true ↔ ∃ i, i < n ∧ t = gS A O i - 1 ∧ O i - oldO B O i = 1 := by
  intro n
  induction n with
  | zero => simp [exB]
  | succ n ih =>
    show (exB B A O t n || (decide (t = gS A O n - 1) && decide (O n - oldO B O n = 1))) = true ↔ _
    rw [Bool.or_eq_true, ih, Bool.and_eq_true, decide_eq_true_eq, decide_eq_true_eq]
    constructor
    · rintro (⟨i, h1, h2⟩ | h)
      · exact ⟨i, by omega, h2⟩
      · exact ⟨n, by omega, h⟩
    · rintro ⟨i, h1, h2⟩
      rcases Nat.lt_or_ge i n with h | h
      · exact .inl ⟨i, h, h2⟩
      · obtain rfl : i = n := by omega
        exact .inr h2
theorem sep_g {B X : Int} {A O : Nat → Int} {n : Nat} (T : Tab B X A O n) : Sep (gS A O) 0 n := by
  intro i hi
  have g := T.gap hi
  have o := T.next hi
  unfold gS; omega
theorem sep_a {B X : Int} {A O : Nat → Int} {n : Nat} (T : Tab B X A O n) : Sep A 0 n := by
  intro i hi
  have g := T.gap hi
  omega
theorem a_inj {B X : Int} {A O : Nat → Int} {n : Nat} (T : Tab B X A O n) {i j : Nat} (hi : i < n) (hj : j < n) (h : A i = A j) : i = j := by
  rcases Nat.lt_trichotomy i j with g | g | g
  · have := T.gap2 g hj; omega
  · exact g
  · have := T.gap2 g hi; omega
theorem back_of {B X : Int} {A O : Nat → Int} {n : Nat} (T : Tab B X A O n) {t u : Int} {ex : Bool} (ht : -7000000000 ≤ t ∧ t ≤ 7000000000) (hex : exB B A O t n = ex) (hu : u = t - offP B O (plc (gS A O) t n) - (if ex = true then 1 else 0)) :
    (-8000000000 ≤ u ∧ u ≤ 8000000000) ∧ u + offP B O (plc A u n) + (if ex = true then 1 else 0) = t ∧ ∃ x : Int, ((∀ j, j < n → A j ≠ u + 1) → x = 0) ∧ (∀ j, j < n → A j = u + 1 → x = O j - oldO B O j) ∧ (ex = true → x = 1) ∧ (ex = false → x ≠ -1) := by
  obtain ⟨hp, h1, h2⟩ := plc_spec (gS A O) t n
  have ob := offP_bd T.b T.o hp
  cases ex with
  | true =>
    rw [if_pos rfl] at hu ⊢
    obtain ⟨i, hi, e1, e2⟩ := exB_iff.1 hex
    have e2' : O i - offP B O i = 1 := e2
    have ep : plc (gS A O) t n = i := plc_eq (sep_g T) (Int.le_refl _) (by omega) (fun h => by
      have := sep_g T (i - 1) (by omega)
      rw [show i - 1 + 1 = i by omega] at this
      omega) (fun _ => by omega)
    rw [ep] at hu ob
    have eu : u = A i - 1 := by unfold gS at e1; omega
    have eq : plc A u n = i := plc_eq (sep_a T) (Int.le_refl _) (by omega) (fun h => by
      have := sep_a T (i - 1) (by omega)
      rw [show i - 1 + 1 = i by omega] at this
      omega) (fun _ => by omega)
    refine ⟨by omega, by rw [eq]; omega, 1, fun h => absurd (show A i = u + 1 by omega) (h i hi), fun j hj hA => ?_, fun _ => rfl, fun h => by cases h⟩
    obtain rfl := a_inj T hj hi (by omega)
    omega
  | false =>
    rw [if_neg (by simp), Int.sub_zero] at hu
    rw [if_neg (by simp), Int.add_zero]
    have hno : ∀ i, i < n → t = gS A O i - 1 → O i - oldO B O i ≠ 1 := fun i hi e k => by
      have := exB_iff.2 ⟨i, hi, e, k⟩
      rw [hex] at this; cases this
    generalize plc (gS A O) t n = p at *
    have lo : 0 < p → A (p - 1) ≤ u := fun h => by
      have := h1 h
      have e : offP B O p = O (p - 1) := by unfold offP; rw [if_neg (by omega)]
      unfold gS at this; omega
    have hi : p < n → u < A p := fun h => by
      have a := h2 p (Nat.le_refl _) h
      have b : O p = offP B O p + 1 ∨ O p = offP B O p - 1 := T.one p h
      have c := hno p h
      have d : oldO B O p = offP B O p := rfl
      unfold gS at a c
      rcases b with b | b
      · rcases Int.lt_or_le t (A p + O p - 1) with g | g
        · omega
        · exact absurd (show O p - oldO B O p = 1 by omega) (c (by omega))
      · omega
    have eq : plc A u n = p := plc_eq (sep_a T) (Int.le_refl _) hp lo hi
    refine ⟨by omega, by rw [eq]; omega, ?_⟩
    by_cases hx : ∃ j, j < n ∧ A j = u + 1
    · obtain ⟨j, hj, hA⟩ := hx
      refine ⟨O j - oldO B O j, fun h => absurd hA (h j hj), fun k hk hB => ?_, (fun h => by cases h), fun _ hm => ?_⟩
      · obtain rfl := a_inj T hk hj (by omega)
        rfl
      · have jp : j = p := by
          rcases Nat.lt_trichotomy j p with g | g | g
          · have := lo (by omega)
            rcases Nat.lt_or_ge j (p - 1) with g2 | g2
            · have := T.gap2 (i := j) (j := p - 1) g2 (by omega); omega
            · obtain rfl : j = p - 1 := by omega
              omega
          · exact g
          · have := hi (by omega)
            have := T.gap2 (i := p) (j := j) g hj; omega
        subst jp
        have a := h2 j (Nat.le_refl _) hj
        have d : oldO B O j = offP B O j := rfl
        unfold gS at a
        omega
    · exact ⟨0, fun _ => rfl, fun j hj hA => absurd ⟨j, hj, hA⟩ hx, (fun h => by cases h), fun _ => by omega⟩
theorem plc_scale (A O : Nat → Int) (t : Int) : ∀ n, plc (frm 1 0 A O) (t * 1000000000) n = plc (gS A O) t n := by
  intro n
  induction n with
  | zero => rfl
  | succ n ih =>
    show (if frm 1 0 A O n ≤ t * 1000000000 then n + 1 else plc (frm 1 0 A O) (t * 1000000000) n) = (if gS A O n ≤ t then n + 1 else plc (gS A O) t n)
    rw [ih, frm_step]
    unfold gS
    by_cases h : A n + O n ≤ t
    · rw [if_pos h, if_pos (by omega)]
    · rw [if_neg h, if_neg (by omega)]
theorem label_of {B X : Int} {A O : Nat → Int} {n : Nat} {K W : Int} (T : Tab B X A O n) (hp : KW K W) {t : Int} (h : inT A O n K W (t * 1000000000) = false) : rdT B A O n K W (t * 1000000000) = (t - offP B O (plc (gS A O) t n)) * 1000000000 := by
  have hw := pol_w hp
  have SG : Sep (frm 1 0 A O) 0 n := by have := sep_of T (K := 1) (W := 0) (.inl ⟨rfl, rfl⟩) 1; simpa using this
  have hfg : ∀ i, frm K W A O i ≤ frm 1 0 A O i ∧ frm 1 0 A O i ≤ frm K W A O i + W * 1000000000 := fun i => by
    have := shf_bd (K := K) hw.1
    rw [frm_step]
    unfold frm
    omega
  have g : ¬ InW (frm K W A O) (W * 1000000000) (t * 1000000000) (plc (frm K W A O) (t * 1000000000) n) := by unfold inT at h; exact of_decide_eq_false h
  have e := plc_join SG hfg g
  rw [plc_scale] at e
  unfold rdT rd rdv
  rw [if_neg g, ← e]
  omega
theorem read_in {B X : Int} {A O : Nat → Int} {n : Nat} {K W : Int} (hc : chkS B X A O n K W = 0) {t : Int} (ht : -7001000000000000000 ≤ t ∧ t ≤ 7001000000000000000) : readV (chkS B X A O n K W) t (rdT B A O n K W t) = rdT B A O n K W t ∧ readE (chkS B X A O n K W) t (rdT B A O n K W t) = 0 := by
  obtain ⟨T, hp⟩ := chkS_ok hc
  have near := rd_near (pol_of T hp) (by unfold KW at hp; omega) T.b T.o t
  have i1 : instB t = true := instB_iff.2 (by omega)
  have i2 : instB (rdT B A O n K W t) = true := instB_iff.2 (by unfold rdT; omega)
  unfold readV readE
  rw [hc, i1, i2]
  simp
theorem rise_of {B X : Int} {A O : Nat → Int} {n : Nat} {K W : Int} (hc : chkS B X A O n K W = 0) (hK : K ≠ 1) {t d : Int} (hd : 0 ≤ d) : rdT B A O n K W t ≤ rdT B A O n K W (t + d) := by
  obtain ⟨T, hp⟩ := chkS_ok hc
  exact rd_mono (pol_of T hp) (by unfold KW at hp; omega) (by omega)
theorem chkT_of {B X : Int} {A O : Nat → Int} {n : Nat} {K W : Int} (hc : chkS B X A O n K W = 0) : chkT B X A O n = 0 := by
  unfold chkS at hc
  split at hc
  · assumption
  · assumption
end Go.Proofs.YtnmpoeljjajdiaaDoor.Leap
