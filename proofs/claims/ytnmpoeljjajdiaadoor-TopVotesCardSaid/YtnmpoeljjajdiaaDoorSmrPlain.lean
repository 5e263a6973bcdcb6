
/- Plain law of layer 7 (smear): where the windows lie, the reading of an instant, that readings rise. No program. -/
import Init
namespace Go.Proofs.YtnmpoeljjajdiaaDoor.Smr
def shf (K W : Int) : Int := if K = 2 then W * 500000000 else if K = 3 then W * 1000000000 else 0
def frm (K W : Int) (A O : Nat → Int) (i : Nat) : Int := (A i + O i) * 1000000000 - shf K W
def offP (B : Int) (O : Nat → Int) (p : Nat) : Int := if p = 0 then B else O (p - 1)
def plc (F : Nat → Int) (t : Int) : Nat → Nat
  | 0 => 0
  | k + 1 => if F k ≤ t then k + 1 else plc F t k
def Sep (F : Nat → Int) (L : Int) (n : Nat) : Prop := ∀ i, i + 1 < n → F i + L < F (i + 1)
theorem Sep.lt {F : Nat → Int} {L : Int} {n : Nat} (h : Sep F L n) (hL : 0 ≤ L) {i j : Nat} (hij : i < j) (hj : j < n) : F i + L < F j := by
  induction j with
  | zero => omega
  | succ j ih =>
    rcases Nat.lt_or_ge i j with h1 | h1
    · have := ih h1 (by omega)
      have := h j hj
      omega
    · obtain rfl : i = j := by omega
      exact h i hj
theorem plc_spec (F : Nat → Int) (t : Int) (n : Nat) : plc F t n ≤ n ∧ (0 < plc F t n → F (plc F t n - 1) ≤ t) ∧ (∀ i, plc F t n ≤ i → i < n → t < F i) := by
  induction n with
  | zero => exact ⟨Nat.le_refl _, fun h => absurd h (by simp [plc]), fun i _ h => by omega⟩
  | succ n ih =>
    unfold plc
    split
    · rename_i h
      exact ⟨by omega, fun _ => by rw [Nat.add_sub_cancel]; exact h, fun i h1 h2 => by omega⟩
    · rename_i h
      refine ⟨by omega, ih.2.1, fun i h1 h2 => ?_⟩
      rcases Nat.lt_or_ge i n with h3 | h3
      · exact ih.2.2 i h1 h3
      · obtain rfl : i = n := by omega
        omega
theorem plc_eq {F : Nat → Int} {L t : Int} {n p : Nat} (S : Sep F L n) (hL : 0 ≤ L) (hp : p ≤ n) (h1 : 0 < p → F (p - 1) ≤ t) (h2 : p < n → t < F p) : plc F t n = p := by
  have key : ∀ d : Nat, p + d ≤ n → plc F t (p + d) = p := by
    intro d
    induction d with
    | zero =>
      intro _
      cases p with
      | zero => rfl
      | succ q =>
        have := h1 (by omega)
        rw [Nat.add_sub_cancel] at this
        show plc F t (q + 1) = q + 1
        unfold plc
        rw [if_pos this]
    | succ d ih =>
      intro hd
      have h3 := h2 (by omega)
      have h4 : F p ≤ F (p + d) := by
        rcases Nat.eq_zero_or_pos d with h5 | h5
        · subst h5; exact Int.le_refl _
        · have := S.lt hL (i := p) (j := p + d) (by omega) (by omega); omega
      show plc F t (p + d + 1) = p
      unfold plc
      rw [if_neg (by omega)]
      exact ih (by omega)
  have := key (n - p) (by omega)
  rwa [show p + (n - p) = n by omega] at this
def InW (F : Nat → Int) (L t : Int) (p : Nat) : Prop := 0 < p ∧ t < F (p - 1) + L
instance (F : Nat → Int) (L t : Int) (p : Nat) : Decidable (InW F L t p) := by unfold InW; exact inferInstance
def rdv (B W : Int) (O F : Nat → Int) (L : Int) (p : Nat) (t : Int) : Int :=
  if InW F L t p then t - offP B O (p - 1) * 1000000000 - (offP B O p - offP B O (p - 1)) * (t - F (p - 1)) / W else t - offP B O p * 1000000000
def rd (B W : Int) (O F : Nat → Int) (L : Int) (n : Nat) (t : Int) : Int := rdv B W O F L (plc F t n) t
/-- what the walks know of a valid policy with a valid table -/
structure Pol (B W : Int) (O F : Nat → Int) (L : Int) (n : Nat) : Prop where
  sep : Sep F L n
  l : L = W * 1000000000
  w : 0 ≤ W
  one : ∀ i, i < n → O i = offP B O i + 1 ∨ O i = offP B O i - 1
theorem Pol.L0 {B W : Int} {O F : Nat → Int} {L : Int} {n : Nat} (P : Pol B W O F L n) : 0 ≤ L := by have := P.l; have := P.w; omega
theorem offP_succ (B : Int) (O : Nat → Int) (k : Nat) : offP B O (k + 1) = O k := by simp [offP]
theorem rd_in {B W : Int} {O F : Nat → Int} {L : Int} {n : Nat} (P : Pol B W O F L n) {k : Nat} (hk : k < n) {t : Int} (h1 : F k ≤ t) (h2 : t ≤ F k + L) (hW : 1 ≤ W) :
    rd B W O F L n t = t - offP B O k * 1000000000 - (O k - offP B O k) * (t - F k) / W := by
  have e : plc F t n = k + 1 := plc_eq P.sep P.L0 hk (fun _ => by rw [Nat.add_sub_cancel]; exact h1) (fun h => by have := P.sep k h; omega)
  unfold rd rdv
  rw [e, offP_succ, Nat.add_sub_cancel]
  by_cases h : InW F L t (k + 1)
  · rw [if_pos h]
  · rw [if_neg h]
    have h : ¬ (0 < k + 1 ∧ t < F (k + 1 - 1) + L) := h
    rw [Nat.add_sub_cancel] at h
    have e2 : t - F k = W * 1000000000 := by have := P.l; omega
    rw [e2, show (O k - offP B O k) * (W * 1000000000) = W * ((O k - offP B O k) * 1000000000) by rw [← Int.mul_assoc, Int.mul_comm (O k - offP B O k) W, Int.mul_assoc], Int.mul_ediv_cancel_left _ (by omega)]
    omega
theorem rd_out {B W : Int} {O F : Nat → Int} {L : Int} {n : Nat} (P : Pol B W O F L n) {p : Nat} (hp : p ≤ n) {t : Int} (h1 : 0 < p → F (p - 1) + L ≤ t) (h2 : p < n → t < F p) :
    rd B W O F L n t = t - offP B O p * 1000000000 := by
  have e : plc F t n = p := plc_eq P.sep P.L0 hp (fun h => by have := h1 h; have := P.L0; omega) h2
  unfold rd rdv
  rw [e, if_neg (fun h => by have := h1 h.1; have := h.2; omega)]
theorem rd_out' {B W : Int} {O F : Nat → Int} {L : Int} {n : Nat} (P : Pol B W O F L n) (hW : 1 ≤ W) {p : Nat} (hp : p ≤ n) {t : Int} (h1 : 0 < p → F (p - 1) + L ≤ t) (h2 : p < n → t ≤ F p) :
    rd B W O F L n t = t - offP B O p * 1000000000 := by
  rcases Classical.em (p < n ∧ t = F p) with ⟨h3, h4⟩ | h3
  · rw [rd_in P h3 (by omega) (by have := P.L0; omega) hW, h4, Int.sub_self, Int.mul_zero, Int.zero_ediv]; omega
  · exact rd_out P hp h1 (fun h => by have := h2 h; rcases Int.lt_or_eq_of_le this with h5 | h5 <;> first | exact h5 | exact absurd ⟨h, h5⟩ h3)
theorem floor_step {s x W : Int} (hs : s = 1 ∨ s = -1) (hW : 1 ≤ W) : s * (x + 1) / W ≤ s * x / W + 1 ∧ s * x / W ≤ s * (x + 1) / W + 1 ∧ (s = 1 → s * x / W ≤ s * (x + 1) / W) ∧ (s = -1 → s * (x + 1) / W ≤ s * x / W) := by
  have mono : ∀ a b : Int, a ≤ b → a / W ≤ b / W := fun a b h => Int.ediv_le_ediv (by omega) h
  have up : ∀ a : Int, (a + 1) / W ≤ a / W + 1 := fun a => by
    have := mono (a + 1) (a + W * 1) (by omega)
    rwa [Int.add_mul_ediv_left _ _ (by omega)] at this
  rcases hs with rfl | rfl
  · rw [Int.one_mul, Int.one_mul]
    have a := mono x (x + 1) (by omega)
    have b := up x
    exact ⟨b, by omega, fun _ => a, fun h => by omega⟩
  · rw [show -1 * (x + 1) = -x - 1 by omega, show -1 * x = -x by omega]
    have a := mono (-x - 1) (-x) (by omega)
    have b := up (-x - 1)
    rw [show -x - 1 + 1 = -x by omega] at b
    exact ⟨by omega, b, fun h => by omega, fun _ => a⟩
theorem rd_step {B W : Int} {O F : Nat → Int} {L : Int} {n : Nat} (P : Pol B W O F L n) (hW : 1 ≤ W) (t : Int) : rd B W O F L n t ≤ rd B W O F L n (t + 1) ∧ rd B W O F L n (t + 1) ≤ rd B W O F L n t + 2 := by
  obtain ⟨hp, h1, h2⟩ := plc_spec F t n
  generalize plc F t n = p at *
  rcases Classical.em (InW F L t p) with h | h
  · obtain ⟨h3, h4⟩ := h
    obtain ⟨k, rfl⟩ : ∃ k, p = k + 1 := ⟨p - 1, by omega⟩
    rw [Nat.add_sub_cancel] at *
    have h5 := h1 h3
    rw [rd_in P hp h5 (by omega) hW, rd_in P hp (t := t + 1) (by omega) (by omega) hW]
    have f := floor_step (s := O k - offP B O k) (x := t - F k) (W := W) (by have := P.one k hp; omega) hW
    rw [show t + 1 - F k = t - F k + 1 by omega]
    have := P.one k hp
    generalize (O k - offP B O k) * (t - F k + 1) / W = a at *
    generalize (O k - offP B O k) * (t - F k) / W = b at *
    omega
  · have h3 : 0 < p → F (p - 1) + L ≤ t := fun h5 => by
      rcases Int.lt_or_le t (F (p - 1) + L) with h6 | h6
      · exact absurd ⟨h5, h6⟩ h
      · omega
    rw [rd_out' P hW hp h3 (fun h5 => by have := h2 p (Nat.le_refl _) h5; omega), rd_out' P hW hp (t := t + 1) (fun h5 => by have := h3 h5; omega) (fun h5 => by have := h2 p (Nat.le_refl _) h5; omega)]
    omega
theorem rd_rise {B W : Int} {O F : Nat → Int} {L : Int} {n : Nat} (P : Pol B W O F L n) (hW : 1 ≤ W) (t : Int) (d : Nat) : rd B W O F L n t ≤ rd B W O F L n (t + d) ∧ rd B W O F L n (t + d) - rd B W O F L n t ≤ 2 * d := by
  induction d with
  | zero => simp
  | succ d ih =>
    have := rd_step P hW (t + d)
    rw [show t + ((d + 1 : Nat) : Int) = t + d + 1 by omega]
    omega
theorem rd_mono {B W : Int} {O F : Nat → Int} {L : Int} {n : Nat} (P : Pol B W O F L n) (hW : 1 ≤ W) {a b : Int} (h : a ≤ b) : rd B W O F L n a ≤ rd B W O F L n b := by
  have := (rd_rise P hW a (b - a).toNat).1
  rwa [show a + (((b - a).toNat : Nat) : Int) = b by omega] at this
theorem floor_bd {s x W : Int} (hs : s = 1 ∨ s = -1) (hW : 1 ≤ W) (h0 : 0 ≤ x) (h1 : x < W * 1000000000) : (s = 1 → 0 ≤ s * x / W ∧ s * x / W < 1000000000) ∧ (s = -1 → -1000000000 ≤ s * x / W ∧ s * x / W ≤ 0) := by
  refine ⟨?_, ?_⟩
  · rintro rfl
    rw [Int.one_mul]
    exact ⟨Int.ediv_nonneg h0 (by omega), Int.ediv_lt_of_lt_mul (by omega) (by rw [Int.mul_comm]; exact h1)⟩
  · rintro rfl
    rw [show -1 * x = -x by omega]
    refine ⟨Int.le_ediv_of_mul_le (by omega) ?_, ?_⟩
    · rw [Int.mul_comm]; omega
    · have := Int.ediv_le_ediv (c := W) (by omega) (show -x ≤ 0 by omega)
      rwa [Int.zero_ediv] at this
theorem offP_bd {B : Int} {O : Nat → Int} {n p : Nat} (hB : -1000 ≤ B ∧ B ≤ 1000) (hO : ∀ i, i < n → -1000 ≤ O i ∧ O i ≤ 1000) (hp : p ≤ n) : -1000 ≤ offP B O p ∧ offP B O p ≤ 1000 := by
  unfold offP; split
  · exact hB
  · exact hO _ (by omega)
theorem rd_near {B W : Int} {O F : Nat → Int} {L : Int} {n : Nat} (P : Pol B W O F L n) (hW : 1 ≤ W ∨ W = 0) (hB : -1000 ≤ B ∧ B ≤ 1000) (hO : ∀ i, i < n → -1000 ≤ O i ∧ O i ≤ 1000) (t : Int) :
    -1000000000000 ≤ t - rd B W O F L n t ∧ t - rd B W O F L n t ≤ 1000000000000 := by
  obtain ⟨hp, h1, h2⟩ := plc_spec F t n
  unfold rd rdv
  generalize plc F t n = p at *
  split
  · rename_i h
    obtain ⟨h3, h4⟩ := h
    obtain ⟨k, rfl⟩ : ∃ k, p = k + 1 := ⟨p - 1, by omega⟩
    have h5 := h1 h3
    rw [Nat.add_sub_cancel] at *
    rw [offP_succ]
    have hl := P.l
    have hw : 1 ≤ W := by rcases hW with h | h <;> first | exact h | (subst h; omega)
    have f := floor_bd (s := O k - offP B O k) (x := t - F k) (W := W) (by have := P.one k hp; omega) hw (by omega) (by omega)
    have a := P.one k hp
    have b := offP_bd (p := k) hB hO (by omega)
    have c := hO k hp
    generalize (O k - offP B O k) * (t - F k) / W = v at *
    omega
  · have b := offP_bd hB hO hp
    omega
/-- outside of windows the same count of changes has come with and without a shift -/
theorem plc_join {F G : Nat → Int} {L t : Int} {n : Nat} (S : Sep G 0 n) (hfg : ∀ i, F i ≤ G i ∧ G i ≤ F i + L) (h : ¬ InW F L t (plc F t n)) : plc G t n = plc F t n := by
  obtain ⟨hp, h1, h2⟩ := plc_spec F t n
  generalize plc F t n = p at *
  refine plc_eq S (Int.le_refl _) hp (fun h3 => ?_) (fun h3 => ?_)
  · have := (hfg (p - 1)).2
    rcases Int.lt_or_le t (F (p - 1) + L) with h6 | h6
    · exact absurd ⟨h3, h6⟩ h
    · omega
  · have := h2 p (Nat.le_refl _) h3
    have := (hfg p).1
    omega
theorem plc_join_in {F G : Nat → Int} {L t : Int} {n k : Nat} (S : Sep G 0 n) (SF : Sep F L n) (hL : 0 ≤ L) (hfg : ∀ i, F i ≤ G i ∧ G i ≤ F i + L) (hk : k < n) (h1 : F k ≤ t) (h2 : t < F k + L) : plc G t n = k ∨ plc G t n = k + 1 := by
  rcases Int.lt_or_le t (G k) with h | h
  · refine .inl (plc_eq S (Int.le_refl _) (by omega) (fun h3 => ?_) (fun _ => h))
    have := (hfg (k - 1)).2
    have := SF.lt hL (i := k - 1) (j := k) (by omega) hk
    omega
  · refine .inr (plc_eq S (Int.le_refl _) hk (fun _ => by rw [Nat.add_sub_cancel]; omega) (fun h3 => ?_))
    have := SF k h3
    have := (hfg (k + 1)).1
    omega
theorem shf_bd {K W : Int} (hW : 0 ≤ W) : 0 ≤ shf K W ∧ shf K W ≤ W * 1000000000 := by unfold shf; split <;> (try split) <;> omega
end Go.Proofs.YtnmpoeljjajdiaaDoor.Smr
