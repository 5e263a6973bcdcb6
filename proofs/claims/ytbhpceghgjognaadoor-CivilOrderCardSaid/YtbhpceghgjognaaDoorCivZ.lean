/- Plain laws of layer 5: a text is formed and reads back; texts are ordered as their numbers. -/
import Derived.Test.YtbhpceghgjognaaDoorCivN
import Derived.Test.YtbhpceghgjognaaDoorCivK
import Derived.Test.YtbhpceghgjognaaDoorCivX
namespace Go.Proofs.YtbhpceghgjognaaDoor.Civ
open Go.RowKit Aid
def dg (n k : Nat) : UInt8 := UInt8.ofNat (48 + n / 10 ^ k % 10)
theorem dg_nat (n k : Nat) : (dg n k).toNat = 48 + n / 10 ^ k % 10 := by
  have := Nat.mod_lt (n / 10 ^ k) (show 0 < 10 by omega)
  unfold dg
  rw [UInt8.toNat_ofNat_of_lt' (by show 48 + n / 10 ^ k % 10 < 256; omega)]
theorem dgt_2 (n : Nat) : dgt 2 n = [dg n 1, dg n 0] := by rw [dgt_cons, dgt_cons]; rfl
theorem dgt_4 (n : Nat) : dgt 4 n = [dg n 3, dg n 2, dg n 1, dg n 0] := by rw [dgt_cons, dgt_cons, dgt_2]; rfl
theorem dgt_9 (n : Nat) : dgt 9 n = [dg n 8, dg n 7, dg n 6, dg n 5, dg n 4, dg n 3, dg n 2, dg n 1, dg n 0] := by rw [dgt_cons, dgt_cons, dgt_cons, dgt_cons, dgt_cons, dgt_4]; rfl
theorem textL_list (Y M D H I S N : Nat) : textL Y M D H I S N = [dg Y 3, dg Y 2, dg Y 1, dg Y 0, 45, dg M 1, dg M 0, 45, dg D 1, dg D 0, 84, dg H 1, dg H 0, 58, dg I 1, dg I 0, 58, dg S 1, dg S 0, 46, dg N 8, dg N 7, dg N 6, dg N 5, dg N 4, dg N 3, dg N 2, dg N 1, dg N 0, 90] := by
  unfold textL
  rw [dgt_4, dgt_2, dgt_2, dgt_2, dgt_2, dgt_2, dgt_9]
  rfl
theorem text_size (Y M D H I S N : Nat) : (⟨(textL Y M D H I S N).toArray⟩ : ByteArray).size = 30 := by rw [textL_list]; rfl
theorem byt_text (Y M D H I S N k : Nat) (hk : k < 30) : byt ⟨(textL Y M D H I S N).toArray⟩ k = ([dg Y 3, dg Y 2, dg Y 1, dg Y 0, 45, dg M 1, dg M 0, 45, dg D 1, dg D 0, 84, dg H 1, dg H 0, 58, dg I 1, dg I 0, 58, dg S 1, dg S 0, 46, dg N 8, dg N 7, dg N 6, dg N 5, dg N 4, dg N 3, dg N 2, dg N 1, dg N 0, 90].getD k 0).toNat := by
  rw [← byt_list (by rw [text_size]; exact hk), ← textL_list]
theorem dg_bd (n k : Nat) : 48 ≤ (dg n k).toNat ∧ (dg n k).toNat ≤ 57 := by
  have := Nat.mod_lt (n / 10 ^ k) (show 0 < 10 by omega)
  rw [dg_nat]; omega
def okL : List Nat → List UInt8 → Prop
  | [], [] => True
  | f :: F, c :: T => ((f = 48 ∧ 48 ≤ c.toNat ∧ c.toNat ≤ 57) ∨ (f ≠ 48 ∧ c.toNat = f)) ∧ okL F T
  | _, _ => False
theorem okL_at : ∀ {F : List Nat} {T : List UInt8}, okL F T → ∀ k, k < F.length → (F.getD k 0 = 48 ∧ 48 ≤ (T.getD k 0).toNat ∧ (T.getD k 0).toNat ≤ 57) ∨ (F.getD k 0 ≠ 48 ∧ (T.getD k 0).toNat = F.getD k 0) := by
  intro F
  induction F with
  | nil => intro T _ k hk; simp at hk
  | cons f F ih =>
    intro T h k hk
    cases T with
    | nil => exact absurd h (by simp [okL])
    | cons c T =>
      obtain ⟨h1, h2⟩ : ((f = 48 ∧ 48 ≤ c.toNat ∧ c.toNat ≤ 57) ∨ (f ≠ 48 ∧ c.toNat = f)) ∧ okL F T := h
      cases k with
      | zero => exact h1
      | succ k => exact ih h2 k (by simpa using hk)
theorem okL_dg {n k : Nat} {F : List Nat} {T : List UInt8} (h : okL F T) : okL (48 :: F) (dg n k :: T) := ⟨.inl ⟨rfl, (dg_bd n k).1, (dg_bd n k).2⟩, h⟩
theorem okL_ch {f : Nat} {c : UInt8} {F : List Nat} {T : List UInt8} (h1 : f ≠ 48) (h2 : c.toNat = f) (h : okL F T) : okL (f :: F) (c :: T) := ⟨.inr ⟨h1, h2⟩, h⟩
theorem text_ok (Y M D H I S N : Nat) : okL [48, 48, 48, 48, 45, 48, 48, 45, 48, 48, 84, 48, 48, 58, 48, 48, 58, 48, 48, 46, 48, 48, 48, 48, 48, 48, 48, 48, 48, 90] [dg Y 3, dg Y 2, dg Y 1, dg Y 0, 45, dg M 1, dg M 0, 45, dg D 1, dg D 0, 84, dg H 1, dg H 0, 58, dg I 1, dg I 0, 58, dg S 1, dg S 0, 46, dg N 8, dg N 7, dg N 6, dg N 5, dg N 4, dg N 3, dg N 2, dg N 1, dg N 0, 90] := by
  repeat (first | exact okL_dg (by assumption) | refine okL_dg ?_ | refine okL_ch (by decide) (by rfl) ?_)
  trivial
theorem text_formed (Y M D H I S N : Nat) : Formed ⟨(textL Y M D H I S N).toArray⟩ := by
  refine ⟨text_size Y M D H I S N, fun k hk h => ?_⟩
  rw [byt_at h, byt_text Y M D H I S N k hk]
  exact okL_at (text_ok Y M D H I S N) k hk
theorem val2 {s : ByteArray} {a n : Nat} (hn : n < 100) (h1 : byt s a = (dg n 1).toNat) (h0 : byt s (a + 1) = (dg n 0).toNat) : valT s a 2 = n := by
  have : valT s a 2 = 10 * (10 * 0 + (byt s (a + 0) - 48)) + (byt s (a + 1) - 48) := rfl
  rw [this, Nat.add_zero, h1, h0, dg_nat, dg_nat]
  omega
theorem val4 {s : ByteArray} {a n : Nat} (hn : n < 10000) (h3 : byt s a = (dg n 3).toNat) (h2 : byt s (a + 1) = (dg n 2).toNat) (h1 : byt s (a + 2) = (dg n 1).toNat) (h0 : byt s (a + 3) = (dg n 0).toNat) : valT s a 4 = n := by
  have : valT s a 4 = 10 * (10 * (10 * (10 * 0 + (byt s (a + 0) - 48)) + (byt s (a + 1) - 48)) + (byt s (a + 2) - 48)) + (byt s (a + 3) - 48) := rfl
  rw [this, Nat.add_zero, h3, h2, h1, h0, dg_nat, dg_nat, dg_nat, dg_nat]
  omega
theorem val9 {s : ByteArray} {a n : Nat} (hn : n < 1000000000) (h0 : byt s (a + 0) = (dg n 8).toNat) (h1 : byt s (a + 1) = (dg n 7).toNat) (h2 : byt s (a + 2) = (dg n 6).toNat) (h3 : byt s (a + 3) = (dg n 5).toNat) (h4 : byt s (a + 4) = (dg n 4).toNat) (h5 : byt s (a + 5) = (dg n 3).toNat) (h6 : byt s (a + 6) = (dg n 2).toNat) (h7 : byt s (a + 7) = (dg n 1).toNat) (h8 : byt s (a + 8) = (dg n 0).toNat) : valT s a 9 = n := by
  have : valT s a 9 = 10 * (10 * (10 * (10 * (10 * (10 * (10 * (10 * (10 * 0 + (byt s (a + 0) - 48)) + (byt s (a + 1) - 48)) + (byt s (a + 2) - 48)) + (byt s (a + 3) - 48)) + (byt s (a + 4) - 48)) + (byt s (a + 5) - 48)) + (byt s (a + 6) - 48)) + (byt s (a + 7) - 48)) + (byt s (a + 8) - 48) := rfl
  rw [this, h0, h1, h2, h3, h4, h5, h6, h7, h8]
  simp only [dg_nat]
  omega
theorem text_vals {Y M D H I S N : Nat} (hY : Y < 10000) (hM : M < 100) (hD : D < 100) (hH : H < 100) (hI : I < 100) (hS : S < 100) (hN : N < 1000000000) :
    let s : ByteArray := ⟨(textL Y M D H I S N).toArray⟩
    valT s 0 4 = Y ∧ valT s 5 2 = M ∧ valT s 8 2 = D ∧ valT s 11 2 = H ∧ valT s 14 2 = I ∧ valT s 17 2 = S ∧ valT s 20 9 = N := by
  intro s
  have b := byt_text Y M D H I S N
  refine ⟨val4 hY (b 0 (by omega)) (b 1 (by omega)) (b 2 (by omega)) (b 3 (by omega)), val2 hM (b 5 (by omega)) (b 6 (by omega)), val2 hD (b 8 (by omega)) (b 9 (by omega)), val2 hH (b 11 (by omega)) (b 12 (by omega)), val2 hI (b 14 (by omega)) (b 15 (by omega)), val2 hS (b 17 (by omega)) (b 18 (by omega)), val9 hN (b 20 (by omega)) (b 21 (by omega)) (b 22 (by omega)) (b 23 (by omega)) (b 24 (by omega)) (b 25 (by omega)) (b 26 (by omega)) (b 27 (by omega)) (b 28 (by omega))⟩
theorem less_same (a c d : List UInt8) : Op.bytesLess (a ++ c) (a ++ d) = Op.bytesLess c d := by
  induction a with
  | nil => rfl
  | cons x a ih =>
    show (decide (x < x) || (x == x && Op.bytesLess (a ++ c) (a ++ d))) = _
    rw [ih]; simp
theorem less_apart : ∀ {a b : List UInt8} (c d : List UInt8), a.length = b.length → a ≠ b → Op.bytesLess (a ++ c) (b ++ d) = Op.bytesLess a b := by
  intro a
  induction a with
  | nil =>
    intro b c d h hne
    cases b with
    | nil => exact absurd rfl hne
    | cons y b => simp at h
  | cons x a ih =>
    intro b c d h hne
    cases b with
    | nil => simp at h
    | cons y b =>
      show (decide (x < y) || (x == y && Op.bytesLess (a ++ c) (b ++ d))) = (decide (x < y) || (x == y && Op.bytesLess a b))
      by_cases e : x = y
      · subst e
        rw [ih c d (by simpa using h) (fun q => hne (by rw [q]))]
      · have : (x == y) = false := by simpa using e
        rw [this]; simp
theorem dgt_less (k : Nat) : ∀ n m, n < 10 ^ k → m < 10 ^ k → Op.bytesLess (dgt k n) (dgt k m) = decide (n < m) ∧ (dgt k n = dgt k m → n = m) := by
  induction k with
  | zero =>
    intro n m hn hm
    simp at hn hm
    subst hn hm
    exact ⟨rfl, fun _ => rfl⟩
  | succ k ih =>
    intro n m hn hm
    rw [Nat.pow_succ] at hn hm
    obtain ⟨i1, i2⟩ := ih (n / 10) (m / 10) (by omega) (by omega)
    have n1 := Nat.mod_lt n (show 0 < 10 by omega)
    have m1 := Nat.mod_lt m (show 0 < 10 by omega)
    have cn : (UInt8.ofNat (48 + n % 10)).toNat = 48 + n % 10 := UInt8.toNat_ofNat_of_lt' (by show 48 + n % 10 < 256; omega)
    have cm : (UInt8.ofNat (48 + m % 10)).toNat = 48 + m % 10 := UInt8.toNat_ofNat_of_lt' (by show 48 + m % 10 < 256; omega)
    have ce : UInt8.ofNat (48 + n % 10) = UInt8.ofNat (48 + m % 10) → n % 10 = m % 10 := fun h => by
      have := congrArg UInt8.toNat h
      rw [cn, cm] at this; omega
    show Op.bytesLess (dgt k (n / 10) ++ [UInt8.ofNat (48 + n % 10)]) (dgt k (m / 10) ++ [UInt8.ofNat (48 + m % 10)]) = _ ∧ (dgt k (n / 10) ++ [UInt8.ofNat (48 + n % 10)] = dgt k (m / 10) ++ [UInt8.ofNat (48 + m % 10)] → _)
    by_cases e : n / 10 = m / 10
    · rw [e]
      refine ⟨?_, fun h => ?_⟩
      · rw [less_same]
        show (decide (UInt8.ofNat (48 + n % 10) < UInt8.ofNat (48 + m % 10)) || (UInt8.ofNat (48 + n % 10) == UInt8.ofNat (48 + m % 10) && false)) = _
        rw [Bool.and_false, Bool.or_false]
        apply decide_eq_decide.2
        rw [UInt8.lt_iff_toNat_lt, cn, cm]
        omega
      · have := ce (by simpa using h)
        omega
    · have ne : dgt k (n / 10) ≠ dgt k (m / 10) := fun h => e (i2 h)
      refine ⟨?_, fun h => ?_⟩
      · rw [less_apart _ _ (by rw [dgt_length, dgt_length]) ne, i1]
        apply decide_eq_decide.2
        omega
      · exact absurd (List.append_inj_left h (by rw [dgt_length, dgt_length])) ne
theorem less_dgt {k n m : Nat} (hn : n < 10 ^ k) (hm : m < 10 ^ k) (c d : List UInt8) : Op.bytesLess (dgt k n ++ c) (dgt k m ++ d) = if n = m then Op.bytesLess c d else decide (n < m) := by
  obtain ⟨h1, h2⟩ := dgt_less k n m hn hm
  split
  · rename_i e; subst e; exact less_same _ _ _
  · rename_i e
    rw [less_apart _ _ (by rw [dgt_length, dgt_length]) (fun h => e (h2 h)), h1]
theorem text_less {Y M D H I S N Y' M' D' H' I' S' N' : Nat} (hY : Y < 10000) (hM : M < 100) (hD : D < 100) (hH : H < 100) (hI : I < 100) (hS : S < 100) (hN : N < 1000000000) (hY' : Y' < 10000) (hM' : M' < 100) (hD' : D' < 100) (hH' : H' < 100) (hI' : I' < 100) (hS' : S' < 100) (hN' : N' < 1000000000) :
    Op.bytesLess (textL Y M D H I S N) (textL Y' M' D' H' I' S' N') = if Y = Y' then if M = M' then if D = D' then if H = H' then if I = I' then if S = S' then decide (N < N') else decide (S < S') else decide (I < I') else decide (H < H') else decide (D < D') else decide (M < M') else decide (Y < Y') := by
  unfold textL
  simp only [List.append_assoc]
  rw [less_dgt (k := 4) hY hY', less_same, less_dgt (k := 2) hM hM', less_same, less_dgt (k := 2) hD hD', less_same, less_dgt (k := 2) hH hH', less_same, less_dgt (k := 2) hI hI', less_same, less_dgt (k := 2) hS hS', less_same, less_dgt (k := 9) hN hN']
  by_cases e : N = N'
  · subst e
    have : Op.bytesLess [90] [90] = decide (N < N) := by simp [Op.bytesLess]
    rw [if_pos rfl, this]
  · rw [if_neg e]
end Go.Proofs.YtbhpceghgjognaaDoor.Civ
