/- Layer 5: numbers as digits: pad of the package, digits of the reference. -/
import Derived.Test.YtbhpceghgjognaaDoorCivH
import Derived.Test.YtbhpceghgjognaaDoorShelf
import Derived.WalkSmall
namespace Go.Proofs.YtbhpceghgjognaaDoor.Civ
open Go.RowKit Aid
/-- the last k decimal digits of a number -/
def dgt : Nat → Nat → List UInt8
  | 0, _ => []
  | k + 1, n => dgt k (n / 10) ++ [UInt8.ofNat (48 + n % 10)]
theorem dgt_length (k : Nat) : ∀ n, (dgt k n).length = k := by
  induction k with
  | zero => intro n; rfl
  | succ k ih => intro n; simp [dgt, ih]
theorem dgt_zero (k : Nat) : dgt k 0 = Lib.repeatL [48] k := by
  induction k with
  | zero => rfl
  | succ k ih =>
    show dgt k (0 / 10) ++ [UInt8.ofNat (48 + 0 % 10)] = Lib.repeatL [48] (k + 1)
    rw [Lib.repeatL_add, Nat.zero_div, ih]; rfl
theorem dgt_cons (k : Nat) : ∀ n, dgt (k + 1) n = UInt8.ofNat (48 + n / 10 ^ k % 10) :: dgt k n := by
  induction k with
  | zero => intro n; simp [dgt]
  | succ k ih =>
    intro n
    show dgt (k + 1) (n / 10) ++ [UInt8.ofNat (48 + n % 10)] = _
    rw [ih (n / 10), List.cons_append]
    congr 2
    rw [Nat.div_div_eq_div_mul, Nat.pow_succ, Nat.mul_comm]
theorem dgt_pad (k : Nat) : ∀ n, 1 ≤ k → n < 10 ^ k → Lib.nDigits n ≤ k ∧ Lib.repeatL [48] (k - Lib.nDigits n) ++ Lib.decDigits n = dgt k n := by
  induction k with
  | zero => intro n h; omega
  | succ k ih =>
    intro n _ hn
    by_cases h : n < 10
    · rw [Lib.nDigits_small h, Lib.decDigits_one h]
      refine ⟨by omega, ?_⟩
      show _ = dgt k (n / 10) ++ [UInt8.ofNat (48 + n % 10)]
      rw [show n / 10 = 0 by omega, dgt_zero, show n % 10 = n by omega]; rfl
    · have hk : 1 ≤ k := by
        rcases Nat.eq_zero_or_pos k with e | e
        · subst e; simp at hn; omega
        · exact e
      obtain ⟨h1, h2⟩ := ih (n / 10) hk (by rw [Nat.pow_succ] at hn; omega)
      rw [Lib.nDigits_big h, Lib.decDigits, dif_neg h]
      refine ⟨by omega, ?_⟩
      show _ = dgt k (n / 10) ++ [UInt8.ofNat (48 + n % 10)]
      rw [← h2, ← List.append_assoc, show k + 1 - (Lib.nDigits (n / 10) + 1) = k - Lib.nDigits (n / 10) by omega]
structure Laid5 (w : World) : Prop where
  laid : Laid w
  pow : Lib.TabIs Tryd.prog w "internal/strconv.uint64pow10" .u64 Lib.pow10Tab
  lt : 1 < w.heap.size
theorem pow_name : Tryd.prog.globalNamed "internal/strconv.uint64pow10" = some 1 := by kernel_rfl
theorem Laid5.under {B : Nat} {w w' : World} (l : Laid5 w) (h : Below B w w') (h1 : 0 < B) (h2 : 1 < B) : Laid5 w' :=
  ⟨l.laid.under h h1, var?_below h pow_name h2 l.pow, Nat.lt_of_lt_of_le l.lt h.size⟩
theorem Laid5.step {w w' : World} (l : Laid5 w) (h : Below w.heap.size w w') : Laid5 w' := l.under h l.laid.lt l.lt
theorem below_grow (w : World) (k : Nat) (os : Array Obj) : Below w.heap.size w (Go.Sort.grow (w.drewN k) os) :=
  ⟨rfl, rfl, rfl, by simp [Go.Sort.grow, World.drewN], fun i hi => by
    show (w.heap ++ os)[i]? = w.heap[i]?
    rw [Array.getElem?_append_left hi]⟩
theorem Itoa_any (n : Nat) (hn : n ≤ 999999999) (w : World) (l : Laid5 w) : Calls Tryd.prog 42 #[.int .i64 n] w fun e w' => e = .returned (.string ⟨(Lib.decDigits n).toArray⟩) ∧ Below w.heap.size w w' := by
  refine (Tryd.strconv_Itoa (n : Int) (by omega) (by omega) w l.pow).mono ?_
  rintro e w' ⟨rfl, k, os, rfl⟩
  exact ⟨by rw [show Lib.itoa (n : Int) = Lib.decDigits n by unfold Lib.itoa; rw [if_neg (by omega)]; simp], below_grow w k os⟩
theorem bs_append (a b : List UInt8) : (⟨a.toArray⟩ : ByteArray) ++ (⟨b.toArray⟩ : ByteArray) = ⟨(a ++ b).toArray⟩ := by
  apply ByteArray.ext
  simp
set_option maxRecDepth 100000 in
theorem pad_any (n k : Nat) (hn : n ≤ 999999999) (hk : 1 ≤ k) (hk9 : k ≤ 9) (hnk : n < 10 ^ k) (w : World) (l : Laid5 w) :
    Calls Tryd.prog 37 #[.int .i64 n, .int .i64 k] w fun e w' => e = .returned (.string ⟨(dgt k n).toArray⟩) ∧ Below w.heap.size w w' := by
  have I := hide (Itoa_any n hn w l)
  obtain ⟨h1, h2⟩ := dgt_pad k n hk hnk
  have hlen := Lib.decDigits_length n
  have R := hide fun W => Tryd.strings_Repeat ⟨#[48]⟩ (k - Lib.nDigits n) W (by omega) (by show 1 * _ ≤ _; omega)
  rw [show ((k - Lib.nDigits n : Nat) : Int) = max 0 ((k : Int) - (Lib.nDigits n : Int)) by omega] at R
  go_enter Tryd.func37, Tryd.ntmps37
  go_wp2_with fail
  refine I.out.mono ?_
  rintro e w1 ⟨rfl, hb⟩
  have hno : ¬ 9223372036854775807 < (Lib.repeatL [48] (k - Lib.nDigits n)).length + Lib.nDigits n := by
    rw [Lib.repeatL_length]; show ¬ _ < _ * 1 + _; omega
  have HB := hide hb
  have HD := hide h2
  clear hb h2
  go_wp2_with fail
  refine (R.out _).mono ?_
  rintro e w2 ⟨rfl, hb⟩
  go_wp2
  go_ret
  refine ⟨?_, HB.out.trans (hb.mono HB.out.size)⟩
  rw [← HD.out, ← bs_append]
  rfl
end Go.Proofs.YtbhpceghgjognaaDoor.Civ
