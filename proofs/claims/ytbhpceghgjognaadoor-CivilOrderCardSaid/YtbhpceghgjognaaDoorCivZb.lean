/- Plain laws of layer 5: the text of a valid civil time; texts are ordered as the seconds. -/
import Derived.Test.YtbhpceghgjognaaDoorCivZ
import Derived.Test.YtbhpceghgjognaaDoorCivS
namespace Go.Proofs.YtbhpceghgjognaaDoor.Civ
open Go.RowKit Aid
theorem text_of_valid {y d h mi s n : Int} {M : Nat} (v : Valid y (M : Int) d h mi s n) :
    textV y (M : Int) d h mi s n = ⟨(textL y.toNat M d.toNat h.toNat mi.toNat s.toNat n.toNat).toArray⟩ := by
  unfold textV
  rw [if_pos (chkC_of v), Int.toNat_natCast]
theorem text_back {y d h mi s n : Int} {M : Nat} (v : Valid y (M : Int) d h mi s n) :
    chkP (textV y (M : Int) d h mi s n) = 0 ∧ parV (textV y (M : Int) d h mi s n) = .agg #[.int .i64 y, .int .i64 (M : Int), .int .i64 d, .int .i64 h, .int .i64 mi, .int .i64 s, .int .i64 n] := by
  have hd := (md_bd y (M : Int)).2
  have w := chkC_of v
  obtain ⟨a1, a2, b1, b2, c1, c2, d1, d2, f1, f2, g1, g2, k1, k2⟩ := v
  have e := text_vals (Y := y.toNat) (M := M) (D := d.toNat) (H := h.toNat) (I := mi.toNat) (S := s.toNat) (N := n.toNat) (by omega) (by omega) (by omega) (by omega) (by omega) (by omega) (by omega)
  rw [text_of_valid ⟨a1, a2, b1, b2, c1, c2, d1, d2, f1, f2, g1, g2, k1, k2⟩]
  obtain ⟨e1, e2, e3, e4, e5, e6, e7⟩ := e
  unfold chkP parV
  rw [e1, e2, e3, e4, e5, e6, e7]
  rw [show ((y.toNat : Nat) : Int) = y by omega, show ((d.toNat : Nat) : Int) = d by omega, show ((h.toNat : Nat) : Int) = h by omega, show ((mi.toNat : Nat) : Int) = mi by omega, show ((s.toNat : Nat) : Int) = s by omega, show ((n.toNat : Nat) : Int) = n by omega]
  exact ⟨w, rfl⟩
theorem text_form {y d h mi s n : Int} {M : Nat} (v : Valid y (M : Int) d h mi s n) : Formed (textV y (M : Int) d h mi s n) ∧ (textV y (M : Int) d h mi s n).size = 30 := by
  rw [text_of_valid v]
  exact ⟨text_formed _ _ _ _ _ _ _, text_size _ _ _ _ _ _ _⟩
theorem order_of {y d h mi s n y' d' h' mi' s' : Int} {M M' : Nat} (v : Valid y (M : Int) d h mi s n) (v' : Valid y' (M' : Int) d' h' mi' s' 0) :
    Op.bytesLess (textL y.toNat M d.toNat h.toNat mi.toNat s.toNat n.toNat) (textL y'.toNat M' d'.toNat h'.toNat mi'.toNat s'.toNat (0 : Int).toNat) = decide (secN y (M : Int) d h mi s < secN y' (M' : Int) d' h' mi' s') := by
  have hd := (md_bd y (M : Int)).2
  have hd' := (md_bd y' (M' : Int)).2
  obtain ⟨a1, a2, b1, b2, c1, c2, d1, d2, f1, f2, g1, g2, k1, k2⟩ := v
  obtain ⟨a1', a2', b1', b2', c1', c2', d1', d2', f1', f2', g1', g2', k1', k2'⟩ := v'
  rw [text_less (by omega) (by omega) (by omega) (by omega) (by omega) (by omega) (by omega) (by omega) (by omega) (by omega) (by omega) (by omega) (by omega) (by omega)]
  unfold secN
  rw [Int.toNat_natCast, Int.toNat_natCast]
  have o1 : ms y M + d ≤ ms y (M + 1) := by show ms y M + d ≤ ms y M + md y (M : Int); omega
  have o2 := ms_mono (y := y) (show M + 1 ≤ 13 by omega)
  have o3 := ms_mono (y := y) (show 1 ≤ M by omega)
  have p1 : ms y' M' + d' ≤ ms y' (M' + 1) := by show ms y' M' + d' ≤ ms y' M' + md y' (M' : Int); omega
  have p2 := ms_mono (y := y') (show M' + 1 ≤ 13 by omega)
  have p3 := ms_mono (y := y') (show 1 ≤ M' by omega)
  rw [ms_13] at o2 p2
  rw [ms_1] at o3 p3
  have q1 := ys_next y
  have q2 := ys_next y'
  rcases Int.lt_trichotomy y y' with hy | hy | hy
  · have := ys_mono (a := y + 1) (b := y') (by omega)
    rw [if_neg (by omega), decide_eq_decide]
    omega
  · subst hy
    rw [if_pos rfl]
    rcases Nat.lt_trichotomy M M' with hm | hm | hm
    · have := ms_mono (y := y) (show M + 1 ≤ M' by omega)
      rw [if_neg (by omega), decide_eq_decide]
      omega
    · subst hm
      rw [if_pos rfl]
      split
      · split
        · split
          · split
            · rw [decide_eq_decide]; omega
            · rw [decide_eq_decide]; omega
          · rw [decide_eq_decide]; omega
        · rw [decide_eq_decide]; omega
      · rw [decide_eq_decide]; omega
    · have := ms_mono (y := y) (show M' + 1 ≤ M by omega)
      rw [if_neg (by omega), decide_eq_decide]
      omega
  · have := ys_mono (a := y' + 1) (b := y) (by omega)
    rw [if_neg (by omega), decide_eq_decide]
    omega
theorem loop_toList (b : ByteArray) : ∀ (k i : Nat) (r : List UInt8), k = b.size - i → ByteArray.toList.loop b i r = r.reverse ++ b.data.toList.drop i := by
  intro k
  induction k with
  | zero =>
    intro i r h
    unfold ByteArray.toList.loop
    rw [if_neg (by omega), List.drop_eq_nil_of_le (by show b.data.toList.length ≤ i; rw [Array.length_toList]; show b.size ≤ i; omega), List.append_nil]
  | succ k ih =>
    intro i r h
    unfold ByteArray.toList.loop
    rw [if_pos (by omega), ih (i + 1) _ (by omega)]
    have hl : i < b.data.toList.length := by rw [Array.length_toList]; show i < b.size; omega
    rw [List.drop_eq_getElem_cons hl, List.reverse_cons, List.append_assoc]
    congr 1
    have hi : i < b.size := by omega
    show ([b.get! i] ++ _ : List UInt8) = _
    rw [List.singleton_append]
    congr 1
    show b.data[i]! = _
    rw [getElem!_pos b.data i (by show i < b.size; omega)]
    simp
theorem bs_toList (l : List UInt8) : (⟨l.toArray⟩ : ByteArray).toList = l := by
  unfold ByteArray.toList
  rw [loop_toList _ _ 0 [] rfl]
  simp
theorem order_text {y d h mi s n y' d' h' mi' s' : Int} {M M' : Nat} (v : Valid y (M : Int) d h mi s n) (v' : Valid y' (M' : Int) d' h' mi' s' 0) :
    Op.bytesLess (textV y (M : Int) d h mi s n).toList (textV y' (M' : Int) d' h' mi' s' 0).toList = decide (secN y (M : Int) d h mi s < secN y' (M' : Int) d' h' mi' s') := by
  rw [text_of_valid v, text_of_valid v', bs_toList, bs_toList]
  exact order_of v v'
end Go.Proofs.YtbhpceghgjognaaDoor.Civ
