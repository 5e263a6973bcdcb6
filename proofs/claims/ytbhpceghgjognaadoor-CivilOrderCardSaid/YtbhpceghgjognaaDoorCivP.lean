/- Layer 5: the examples of the chapter (awake). -/
import Derived.Test.YtbhpceghgjognaaDoorCivO
import Derived.Test.YtbhpceghgjognaaDoorCivV
namespace Go.Proofs.YtbhpceghgjognaaDoor.Civ
open Go.RowKit Aid
theorem date_a : dateOf (-1) = (1899, 12, 31) := dateOf_eq (by decide) (by constructor <;> decide)
theorem date_b : dateOf 26297 = (1972, 1, 1) := dateOf_eq (by decide) (by constructor <;> decide)
theorem date_z : dateOf 0 = (1900, 1, 1) := dateOf_eq (by decide) (by constructor <;> decide)
theorem of_a (w : World) (l : Laid w) : Calls Tryd.prog 11 #[.int .i64 (-1)] w fun e w' => e = .returned (.tuple #[.agg #[.int .i64 1899, .int .i64 12, .int .i64 31, .int .i64 23, .int .i64 59, .int .i64 59, .int .i64 0], .int .i64 0]) ∧ Below w.heap.size w w' := by
  have := Of_ok (-1) w l (by omega)
  rwa [show ofV (-1) = .agg #[.int .i64 1899, .int .i64 12, .int .i64 31, .int .i64 23, .int .i64 59, .int .i64 59, .int .i64 0] by unfold ofV; rw [show (-1 : Int) / 86400 = -1 from rfl, date_a]; rfl] at this
theorem of_b (w : World) (l : Laid w) : Calls Tryd.prog 11 #[.int .i64 2272060800] w fun e w' => e = .returned (.tuple #[.agg #[.int .i64 1972, .int .i64 1, .int .i64 1, .int .i64 0, .int .i64 0, .int .i64 0, .int .i64 0], .int .i64 0]) ∧ Below w.heap.size w w' := by
  have := Of_ok 2272060800 w l (by omega)
  rwa [show ofV 2272060800 = .agg #[.int .i64 1972, .int .i64 1, .int .i64 1, .int .i64 0, .int .i64 0, .int .i64 0, .int .i64 0] by unfold ofV; rw [show (2272060800 : Int) / 86400 = 26297 from rfl, date_b]; rfl] at this
theorem of_z (w : World) (l : Laid w) : Calls Tryd.prog 11 #[.int .i64 0] w fun e w' => e = .returned (.tuple #[.agg #[.int .i64 1900, .int .i64 1, .int .i64 1, .int .i64 0, .int .i64 0, .int .i64 0, .int .i64 0], .int .i64 0]) ∧ Below w.heap.size w w' := by
  have := Of_ok 0 w l (by omega)
  rwa [show ofV 0 = .agg #[.int .i64 1900, .int .i64 1, .int .i64 1, .int .i64 0, .int .i64 0, .int .i64 0, .int .i64 0] by unfold ofV; rw [show (0 : Int) / 86400 = 0 from rfl, date_z]; rfl] at this
def exS : ByteArray := ⟨#[50, 48, 49, 54, 45, 49, 50, 45, 51, 49, 84, 50, 51, 58, 53, 57, 58, 54, 48, 46, 48, 48, 48, 48, 48, 48, 48, 48, 48, 90]⟩
theorem ex_good : ∀ k : Fin 30, (formN k.val = 48 ∧ 48 ≤ (exS[k.val]'k.isLt).toNat ∧ (exS[k.val]'k.isLt).toNat ≤ 57) ∨ (formN k.val ≠ 48 ∧ (exS[k.val]'k.isLt).toNat = formN k.val) := by decide +kernel
theorem ex_formed : Formed exS := ⟨rfl, fun k hk _ => ex_good ⟨k, hk⟩⟩
theorem ex_chk : chkP exS = 3 := by decide +kernel
theorem parse_ex (w : World) (l : Laid w) : Calls Tryd.prog 14 #[.string ⟨#[50, 48, 49, 54, 45, 49, 50, 45, 51, 49, 84, 50, 51, 58, 53, 57, 58, 54, 48, 46, 48, 48, 48, 48, 48, 48, 48, 48, 48, 90]⟩] w fun e w' => e = .returned (.tuple #[.agg #[.int .i64 0, .int .i64 0, .int .i64 0, .int .i64 0, .int .i64 0, .int .i64 0, .int .i64 0], .int .i64 3]) ∧ Below w.heap.size w w' :=
  Parse_good exS w l ex_formed 3 ex_chk
def exT : ByteArray := ⟨#[49, 57, 48, 48, 45, 48, 49, 45, 48, 49, 84, 48, 48, 58, 48, 48, 58, 48, 48, 46, 48, 48, 48, 48, 48, 48, 48, 48, 48, 90]⟩
theorem ex_text : textV 1900 1 1 0 0 0 0 = exT := by decide +kernel
theorem text_ex (w : World) (l : Laid5 w) : Calls Tryd.prog 16 #[.agg #[.int .i64 1900, .int .i64 1, .int .i64 1, .int .i64 0, .int .i64 0, .int .i64 0, .int .i64 0]] w fun e w' => e = .returned (.string ⟨#[49, 57, 48, 48, 45, 48, 49, 45, 48, 49, 84, 48, 48, 58, 48, 48, 58, 48, 48, 46, 48, 48, 48, 48, 48, 48, 48, 48, 48, 90]⟩) ∧ Below w.heap.size w w' := by
  have := Text_any 1900 1 1 0 0 0 0 w l
  rwa [ex_text] at this
theorem mjd_ex (w : World) : Calls Tryd.prog 20 #[.int .i64 2208988800] w fun e w' => e = .returned (.int .i64 40587) ∧ ∃ n, w' = w.drewN n := MJD_any 2208988800 w (by omega) (by omega)
theorem days_ex (w : World) (l : Laid w) : Calls Tryd.prog 22 #[.int .i64 2000, .int .i64 2] w fun e w' => e = .returned (.int .i64 29) ∧ w = w' := MonthDays_any 2000 2 w l
set_option maxRecDepth 100000 in
set_option maxHeartbeats 3200000 in
theorem awake_any (w : World) (l : Laid5 w) : Calls Tryd.prog 13 #[] w fun e w' => e = .returned (.bool true) ∧ Below w.heap.size w w' := by
  have hL : ∀ W, Below w.heap.size w W → Laid5 W := fun W h => l.step h
  have HL := hide hL
  have C1 := hide (of_a w l.laid)
  have C2 := hide of_b
  have C3 := hide parse_ex
  have C4 := hide of_z
  have C5 := hide text_ex
  have C6 := hide mjd_ex
  have C7 := hide days_ex
  clear hL l
  go_enter Tryd.func13, Tryd.ntmps13
  go_wp2_with fail
  refine C1.out.mono ?_
  rintro e w1 ⟨rfl, h1⟩
  have a1 := h1.alloc h1.size (.cells #[.int .i64 1899, .int .i64 12, .int .i64 31, .int .i64 23, .int .i64 59, .int .i64 59, .int .i64 0] 23)
  have B1 := hide (Box7.new w1 1899 12 31 23 59 59 0)
  have A1 := hide a1
  have G2 := hide (C2.out _ (HL.out _ a1).laid)
  clear a1 C1 C2 h1
  go_wp2_with fail
  with_reducible refine G2.out.mono ?_
  rintro e w2 ⟨rfl, h2⟩
  have b2 := A1.out.trans (h2.mono A1.out.size)
  have a2 := b2.alloc b2.size (.cells #[.int .i64 1972, .int .i64 1, .int .i64 1, .int .i64 0, .int .i64 0, .int .i64 0, .int .i64 0] 23)
  have B1' := hide ((B1.out.step h2).step ((Below.refl _ _).alloc (Nat.le_refl _) (.cells #[.int .i64 1972, .int .i64 1, .int .i64 1, .int .i64 0, .int .i64 0, .int .i64 0, .int .i64 0] 23)))
  have B2 := hide (Box7.new w2 1972 1 1 0 0 0 0)
  have A2 := hide a2
  have G3 := hide (C3.out _ (HL.out _ a2).laid)
  clear a2 C3 h2 b2 B1 A1 G2
  go_wp2_with fail
  with_reducible refine G3.out.mono ?_
  rintro e w3 ⟨rfl, h3⟩
  have b3 := A2.out.trans (h3.mono A2.out.size)
  have a3 := b3.alloc b3.size (.cells #[.int .i64 0, .int .i64 0, .int .i64 0, .int .i64 0, .int .i64 0, .int .i64 0, .int .i64 0] 23)
  have B1 := hide ((B1'.out.step h3).step ((Below.refl _ _).alloc (Nat.le_refl _) (.cells #[.int .i64 0, .int .i64 0, .int .i64 0, .int .i64 0, .int .i64 0, .int .i64 0, .int .i64 0] 23)))
  have B2' := hide ((B2.out.step h3).step ((Below.refl _ _).alloc (Nat.le_refl _) (.cells #[.int .i64 0, .int .i64 0, .int .i64 0, .int .i64 0, .int .i64 0, .int .i64 0, .int .i64 0] 23)))
  have A3 := hide a3
  have G4 := hide (C4.out _ (HL.out _ a3).laid)
  clear a3 C4 h3 b3 B1' B2 A2 G3
  go_wp2_with fail
  with_reducible refine G4.out.mono ?_
  rintro e w4 ⟨rfl, h4⟩
  have b4 := A3.out.trans (h4.mono A3.out.size)
  have a4 := b4.alloc b4.size (.cells #[.int .i64 1900, .int .i64 1, .int .i64 1, .int .i64 0, .int .i64 0, .int .i64 0, .int .i64 0] 23)
  obtain ⟨p0, p1, p2, p3, p4, p5, p6, pf, plt⟩ := B1.out.step h4
  obtain ⟨q0, q1, q2, q3, q4, q5, q6, qf, qlt⟩ := B2'.out.step h4
  have A4 := hide a4
  have G5 := hide (C5.out _ (HL.out _ a4))
  clear a4 C5 h4 b4 B1 B2' A3 G4
  go_wp2_with fail
  with_reducible refine G5.out.mono ?_
  rintro e w5 ⟨rfl, h5⟩
  have b5 := A4.out.trans (h5.mono A4.out.size)
  have A5 := hide b5
  clear h5 b5 p0 p1 p2 p3 p4 p5 p6 pf plt q0 q1 q2 q3 q4 q5 q6 qf qlt A4 G5
  go_wp2_with fail
  refine (C6.out _).mono ?_
  rintro e w' ⟨rfl, n, rfl⟩
  have G7 := hide (C7.out _ (HL.out _ (below_drewN A5.out n)).laid)
  go_wp2_with fail
  refine G7.out.mono ?_
  rintro e w' ⟨rfl, rfl⟩
  go_wp2
  go_ret
  exact ⟨rfl, below_drewN A5.out n⟩
end Go.Proofs.YtbhpceghgjognaaDoor.Civ
