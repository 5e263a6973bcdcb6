
/- Layers 6, 7, 54: what the row's listed variable gives the walks; how tables and entries among the arguments are opened. -/
import Derived.Test.YtnmpoeljjajdiaaDoorLeapPlain
import Derived.Test.YtnmpoeljjajdiaaDoorOpen
import Derived.LaidLaws
import Derived.Lib.LaidTab
import Derived.LaidMore
import Derived.Stop.LaidErr
import Derived.Stop.Joined
import Derived.MakeChecks
namespace Go.Proofs.YtnmpoeljjajdiaaDoor.Leap
open Go.RowKit Aid Civ Opn Go.Joins Go.ChangeShapes Go.WideShapes
def laidL : List (String × DataW Unit) := [("timesync/civil.monthDays", Rows.laid_timesync_civil_monthDays)]
def monthL : List Int := [31, 28, 31, 30, 31, 30, 31, 31, 30, 31, 30, 31]
theorem month_data : (Rows.laid_timesync_civil_monthDays : DataW Unit) = Lib.tabData .i64 monthL := by rfl
theorem month_name : Tryd.prog.globalNamed "timesync/civil.monthDays" = some 0 := by kernel_rfl
theorem month_type : (Tryd.prog.globals[0]?).map (·.type) = some 76 := by kernel_rfl
theorem of_laid {W : World} (h : laidMetH Tryd.prog laidL W) : Laid W := by
  rw [MakeChecks.laidMetH_plain _ _ _ (by kernel_rfl)] at h
  have h2 := h
  unfold laidL at h2
  rw [month_data] at h2
  have m := Lib.tabIs_of_head month_name month_type Tryd.underlying76 Tryd.underlying3 (by kernel_rfl) (by kernel_rfl) h2
  have c := fun i hi => m.cell month_name i hi
  exact ⟨c 0 (by decide), c 1 (by decide), c 2 (by decide), c 3 (by decide), c 4 (by decide), c 5 (by decide), c 6 (by decide), c 7 (by decide), c 8 (by decide), c 9 (by decide), c 10 (by decide), c 11 (by decide), World.block_lt_of_cell? W _ (c 0 (by decide))⟩
theorem door_met (os : Os) (args : Array Value) : laidMetH Tryd.prog laidL ((World.doorLaid Tryd.prog 400 os).forCall (fun _ _ => 0) ⟨#[], args, []⟩).memory :=
  laidMetH_of_parts3 (fuel := 8) (laidMet_of_run' 8 (by kernel_rfl) (by kernel_rfl)) (by kernel_rfl) (by kernel_rfl)
theorem ents_open {H : Type} {enc : TypeId × Value → H} {w : World} {base : Nat} {spare : Nat → Bool} {held : Bool} {fuel : Nat} {v : Value} {x : DataW H × List MemPlace}
    (h : DataW.trod enc Tryd.prog w base spare held fuel 22 [v] = some x) : ∃ (a : Option Addr) (n cap : Nat) (A O : Nat → Int), v = .slice a n cap ∧ Ents w a n A O := by
  obtain ⟨a, n, cap, e, hn, hc⟩ := slice_ints Tryd.underlying22 Tryd.underlying44 (by kernel_rfl) (by kernel_rfl) (by decide) (by
    intro j f hj
    match j, hj with
    | 0, hj => cases hj; exact Tryd.underlying3
    | 1, hj => cases hj; exact Tryd.underlying3) h
  refine ⟨a, n, cap, fun i => intAt w a (i * 2), fun i => intAt w a (i * 2 + 1), e, ⟨by omega, fun h0 => ?_⟩⟩
  obtain ⟨b, off, ha, hb, hf⟩ := hc h0
  exact ⟨b, off, ha, hb, fun i hi => ⟨(hf i hi 0 (by decide)).1, (hf i hi 1 (by decide)).1⟩⟩
theorem open_tab {H : Type} {enc : TypeId × Value → H} {w : World} {base : Nat} {spare : Nat → Bool} {held : Bool} {r : Reach} {b0 : Nat} {v : Value} {d : DataW H} {p : List MemPlace}
    (hv : Value.okWide Tryd.prog w r b0 24 v) (h : DataW.Trod enc Tryd.prog w base spare held 24 v d p) :
    ∃ (B X : Int) (a : Option Addr) (n cap : Nat) (A O : Nat → Int), v = .agg #[.int .i64 B, .int .i64 X, .slice a n cap] ∧ Ents w a n A O := by
  obtain ⟨c0, c1, c2, y0, y1, y2, m, hv, _, _, hy0, hy1, hy2⟩ := open_agg3 Tryd.underlying24 (by kernel_rfl) (by kernel_rfl) hv h
  obtain ⟨B, hB, _, _⟩ := DataW.trod_int Tryd.underlying3 hy0
  obtain ⟨X, hX, _, _⟩ := DataW.trod_int Tryd.underlying3 hy1
  obtain ⟨a, n, cap, A, O, hs, hr⟩ := ents_open hy2
  simp only [List.cons.injEq, and_true] at hB hX
  subst hB hX hs
  exact ⟨B, X, a, n, cap, A, O, hv, hr⟩
end Go.Proofs.YtnmpoeljjajdiaaDoor.Leap
