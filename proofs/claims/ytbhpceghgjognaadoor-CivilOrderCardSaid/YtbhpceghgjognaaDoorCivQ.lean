/- Layer 5: what the row's listed variables give the walks. -/
import Derived.Test.YtbhpceghgjognaaDoorCivP
import Derived.LaidLaws
import Derived.Lib.LaidTab
import Derived.LaidMore
import Derived.Stop.LaidErr
import Derived.Stop.Joined
import Derived.MakeChecks
namespace Go.Proofs.YtbhpceghgjognaaDoor.Civ
open Go.RowKit Aid
def laidL : List (String × DataW Unit) := [("math/bits.deBruijn32tab", Rows.laid_math_bits_deBruijn32tab), ("math/bits.deBruijn64tab", Rows.laid_math_bits_deBruijn64tab), ("internal/strconv.uint64pow10", Rows.laid_internal_strconv_uint64pow10), ("timesync/civil.monthDays", Rows.laid_timesync_civil_monthDays)]
def monthL : List Int := [31, 28, 31, 30, 31, 30, 31, 31, 30, 31, 30, 31]
theorem pow_data : (Rows.laid_internal_strconv_uint64pow10 : DataW Unit) = Lib.tabData .u64 Lib.pow10Tab := by rfl
theorem month_data : (Rows.laid_timesync_civil_monthDays : DataW Unit) = Lib.tabData .i64 monthL := by rfl
theorem month_name : Tryd.prog.globalNamed "timesync/civil.monthDays" = some 0 := by kernel_rfl
theorem month_type : (Tryd.prog.globals[0]?).map (·.type) = some 47 := by kernel_rfl
theorem pow_type : (Tryd.prog.globals[1]?).map (·.type) = some 89 := by kernel_rfl
theorem of_laid {W : World} (h : laidMetH Tryd.prog laidL W) : Laid5 W := by
  rw [MakeChecks.laidMetH_plain _ _ _ (by kernel_rfl)] at h
  have h1 := laidMet.tail (laidMet.tail h)
  have h2 := laidMet.tail h1
  rw [pow_data] at h1
  rw [month_data] at h2
  have p := Lib.tabIs_of_head pow_name pow_type Tryd.underlying89 Tryd.underlying68 (by kernel_rfl) (by kernel_rfl) h1
  have m := Lib.tabIs_of_head month_name month_type Tryd.underlying47 Tryd.underlying3 (by kernel_rfl) (by kernel_rfl) h2
  have c := fun i hi => m.cell month_name i hi
  exact ⟨⟨c 0 (by decide), c 1 (by decide), c 2 (by decide), c 3 (by decide), c 4 (by decide), c 5 (by decide), c 6 (by decide), c 7 (by decide), c 8 (by decide), c 9 (by decide), c 10 (by decide), c 11 (by decide), World.block_lt_of_cell? W _ (c 0 (by decide))⟩, p, World.block_lt_of_cell? W _ (p.cell pow_name 0 (by decide))⟩
theorem door_met (os : Os) (args : Array Value) : laidMetH Tryd.prog laidL ((World.doorLaid Tryd.prog 400 os).forCall (fun _ _ => 0) ⟨#[], args, []⟩).memory :=
  laidMetH_of_parts3 (fuel := 8) (laidMet_of_run' 8 (by kernel_rfl) (by kernel_rfl)) (by kernel_rfl) (by kernel_rfl)
end Go.Proofs.YtbhpceghgjognaaDoor.Civ
