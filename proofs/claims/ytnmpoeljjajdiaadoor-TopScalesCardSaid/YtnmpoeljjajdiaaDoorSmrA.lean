
/- The contracts of layer 7: the small functions, Check of both. -/
import Derived.Test.YtnmpoeljjajdiaaDoorSmrTab
import Derived.Test.YtnmpoeljjajdiaaDoorLeapB
import Derived.Test.YtnmpoeljjajdiaaDoorLeapC
import Derived.Test.YtnmpoeljjajdiaaDoorFixed
import Derived.Test.YtnmpoeljjajdiaaDoorRone
import Derived.Test.YtnmpoeljjajdiaaDoorQuiet
namespace Go.Proofs.YtnmpoeljjajdiaaDoor.Smr
open Go.RowKit Aid Civ Leap
def instB (t : Int) : Bool := decide (-8000000000000000000 ≤ t ∧ t ≤ 8000000000000000000)
theorem instB_iff {t : Int} : instB t = true ↔ -8000000000000000000 ≤ t ∧ t ≤ 8000000000000000000 := by simp [instB]
theorem instant_any (t : Int) (w : World) : Calls Tryd.prog 26 #[.int .i64 t] w fun e w' => e = .returned (.bool (instB t)) ∧ w = w' := by
  by_cases hc : -8000000000000000000 ≤ t
  · have hd : decide (-8000000000000000000 ≤ t) = true := decide_eq_true hc
    go_enter Tryd.func26, Tryd.ntmps26
    go_wp2
    go_ret
    exact ⟨ret_bool (by simp [instB, hc]), by first | rfl | trivial⟩
  · have hd : decide (-8000000000000000000 ≤ t) = false := decide_eq_false hc
    go_enter Tryd.func26, Tryd.ntmps26
    go_wp2
    go_ret
    exact ⟨ret_bool (by unfold instB; simp; omega), by first | rfl | trivial⟩
theorem bb1 {w : World} (a : Obj) : Below w.heap.size w (w.alloc a) := (Below.refl _ _).alloc (Nat.le_refl _) a
theorem bb2 {w : World} (a b : Obj) : Below w.heap.size w ((w.alloc a).alloc b) := ((Below.refl _ _).alloc (Nat.le_refl _) a).alloc (by simp) b
theorem change_any (a o : Int) (w : World) (ha : -8000000000 ≤ a ∧ a ≤ 8000000000) (ho : -1000 ≤ o ∧ o ≤ 1000) :
    Calls Tryd.prog 40 #[.agg #[.int .i64 a, .int .i64 o]] w fun e w' => e = .returned (.int .i64 ((a + o) * 1000000000)) ∧ Below w.heap.size w w' := by
  obtain ⟨a1, a2⟩ := ha
  obtain ⟨o1, o2⟩ := ho
  go_enter Tryd.func40, Tryd.ntmps40
  go_wp2
  go_ret
  exact ⟨rfl, bb1 _⟩
def bgn (K W a o : Int) : Int := (a + o) * 1000000000 - shf K W
end Go.Proofs.YtnmpoeljjajdiaaDoor.Smr
