/- The walk of the law ReachStays, for whatever register. -/
import Derived.Test.YtblegmmljegmaaaReachStays
namespace Go.Proofs.Ytblegmmljegmaaa.Rch
open Go.RowKit Aid
theorem ReachStays_walk (bits poll mn mx cnt : Int) (a : Option Addr) (n cap : Nat) (K O J : Nat → Int) (w : World) (hnc : n ≤ cap) (hcap : cap ≤ 9223372036854775807) (hnone : a = none → cap = 0) (hp : DeedAt w a n K O J) :
    Calls Try.prog 7 #[.agg #[.int .i64 bits, .int .i64 poll, .int .i64 mn, .int .i64 mx, .int .i64 cnt], .slice a n cap] w fun e w' => e = .returned (.bool true) ∧ Below w.heap.size w w' := by
  by_cases hz : chk ⟨bits, poll, mn, mx, cnt⟩ = 0
  · exact ReachStays_good ⟨bits, poll, mn, mx, cnt⟩ a n cap K O J w hnc hcap hnone hp (chk_ok hz)
  · exact ReachStays_bad bits poll mn mx cnt a n cap w hz
end Go.Proofs.Ytblegmmljegmaaa.Rch
