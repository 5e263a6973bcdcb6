/- The walk of the law OscSplits, joined: for every oscillator and every two times it returns true. -/
import Derived.Test.YtcfmjoadbamdiaaSplitA
import Derived.Test.YtcfmjoadbamdiaaSplitN
import Derived.Test.YtcfmjoadbamdiaaSplitO
import Derived.Test.YtcfmjoadbamdiaaSplitP
namespace Go.Proofs.Ytcfmjoadbamdiaa.OscW
open Go.RowKit OscP Aid App
theorem OscSplits_walk (ph : Int) (a : Option Addr) (n cap : Nat) (A P : Nat → Int) (at_ t : Int) (w : World) (hr : SegsAt w a n A P) (hcap : n ≤ cap ∧ cap ≤ 9223372036854775807) :
    Calls Try.prog 4 #[.agg #[.int .i64 ph, .slice a n cap], .int .i64 at_, .int .i64 t] w fun e w' => e = .returned (.bool true) ∧ Below w.heap.size w w' := by
  by_cases ho : at_ < 1 ∨ 1125899906842624 < at_
  · exact Splits_out ph a n cap A P at_ t w hr ho
  have h1 : 1 ≤ at_ := by omega
  have h2 : at_ ≤ 1125899906842624 := by omega
  by_cases hz : chk ph A P n ≠ 0 ∨ 16 ≤ n
  · exact Splits_bad ph a n cap A P at_ t w hr h1 h2 hz
  have hz0 : chk ph A P n = 0 := Classical.byContradiction fun h => hz (.inl h)
  have hn : n < 16 := by omega
  obtain ⟨K, k1, k2, k3⟩ := place_ex A at_ n
  by_cases hK : K < n
  · by_cases he : A K = at_
    · exact Splits_at ph a n cap A P at_ t w hr h1 h2 hz0 hn K hK k2 he
    · have h3 := k3 hK
      exact Splits_lt ph a n cap A P at_ t w hr hcap h1 h2 hz0 hn K hK (by omega) k2
  · by_cases hc : cap = K
    · exact Splits_full ph a n cap A P at_ t w hr hcap h1 h2 hz0 hn K k1 (by omega) hc.symm k2
    · exact Splits_end ph a n cap A P at_ t w hr hcap h1 h2 hz0 hn K k1 (by omega) hc k2
end Go.Proofs.Ytcfmjoadbamdiaa.OscW
