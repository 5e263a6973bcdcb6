/-
  No cell of these rows narrows 'for every input' (looked for: loops, veiled, ifaces, maps, wideKeys, modest, calm, conditions, laid).
  DERIVED. THE GIVEN ROWS OF THIS SEAT. 6 by the template 'for every input the law returns true; each argument reads behind the call as it read before'; 0 by the template 'total and deterministic' (their statements: YtblegmmljegmaaaTotals.lean).
  GIVEN WITH THE SEED: the statements are not yours to turn. If you find one false, say at which input.
  Laid BY PROGRAM, IN A SANDBOX (cutbox-rows.mjs): the forced cells as the released guide's own fill.sh prints them over the translation dfefa195c6caceab… (all of the seat's roots in one cut). By AI agents, Wed Nov 11 2026. No macro, syntax, notation, axiom, sorry.
-/
import Derived.Test.YtblegmmljegmaaaChecked
import GoSem.Claim
import GoSem.ClaimJoined
import GoSem.ClaimMapViews
import Derived.JoinedTies
import Derived.KernelRfl
namespace Go.Proofs.Ytblegmmljegmaaa
/- THE CELL 'sum', in the pinned program and in every row, IS THE sha256 OF THE DUMP (.gsa) THAT YtblegmmljegmaaaProg.lean LOADS. Nothing in Lean hashes anything: it is a label: what it is worth is what the hold of that sum in a sandbox is worth. -/
noncomputable def Try.pinned : Pinned := { name := "ytblegmmljegmaaa", sum := "dfefa195c6caceab5c67940f5cb464482f5bc8271f85c80dff983c7214ffb976", checked := Try.checked }
namespace Rows
def none {H : Type} : Left H := { results := [], args := [] }

/-- 'timesynclaw27.ReachAdapts': WHATEVER THE INPUT: true; the input reads as it did. -/
def reachAdaptsSpec : ChangeSpec := { name := "reachAdapts", fn := fun _ => fun
  | [d1, d2, d3] => { results := [.lit (.bool true)], args := [d1, d2, d3] }
  | _ => none }
def reachAdaptsRow : OpenClaim := { program := "ytblegmmljegmaaa", sum := "dfefa195c6caceab5c67940f5cb464482f5bc8271f85c80dff983c7214ffb976", func := "timesync/timesynclaw27.ReachAdapts", spec := "reachAdapts", apart := false }
def ReachAdaptsSaid : Prop := reachAdaptsRow.holds Try.pinned (OpenSpec.ofChange reachAdaptsSpec)

/-- ITS FALSE NEIGHBOUR: 'it returns false'. Refute it at one input. -/
def reachAdaptsWrong : ChangeSpec := { name := "reachAdapts", fn := fun _ => fun
  | [d1, d2, d3] => { results := [.lit (.bool false)], args := [d1, d2, d3] }
  | _ => none }
def ReachAdaptsWrongFalsely : Prop := reachAdaptsRow.holds Try.pinned (OpenSpec.ofChange reachAdaptsWrong)

/-- 'timesynclaw27.ReachChecks': WHATEVER THE INPUT: true; the input reads as it did. -/
def reachChecksSpec : ChangeSpec := { name := "reachChecks", fn := fun _ => fun
  | [d] => { results := [.lit (.bool true)], args := [d] }
  | _ => none }
def reachChecksRow : OpenClaim := { program := "ytblegmmljegmaaa", sum := "dfefa195c6caceab5c67940f5cb464482f5bc8271f85c80dff983c7214ffb976", func := "timesync/timesynclaw27.ReachChecks", spec := "reachChecks", apart := false }
def ReachChecksSaid : Prop := reachChecksRow.holds Try.pinned (OpenSpec.ofChange reachChecksSpec)

/-- ITS FALSE NEIGHBOUR: 'it returns false'. Refute it at one input. -/
def reachChecksWrong : ChangeSpec := { name := "reachChecks", fn := fun _ => fun
  | [d] => { results := [.lit (.bool false)], args := [d] }
  | _ => none }
def ReachChecksWrongFalsely : Prop := reachChecksRow.holds Try.pinned (OpenSpec.ofChange reachChecksWrong)

/-- 'timesynclaw27.ReachHistory': WHATEVER THE INPUT: true; the input reads as it did. -/
def reachHistorySpec : ChangeSpec := { name := "reachHistory", fn := fun _ => fun
  | [d] => { results := [.lit (.bool true)], args := [d] }
  | _ => none }
def reachHistoryRow : OpenClaim := { program := "ytblegmmljegmaaa", sum := "dfefa195c6caceab5c67940f5cb464482f5bc8271f85c80dff983c7214ffb976", func := "timesync/timesynclaw27.ReachHistory", spec := "reachHistory", apart := false }
def ReachHistorySaid : Prop := reachHistoryRow.holds Try.pinned (OpenSpec.ofChange reachHistorySpec)

/-- ITS FALSE NEIGHBOUR: 'it returns false'. Refute it at one input. -/
def reachHistoryWrong : ChangeSpec := { name := "reachHistory", fn := fun _ => fun
  | [d] => { results := [.lit (.bool false)], args := [d] }
  | _ => none }
def ReachHistoryWrongFalsely : Prop := reachHistoryRow.holds Try.pinned (OpenSpec.ofChange reachHistoryWrong)

/-- 'timesynclaw27.ReachShifts': WHATEVER THE INPUT: true; the input reads as it did. -/
def reachShiftsSpec : ChangeSpec := { name := "reachShifts", fn := fun _ => fun
  | [d1, d2] => { results := [.lit (.bool true)], args := [d1, d2] }
  | _ => none }
def reachShiftsRow : OpenClaim := { program := "ytblegmmljegmaaa", sum := "dfefa195c6caceab5c67940f5cb464482f5bc8271f85c80dff983c7214ffb976", func := "timesync/timesynclaw27.ReachShifts", spec := "reachShifts", apart := false }
def ReachShiftsSaid : Prop := reachShiftsRow.holds Try.pinned (OpenSpec.ofChange reachShiftsSpec)

/-- ITS FALSE NEIGHBOUR: 'it returns false'. Refute it at one input. -/
def reachShiftsWrong : ChangeSpec := { name := "reachShifts", fn := fun _ => fun
  | [d1, d2] => { results := [.lit (.bool false)], args := [d1, d2] }
  | _ => none }
def ReachShiftsWrongFalsely : Prop := reachShiftsRow.holds Try.pinned (OpenSpec.ofChange reachShiftsWrong)

/-- 'timesynclaw27.ReachStays': WHATEVER THE INPUT: true; the input reads as it did. -/
def reachStaysSpec : ChangeSpec := { name := "reachStays", fn := fun _ => fun
  | [d1, d2] => { results := [.lit (.bool true)], args := [d1, d2] }
  | _ => none }
def reachStaysRow : OpenClaim := { program := "ytblegmmljegmaaa", sum := "dfefa195c6caceab5c67940f5cb464482f5bc8271f85c80dff983c7214ffb976", func := "timesync/timesynclaw27.ReachStays", spec := "reachStays", apart := false }
def ReachStaysSaid : Prop := reachStaysRow.holds Try.pinned (OpenSpec.ofChange reachStaysSpec)

/-- ITS FALSE NEIGHBOUR: 'it returns false'. Refute it at one input. -/
def reachStaysWrong : ChangeSpec := { name := "reachStays", fn := fun _ => fun
  | [d1, d2] => { results := [.lit (.bool false)], args := [d1, d2] }
  | _ => none }
def ReachStaysWrongFalsely : Prop := reachStaysRow.holds Try.pinned (OpenSpec.ofChange reachStaysWrong)

/-- 'timesynclaw27.ReachSettles': WHATEVER THE INPUT: true; the input reads as it did. -/
def reachSettlesSpec : ChangeSpec := { name := "reachSettles", fn := fun _ => fun
  | [d1, d2] => { results := [.lit (.bool true)], args := [d1, d2] }
  | _ => none }
def reachSettlesRow : OpenClaim := { program := "ytblegmmljegmaaa", sum := "dfefa195c6caceab5c67940f5cb464482f5bc8271f85c80dff983c7214ffb976", func := "timesync/timesynclaw27.ReachSettles", spec := "reachSettles", apart := false }
def ReachSettlesSaid : Prop := reachSettlesRow.holds Try.pinned (OpenSpec.ofChange reachSettlesSpec)

/-- ITS FALSE NEIGHBOUR: 'it returns false'. Refute it at one input. -/
def reachSettlesWrong : ChangeSpec := { name := "reachSettles", fn := fun _ => fun
  | [d1, d2] => { results := [.lit (.bool false)], args := [d1, d2] }
  | _ => none }
def ReachSettlesWrongFalsely : Prop := reachSettlesRow.holds Try.pinned (OpenSpec.ofChange reachSettlesWrong)

/- THE SECOND FORM. 'bulk': how many values and letters a reading holds, each counted each time it is reached (what is shared counts as often as it is met; a slice's spare places count too). A statement '..UptoSaid' is the law's where the arguments, and the package variables that the reading takes, are together of bulk at most 1048576: NARROWER than '..Said'. Prove '..Said' where nothing that the law and all that it calls make is longer than what came in: it says more and counts as full. Else prove '..UptoSaid'. A law counts once. -/
mutual
def uptoBulk {H : Type} : DataW H → Nat
  | .lit (.string bytes) => bytes.length + 1
  | .lit _ => 1
  | .nil => 1
  | .ptr d => uptoBulk d + 1
  | .slice elems spare => uptoBulkAll elems + uptoBulkAll spare + 1
  | .agg parts => uptoBulkAll parts + 1
  | .iface _ d => uptoBulk d + 1
  | .map entries => uptoBulkEntries entries + 1
  | .held _ => 1
def uptoBulkAll {H : Type} : List (DataW H) → Nat
  | [] => 0
  | d :: r => uptoBulk d + uptoBulkAll r
def uptoBulkEntries {H : Type} : List (Lit × DataW H) → Nat
  | [] => 0
  | x :: r => uptoBulkEntry x + uptoBulkEntries r
def uptoBulkEntry {H : Type} : Lit × DataW H → Nat
  | (.string bytes, d) => bytes.length + uptoBulk d + 1
  | (_, d) => uptoBulk d + 1
 end
def uptoSmall : (H : Type) → List (DataW H) → Bool := fun _ ds => decide (uptoBulkAll ds ≤ 1048576)
def OpenSpec.upto (s : _root_.Go.ChangeSpec) : _root_.Go.OpenSpec := { _root_.Go.OpenSpec.ofChange s with cond := some uptoSmall }

/-- 'timesynclaw27.ReachAdapts', WHERE WHAT IT READS IS OF BULK AT MOST 1048576: true; the input reads as it did. -/
def reachAdaptsUptoRow : OpenClaim := { program := "ytblegmmljegmaaa", sum := "dfefa195c6caceab5c67940f5cb464482f5bc8271f85c80dff983c7214ffb976", func := "timesync/timesynclaw27.ReachAdapts", spec := "reachAdapts", apart := false, narrowed := true }
def ReachAdaptsUptoSaid : Prop := reachAdaptsUptoRow.holds Try.pinned (OpenSpec.upto reachAdaptsSpec)

/-- 'timesynclaw27.ReachChecks', WHERE WHAT IT READS IS OF BULK AT MOST 1048576: true; the input reads as it did. -/
def reachChecksUptoRow : OpenClaim := { program := "ytblegmmljegmaaa", sum := "dfefa195c6caceab5c67940f5cb464482f5bc8271f85c80dff983c7214ffb976", func := "timesync/timesynclaw27.ReachChecks", spec := "reachChecks", apart := false, narrowed := true }
def ReachChecksUptoSaid : Prop := reachChecksUptoRow.holds Try.pinned (OpenSpec.upto reachChecksSpec)

/-- 'timesynclaw27.ReachHistory', WHERE WHAT IT READS IS OF BULK AT MOST 1048576: true; the input reads as it did. -/
def reachHistoryUptoRow : OpenClaim := { program := "ytblegmmljegmaaa", sum := "dfefa195c6caceab5c67940f5cb464482f5bc8271f85c80dff983c7214ffb976", func := "timesync/timesynclaw27.ReachHistory", spec := "reachHistory", apart := false, narrowed := true }
def ReachHistoryUptoSaid : Prop := reachHistoryUptoRow.holds Try.pinned (OpenSpec.upto reachHistorySpec)

/-- 'timesynclaw27.ReachShifts', WHERE WHAT IT READS IS OF BULK AT MOST 1048576: true; the input reads as it did. -/
def reachShiftsUptoRow : OpenClaim := { program := "ytblegmmljegmaaa", sum := "dfefa195c6caceab5c67940f5cb464482f5bc8271f85c80dff983c7214ffb976", func := "timesync/timesynclaw27.ReachShifts", spec := "reachShifts", apart := false, narrowed := true }
def ReachShiftsUptoSaid : Prop := reachShiftsUptoRow.holds Try.pinned (OpenSpec.upto reachShiftsSpec)

/-- 'timesynclaw27.ReachStays', WHERE WHAT IT READS IS OF BULK AT MOST 1048576: true; the input reads as it did. -/
def reachStaysUptoRow : OpenClaim := { program := "ytblegmmljegmaaa", sum := "dfefa195c6caceab5c67940f5cb464482f5bc8271f85c80dff983c7214ffb976", func := "timesync/timesynclaw27.ReachStays", spec := "reachStays", apart := false, narrowed := true }
def ReachStaysUptoSaid : Prop := reachStaysUptoRow.holds Try.pinned (OpenSpec.upto reachStaysSpec)

/-- 'timesynclaw27.ReachSettles', WHERE WHAT IT READS IS OF BULK AT MOST 1048576: true; the input reads as it did. -/
def reachSettlesUptoRow : OpenClaim := { program := "ytblegmmljegmaaa", sum := "dfefa195c6caceab5c67940f5cb464482f5bc8271f85c80dff983c7214ffb976", func := "timesync/timesynclaw27.ReachSettles", spec := "reachSettles", apart := false, narrowed := true }
def ReachSettlesUptoSaid : Prop := reachSettlesUptoRow.holds Try.pinned (OpenSpec.upto reachSettlesSpec)

end Rows
end Go.Proofs.Ytblegmmljegmaaa
