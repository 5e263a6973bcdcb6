/-
  No cell of these rows narrows 'for every input' (looked for: loops, veiled, ifaces, maps, wideKeys, modest, calm, conditions, laid).
  DERIVED. THE GIVEN ROWS OF THIS SEAT. 6 by the template 'for every input the law returns true; each argument reads behind the call as it read before'; 0 by the template 'total and deterministic' (their statements: YtcfmjoadbamdiaaTotals.lean).
  GIVEN WITH THE SEED: the statements are not yours to turn. If you find one false, say at which input.
  Laid BY PROGRAM, IN A SANDBOX (cutbox-rows.mjs): the forced cells as the released guide's own fill.sh prints them over the translation 615507da2c7a9ece… (all of the seat's roots in one cut). By AI agents, Wed Nov 11 2026. No macro, syntax, notation, axiom, sorry.
-/
import Derived.Test.YtcfmjoadbamdiaaChecked
import GoSem.Claim
import GoSem.ClaimJoined
import GoSem.ClaimMapViews
import Derived.JoinedTies
import Derived.KernelRfl
namespace Go.Proofs.Ytcfmjoadbamdiaa
/- THE CELL 'sum', in the pinned program and in every row, IS THE sha256 OF THE DUMP (.gsa) THAT YtcfmjoadbamdiaaProg.lean LOADS. Nothing in Lean hashes anything: it is a label: what it is worth is what the hold of that sum in a sandbox is worth. -/
noncomputable def Try.pinned : Pinned := { name := "ytcfmjoadbamdiaa", sum := "615507da2c7a9ece206a45cccd2f35c0335fce388ea584b9374ce8a29627a8ae", checked := Try.checked }
namespace Rows
def none {H : Type} : Left H := { results := [], args := [] }

/-- 'timesynclaw09.OscReads': WHATEVER THE INPUT: true; the input reads as it did. -/
def oscReadsSpec : ChangeSpec := { name := "oscReads", fn := fun _ => fun
  | [d1, d2] => { results := [.lit (.bool true)], args := [d1, d2] }
  | _ => none }
def oscReadsRow : OpenClaim := { program := "ytcfmjoadbamdiaa", sum := "615507da2c7a9ece206a45cccd2f35c0335fce388ea584b9374ce8a29627a8ae", func := "timesync/timesynclaw09.OscReads", spec := "oscReads", apart := false }
def OscReadsSaid : Prop := oscReadsRow.holds Try.pinned (OpenSpec.ofChange oscReadsSpec)

/-- ITS FALSE NEIGHBOUR: 'it returns false'. Refute it at one input. -/
def oscReadsWrong : ChangeSpec := { name := "oscReads", fn := fun _ => fun
  | [d1, d2] => { results := [.lit (.bool false)], args := [d1, d2] }
  | _ => none }
def OscReadsWrongFalsely : Prop := oscReadsRow.holds Try.pinned (OpenSpec.ofChange oscReadsWrong)

/-- 'timesynclaw09.OscSplits': WHATEVER THE INPUT: true; the input reads as it did. -/
def oscSplitsSpec : ChangeSpec := { name := "oscSplits", fn := fun _ => fun
  | [d1, d2, d3] => { results := [.lit (.bool true)], args := [d1, d2, d3] }
  | _ => none }
def oscSplitsRow : OpenClaim := { program := "ytcfmjoadbamdiaa", sum := "615507da2c7a9ece206a45cccd2f35c0335fce388ea584b9374ce8a29627a8ae", func := "timesync/timesynclaw09.OscSplits", spec := "oscSplits", apart := false }
def OscSplitsSaid : Prop := oscSplitsRow.holds Try.pinned (OpenSpec.ofChange oscSplitsSpec)

/-- ITS FALSE NEIGHBOUR: 'it returns false'. Refute it at one input. -/
def oscSplitsWrong : ChangeSpec := { name := "oscSplits", fn := fun _ => fun
  | [d1, d2, d3] => { results := [.lit (.bool false)], args := [d1, d2, d3] }
  | _ => none }
def OscSplitsWrongFalsely : Prop := oscSplitsRow.holds Try.pinned (OpenSpec.ofChange oscSplitsWrong)

/-- 'timesynclaw09.OscDrifts': WHATEVER THE INPUT: true; the input reads as it did. -/
def oscDriftsSpec : ChangeSpec := { name := "oscDrifts", fn := fun _ => fun
  | [d1, d2, d3] => { results := [.lit (.bool true)], args := [d1, d2, d3] }
  | _ => none }
def oscDriftsRow : OpenClaim := { program := "ytcfmjoadbamdiaa", sum := "615507da2c7a9ece206a45cccd2f35c0335fce388ea584b9374ce8a29627a8ae", func := "timesync/timesynclaw09.OscDrifts", spec := "oscDrifts", apart := false }
def OscDriftsSaid : Prop := oscDriftsRow.holds Try.pinned (OpenSpec.ofChange oscDriftsSpec)

/-- ITS FALSE NEIGHBOUR: 'it returns false'. Refute it at one input. -/
def oscDriftsWrong : ChangeSpec := { name := "oscDrifts", fn := fun _ => fun
  | [d1, d2, d3] => { results := [.lit (.bool false)], args := [d1, d2, d3] }
  | _ => none }
def OscDriftsWrongFalsely : Prop := oscDriftsRow.holds Try.pinned (OpenSpec.ofChange oscDriftsWrong)

/-- 'timesynclaw09.OscRates': WHATEVER THE INPUT: true; the input reads as it did. -/
def oscRatesSpec : ChangeSpec := { name := "oscRates", fn := fun _ => fun
  | [d1, d2] => { results := [.lit (.bool true)], args := [d1, d2] }
  | _ => none }
def oscRatesRow : OpenClaim := { program := "ytcfmjoadbamdiaa", sum := "615507da2c7a9ece206a45cccd2f35c0335fce388ea584b9374ce8a29627a8ae", func := "timesync/timesynclaw09.OscRates", spec := "oscRates", apart := false }
def OscRatesSaid : Prop := oscRatesRow.holds Try.pinned (OpenSpec.ofChange oscRatesSpec)

/-- ITS FALSE NEIGHBOUR: 'it returns false'. Refute it at one input. -/
def oscRatesWrong : ChangeSpec := { name := "oscRates", fn := fun _ => fun
  | [d1, d2] => { results := [.lit (.bool false)], args := [d1, d2] }
  | _ => none }
def OscRatesWrongFalsely : Prop := oscRatesRow.holds Try.pinned (OpenSpec.ofChange oscRatesWrong)

/-- 'timesynclaw09.OscInverts': WHATEVER THE INPUT: true; the input reads as it did. -/
def oscInvertsSpec : ChangeSpec := { name := "oscInverts", fn := fun _ => fun
  | [d1, d2] => { results := [.lit (.bool true)], args := [d1, d2] }
  | _ => none }
def oscInvertsRow : OpenClaim := { program := "ytcfmjoadbamdiaa", sum := "615507da2c7a9ece206a45cccd2f35c0335fce388ea584b9374ce8a29627a8ae", func := "timesync/timesynclaw09.OscInverts", spec := "oscInverts", unfollowed := true, recurses := true, apart := false }
def OscInvertsSaid : Prop := oscInvertsRow.holds Try.pinned (OpenSpec.ofChange oscInvertsSpec)

/-- ITS FALSE NEIGHBOUR: 'it returns false'. Refute it at one input. -/
def oscInvertsWrong : ChangeSpec := { name := "oscInverts", fn := fun _ => fun
  | [d1, d2] => { results := [.lit (.bool false)], args := [d1, d2] }
  | _ => none }
def OscInvertsWrongFalsely : Prop := oscInvertsRow.holds Try.pinned (OpenSpec.ofChange oscInvertsWrong)

/-- 'timesynclaw09.OscRises': WHATEVER THE INPUT: true; the input reads as it did. -/
def oscRisesSpec : ChangeSpec := { name := "oscRises", fn := fun _ => fun
  | [d1, d2, d3] => { results := [.lit (.bool true)], args := [d1, d2, d3] }
  | _ => none }
def oscRisesRow : OpenClaim := { program := "ytcfmjoadbamdiaa", sum := "615507da2c7a9ece206a45cccd2f35c0335fce388ea584b9374ce8a29627a8ae", func := "timesync/timesynclaw09.OscRises", spec := "oscRises", unfollowed := true, recurses := true, apart := false }
def OscRisesSaid : Prop := oscRisesRow.holds Try.pinned (OpenSpec.ofChange oscRisesSpec)

/-- ITS FALSE NEIGHBOUR: 'it returns false'. Refute it at one input. -/
def oscRisesWrong : ChangeSpec := { name := "oscRises", fn := fun _ => fun
  | [d1, d2, d3] => { results := [.lit (.bool false)], args := [d1, d2, d3] }
  | _ => none }
def OscRisesWrongFalsely : Prop := oscRisesRow.holds Try.pinned (OpenSpec.ofChange oscRisesWrong)

/- THE SECOND FORM. 'bulk': how many values and letters a reading holds, each counted each time it is reached (what is shared counts as often as it is met; a slice's spare places count too). A statement '..UptoSaid' is the law's where the arguments, and the package variables that the reading takes, are together of bulk at most 1048576: NARROWER than '..Said'. Prove '..Said' where nothing that the law and all that it calls make is longer than what came in: it says more and counts as full. Else prove '..UptoSaid'. A law counts once. -/
mutual
def uptoBulk {H : Type} : DataW H → Nat
  | .lit (.string bytes) => bytes.length + 1
  | .lit _ => 1
  | .nil => 1
  | .ptr d => uptoBulk d + 1
  | .slice elems spare => uptoBulkAll elems + uptoBulkAll spare + 1
  | .agg parts => uptoBulkAll parts + 1
  | .iface _ d => uptoBulk d + 1
  | .map entries => uptoBulkEntries entries + 1
  | .held _ => 1
def uptoBulkAll {H : Type} : List (DataW H) → Nat
  | [] => 0
  | d :: r => uptoBulk d + uptoBulkAll r
def uptoBulkEntries {H : Type} : List (Lit × DataW H) → Nat
  | [] => 0
  | x :: r => uptoBulkEntry x + uptoBulkEntries r
def uptoBulkEntry {H : Type} : Lit × DataW H → Nat
  | (.string bytes, d) => bytes.length + uptoBulk d + 1
  | (_, d) => uptoBulk d + 1
 end
def uptoSmall : (H : Type) → List (DataW H) → Bool := fun _ ds => decide (uptoBulkAll ds ≤ 1048576)
def OpenSpec.upto (s : _root_.Go.ChangeSpec) : _root_.Go.OpenSpec := { _root_.Go.OpenSpec.ofChange s with cond := some uptoSmall }

/-- 'timesynclaw09.OscReads', WHERE WHAT IT READS IS OF BULK AT MOST 1048576: true; the input reads as it did. -/
def oscReadsUptoRow : OpenClaim := { program := "ytcfmjoadbamdiaa", sum := "615507da2c7a9ece206a45cccd2f35c0335fce388ea584b9374ce8a29627a8ae", func := "timesync/timesynclaw09.OscReads", spec := "oscReads", apart := false, narrowed := true }
def OscReadsUptoSaid : Prop := oscReadsUptoRow.holds Try.pinned (OpenSpec.upto oscReadsSpec)

/-- 'timesynclaw09.OscSplits', WHERE WHAT IT READS IS OF BULK AT MOST 1048576: true; the input reads as it did. -/
def oscSplitsUptoRow : OpenClaim := { program := "ytcfmjoadbamdiaa", sum := "615507da2c7a9ece206a45cccd2f35c0335fce388ea584b9374ce8a29627a8ae", func := "timesync/timesynclaw09.OscSplits", spec := "oscSplits", apart := false, narrowed := true }
def OscSplitsUptoSaid : Prop := oscSplitsUptoRow.holds Try.pinned (OpenSpec.upto oscSplitsSpec)

/-- 'timesynclaw09.OscDrifts', WHERE WHAT IT READS IS OF BULK AT MOST 1048576: true; the input reads as it did. -/
def oscDriftsUptoRow : OpenClaim := { program := "ytcfmjoadbamdiaa", sum := "615507da2c7a9ece206a45cccd2f35c0335fce388ea584b9374ce8a29627a8ae", func := "timesync/timesynclaw09.OscDrifts", spec := "oscDrifts", apart := false, narrowed := true }
def OscDriftsUptoSaid : Prop := oscDriftsUptoRow.holds Try.pinned (OpenSpec.upto oscDriftsSpec)

/-- 'timesynclaw09.OscRates', WHERE WHAT IT READS IS OF BULK AT MOST 1048576: true; the input reads as it did. -/
def oscRatesUptoRow : OpenClaim := { program := "ytcfmjoadbamdiaa", sum := "615507da2c7a9ece206a45cccd2f35c0335fce388ea584b9374ce8a29627a8ae", func := "timesync/timesynclaw09.OscRates", spec := "oscRates", apart := false, narrowed := true }
def OscRatesUptoSaid : Prop := oscRatesUptoRow.holds Try.pinned (OpenSpec.upto oscRatesSpec)

/-- 'timesynclaw09.OscInverts', WHERE WHAT IT READS IS OF BULK AT MOST 1048576: true; the input reads as it did. -/
def oscInvertsUptoRow : OpenClaim := { program := "ytcfmjoadbamdiaa", sum := "615507da2c7a9ece206a45cccd2f35c0335fce388ea584b9374ce8a29627a8ae", func := "timesync/timesynclaw09.OscInverts", spec := "oscInverts", unfollowed := true, recurses := true, apart := false, narrowed := true }
def OscInvertsUptoSaid : Prop := oscInvertsUptoRow.holds Try.pinned (OpenSpec.upto oscInvertsSpec)

/-- 'timesynclaw09.OscRises', WHERE WHAT IT READS IS OF BULK AT MOST 1048576: true; the input reads as it did. -/
def oscRisesUptoRow : OpenClaim := { program := "ytcfmjoadbamdiaa", sum := "615507da2c7a9ece206a45cccd2f35c0335fce388ea584b9374ce8a29627a8ae", func := "timesync/timesynclaw09.OscRises", spec := "oscRises", unfollowed := true, recurses := true, apart := false, narrowed := true }
def OscRisesUptoSaid : Prop := oscRisesUptoRow.holds Try.pinned (OpenSpec.upto oscRisesSpec)

end Rows
end Go.Proofs.Ytcfmjoadbamdiaa
