/-
  NARROWER THAN 'FOR EVERY INPUT', by the rows' own cells (each row's printed sentence says how): SmearChecks: laid · SmearReads: laid · SmearInverts: laid · SmearRates: laid · SmearRises: laid · SmearReturns: laid · SmearJoins: laid.
  DERIVED. THE GIVEN ROWS OF THIS SEAT. 7 by the template 'for every input the law returns true; each argument reads behind the call as it read before'; 0 by the template 'total and deterministic' (their statements: YtnnfaejejnfckaaDoorTotals.lean).
  GIVEN WITH THE SEED: the statements are not yours to turn. If you find one false, say at which input.
  Laid BY PROGRAM, IN A SANDBOX (cutbox-rows.mjs): the forced cells as the released guide's own fill.sh prints them over the translation f0c6950fe165f575… (all of the seat's roots in one cut). By AI agents, Wed Nov 11 2026. No macro, syntax, notation, axiom, sorry.
-/
import Derived.Test.YtnnfaejejnfckaaDoorChecked
import GoSem.Claim
import GoSem.ClaimJoined
import GoSem.ClaimMapViews
import Derived.JoinedTies
import Derived.KernelRfl
namespace Go.Proofs.YtnnfaejejnfckaaDoor
/- THE CELL 'sum', in the pinned program and in every row, IS THE sha256 OF THE DUMP (.gsa) THAT YtnnfaejejnfckaaDoorProg.lean LOADS. Nothing in Lean hashes anything: it is a label: what it is worth is what the hold of that sum in a sandbox is worth. -/
noncomputable def Tryd.pinned : Pinned := { name := "ytnnfaejejnfckaadoor", sum := "f0c6950fe165f575282077ef237310eb1d19ee4e2ae5b43bd4f2bce254a80163", checked := Tryd.checked }
namespace Rows
def none {H : Type} : Left H := { results := [], args := [] }

/- WHAT THE LISTED PACKAGE-LEVEL VARIABLES READ AS WHEN THE CALL BEGINS. Each datum BY PROGRAM (the guide's laid-datum.mjs) off the statement by which the dump's own 'gosem.cut.vars' lays the variable. In a bare row this is a premise. The card (YtnnfaejejnfckaaDoorCards.lean) ties it to the program's text. -/
def laid_timesync_civil_monthDays {H : Type} : DataW H := .agg [.lit (.int .i64 31), .lit (.int .i64 28), .lit (.int .i64 31), .lit (.int .i64 30), .lit (.int .i64 31), .lit (.int .i64 30), .lit (.int .i64 31), .lit (.int .i64 31), .lit (.int .i64 30), .lit (.int .i64 31), .lit (.int .i64 30), .lit (.int .i64 31)]

/-- 'timesynclaw07.SmearChecks': WHATEVER THE INPUT: true; the input reads as it did. -/
def smearChecksSpec : ChangeSpec := { name := "smearChecks", fn := fun _ => fun
  | [d1, d2] => { results := [.lit (.bool true)], args := [d1, d2] }
  | _ => none }
def smearChecksRow : OpenClaim := { program := "ytnnfaejejnfckaadoor", sum := "f0c6950fe165f575282077ef237310eb1d19ee4e2ae5b43bd4f2bce254a80163", func := "timesync/timesynclaw07.SmearChecks", spec := "smearChecks", unfollowed := true, recurses := true, named := ["timesync/civil.monthDays"], apart := false, laid := [("timesync/civil.monthDays", laid_timesync_civil_monthDays)] }
def SmearChecksSaid : Prop := smearChecksRow.holds Tryd.pinned (OpenSpec.ofChange smearChecksSpec)

/-- ITS FALSE NEIGHBOUR: 'it returns false'. Refute it at one input. -/
def smearChecksWrong : ChangeSpec := { name := "smearChecks", fn := fun _ => fun
  | [d1, d2] => { results := [.lit (.bool false)], args := [d1, d2] }
  | _ => none }
def SmearChecksWrongFalsely : Prop := smearChecksRow.holds Tryd.pinned (OpenSpec.ofChange smearChecksWrong)

/-- 'timesynclaw07.SmearReads': WHATEVER THE INPUT: true; the input reads as it did. -/
def smearReadsSpec : ChangeSpec := { name := "smearReads", fn := fun _ => fun
  | [d1, d2, d3] => { results := [.lit (.bool true)], args := [d1, d2, d3] }
  | _ => none }
def smearReadsRow : OpenClaim := { program := "ytnnfaejejnfckaadoor", sum := "f0c6950fe165f575282077ef237310eb1d19ee4e2ae5b43bd4f2bce254a80163", func := "timesync/timesynclaw07.SmearReads", spec := "smearReads", unfollowed := true, recurses := true, named := ["timesync/civil.monthDays"], apart := false, laid := [("timesync/civil.monthDays", laid_timesync_civil_monthDays)] }
def SmearReadsSaid : Prop := smearReadsRow.holds Tryd.pinned (OpenSpec.ofChange smearReadsSpec)

/-- ITS FALSE NEIGHBOUR: 'it returns false'. Refute it at one input. -/
def smearReadsWrong : ChangeSpec := { name := "smearReads", fn := fun _ => fun
  | [d1, d2, d3] => { results := [.lit (.bool false)], args := [d1, d2, d3] }
  | _ => none }
def SmearReadsWrongFalsely : Prop := smearReadsRow.holds Tryd.pinned (OpenSpec.ofChange smearReadsWrong)

/-- 'timesynclaw07.SmearInverts': WHATEVER THE INPUT: true; the input reads as it did. -/
def smearInvertsSpec : ChangeSpec := { name := "smearInverts", fn := fun _ => fun
  | [d1, d2, d3] => { results := [.lit (.bool true)], args := [d1, d2, d3] }
  | _ => none }
def smearInvertsRow : OpenClaim := { program := "ytnnfaejejnfckaadoor", sum := "f0c6950fe165f575282077ef237310eb1d19ee4e2ae5b43bd4f2bce254a80163", func := "timesync/timesynclaw07.SmearInverts", spec := "smearInverts", unfollowed := true, recurses := true, named := ["timesync/civil.monthDays"], apart := false, laid := [("timesync/civil.monthDays", laid_timesync_civil_monthDays)] }
def SmearInvertsSaid : Prop := smearInvertsRow.holds Tryd.pinned (OpenSpec.ofChange smearInvertsSpec)

/-- ITS FALSE NEIGHBOUR: 'it returns false'. Refute it at one input. -/
def smearInvertsWrong : ChangeSpec := { name := "smearInverts", fn := fun _ => fun
  | [d1, d2, d3] => { results := [.lit (.bool false)], args := [d1, d2, d3] }
  | _ => none }
def SmearInvertsWrongFalsely : Prop := smearInvertsRow.holds Tryd.pinned (OpenSpec.ofChange smearInvertsWrong)

/-- 'timesynclaw07.SmearRates': WHATEVER THE INPUT: true; the input reads as it did. -/
def smearRatesSpec : ChangeSpec := { name := "smearRates", fn := fun _ => fun
  | [d1, d2, d3] => { results := [.lit (.bool true)], args := [d1, d2, d3] }
  | _ => none }
def smearRatesRow : OpenClaim := { program := "ytnnfaejejnfckaadoor", sum := "f0c6950fe165f575282077ef237310eb1d19ee4e2ae5b43bd4f2bce254a80163", func := "timesync/timesynclaw07.SmearRates", spec := "smearRates", unfollowed := true, recurses := true, named := ["timesync/civil.monthDays"], apart := false, laid := [("timesync/civil.monthDays", laid_timesync_civil_monthDays)] }
def SmearRatesSaid : Prop := smearRatesRow.holds Tryd.pinned (OpenSpec.ofChange smearRatesSpec)

/-- ITS FALSE NEIGHBOUR: 'it returns false'. Refute it at one input. -/
def smearRatesWrong : ChangeSpec := { name := "smearRates", fn := fun _ => fun
  | [d1, d2, d3] => { results := [.lit (.bool false)], args := [d1, d2, d3] }
  | _ => none }
def SmearRatesWrongFalsely : Prop := smearRatesRow.holds Tryd.pinned (OpenSpec.ofChange smearRatesWrong)

/-- 'timesynclaw07.SmearRises': WHATEVER THE INPUT: true; the input reads as it did. -/
def smearRisesSpec : ChangeSpec := { name := "smearRises", fn := fun _ => fun
  | [d1, d2, d3, d4] => { results := [.lit (.bool true)], args := [d1, d2, d3, d4] }
  | _ => none }
def smearRisesRow : OpenClaim := { program := "ytnnfaejejnfckaadoor", sum := "f0c6950fe165f575282077ef237310eb1d19ee4e2ae5b43bd4f2bce254a80163", func := "timesync/timesynclaw07.SmearRises", spec := "smearRises", unfollowed := true, recurses := true, named := ["timesync/civil.monthDays"], apart := false, laid := [("timesync/civil.monthDays", laid_timesync_civil_monthDays)] }
def SmearRisesSaid : Prop := smearRisesRow.holds Tryd.pinned (OpenSpec.ofChange smearRisesSpec)

/-- ITS FALSE NEIGHBOUR: 'it returns false'. Refute it at one input. -/
def smearRisesWrong : ChangeSpec := { name := "smearRises", fn := fun _ => fun
  | [d1, d2, d3, d4] => { results := [.lit (.bool false)], args := [d1, d2, d3, d4] }
  | _ => none }
def SmearRisesWrongFalsely : Prop := smearRisesRow.holds Tryd.pinned (OpenSpec.ofChange smearRisesWrong)

/-- 'timesynclaw07.SmearReturns': WHATEVER THE INPUT: true; the input reads as it did. -/
def smearReturnsSpec : ChangeSpec := { name := "smearReturns", fn := fun _ => fun
  | [d1, d2, d3] => { results := [.lit (.bool true)], args := [d1, d2, d3] }
  | _ => none }
def smearReturnsRow : OpenClaim := { program := "ytnnfaejejnfckaadoor", sum := "f0c6950fe165f575282077ef237310eb1d19ee4e2ae5b43bd4f2bce254a80163", func := "timesync/timesynclaw07.SmearReturns", spec := "smearReturns", unfollowed := true, recurses := true, named := ["timesync/civil.monthDays"], apart := false, laid := [("timesync/civil.monthDays", laid_timesync_civil_monthDays)] }
def SmearReturnsSaid : Prop := smearReturnsRow.holds Tryd.pinned (OpenSpec.ofChange smearReturnsSpec)

/-- ITS FALSE NEIGHBOUR: 'it returns false'. Refute it at one input. -/
def smearReturnsWrong : ChangeSpec := { name := "smearReturns", fn := fun _ => fun
  | [d1, d2, d3] => { results := [.lit (.bool false)], args := [d1, d2, d3] }
  | _ => none }
def SmearReturnsWrongFalsely : Prop := smearReturnsRow.holds Tryd.pinned (OpenSpec.ofChange smearReturnsWrong)

/-- 'timesynclaw07.SmearJoins': WHATEVER THE INPUT: true; the input reads as it did. -/
def smearJoinsSpec : ChangeSpec := { name := "smearJoins", fn := fun _ => fun
  | [d1, d2, d3] => { results := [.lit (.bool true)], args := [d1, d2, d3] }
  | _ => none }
def smearJoinsRow : OpenClaim := { program := "ytnnfaejejnfckaadoor", sum := "f0c6950fe165f575282077ef237310eb1d19ee4e2ae5b43bd4f2bce254a80163", func := "timesync/timesynclaw07.SmearJoins", spec := "smearJoins", unfollowed := true, recurses := true, named := ["timesync/civil.monthDays"], apart := false, laid := [("timesync/civil.monthDays", laid_timesync_civil_monthDays)] }
def SmearJoinsSaid : Prop := smearJoinsRow.holds Tryd.pinned (OpenSpec.ofChange smearJoinsSpec)

/-- ITS FALSE NEIGHBOUR: 'it returns false'. Refute it at one input. -/
def smearJoinsWrong : ChangeSpec := { name := "smearJoins", fn := fun _ => fun
  | [d1, d2, d3] => { results := [.lit (.bool false)], args := [d1, d2, d3] }
  | _ => none }
def SmearJoinsWrongFalsely : Prop := smearJoinsRow.holds Tryd.pinned (OpenSpec.ofChange smearJoinsWrong)

/- THE SECOND FORM. 'bulk': how many values and letters a reading holds, each counted each time it is reached (what is shared counts as often as it is met; a slice's spare places count too). A statement '..UptoSaid' is the law's where the arguments, and the package variables that the reading takes, are together of bulk at most 1048576: NARROWER than '..Said'. Prove '..Said' where nothing that the law and all that it calls make is longer than what came in: it says more and counts as full. Else prove '..UptoSaid'. A law counts once. -/
mutual
def uptoBulk {H : Type} : DataW H → Nat
  | .lit (.string bytes) => bytes.length + 1
  | .lit _ => 1
  | .nil => 1
  | .ptr d => uptoBulk d + 1
  | .slice elems spare => uptoBulkAll elems + uptoBulkAll spare + 1
  | .agg parts => uptoBulkAll parts + 1
  | .iface _ d => uptoBulk d + 1
  | .map entries => uptoBulkEntries entries + 1
  | .held _ => 1
def uptoBulkAll {H : Type} : List (DataW H) → Nat
  | [] => 0
  | d :: r => uptoBulk d + uptoBulkAll r
def uptoBulkEntries {H : Type} : List (Lit × DataW H) → Nat
  | [] => 0
  | x :: r => uptoBulkEntry x + uptoBulkEntries r
def uptoBulkEntry {H : Type} : Lit × DataW H → Nat
  | (.string bytes, d) => bytes.length + uptoBulk d + 1
  | (_, d) => uptoBulk d + 1
 end
def uptoSmall : (H : Type) → List (DataW H) → Bool := fun _ ds => decide (uptoBulkAll ds ≤ 1048576)
def OpenSpec.upto (s : _root_.Go.ChangeSpec) : _root_.Go.OpenSpec := { _root_.Go.OpenSpec.ofChange s with cond := some uptoSmall }

/-- 'timesynclaw07.SmearChecks', WHERE WHAT IT READS IS OF BULK AT MOST 1048576: true; the input reads as it did. -/
def smearChecksUptoRow : OpenClaim := { program := "ytnnfaejejnfckaadoor", sum := "f0c6950fe165f575282077ef237310eb1d19ee4e2ae5b43bd4f2bce254a80163", func := "timesync/timesynclaw07.SmearChecks", spec := "smearChecks", unfollowed := true, recurses := true, named := ["timesync/civil.monthDays"], apart := false, laid := [("timesync/civil.monthDays", laid_timesync_civil_monthDays)], narrowed := true }
def SmearChecksUptoSaid : Prop := smearChecksUptoRow.holds Tryd.pinned (OpenSpec.upto smearChecksSpec)

/-- 'timesynclaw07.SmearReads', WHERE WHAT IT READS IS OF BULK AT MOST 1048576: true; the input reads as it did. -/
def smearReadsUptoRow : OpenClaim := { program := "ytnnfaejejnfckaadoor", sum := "f0c6950fe165f575282077ef237310eb1d19ee4e2ae5b43bd4f2bce254a80163", func := "timesync/timesynclaw07.SmearReads", spec := "smearReads", unfollowed := true, recurses := true, named := ["timesync/civil.monthDays"], apart := false, laid := [("timesync/civil.monthDays", laid_timesync_civil_monthDays)], narrowed := true }
def SmearReadsUptoSaid : Prop := smearReadsUptoRow.holds Tryd.pinned (OpenSpec.upto smearReadsSpec)

/-- 'timesynclaw07.SmearInverts', WHERE WHAT IT READS IS OF BULK AT MOST 1048576: true; the input reads as it did. -/
def smearInvertsUptoRow : OpenClaim := { program := "ytnnfaejejnfckaadoor", sum := "f0c6950fe165f575282077ef237310eb1d19ee4e2ae5b43bd4f2bce254a80163", func := "timesync/timesynclaw07.SmearInverts", spec := "smearInverts", unfollowed := true, recurses := true, named := ["timesync/civil.monthDays"], apart := false, laid := [("timesync/civil.monthDays", laid_timesync_civil_monthDays)], narrowed := true }
def SmearInvertsUptoSaid : Prop := smearInvertsUptoRow.holds Tryd.pinned (OpenSpec.upto smearInvertsSpec)

/-- 'timesynclaw07.SmearRates', WHERE WHAT IT READS IS OF BULK AT MOST 1048576: true; the input reads as it did. -/
def smearRatesUptoRow : OpenClaim := { program := "ytnnfaejejnfckaadoor", sum := "f0c6950fe165f575282077ef237310eb1d19ee4e2ae5b43bd4f2bce254a80163", func := "timesync/timesynclaw07.SmearRates", spec := "smearRates", unfollowed := true, recurses := true, named := ["timesync/civil.monthDays"], apart := false, laid := [("timesync/civil.monthDays", laid_timesync_civil_monthDays)], narrowed := true }
def SmearRatesUptoSaid : Prop := smearRatesUptoRow.holds Tryd.pinned (OpenSpec.upto smearRatesSpec)

/-- 'timesynclaw07.SmearRises', WHERE WHAT IT READS IS OF BULK AT MOST 1048576: true; the input reads as it did. -/
def smearRisesUptoRow : OpenClaim := { program := "ytnnfaejejnfckaadoor", sum := "f0c6950fe165f575282077ef237310eb1d19ee4e2ae5b43bd4f2bce254a80163", func := "timesync/timesynclaw07.SmearRises", spec := "smearRises", unfollowed := true, recurses := true, named := ["timesync/civil.monthDays"], apart := false, laid := [("timesync/civil.monthDays", laid_timesync_civil_monthDays)], narrowed := true }
def SmearRisesUptoSaid : Prop := smearRisesUptoRow.holds Tryd.pinned (OpenSpec.upto smearRisesSpec)

/-- 'timesynclaw07.SmearReturns', WHERE WHAT IT READS IS OF BULK AT MOST 1048576: true; the input reads as it did. -/
def smearReturnsUptoRow : OpenClaim := { program := "ytnnfaejejnfckaadoor", sum := "f0c6950fe165f575282077ef237310eb1d19ee4e2ae5b43bd4f2bce254a80163", func := "timesync/timesynclaw07.SmearReturns", spec := "smearReturns", unfollowed := true, recurses := true, named := ["timesync/civil.monthDays"], apart := false, laid := [("timesync/civil.monthDays", laid_timesync_civil_monthDays)], narrowed := true }
def SmearReturnsUptoSaid : Prop := smearReturnsUptoRow.holds Tryd.pinned (OpenSpec.upto smearReturnsSpec)

/-- 'timesynclaw07.SmearJoins', WHERE WHAT IT READS IS OF BULK AT MOST 1048576: true; the input reads as it did. -/
def smearJoinsUptoRow : OpenClaim := { program := "ytnnfaejejnfckaadoor", sum := "f0c6950fe165f575282077ef237310eb1d19ee4e2ae5b43bd4f2bce254a80163", func := "timesync/timesynclaw07.SmearJoins", spec := "smearJoins", unfollowed := true, recurses := true, named := ["timesync/civil.monthDays"], apart := false, laid := [("timesync/civil.monthDays", laid_timesync_civil_monthDays)], narrowed := true }
def SmearJoinsUptoSaid : Prop := smearJoinsUptoRow.holds Tryd.pinned (OpenSpec.upto smearJoinsSpec)

end Rows
end Go.Proofs.YtnnfaejejnfckaaDoor
