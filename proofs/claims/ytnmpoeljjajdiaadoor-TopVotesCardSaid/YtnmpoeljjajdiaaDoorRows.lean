/-
  NARROWER THAN 'FOR EVERY INPUT', by the rows' own cells (each row's printed sentence says how): TopScales: laid · TopVotes: laid.
  DERIVED. THE GIVEN ROWS OF THIS SEAT. 2 by the template 'for every input the law returns true; each argument reads behind the call as it read before'; 0 by the template 'total and deterministic' (their statements: YtnmpoeljjajdiaaDoorTotals.lean).
  GIVEN WITH THE SEED: the statements are not yours to turn. If you find one false, say at which input.
  Laid BY PROGRAM, IN A SANDBOX (cutbox-rows.mjs): the forced cells as the released guide's own fill.sh prints them over the translation 56d7cb96548e4d47… (all of the seat's roots in one cut). By AI agents, Wed Nov 11 2026. No macro, syntax, notation, axiom, sorry.
-/
import Derived.Test.YtnmpoeljjajdiaaDoorChecked
import GoSem.Claim
import GoSem.ClaimJoined
import GoSem.ClaimMapViews
import Derived.JoinedTies
import Derived.KernelRfl
namespace Go.Proofs.YtnmpoeljjajdiaaDoor
/- THE CELL 'sum', in the pinned program and in every row, IS THE sha256 OF THE DUMP (.gsa) THAT YtnmpoeljjajdiaaDoorProg.lean LOADS. Nothing in Lean hashes anything: it is a label: what it is worth is what the hold of that sum in a sandbox is worth. -/
noncomputable def Tryd.pinned : Pinned := { name := "ytnmpoeljjajdiaadoor", sum := "56d7cb96548e4d47897b5f677b01213dfef9b25e66678a6ecb881f44f881a68a", checked := Tryd.checked }
namespace Rows
def none {H : Type} : Left H := { results := [], args := [] }

/- WHAT THE LISTED PACKAGE-LEVEL VARIABLES READ AS WHEN THE CALL BEGINS. Each datum BY PROGRAM (the guide's laid-datum.mjs) off the statement by which the dump's own 'gosem.cut.vars' lays the variable. In a bare row this is a premise. The card (YtnmpoeljjajdiaaDoorCards.lean) ties it to the program's text. -/
def laid_timesync_civil_monthDays {H : Type} : DataW H := .agg [.lit (.int .i64 31), .lit (.int .i64 28), .lit (.int .i64 31), .lit (.int .i64 30), .lit (.int .i64 31), .lit (.int .i64 30), .lit (.int .i64 31), .lit (.int .i64 31), .lit (.int .i64 30), .lit (.int .i64 31), .lit (.int .i64 30), .lit (.int .i64 31)]

/-- 'timesynctop.TopScales': WHATEVER THE INPUT: true; the input reads as it did. -/
def topScalesSpec : ChangeSpec := { name := "topScales", fn := fun _ => fun
  | [d1, d2, d3, d4] => { results := [.lit (.bool true)], args := [d1, d2, d3, d4] }
  | _ => none }
def topScalesRow : OpenClaim := { program := "ytnmpoeljjajdiaadoor", sum := "56d7cb96548e4d47897b5f677b01213dfef9b25e66678a6ecb881f44f881a68a", func := "timesync/timesynctop.TopScales", spec := "topScales", named := ["timesync/civil.monthDays"], apart := false, laid := [("timesync/civil.monthDays", laid_timesync_civil_monthDays)] }
def TopScalesSaid : Prop := topScalesRow.holds Tryd.pinned (OpenSpec.ofChange topScalesSpec)

/-- ITS FALSE NEIGHBOUR: 'it returns false'. Refute it at one input. -/
def topScalesWrong : ChangeSpec := { name := "topScales", fn := fun _ => fun
  | [d1, d2, d3, d4] => { results := [.lit (.bool false)], args := [d1, d2, d3, d4] }
  | _ => none }
def TopScalesWrongFalsely : Prop := topScalesRow.holds Tryd.pinned (OpenSpec.ofChange topScalesWrong)

/-- 'timesynctop.TopVotes': WHATEVER THE INPUT: true; the input reads as it did. -/
def topVotesSpec : ChangeSpec := { name := "topVotes", fn := fun _ => fun
  | [d1, d2, d3] => { results := [.lit (.bool true)], args := [d1, d2, d3] }
  | _ => none }
def topVotesRow : OpenClaim := { program := "ytnmpoeljjajdiaadoor", sum := "56d7cb96548e4d47897b5f677b01213dfef9b25e66678a6ecb881f44f881a68a", func := "timesync/timesynctop.TopVotes", spec := "topVotes", named := ["timesync/civil.monthDays"], apart := false, laid := [("timesync/civil.monthDays", laid_timesync_civil_monthDays)] }
def TopVotesSaid : Prop := topVotesRow.holds Tryd.pinned (OpenSpec.ofChange topVotesSpec)

/-- ITS FALSE NEIGHBOUR: 'it returns false'. Refute it at one input. -/
def topVotesWrong : ChangeSpec := { name := "topVotes", fn := fun _ => fun
  | [d1, d2, d3] => { results := [.lit (.bool false)], args := [d1, d2, d3] }
  | _ => none }
def TopVotesWrongFalsely : Prop := topVotesRow.holds Tryd.pinned (OpenSpec.ofChange topVotesWrong)

/- THE SECOND FORM. 'bulk': how many values and letters a reading holds, each counted each time it is reached (what is shared counts as often as it is met; a slice's spare places count too). A statement '..UptoSaid' is the law's where the arguments, and the package variables that the reading takes, are together of bulk at most 1048576: NARROWER than '..Said'. Prove '..Said' where nothing that the law and all that it calls make is longer than what came in: it says more and counts as full. Else prove '..UptoSaid'. A law counts once. -/
mutual
def uptoBulk {H : Type} : DataW H → Nat
  | .lit (.string bytes) => bytes.length + 1
  | .lit _ => 1
  | .nil => 1
  | .ptr d => uptoBulk d + 1
  | .slice elems spare => uptoBulkAll elems + uptoBulkAll spare + 1
  | .agg parts => uptoBulkAll parts + 1
  | .iface _ d => uptoBulk d + 1
  | .map entries => uptoBulkEntries entries + 1
  | .held _ => 1
def uptoBulkAll {H : Type} : List (DataW H) → Nat
  | [] => 0
  | d :: r => uptoBulk d + uptoBulkAll r
def uptoBulkEntries {H : Type} : List (Lit × DataW H) → Nat
  | [] => 0
  | x :: r => uptoBulkEntry x + uptoBulkEntries r
def uptoBulkEntry {H : Type} : Lit × DataW H → Nat
  | (.string bytes, d) => bytes.length + uptoBulk d + 1
  | (_, d) => uptoBulk d + 1
 end
def uptoSmall : (H : Type) → List (DataW H) → Bool := fun _ ds => decide (uptoBulkAll ds ≤ 1048576)
def OpenSpec.upto (s : _root_.Go.ChangeSpec) : _root_.Go.OpenSpec := { _root_.Go.OpenSpec.ofChange s with cond := some uptoSmall }

/-- 'timesynctop.TopScales', WHERE WHAT IT READS IS OF BULK AT MOST 1048576: true; the input reads as it did. -/
def topScalesUptoRow : OpenClaim := { program := "ytnmpoeljjajdiaadoor", sum := "56d7cb96548e4d47897b5f677b01213dfef9b25e66678a6ecb881f44f881a68a", func := "timesync/timesynctop.TopScales", spec := "topScales", named := ["timesync/civil.monthDays"], apart := false, laid := [("timesync/civil.monthDays", laid_timesync_civil_monthDays)], narrowed := true }
def TopScalesUptoSaid : Prop := topScalesUptoRow.holds Tryd.pinned (OpenSpec.upto topScalesSpec)

/-- 'timesynctop.TopVotes', WHERE WHAT IT READS IS OF BULK AT MOST 1048576: true; the input reads as it did. -/
def topVotesUptoRow : OpenClaim := { program := "ytnmpoeljjajdiaadoor", sum := "56d7cb96548e4d47897b5f677b01213dfef9b25e66678a6ecb881f44f881a68a", func := "timesync/timesynctop.TopVotes", spec := "topVotes", named := ["timesync/civil.monthDays"], apart := false, laid := [("timesync/civil.monthDays", laid_timesync_civil_monthDays)], narrowed := true }
def TopVotesUptoSaid : Prop := topVotesUptoRow.holds Tryd.pinned (OpenSpec.upto topVotesSpec)

end Rows
end Go.Proofs.YtnmpoeljjajdiaaDoor
