/-
  No cell of these rows narrows 'for every input' (looked for: loops, veiled, ifaces, maps, wideKeys, modest, calm, conditions, laid).
  DERIVED. THE GIVEN ROWS OF THIS SEAT. 7 by the template 'for every input the law returns true; each argument reads behind the call as it read before'; 0 by the template 'total and deterministic' (their statements: YtjjhdigbgmbmnaaTotals.lean).
  GIVEN WITH THE SEED: the statements are not yours to turn. If you find one false, say at which input.
  Laid BY PROGRAM, IN A SANDBOX (cutbox-rows.mjs): the forced cells as the released guide's own fill.sh prints them over the translation 36f03d30359c11ac… (all of the seat's roots in one cut). By AI agents, Wed Nov 11 2026. No macro, syntax, notation, axiom, sorry.
-/
import Derived.Test.YtjjhdigbgmbmnaaChecked
import GoSem.Claim
import GoSem.ClaimJoined
import GoSem.ClaimMapViews
import Derived.JoinedTies
import Derived.KernelRfl
namespace Go.Proofs.Ytjjhdigbgmbmnaa
/- THE CELL 'sum', in the pinned program and in every row, IS THE sha256 OF THE DUMP (.gsa) THAT YtjjhdigbgmbmnaaProg.lean LOADS. Nothing in Lean hashes anything: it is a label: what it is worth is what the hold of that sum in a sandbox is worth. -/
noncomputable def Try.pinned : Pinned := { name := "ytjjhdigbgmbmnaa", sum := "36f03d30359c11ac96a5bd264c1d85a3dbcf4d788fd748a75e0953e6f7891884", checked := Try.checked }
namespace Rows
def none {H : Type} : Left H := { results := [], args := [] }

/-- 'timesynclaw52.SkewSlopes': WHATEVER THE INPUT: true; the input reads as it did. -/
def skewSlopesSpec : ChangeSpec := { name := "skewSlopes", fn := fun _ => fun
  | [d] => { results := [.lit (.bool true)], args := [d] }
  | _ => none }
def skewSlopesRow : OpenClaim := { program := "ytjjhdigbgmbmnaa", sum := "36f03d30359c11ac96a5bd264c1d85a3dbcf4d788fd748a75e0953e6f7891884", func := "timesync/timesynclaw52.SkewSlopes", spec := "skewSlopes", unfollowed := true, recurses := true, apart := false }
def SkewSlopesSaid : Prop := skewSlopesRow.holds Try.pinned (OpenSpec.ofChange skewSlopesSpec)

/-- ITS FALSE NEIGHBOUR: 'it returns false'. Refute it at one input. -/
def skewSlopesWrong : ChangeSpec := { name := "skewSlopes", fn := fun _ => fun
  | [d] => { results := [.lit (.bool false)], args := [d] }
  | _ => none }
def SkewSlopesWrongFalsely : Prop := skewSlopesRow.holds Try.pinned (OpenSpec.ofChange skewSlopesWrong)

/-- 'timesynclaw52.SkewHulls': WHATEVER THE INPUT: true; the input reads as it did. -/
def skewHullsSpec : ChangeSpec := { name := "skewHulls", fn := fun _ => fun
  | [d] => { results := [.lit (.bool true)], args := [d] }
  | _ => none }
def skewHullsRow : OpenClaim := { program := "ytjjhdigbgmbmnaa", sum := "36f03d30359c11ac96a5bd264c1d85a3dbcf4d788fd748a75e0953e6f7891884", func := "timesync/timesynclaw52.SkewHulls", spec := "skewHulls", unfollowed := true, recurses := true, apart := false }
def SkewHullsSaid : Prop := skewHullsRow.holds Try.pinned (OpenSpec.ofChange skewHullsSpec)

/-- ITS FALSE NEIGHBOUR: 'it returns false'. Refute it at one input. -/
def skewHullsWrong : ChangeSpec := { name := "skewHulls", fn := fun _ => fun
  | [d] => { results := [.lit (.bool false)], args := [d] }
  | _ => none }
def SkewHullsWrongFalsely : Prop := skewHullsRow.holds Try.pinned (OpenSpec.ofChange skewHullsWrong)

/-- 'timesynclaw52.SkewValues': WHATEVER THE INPUT: true; the input reads as it did. -/
def skewValuesSpec : ChangeSpec := { name := "skewValues", fn := fun _ => fun
  | [d1, d2] => { results := [.lit (.bool true)], args := [d1, d2] }
  | _ => none }
def skewValuesRow : OpenClaim := { program := "ytjjhdigbgmbmnaa", sum := "36f03d30359c11ac96a5bd264c1d85a3dbcf4d788fd748a75e0953e6f7891884", func := "timesync/timesynclaw52.SkewValues", spec := "skewValues", unfollowed := true, recurses := true, apart := false }
def SkewValuesSaid : Prop := skewValuesRow.holds Try.pinned (OpenSpec.ofChange skewValuesSpec)

/-- ITS FALSE NEIGHBOUR: 'it returns false'. Refute it at one input. -/
def skewValuesWrong : ChangeSpec := { name := "skewValues", fn := fun _ => fun
  | [d1, d2] => { results := [.lit (.bool false)], args := [d1, d2] }
  | _ => none }
def SkewValuesWrongFalsely : Prop := skewValuesRow.holds Try.pinned (OpenSpec.ofChange skewValuesWrong)

/-- 'timesynclaw52.SkewLines': WHATEVER THE INPUT: true; the input reads as it did. -/
def skewLinesSpec : ChangeSpec := { name := "skewLines", fn := fun _ => fun
  | [d1, d2] => { results := [.lit (.bool true)], args := [d1, d2] }
  | _ => none }
def skewLinesRow : OpenClaim := { program := "ytjjhdigbgmbmnaa", sum := "36f03d30359c11ac96a5bd264c1d85a3dbcf4d788fd748a75e0953e6f7891884", func := "timesync/timesynclaw52.SkewLines", spec := "skewLines", unfollowed := true, recurses := true, apart := false }
def SkewLinesSaid : Prop := skewLinesRow.holds Try.pinned (OpenSpec.ofChange skewLinesSpec)

/-- ITS FALSE NEIGHBOUR: 'it returns false'. Refute it at one input. -/
def skewLinesWrong : ChangeSpec := { name := "skewLines", fn := fun _ => fun
  | [d1, d2] => { results := [.lit (.bool false)], args := [d1, d2] }
  | _ => none }
def SkewLinesWrongFalsely : Prop := skewLinesRow.holds Try.pinned (OpenSpec.ofChange skewLinesWrong)

/-- 'timesynclaw52.SkewTight': WHATEVER THE INPUT: true; the input reads as it did. -/
def skewTightSpec : ChangeSpec := { name := "skewTight", fn := fun _ => fun
  | [d] => { results := [.lit (.bool true)], args := [d] }
  | _ => none }
def skewTightRow : OpenClaim := { program := "ytjjhdigbgmbmnaa", sum := "36f03d30359c11ac96a5bd264c1d85a3dbcf4d788fd748a75e0953e6f7891884", func := "timesync/timesynclaw52.SkewTight", spec := "skewTight", unfollowed := true, recurses := true, apart := false }
def SkewTightSaid : Prop := skewTightRow.holds Try.pinned (OpenSpec.ofChange skewTightSpec)

/-- ITS FALSE NEIGHBOUR: 'it returns false'. Refute it at one input. -/
def skewTightWrong : ChangeSpec := { name := "skewTight", fn := fun _ => fun
  | [d] => { results := [.lit (.bool false)], args := [d] }
  | _ => none }
def SkewTightWrongFalsely : Prop := skewTightRow.holds Try.pinned (OpenSpec.ofChange skewTightWrong)

/-- 'timesynclaw52.SkewCorners': WHATEVER THE INPUT: true; the input reads as it did. -/
def skewCornersSpec : ChangeSpec := { name := "skewCorners", fn := fun _ => fun
  | [d] => { results := [.lit (.bool true)], args := [d] }
  | _ => none }
def skewCornersRow : OpenClaim := { program := "ytjjhdigbgmbmnaa", sum := "36f03d30359c11ac96a5bd264c1d85a3dbcf4d788fd748a75e0953e6f7891884", func := "timesync/timesynclaw52.SkewCorners", spec := "skewCorners", unfollowed := true, recurses := true, apart := false }
def SkewCornersSaid : Prop := skewCornersRow.holds Try.pinned (OpenSpec.ofChange skewCornersSpec)

/-- ITS FALSE NEIGHBOUR: 'it returns false'. Refute it at one input. -/
def skewCornersWrong : ChangeSpec := { name := "skewCorners", fn := fun _ => fun
  | [d] => { results := [.lit (.bool false)], args := [d] }
  | _ => none }
def SkewCornersWrongFalsely : Prop := skewCornersRow.holds Try.pinned (OpenSpec.ofChange skewCornersWrong)

/-- 'timesynclaw52.SkewNarrows': WHATEVER THE INPUT: true; the input reads as it did. -/
def skewNarrowsSpec : ChangeSpec := { name := "skewNarrows", fn := fun _ => fun
  | [d1, d2, d3] => { results := [.lit (.bool true)], args := [d1, d2, d3] }
  | _ => none }
def skewNarrowsRow : OpenClaim := { program := "ytjjhdigbgmbmnaa", sum := "36f03d30359c11ac96a5bd264c1d85a3dbcf4d788fd748a75e0953e6f7891884", func := "timesync/timesynclaw52.SkewNarrows", spec := "skewNarrows", unfollowed := true, recurses := true, apart := false }
def SkewNarrowsSaid : Prop := skewNarrowsRow.holds Try.pinned (OpenSpec.ofChange skewNarrowsSpec)

/-- ITS FALSE NEIGHBOUR: 'it returns false'. Refute it at one input. -/
def skewNarrowsWrong : ChangeSpec := { name := "skewNarrows", fn := fun _ => fun
  | [d1, d2, d3] => { results := [.lit (.bool false)], args := [d1, d2, d3] }
  | _ => none }
def SkewNarrowsWrongFalsely : Prop := skewNarrowsRow.holds Try.pinned (OpenSpec.ofChange skewNarrowsWrong)

/- THE SECOND FORM. 'bulk': how many values and letters a reading holds, each counted each time it is reached (what is shared counts as often as it is met; a slice's spare places count too). A statement '..UptoSaid' is the law's where the arguments, and the package variables that the reading takes, are together of bulk at most 1048576: NARROWER than '..Said'. Prove '..Said' where nothing that the law and all that it calls make is longer than what came in: it says more and counts as full. Else prove '..UptoSaid'. A law counts once. -/
mutual
def uptoBulk {H : Type} : DataW H → Nat
  | .lit (.string bytes) => bytes.length + 1
  | .lit _ => 1
  | .nil => 1
  | .ptr d => uptoBulk d + 1
  | .slice elems spare => uptoBulkAll elems + uptoBulkAll spare + 1
  | .agg parts => uptoBulkAll parts + 1
  | .iface _ d => uptoBulk d + 1
  | .map entries => uptoBulkEntries entries + 1
  | .held _ => 1
def uptoBulkAll {H : Type} : List (DataW H) → Nat
  | [] => 0
  | d :: r => uptoBulk d + uptoBulkAll r
def uptoBulkEntries {H : Type} : List (Lit × DataW H) → Nat
  | [] => 0
  | x :: r => uptoBulkEntry x + uptoBulkEntries r
def uptoBulkEntry {H : Type} : Lit × DataW H → Nat
  | (.string bytes, d) => bytes.length + uptoBulk d + 1
  | (_, d) => uptoBulk d + 1
 end
def uptoSmall : (H : Type) → List (DataW H) → Bool := fun _ ds => decide (uptoBulkAll ds ≤ 1048576)
def OpenSpec.upto (s : _root_.Go.ChangeSpec) : _root_.Go.OpenSpec := { _root_.Go.OpenSpec.ofChange s with cond := some uptoSmall }

/-- 'timesynclaw52.SkewSlopes', WHERE WHAT IT READS IS OF BULK AT MOST 1048576: true; the input reads as it did. -/
def skewSlopesUptoRow : OpenClaim := { program := "ytjjhdigbgmbmnaa", sum := "36f03d30359c11ac96a5bd264c1d85a3dbcf4d788fd748a75e0953e6f7891884", func := "timesync/timesynclaw52.SkewSlopes", spec := "skewSlopes", unfollowed := true, recurses := true, apart := false, narrowed := true }
def SkewSlopesUptoSaid : Prop := skewSlopesUptoRow.holds Try.pinned (OpenSpec.upto skewSlopesSpec)

/-- 'timesynclaw52.SkewHulls', WHERE WHAT IT READS IS OF BULK AT MOST 1048576: true; the input reads as it did. -/
def skewHullsUptoRow : OpenClaim := { program := "ytjjhdigbgmbmnaa", sum := "36f03d30359c11ac96a5bd264c1d85a3dbcf4d788fd748a75e0953e6f7891884", func := "timesync/timesynclaw52.SkewHulls", spec := "skewHulls", unfollowed := true, recurses := true, apart := false, narrowed := true }
def SkewHullsUptoSaid : Prop := skewHullsUptoRow.holds Try.pinned (OpenSpec.upto skewHullsSpec)

/-- 'timesynclaw52.SkewValues', WHERE WHAT IT READS IS OF BULK AT MOST 1048576: true; the input reads as it did. -/
def skewValuesUptoRow : OpenClaim := { program := "ytjjhdigbgmbmnaa", sum := "36f03d30359c11ac96a5bd264c1d85a3dbcf4d788fd748a75e0953e6f7891884", func := "timesync/timesynclaw52.SkewValues", spec := "skewValues", unfollowed := true, recurses := true, apart := false, narrowed := true }
def SkewValuesUptoSaid : Prop := skewValuesUptoRow.holds Try.pinned (OpenSpec.upto skewValuesSpec)

/-- 'timesynclaw52.SkewLines', WHERE WHAT IT READS IS OF BULK AT MOST 1048576: true; the input reads as it did. -/
def skewLinesUptoRow : OpenClaim := { program := "ytjjhdigbgmbmnaa", sum := "36f03d30359c11ac96a5bd264c1d85a3dbcf4d788fd748a75e0953e6f7891884", func := "timesync/timesynclaw52.SkewLines", spec := "skewLines", unfollowed := true, recurses := true, apart := false, narrowed := true }
def SkewLinesUptoSaid : Prop := skewLinesUptoRow.holds Try.pinned (OpenSpec.upto skewLinesSpec)

/-- 'timesynclaw52.SkewTight', WHERE WHAT IT READS IS OF BULK AT MOST 1048576: true; the input reads as it did. -/
def skewTightUptoRow : OpenClaim := { program := "ytjjhdigbgmbmnaa", sum := "36f03d30359c11ac96a5bd264c1d85a3dbcf4d788fd748a75e0953e6f7891884", func := "timesync/timesynclaw52.SkewTight", spec := "skewTight", unfollowed := true, recurses := true, apart := false, narrowed := true }
def SkewTightUptoSaid : Prop := skewTightUptoRow.holds Try.pinned (OpenSpec.upto skewTightSpec)

/-- 'timesynclaw52.SkewCorners', WHERE WHAT IT READS IS OF BULK AT MOST 1048576: true; the input reads as it did. -/
def skewCornersUptoRow : OpenClaim := { program := "ytjjhdigbgmbmnaa", sum := "36f03d30359c11ac96a5bd264c1d85a3dbcf4d788fd748a75e0953e6f7891884", func := "timesync/timesynclaw52.SkewCorners", spec := "skewCorners", unfollowed := true, recurses := true, apart := false, narrowed := true }
def SkewCornersUptoSaid : Prop := skewCornersUptoRow.holds Try.pinned (OpenSpec.upto skewCornersSpec)

/-- 'timesynclaw52.SkewNarrows', WHERE WHAT IT READS IS OF BULK AT MOST 1048576: true; the input reads as it did. -/
def skewNarrowsUptoRow : OpenClaim := { program := "ytjjhdigbgmbmnaa", sum := "36f03d30359c11ac96a5bd264c1d85a3dbcf4d788fd748a75e0953e6f7891884", func := "timesync/timesynclaw52.SkewNarrows", spec := "skewNarrows", unfollowed := true, recurses := true, apart := false, narrowed := true }
def SkewNarrowsUptoSaid : Prop := skewNarrowsUptoRow.holds Try.pinned (OpenSpec.upto skewNarrowsSpec)

end Rows
end Go.Proofs.Ytjjhdigbgmbmnaa
