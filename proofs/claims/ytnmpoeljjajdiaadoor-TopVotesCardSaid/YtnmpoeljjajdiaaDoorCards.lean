/-
  DERIVED. GIVEN WITH THE SEED: THE CARDS: each row of YtnmpoeljjajdiaaDoorRows.lean that lists a variable, with what it lists TIED to the program's text (the seventh form; the later family's looks); each row that meets fmt, with fmt's text TOLD by the authors' own Lean function (tested against real Go, not proved from fmt's source: count such statements apart). THE CARD IS WHAT COUNTS. Prove the row's statement (the work); the ties are given (YtnmpoeljjajdiaaDoorTie.lean); close each card by the builder's one call (the guide's Derived/Test/ToyasCard.lean, 'card_holds'). Laid BY PROGRAM, IN A SANDBOX (cutbox-door.mjs). By AI agents, Wed Nov 11 2026. No macro, syntax, notation, axiom, sorry.
-/
import Derived.Test.YtnmpoeljjajdiaaDoorRows
import GoSem.ClaimSeven
namespace Go.Proofs.YtnmpoeljjajdiaaDoor
namespace Rows

/-- THE TIED CARD OF 'timesynctop.TopScales'. -/
def topScalesCard : Claim7 := { stood := { row := topScalesRow, standIns := [], harness := (true, "303e612fce8e8318be361e7dc181ab3b05c5a343662ab4d78bbab3d379ee1290"), looks := false }, kinds := [], alts := [], laidByText := true, laidKinds := [.data], laidTests := true, laidLooks := .later }
def TopScalesCardSaid : Prop := Claim7.holds Tryd.pinned (.plain (OpenSpec.ofChange topScalesSpec)) topScalesCard

/-- THE TIED CARD OF 'timesynctop.TopVotes'. -/
def topVotesCard : Claim7 := { stood := { row := topVotesRow, standIns := [], harness := (true, "303e612fce8e8318be361e7dc181ab3b05c5a343662ab4d78bbab3d379ee1290"), looks := false }, kinds := [], alts := [], laidByText := true, laidKinds := [.data], laidTests := true, laidLooks := .later }
def TopVotesCardSaid : Prop := Claim7.holds Tryd.pinned (.plain (OpenSpec.ofChange topVotesSpec)) topVotesCard

/-- THE SECOND FORM's CARD OF 'timesynctop.TopScales'. -/
def topScalesUptoCard : Claim7 := { stood := { row := topScalesUptoRow, standIns := [], harness := (true, "303e612fce8e8318be361e7dc181ab3b05c5a343662ab4d78bbab3d379ee1290"), looks := false }, kinds := [], alts := [], laidByText := true, laidKinds := [.data], laidTests := true, laidLooks := .later }
def TopScalesUptoCardSaid : Prop := Claim7.holds Tryd.pinned (.plain (OpenSpec.upto topScalesSpec)) topScalesUptoCard

/-- THE SECOND FORM's CARD OF 'timesynctop.TopVotes'. -/
def topVotesUptoCard : Claim7 := { stood := { row := topVotesUptoRow, standIns := [], harness := (true, "303e612fce8e8318be361e7dc181ab3b05c5a343662ab4d78bbab3d379ee1290"), looks := false }, kinds := [], alts := [], laidByText := true, laidKinds := [.data], laidTests := true, laidLooks := .later }
def TopVotesUptoCardSaid : Prop := Claim7.holds Tryd.pinned (.plain (OpenSpec.upto topVotesSpec)) topVotesUptoCard
end Rows
end Go.Proofs.YtnmpoeljjajdiaaDoor
