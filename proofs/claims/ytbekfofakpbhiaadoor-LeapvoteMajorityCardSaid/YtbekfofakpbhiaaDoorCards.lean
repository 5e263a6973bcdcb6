/-
  DERIVED. GIVEN WITH THE SEED: THE CARDS: each row of YtbekfofakpbhiaaDoorRows.lean that lists a variable, with what it lists TIED to the program's text (the seventh form; the later family's looks); each row that meets fmt, with fmt's text TOLD by the authors' own Lean function (tested against real Go, not proved from fmt's source: count such statements apart). THE CARD IS WHAT COUNTS. Prove the row's statement (the work); the ties are given (YtbekfofakpbhiaaDoorTie.lean); close each card by the builder's one call (the guide's Derived/Test/ToyasCard.lean, 'card_holds'). Laid BY PROGRAM, IN A SANDBOX (cutbox-door.mjs). By AI agents, Wed Nov 11 2026. No macro, syntax, notation, axiom, sorry.
-/
import Derived.Test.YtbekfofakpbhiaaDoorRows
import GoSem.ClaimSeven
namespace Go.Proofs.YtbekfofakpbhiaaDoor
namespace Rows

/-- THE TIED CARD OF 'timesynclaw54.LeapvoteRuns'. -/
def leapvoteRunsCard : Claim7 := { stood := { row := leapvoteRunsRow, standIns := [], harness := (true, "612fea749bf01603ec36f3a11969deb2152f1e669bc4b034556fa984ea87a359"), looks := false }, kinds := [], alts := [], laidByText := true, laidKinds := [.data], laidTests := true, laidLooks := .later }
def LeapvoteRunsCardSaid : Prop := Claim7.holds Tryd.pinned (.plain (OpenSpec.ofChange leapvoteRunsSpec)) leapvoteRunsCard

/-- THE TIED CARD OF 'timesynclaw54.LeapvoteExtends'. -/
def leapvoteExtendsCard : Claim7 := { stood := { row := leapvoteExtendsRow, standIns := [], harness := (true, "612fea749bf01603ec36f3a11969deb2152f1e669bc4b034556fa984ea87a359"), looks := false }, kinds := [], alts := [], laidByText := true, laidKinds := [.data], laidTests := true, laidLooks := .later }
def LeapvoteExtendsCardSaid : Prop := Claim7.holds Tryd.pinned (.plain (OpenSpec.ofChange leapvoteExtendsSpec)) leapvoteExtendsCard

/-- THE TIED CARD OF 'timesynclaw54.LeapvoteMajority'. -/
def leapvoteMajorityCard : Claim7 := { stood := { row := leapvoteMajorityRow, standIns := [], harness := (true, "612fea749bf01603ec36f3a11969deb2152f1e669bc4b034556fa984ea87a359"), looks := false }, kinds := [], alts := [], laidByText := true, laidKinds := [.data], laidTests := true, laidLooks := .later }
def LeapvoteMajorityCardSaid : Prop := Claim7.holds Tryd.pinned (.plain (OpenSpec.ofChange leapvoteMajoritySpec)) leapvoteMajorityCard

/-- THE TIED CARD OF 'timesynclaw54.LeapvoteNobody'. -/
def leapvoteNobodyCard : Claim7 := { stood := { row := leapvoteNobodyRow, standIns := [], harness := (true, "612fea749bf01603ec36f3a11969deb2152f1e669bc4b034556fa984ea87a359"), looks := false }, kinds := [], alts := [], laidByText := true, laidKinds := [.data], laidTests := true, laidLooks := .later }
def LeapvoteNobodyCardSaid : Prop := Claim7.holds Tryd.pinned (.plain (OpenSpec.ofChange leapvoteNobodySpec)) leapvoteNobodyCard

/-- THE TIED CARD OF 'timesynclaw54.LeapvoteArms'. -/
def leapvoteArmsCard : Claim7 := { stood := { row := leapvoteArmsRow, standIns := [], harness := (true, "612fea749bf01603ec36f3a11969deb2152f1e669bc4b034556fa984ea87a359"), looks := false }, kinds := [], alts := [], laidByText := true, laidKinds := [.data], laidTests := true, laidLooks := .later }
def LeapvoteArmsCardSaid : Prop := Claim7.holds Tryd.pinned (.plain (OpenSpec.ofChange leapvoteArmsSpec)) leapvoteArmsCard

/-- THE SECOND FORM's CARD OF 'timesynclaw54.LeapvoteRuns'. -/
def leapvoteRunsUptoCard : Claim7 := { stood := { row := leapvoteRunsUptoRow, standIns := [], harness := (true, "612fea749bf01603ec36f3a11969deb2152f1e669bc4b034556fa984ea87a359"), looks := false }, kinds := [], alts := [], laidByText := true, laidKinds := [.data], laidTests := true, laidLooks := .later }
def LeapvoteRunsUptoCardSaid : Prop := Claim7.holds Tryd.pinned (.plain (OpenSpec.upto leapvoteRunsSpec)) leapvoteRunsUptoCard

/-- THE SECOND FORM's CARD OF 'timesynclaw54.LeapvoteExtends'. -/
def leapvoteExtendsUptoCard : Claim7 := { stood := { row := leapvoteExtendsUptoRow, standIns := [], harness := (true, "612fea749bf01603ec36f3a11969deb2152f1e669bc4b034556fa984ea87a359"), looks := false }, kinds := [], alts := [], laidByText := true, laidKinds := [.data], laidTests := true, laidLooks := .later }
def LeapvoteExtendsUptoCardSaid : Prop := Claim7.holds Tryd.pinned (.plain (OpenSpec.upto leapvoteExtendsSpec)) leapvoteExtendsUptoCard

/-- THE SECOND FORM's CARD OF 'timesynclaw54.LeapvoteMajority'. -/
def leapvoteMajorityUptoCard : Claim7 := { stood := { row := leapvoteMajorityUptoRow, standIns := [], harness := (true, "612fea749bf01603ec36f3a11969deb2152f1e669bc4b034556fa984ea87a359"), looks := false }, kinds := [], alts := [], laidByText := true, laidKinds := [.data], laidTests := true, laidLooks := .later }
def LeapvoteMajorityUptoCardSaid : Prop := Claim7.holds Tryd.pinned (.plain (OpenSpec.upto leapvoteMajoritySpec)) leapvoteMajorityUptoCard

/-- THE SECOND FORM's CARD OF 'timesynclaw54.LeapvoteNobody'. -/
def leapvoteNobodyUptoCard : Claim7 := { stood := { row := leapvoteNobodyUptoRow, standIns := [], harness := (true, "612fea749bf01603ec36f3a11969deb2152f1e669bc4b034556fa984ea87a359"), looks := false }, kinds := [], alts := [], laidByText := true, laidKinds := [.data], laidTests := true, laidLooks := .later }
def LeapvoteNobodyUptoCardSaid : Prop := Claim7.holds Tryd.pinned (.plain (OpenSpec.upto leapvoteNobodySpec)) leapvoteNobodyUptoCard

/-- THE SECOND FORM's CARD OF 'timesynclaw54.LeapvoteArms'. -/
def leapvoteArmsUptoCard : Claim7 := { stood := { row := leapvoteArmsUptoRow, standIns := [], harness := (true, "612fea749bf01603ec36f3a11969deb2152f1e669bc4b034556fa984ea87a359"), looks := false }, kinds := [], alts := [], laidByText := true, laidKinds := [.data], laidTests := true, laidLooks := .later }
def LeapvoteArmsUptoCardSaid : Prop := Claim7.holds Tryd.pinned (.plain (OpenSpec.upto leapvoteArmsSpec)) leapvoteArmsUptoCard
end Rows
end Go.Proofs.YtbekfofakpbhiaaDoor
