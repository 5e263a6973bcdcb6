/-
  DERIVED. GIVEN WITH THE SEED: THE CARDS: each row of YtbhpceghgjognaaDoorRows.lean that lists a variable, with what it lists TIED to the program's text (the seventh form; the later family's looks); each row that meets fmt, with fmt's text TOLD by the authors' own Lean function (tested against real Go, not proved from fmt's source: count such statements apart). THE CARD IS WHAT COUNTS. Prove the row's statement (the work); the ties are given (YtbhpceghgjognaaDoorTie.lean); close each card by the builder's one call (the guide's Derived/Test/ToyasCard.lean, 'card_holds'). Laid BY PROGRAM, IN A SANDBOX (cutbox-door.mjs). By AI agents, Wed Nov 11 2026. No macro, syntax, notation, axiom, sorry.
-/
import Derived.Test.YtbhpceghgjognaaDoorRows
import GoSem.ClaimSeven
namespace Go.Proofs.YtbhpceghgjognaaDoor
namespace Rows

/-- THE TIED CARD OF 'timesynclaw05.CivilOf'. -/
def civilOfCard : Claim7 := { stood := { row := civilOfRow, standIns := [], harness := (true, "4695cf5508492216c7b4bbbf05f655ea4e0e3949dddc063551fe9ca1058eb785"), looks := false }, kinds := [], alts := [], laidByText := true, laidKinds := [.data, .data, .data, .data], laidTests := true, laidLooks := .later }
def CivilOfCardSaid : Prop := Claim7.holds Tryd.pinned (.plain (OpenSpec.ofChange civilOfSpec)) civilOfCard

/-- THE TIED CARD OF 'timesynclaw05.CivilTexts'. -/
def civilTextsCard : Claim7 := { stood := { row := civilTextsRow, standIns := [], harness := (true, "4695cf5508492216c7b4bbbf05f655ea4e0e3949dddc063551fe9ca1058eb785"), looks := false }, kinds := [], alts := [], laidByText := true, laidKinds := [.data, .data, .data, .data], laidTests := true, laidLooks := .later }
def CivilTextsCardSaid : Prop := Claim7.holds Tryd.pinned (.plain (OpenSpec.ofChange civilTextsSpec)) civilTextsCard

/-- THE TIED CARD OF 'timesynclaw05.CivilOrder'. -/
def civilOrderCard : Claim7 := { stood := { row := civilOrderRow, standIns := [], harness := (true, "4695cf5508492216c7b4bbbf05f655ea4e0e3949dddc063551fe9ca1058eb785"), looks := false }, kinds := [], alts := [], laidByText := true, laidKinds := [.data, .data, .data, .data], laidTests := true, laidLooks := .later }
def CivilOrderCardSaid : Prop := Claim7.holds Tryd.pinned (.plain (OpenSpec.ofChange civilOrderSpec)) civilOrderCard

/-- THE TIED CARD OF 'timesynclaw05.CivilDays'. -/
def civilDaysCard : Claim7 := { stood := { row := civilDaysRow, standIns := [], harness := (true, "4695cf5508492216c7b4bbbf05f655ea4e0e3949dddc063551fe9ca1058eb785"), looks := false }, kinds := [], alts := [], laidByText := true, laidKinds := [.data, .data, .data, .data], laidTests := true, laidLooks := .later }
def CivilDaysCardSaid : Prop := Claim7.holds Tryd.pinned (.plain (OpenSpec.ofChange civilDaysSpec)) civilDaysCard

/-- THE TIED CARD OF 'timesynclaw05.CivilNext'. -/
def civilNextCard : Claim7 := { stood := { row := civilNextRow, standIns := [], harness := (true, "4695cf5508492216c7b4bbbf05f655ea4e0e3949dddc063551fe9ca1058eb785"), looks := false }, kinds := [], alts := [], laidByText := true, laidKinds := [.data, .data, .data, .data], laidTests := true, laidLooks := .later }
def CivilNextCardSaid : Prop := Claim7.holds Tryd.pinned (.plain (OpenSpec.ofChange civilNextSpec)) civilNextCard

/-- THE TIED CARD OF 'timesynclaw05.CivilCycle'. -/
def civilCycleCard : Claim7 := { stood := { row := civilCycleRow, standIns := [], harness := (true, "4695cf5508492216c7b4bbbf05f655ea4e0e3949dddc063551fe9ca1058eb785"), looks := false }, kinds := [], alts := [], laidByText := true, laidKinds := [.data, .data, .data, .data], laidTests := true, laidLooks := .later }
def CivilCycleCardSaid : Prop := Claim7.holds Tryd.pinned (.plain (OpenSpec.ofChange civilCycleSpec)) civilCycleCard

/-- THE TIED CARD OF 'timesynclaw05.CivilChecks'. -/
def civilChecksCard : Claim7 := { stood := { row := civilChecksRow, standIns := [], harness := (true, "4695cf5508492216c7b4bbbf05f655ea4e0e3949dddc063551fe9ca1058eb785"), looks := false }, kinds := [], alts := [], laidByText := true, laidKinds := [.data, .data, .data, .data], laidTests := true, laidLooks := .later }
def CivilChecksCardSaid : Prop := Claim7.holds Tryd.pinned (.plain (OpenSpec.ofChange civilChecksSpec)) civilChecksCard

/-- THE TIED CARD OF 'timesynclaw05.CivilRoundTrip'. -/
def civilRoundTripCard : Claim7 := { stood := { row := civilRoundTripRow, standIns := [], harness := (true, "4695cf5508492216c7b4bbbf05f655ea4e0e3949dddc063551fe9ca1058eb785"), looks := false }, kinds := [], alts := [], laidByText := true, laidKinds := [.data, .data, .data, .data], laidTests := true, laidLooks := .later }
def CivilRoundTripCardSaid : Prop := Claim7.holds Tryd.pinned (.plain (OpenSpec.ofChange civilRoundTripSpec)) civilRoundTripCard

/-- THE SECOND FORM's CARD OF 'timesynclaw05.CivilOf'. -/
def civilOfUptoCard : Claim7 := { stood := { row := civilOfUptoRow, standIns := [], harness := (true, "4695cf5508492216c7b4bbbf05f655ea4e0e3949dddc063551fe9ca1058eb785"), looks := false }, kinds := [], alts := [], laidByText := true, laidKinds := [.data, .data, .data, .data], laidTests := true, laidLooks := .later }
def CivilOfUptoCardSaid : Prop := Claim7.holds Tryd.pinned (.plain (OpenSpec.upto civilOfSpec)) civilOfUptoCard

/-- THE SECOND FORM's CARD OF 'timesynclaw05.CivilTexts'. -/
def civilTextsUptoCard : Claim7 := { stood := { row := civilTextsUptoRow, standIns := [], harness := (true, "4695cf5508492216c7b4bbbf05f655ea4e0e3949dddc063551fe9ca1058eb785"), looks := false }, kinds := [], alts := [], laidByText := true, laidKinds := [.data, .data, .data, .data], laidTests := true, laidLooks := .later }
def CivilTextsUptoCardSaid : Prop := Claim7.holds Tryd.pinned (.plain (OpenSpec.upto civilTextsSpec)) civilTextsUptoCard

/-- THE SECOND FORM's CARD OF 'timesynclaw05.CivilOrder'. -/
def civilOrderUptoCard : Claim7 := { stood := { row := civilOrderUptoRow, standIns := [], harness := (true, "4695cf5508492216c7b4bbbf05f655ea4e0e3949dddc063551fe9ca1058eb785"), looks := false }, kinds := [], alts := [], laidByText := true, laidKinds := [.data, .data, .data, .data], laidTests := true, laidLooks := .later }
def CivilOrderUptoCardSaid : Prop := Claim7.holds Tryd.pinned (.plain (OpenSpec.upto civilOrderSpec)) civilOrderUptoCard

/-- THE SECOND FORM's CARD OF 'timesynclaw05.CivilDays'. -/
def civilDaysUptoCard : Claim7 := { stood := { row := civilDaysUptoRow, standIns := [], harness := (true, "4695cf5508492216c7b4bbbf05f655ea4e0e3949dddc063551fe9ca1058eb785"), looks := false }, kinds := [], alts := [], laidByText := true, laidKinds := [.data, .data, .data, .data], laidTests := true, laidLooks := .later }
def CivilDaysUptoCardSaid : Prop := Claim7.holds Tryd.pinned (.plain (OpenSpec.upto civilDaysSpec)) civilDaysUptoCard

/-- THE SECOND FORM's CARD OF 'timesynclaw05.CivilNext'. -/
def civilNextUptoCard : Claim7 := { stood := { row := civilNextUptoRow, standIns := [], harness := (true, "4695cf5508492216c7b4bbbf05f655ea4e0e3949dddc063551fe9ca1058eb785"), looks := false }, kinds := [], alts := [], laidByText := true, laidKinds := [.data, .data, .data, .data], laidTests := true, laidLooks := .later }
def CivilNextUptoCardSaid : Prop := Claim7.holds Tryd.pinned (.plain (OpenSpec.upto civilNextSpec)) civilNextUptoCard

/-- THE SECOND FORM's CARD OF 'timesynclaw05.CivilCycle'. -/
def civilCycleUptoCard : Claim7 := { stood := { row := civilCycleUptoRow, standIns := [], harness := (true, "4695cf5508492216c7b4bbbf05f655ea4e0e3949dddc063551fe9ca1058eb785"), looks := false }, kinds := [], alts := [], laidByText := true, laidKinds := [.data, .data, .data, .data], laidTests := true, laidLooks := .later }
def CivilCycleUptoCardSaid : Prop := Claim7.holds Tryd.pinned (.plain (OpenSpec.upto civilCycleSpec)) civilCycleUptoCard

/-- THE SECOND FORM's CARD OF 'timesynclaw05.CivilChecks'. -/
def civilChecksUptoCard : Claim7 := { stood := { row := civilChecksUptoRow, standIns := [], harness := (true, "4695cf5508492216c7b4bbbf05f655ea4e0e3949dddc063551fe9ca1058eb785"), looks := false }, kinds := [], alts := [], laidByText := true, laidKinds := [.data, .data, .data, .data], laidTests := true, laidLooks := .later }
def CivilChecksUptoCardSaid : Prop := Claim7.holds Tryd.pinned (.plain (OpenSpec.upto civilChecksSpec)) civilChecksUptoCard

/-- THE SECOND FORM's CARD OF 'timesynclaw05.CivilRoundTrip'. -/
def civilRoundTripUptoCard : Claim7 := { stood := { row := civilRoundTripUptoRow, standIns := [], harness := (true, "4695cf5508492216c7b4bbbf05f655ea4e0e3949dddc063551fe9ca1058eb785"), looks := false }, kinds := [], alts := [], laidByText := true, laidKinds := [.data, .data, .data, .data], laidTests := true, laidLooks := .later }
def CivilRoundTripUptoCardSaid : Prop := Claim7.holds Tryd.pinned (.plain (OpenSpec.upto civilRoundTripSpec)) civilRoundTripUptoCard
end Rows
end Go.Proofs.YtbhpceghgjognaaDoor
