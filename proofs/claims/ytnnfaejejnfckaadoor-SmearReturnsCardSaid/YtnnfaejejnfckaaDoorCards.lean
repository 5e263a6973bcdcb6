/-
  DERIVED. GIVEN WITH THE SEED: THE CARDS: each row of YtnnfaejejnfckaaDoorRows.lean that lists a variable, with what it lists TIED to the program's text (the seventh form; the later family's looks); each row that meets fmt, with fmt's text TOLD by the authors' own Lean function (tested against real Go, not proved from fmt's source: count such statements apart). THE CARD IS WHAT COUNTS. Prove the row's statement (the work); the ties are given (YtnnfaejejnfckaaDoorTie.lean); close each card by the builder's one call (the guide's Derived/Test/ToyasCard.lean, 'card_holds'). Laid BY PROGRAM, IN A SANDBOX (cutbox-door.mjs). By AI agents, Wed Nov 11 2026. No macro, syntax, notation, axiom, sorry.
-/
import Derived.Test.YtnnfaejejnfckaaDoorRows
import GoSem.ClaimSeven
namespace Go.Proofs.YtnnfaejejnfckaaDoor
namespace Rows

/-- THE TIED CARD OF 'timesynclaw07.SmearChecks'. -/
def smearChecksCard : Claim7 := { stood := { row := smearChecksRow, standIns := [], harness := (true, "8cef9fec5614a0fa393c1e63a718c71131b1fd9e03a289d9916d3a08542990d3"), looks := false }, kinds := [], alts := [], laidByText := true, laidKinds := [.data], laidTests := true, laidLooks := .later }
def SmearChecksCardSaid : Prop := Claim7.holds Tryd.pinned (.plain (OpenSpec.ofChange smearChecksSpec)) smearChecksCard

/-- THE TIED CARD OF 'timesynclaw07.SmearReads'. -/
def smearReadsCard : Claim7 := { stood := { row := smearReadsRow, standIns := [], harness := (true, "8cef9fec5614a0fa393c1e63a718c71131b1fd9e03a289d9916d3a08542990d3"), looks := false }, kinds := [], alts := [], laidByText := true, laidKinds := [.data], laidTests := true, laidLooks := .later }
def SmearReadsCardSaid : Prop := Claim7.holds Tryd.pinned (.plain (OpenSpec.ofChange smearReadsSpec)) smearReadsCard

/-- THE TIED CARD OF 'timesynclaw07.SmearInverts'. -/
def smearInvertsCard : Claim7 := { stood := { row := smearInvertsRow, standIns := [], harness := (true, "8cef9fec5614a0fa393c1e63a718c71131b1fd9e03a289d9916d3a08542990d3"), looks := false }, kinds := [], alts := [], laidByText := true, laidKinds := [.data], laidTests := true, laidLooks := .later }
def SmearInvertsCardSaid : Prop := Claim7.holds Tryd.pinned (.plain (OpenSpec.ofChange smearInvertsSpec)) smearInvertsCard

/-- THE TIED CARD OF 'timesynclaw07.SmearRates'. -/
def smearRatesCard : Claim7 := { stood := { row := smearRatesRow, standIns := [], harness := (true, "8cef9fec5614a0fa393c1e63a718c71131b1fd9e03a289d9916d3a08542990d3"), looks := false }, kinds := [], alts := [], laidByText := true, laidKinds := [.data], laidTests := true, laidLooks := .later }
def SmearRatesCardSaid : Prop := Claim7.holds Tryd.pinned (.plain (OpenSpec.ofChange smearRatesSpec)) smearRatesCard

/-- THE TIED CARD OF 'timesynclaw07.SmearRises'. -/
def smearRisesCard : Claim7 := { stood := { row := smearRisesRow, standIns := [], harness := (true, "8cef9fec5614a0fa393c1e63a718c71131b1fd9e03a289d9916d3a08542990d3"), looks := false }, kinds := [], alts := [], laidByText := true, laidKinds := [.data], laidTests := true, laidLooks := .later }
def SmearRisesCardSaid : Prop := Claim7.holds Tryd.pinned (.plain (OpenSpec.ofChange smearRisesSpec)) smearRisesCard

/-- THE TIED CARD OF 'timesynclaw07.SmearReturns'. -/
def smearReturnsCard : Claim7 := { stood := { row := smearReturnsRow, standIns := [], harness := (true, "8cef9fec5614a0fa393c1e63a718c71131b1fd9e03a289d9916d3a08542990d3"), looks := false }, kinds := [], alts := [], laidByText := true, laidKinds := [.data], laidTests := true, laidLooks := .later }
def SmearReturnsCardSaid : Prop := Claim7.holds Tryd.pinned (.plain (OpenSpec.ofChange smearReturnsSpec)) smearReturnsCard

/-- THE TIED CARD OF 'timesynclaw07.SmearJoins'. -/
def smearJoinsCard : Claim7 := { stood := { row := smearJoinsRow, standIns := [], harness := (true, "8cef9fec5614a0fa393c1e63a718c71131b1fd9e03a289d9916d3a08542990d3"), looks := false }, kinds := [], alts := [], laidByText := true, laidKinds := [.data], laidTests := true, laidLooks := .later }
def SmearJoinsCardSaid : Prop := Claim7.holds Tryd.pinned (.plain (OpenSpec.ofChange smearJoinsSpec)) smearJoinsCard

/-- THE SECOND FORM's CARD OF 'timesynclaw07.SmearChecks'. -/
def smearChecksUptoCard : Claim7 := { stood := { row := smearChecksUptoRow, standIns := [], harness := (true, "8cef9fec5614a0fa393c1e63a718c71131b1fd9e03a289d9916d3a08542990d3"), looks := false }, kinds := [], alts := [], laidByText := true, laidKinds := [.data], laidTests := true, laidLooks := .later }
def SmearChecksUptoCardSaid : Prop := Claim7.holds Tryd.pinned (.plain (OpenSpec.upto smearChecksSpec)) smearChecksUptoCard

/-- THE SECOND FORM's CARD OF 'timesynclaw07.SmearReads'. -/
def smearReadsUptoCard : Claim7 := { stood := { row := smearReadsUptoRow, standIns := [], harness := (true, "8cef9fec5614a0fa393c1e63a718c71131b1fd9e03a289d9916d3a08542990d3"), looks := false }, kinds := [], alts := [], laidByText := true, laidKinds := [.data], laidTests := true, laidLooks := .later }
def SmearReadsUptoCardSaid : Prop := Claim7.holds Tryd.pinned (.plain (OpenSpec.upto smearReadsSpec)) smearReadsUptoCard

/-- THE SECOND FORM's CARD OF 'timesynclaw07.SmearInverts'. -/
def smearInvertsUptoCard : Claim7 := { stood := { row := smearInvertsUptoRow, standIns := [], harness := (true, "8cef9fec5614a0fa393c1e63a718c71131b1fd9e03a289d9916d3a08542990d3"), looks := false }, kinds := [], alts := [], laidByText := true, laidKinds := [.data], laidTests := true, laidLooks := .later }
def SmearInvertsUptoCardSaid : Prop := Claim7.holds Tryd.pinned (.plain (OpenSpec.upto smearInvertsSpec)) smearInvertsUptoCard

/-- THE SECOND FORM's CARD OF 'timesynclaw07.SmearRates'. -/
def smearRatesUptoCard : Claim7 := { stood := { row := smearRatesUptoRow, standIns := [], harness := (true, "8cef9fec5614a0fa393c1e63a718c71131b1fd9e03a289d9916d3a08542990d3"), looks := false }, kinds := [], alts := [], laidByText := true, laidKinds := [.data], laidTests := true, laidLooks := .later }
def SmearRatesUptoCardSaid : Prop := Claim7.holds Tryd.pinned (.plain (OpenSpec.upto smearRatesSpec)) smearRatesUptoCard

/-- THE SECOND FORM's CARD OF 'timesynclaw07.SmearRises'. -/
def smearRisesUptoCard : Claim7 := { stood := { row := smearRisesUptoRow, standIns := [], harness := (true, "8cef9fec5614a0fa393c1e63a718c71131b1fd9e03a289d9916d3a08542990d3"), looks := false }, kinds := [], alts := [], laidByText := true, laidKinds := [.data], laidTests := true, laidLooks := .later }
def SmearRisesUptoCardSaid : Prop := Claim7.holds Tryd.pinned (.plain (OpenSpec.upto smearRisesSpec)) smearRisesUptoCard

/-- THE SECOND FORM's CARD OF 'timesynclaw07.SmearReturns'. -/
def smearReturnsUptoCard : Claim7 := { stood := { row := smearReturnsUptoRow, standIns := [], harness := (true, "8cef9fec5614a0fa393c1e63a718c71131b1fd9e03a289d9916d3a08542990d3"), looks := false }, kinds := [], alts := [], laidByText := true, laidKinds := [.data], laidTests := true, laidLooks := .later }
def SmearReturnsUptoCardSaid : Prop := Claim7.holds Tryd.pinned (.plain (OpenSpec.upto smearReturnsSpec)) smearReturnsUptoCard

/-- THE SECOND FORM's CARD OF 'timesynclaw07.SmearJoins'. -/
def smearJoinsUptoCard : Claim7 := { stood := { row := smearJoinsUptoRow, standIns := [], harness := (true, "8cef9fec5614a0fa393c1e63a718c71131b1fd9e03a289d9916d3a08542990d3"), looks := false }, kinds := [], alts := [], laidByText := true, laidKinds := [.data], laidTests := true, laidLooks := .later }
def SmearJoinsUptoCardSaid : Prop := Claim7.holds Tryd.pinned (.plain (OpenSpec.upto smearJoinsSpec)) smearJoinsUptoCard
end Rows
end Go.Proofs.YtnnfaejejnfckaaDoor
