/-
  DERIVED. GIVEN WITH THE SEED: THE CARDS: each row of YtkadfidmfnpohaaDoorRows.lean that lists a variable, with what it lists TIED to the program's text (the seventh form; the later family's looks); each row that meets fmt, with fmt's text TOLD by the authors' own Lean function (tested against real Go, not proved from fmt's source: count such statements apart). THE CARD IS WHAT COUNTS. Prove the row's statement (the work); the ties are given (YtkadfidmfnpohaaDoorTie.lean); close each card by the builder's one call (the guide's Derived/Test/ToyasCard.lean, 'card_holds'). Laid BY PROGRAM, IN A SANDBOX (cutbox-door.mjs). By AI agents, Wed Nov 11 2026. No macro, syntax, notation, axiom, sorry.
-/
import Derived.Test.YtkadfidmfnpohaaDoorRows
import GoSem.ClaimSeven
namespace Go.Proofs.YtkadfidmfnpohaaDoor
namespace Rows

/-- THE TIED CARD OF 'quietuslaw07.CodeEncodesAsSpecified'. -/
def codeEncodesAsSpecifiedCard : Claim7 := { stood := { row := codeEncodesAsSpecifiedRow, standIns := [], harness := (true, "26ee1f89fe273131bbf40e829b1fd0cfaf27ae8033f1ba171a01b1ea4bdb0544"), looks := false }, kinds := [], alts := [], laidByText := true, laidKinds := [.data], laidTests := true, laidLooks := .later }
def CodeEncodesAsSpecifiedCardSaid : Prop := Claim7.holds Tryd.pinned (.plain (OpenSpec.ofChange codeEncodesAsSpecifiedSpec)) codeEncodesAsSpecifiedCard

/-- THE TIED CARD OF 'quietuslaw07.CodeDecodesAsSpecified'. -/
def codeDecodesAsSpecifiedCard : Claim7 := { stood := { row := codeDecodesAsSpecifiedRow, standIns := [], harness := (true, "26ee1f89fe273131bbf40e829b1fd0cfaf27ae8033f1ba171a01b1ea4bdb0544"), looks := false }, kinds := [], alts := [], laidByText := true, laidKinds := [.data], laidTests := true, laidLooks := .later }
def CodeDecodesAsSpecifiedCardSaid : Prop := Claim7.holds Tryd.pinned (.plain (OpenSpec.ofChange codeDecodesAsSpecifiedSpec)) codeDecodesAsSpecifiedCard

/-- THE TIED CARD OF 'quietuslaw07.CodeDistanceIsLeast'. -/
def codeDistanceIsLeastCard : Claim7 := { stood := { row := codeDistanceIsLeastRow, standIns := [], harness := (true, "26ee1f89fe273131bbf40e829b1fd0cfaf27ae8033f1ba171a01b1ea4bdb0544"), looks := false }, kinds := [], alts := [], laidByText := true, laidKinds := [.data], laidTests := true, laidLooks := .later }
def CodeDistanceIsLeastCardSaid : Prop := Claim7.holds Tryd.pinned (.plain (OpenSpec.ofChange codeDistanceIsLeastSpec)) codeDistanceIsLeastCard

/-- THE TIED CARD OF 'quietuslaw07.CodeRoundTrips'. -/
def codeRoundTripsCard : Claim7 := { stood := { row := codeRoundTripsRow, standIns := [], harness := (true, "26ee1f89fe273131bbf40e829b1fd0cfaf27ae8033f1ba171a01b1ea4bdb0544"), looks := false }, kinds := [], alts := [], laidByText := true, laidKinds := [.data], laidTests := true, laidLooks := .later }
def CodeRoundTripsCardSaid : Prop := Claim7.holds Tryd.pinned (.plain (OpenSpec.ofChange codeRoundTripsSpec)) codeRoundTripsCard

/-- THE TIED CARD OF 'quietuslaw07.CodeRepairsLocally'. -/
def codeRepairsLocallyCard : Claim7 := { stood := { row := codeRepairsLocallyRow, standIns := [], harness := (true, "26ee1f89fe273131bbf40e829b1fd0cfaf27ae8033f1ba171a01b1ea4bdb0544"), looks := false }, kinds := [], alts := [], laidByText := true, laidKinds := [.data], laidTests := true, laidLooks := .later }
def CodeRepairsLocallyCardSaid : Prop := Claim7.holds Tryd.pinned (.plain (OpenSpec.ofChange codeRepairsLocallySpec)) codeRepairsLocallyCard

/-- THE TIED CARD OF 'quietuslaw12.RiskMatchesSpec'. -/
def riskMatchesSpecCard : Claim7 := { stood := { row := riskMatchesSpecRow, standIns := [], harness := (true, "26ee1f89fe273131bbf40e829b1fd0cfaf27ae8033f1ba171a01b1ea4bdb0544"), looks := false }, kinds := [], alts := [], laidByText := true, laidKinds := [.data], laidTests := true, laidLooks := .later }
def RiskMatchesSpecCardSaid : Prop := Claim7.holds Tryd.pinned (.plain (OpenSpec.ofChange riskMatchesSpecSpec)) riskMatchesSpecCard

/-- THE TIED CARD OF 'quietuslaw12.RiskConditions'. -/
def riskConditionsCard : Claim7 := { stood := { row := riskConditionsRow, standIns := [], harness := (true, "26ee1f89fe273131bbf40e829b1fd0cfaf27ae8033f1ba171a01b1ea4bdb0544"), looks := false }, kinds := [], alts := [], laidByText := true, laidKinds := [.data], laidTests := true, laidLooks := .later }
def RiskConditionsCardSaid : Prop := Claim7.holds Tryd.pinned (.plain (OpenSpec.ofChange riskConditionsSpec)) riskConditionsCard

/-- THE TIED CARD OF 'quietuslaw12.RiskIsMonotone'. -/
def riskIsMonotoneCard : Claim7 := { stood := { row := riskIsMonotoneRow, standIns := [], harness := (true, "26ee1f89fe273131bbf40e829b1fd0cfaf27ae8033f1ba171a01b1ea4bdb0544"), looks := false }, kinds := [], alts := [], laidByText := true, laidKinds := [.data], laidTests := true, laidLooks := .later }
def RiskIsMonotoneCardSaid : Prop := Claim7.holds Tryd.pinned (.plain (OpenSpec.ofChange riskIsMonotoneSpec)) riskIsMonotoneCard

/-- THE TIED CARD OF 'quietuslaw12.RiskLeastIsLeast'. -/
def riskLeastIsLeastCard : Claim7 := { stood := { row := riskLeastIsLeastRow, standIns := [], harness := (true, "26ee1f89fe273131bbf40e829b1fd0cfaf27ae8033f1ba171a01b1ea4bdb0544"), looks := false }, kinds := [], alts := [], laidByText := true, laidKinds := [.data], laidTests := true, laidLooks := .later }
def RiskLeastIsLeastCardSaid : Prop := Claim7.holds Tryd.pinned (.plain (OpenSpec.ofChange riskLeastIsLeastSpec)) riskLeastIsLeastCard

/-- THE TIED CARD OF 'quietuslaw12.RiskOfCopies'. -/
def riskOfCopiesCard : Claim7 := { stood := { row := riskOfCopiesRow, standIns := [], harness := (true, "26ee1f89fe273131bbf40e829b1fd0cfaf27ae8033f1ba171a01b1ea4bdb0544"), looks := false }, kinds := [], alts := [], laidByText := true, laidKinds := [.data], laidTests := true, laidLooks := .later }
def RiskOfCopiesCardSaid : Prop := Claim7.holds Tryd.pinned (.plain (OpenSpec.ofChange riskOfCopiesSpec)) riskOfCopiesCard

/-- THE TIED CARD OF 'quietuslaw12.RiskForgetsNames'. -/
def riskForgetsNamesCard : Claim7 := { stood := { row := riskForgetsNamesRow, standIns := [], harness := (true, "26ee1f89fe273131bbf40e829b1fd0cfaf27ae8033f1ba171a01b1ea4bdb0544"), looks := false }, kinds := [], alts := [], laidByText := true, laidKinds := [.data], laidTests := true, laidLooks := .later }
def RiskForgetsNamesCardSaid : Prop := Claim7.holds Tryd.pinned (.plain (OpenSpec.ofChange riskForgetsNamesSpec)) riskForgetsNamesCard

/-- THE SECOND FORM's CARD OF 'quietuslaw07.CodeEncodesAsSpecified'. -/
def codeEncodesAsSpecifiedUptoCard : Claim7 := { stood := { row := codeEncodesAsSpecifiedUptoRow, standIns := [], harness := (true, "26ee1f89fe273131bbf40e829b1fd0cfaf27ae8033f1ba171a01b1ea4bdb0544"), looks := false }, kinds := [], alts := [], laidByText := true, laidKinds := [.data], laidTests := true, laidLooks := .later }
def CodeEncodesAsSpecifiedUptoCardSaid : Prop := Claim7.holds Tryd.pinned (.plain (OpenSpec.upto codeEncodesAsSpecifiedSpec)) codeEncodesAsSpecifiedUptoCard

/-- THE SECOND FORM's CARD OF 'quietuslaw07.CodeDecodesAsSpecified'. -/
def codeDecodesAsSpecifiedUptoCard : Claim7 := { stood := { row := codeDecodesAsSpecifiedUptoRow, standIns := [], harness := (true, "26ee1f89fe273131bbf40e829b1fd0cfaf27ae8033f1ba171a01b1ea4bdb0544"), looks := false }, kinds := [], alts := [], laidByText := true, laidKinds := [.data], laidTests := true, laidLooks := .later }
def CodeDecodesAsSpecifiedUptoCardSaid : Prop := Claim7.holds Tryd.pinned (.plain (OpenSpec.upto codeDecodesAsSpecifiedSpec)) codeDecodesAsSpecifiedUptoCard

/-- THE SECOND FORM's CARD OF 'quietuslaw07.CodeDistanceIsLeast'. -/
def codeDistanceIsLeastUptoCard : Claim7 := { stood := { row := codeDistanceIsLeastUptoRow, standIns := [], harness := (true, "26ee1f89fe273131bbf40e829b1fd0cfaf27ae8033f1ba171a01b1ea4bdb0544"), looks := false }, kinds := [], alts := [], laidByText := true, laidKinds := [.data], laidTests := true, laidLooks := .later }
def CodeDistanceIsLeastUptoCardSaid : Prop := Claim7.holds Tryd.pinned (.plain (OpenSpec.upto codeDistanceIsLeastSpec)) codeDistanceIsLeastUptoCard

/-- THE SECOND FORM's CARD OF 'quietuslaw07.CodeRoundTrips'. -/
def codeRoundTripsUptoCard : Claim7 := { stood := { row := codeRoundTripsUptoRow, standIns := [], harness := (true, "26ee1f89fe273131bbf40e829b1fd0cfaf27ae8033f1ba171a01b1ea4bdb0544"), looks := false }, kinds := [], alts := [], laidByText := true, laidKinds := [.data], laidTests := true, laidLooks := .later }
def CodeRoundTripsUptoCardSaid : Prop := Claim7.holds Tryd.pinned (.plain (OpenSpec.upto codeRoundTripsSpec)) codeRoundTripsUptoCard

/-- THE SECOND FORM's CARD OF 'quietuslaw07.CodeRepairsLocally'. -/
def codeRepairsLocallyUptoCard : Claim7 := { stood := { row := codeRepairsLocallyUptoRow, standIns := [], harness := (true, "26ee1f89fe273131bbf40e829b1fd0cfaf27ae8033f1ba171a01b1ea4bdb0544"), looks := false }, kinds := [], alts := [], laidByText := true, laidKinds := [.data], laidTests := true, laidLooks := .later }
def CodeRepairsLocallyUptoCardSaid : Prop := Claim7.holds Tryd.pinned (.plain (OpenSpec.upto codeRepairsLocallySpec)) codeRepairsLocallyUptoCard

/-- THE SECOND FORM's CARD OF 'quietuslaw12.RiskMatchesSpec'. -/
def riskMatchesSpecUptoCard : Claim7 := { stood := { row := riskMatchesSpecUptoRow, standIns := [], harness := (true, "26ee1f89fe273131bbf40e829b1fd0cfaf27ae8033f1ba171a01b1ea4bdb0544"), looks := false }, kinds := [], alts := [], laidByText := true, laidKinds := [.data], laidTests := true, laidLooks := .later }
def RiskMatchesSpecUptoCardSaid : Prop := Claim7.holds Tryd.pinned (.plain (OpenSpec.upto riskMatchesSpecSpec)) riskMatchesSpecUptoCard

/-- THE SECOND FORM's CARD OF 'quietuslaw12.RiskConditions'. -/
def riskConditionsUptoCard : Claim7 := { stood := { row := riskConditionsUptoRow, standIns := [], harness := (true, "26ee1f89fe273131bbf40e829b1fd0cfaf27ae8033f1ba171a01b1ea4bdb0544"), looks := false }, kinds := [], alts := [], laidByText := true, laidKinds := [.data], laidTests := true, laidLooks := .later }
def RiskConditionsUptoCardSaid : Prop := Claim7.holds Tryd.pinned (.plain (OpenSpec.upto riskConditionsSpec)) riskConditionsUptoCard

/-- THE SECOND FORM's CARD OF 'quietuslaw12.RiskIsMonotone'. -/
def riskIsMonotoneUptoCard : Claim7 := { stood := { row := riskIsMonotoneUptoRow, standIns := [], harness := (true, "26ee1f89fe273131bbf40e829b1fd0cfaf27ae8033f1ba171a01b1ea4bdb0544"), looks := false }, kinds := [], alts := [], laidByText := true, laidKinds := [.data], laidTests := true, laidLooks := .later }
def RiskIsMonotoneUptoCardSaid : Prop := Claim7.holds Tryd.pinned (.plain (OpenSpec.upto riskIsMonotoneSpec)) riskIsMonotoneUptoCard

/-- THE SECOND FORM's CARD OF 'quietuslaw12.RiskLeastIsLeast'. -/
def riskLeastIsLeastUptoCard : Claim7 := { stood := { row := riskLeastIsLeastUptoRow, standIns := [], harness := (true, "26ee1f89fe273131bbf40e829b1fd0cfaf27ae8033f1ba171a01b1ea4bdb0544"), looks := false }, kinds := [], alts := [], laidByText := true, laidKinds := [.data], laidTests := true, laidLooks := .later }
def RiskLeastIsLeastUptoCardSaid : Prop := Claim7.holds Tryd.pinned (.plain (OpenSpec.upto riskLeastIsLeastSpec)) riskLeastIsLeastUptoCard

/-- THE SECOND FORM's CARD OF 'quietuslaw12.RiskOfCopies'. -/
def riskOfCopiesUptoCard : Claim7 := { stood := { row := riskOfCopiesUptoRow, standIns := [], harness := (true, "26ee1f89fe273131bbf40e829b1fd0cfaf27ae8033f1ba171a01b1ea4bdb0544"), looks := false }, kinds := [], alts := [], laidByText := true, laidKinds := [.data], laidTests := true, laidLooks := .later }
def RiskOfCopiesUptoCardSaid : Prop := Claim7.holds Tryd.pinned (.plain (OpenSpec.upto riskOfCopiesSpec)) riskOfCopiesUptoCard

/-- THE SECOND FORM's CARD OF 'quietuslaw12.RiskForgetsNames'. -/
def riskForgetsNamesUptoCard : Claim7 := { stood := { row := riskForgetsNamesUptoRow, standIns := [], harness := (true, "26ee1f89fe273131bbf40e829b1fd0cfaf27ae8033f1ba171a01b1ea4bdb0544"), looks := false }, kinds := [], alts := [], laidByText := true, laidKinds := [.data], laidTests := true, laidLooks := .later }
def RiskForgetsNamesUptoCardSaid : Prop := Claim7.holds Tryd.pinned (.plain (OpenSpec.upto riskForgetsNamesSpec)) riskForgetsNamesUptoCard
end Rows
end Go.Proofs.YtkadfidmfnpohaaDoor
