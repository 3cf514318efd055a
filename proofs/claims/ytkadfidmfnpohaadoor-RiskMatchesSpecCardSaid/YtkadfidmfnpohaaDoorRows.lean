/-
  NARROWER THAN 'FOR EVERY INPUT', by the rows' own cells (each row's printed sentence says how): CodeEncodesAsSpecified: laid · CodeDecodesAsSpecified: laid · CodeDistanceIsLeast: laid · CodeRoundTrips: laid · CodeRepairsLocally: laid · RiskMatchesSpec: laid · RiskConditions: laid · RiskIsMonotone: laid · RiskLeastIsLeast: laid · RiskOfCopies: laid · RiskForgetsNames: laid.
  DERIVED. THE GIVEN ROWS OF THIS SEAT. 11 by the template 'for every input the law returns true; each argument reads behind the call as it read before'; 0 by the template 'total and deterministic' (their statements: YtkadfidmfnpohaaDoorTotals.lean).
  GIVEN WITH THE SEED: the statements are not yours to turn. If you find one false, say at which input.
  Laid BY PROGRAM, IN A SANDBOX (cutbox-rows.mjs): the forced cells as the released guide's own fill.sh prints them over the translation 24fb91729b4b824a… (all of the seat's roots in one cut). By AI agents, Wed Nov 11 2026. No macro, syntax, notation, axiom, sorry.
-/
import Derived.Test.YtkadfidmfnpohaaDoorChecked
import GoSem.Claim
import GoSem.ClaimJoined
import GoSem.ClaimMapViews
import Derived.JoinedTies
import Derived.KernelRfl
namespace Go.Proofs.YtkadfidmfnpohaaDoor
/- THE CELL 'sum', in the pinned program and in every row, IS THE sha256 OF THE DUMP (.gsa) THAT YtkadfidmfnpohaaDoorProg.lean LOADS. Nothing in Lean hashes anything: it is a label: what it is worth is what the hold of that sum in a sandbox is worth. -/
noncomputable def Tryd.pinned : Pinned := { name := "ytkadfidmfnpohaadoor", sum := "24fb91729b4b824ad84be898eed0e0de2765aaadaeccc2402b449e14421a3fd7", checked := Tryd.checked }
namespace Rows
def none {H : Type} : Left H := { results := [], args := [] }

/- WHAT THE LISTED PACKAGE-LEVEL VARIABLES READ AS WHEN THE CALL BEGINS. Each datum BY PROGRAM (the guide's laid-datum.mjs) off the statement by which the dump's own 'gosem.cut.vars' lays the variable. In a bare row this is a premise. The card (YtkadfidmfnpohaaDoorCards.lean) ties it to the program's text. -/
def laid_quietus_gf_high {H : Type} : DataW H := .agg [.lit (.int .u8 0), .lit (.int .u8 29), .lit (.int .u8 58), .lit (.int .u8 39), .lit (.int .u8 116), .lit (.int .u8 105), .lit (.int .u8 78), .lit (.int .u8 83), .lit (.int .u8 232), .lit (.int .u8 245), .lit (.int .u8 210), .lit (.int .u8 207), .lit (.int .u8 156), .lit (.int .u8 129), .lit (.int .u8 166), .lit (.int .u8 187)]

/-- 'quietuslaw07.CodeEncodesAsSpecified': WHATEVER THE INPUT: true; the input reads as it did. -/
def codeEncodesAsSpecifiedSpec : ChangeSpec := { name := "codeEncodesAsSpecified", fn := fun _ => fun
  | [d1, d2, d3] => { results := [.lit (.bool true)], args := [d1, d2, d3] }
  | _ => none }
def codeEncodesAsSpecifiedRow : OpenClaim := { program := "ytkadfidmfnpohaadoor", sum := "24fb91729b4b824ad84be898eed0e0de2765aaadaeccc2402b449e14421a3fd7", func := "quietus/quietuslaw07.CodeEncodesAsSpecified", spec := "codeEncodesAsSpecified", unfollowed := true, recurses := true, named := ["quietus/gf.high"], apart := false, laid := [("quietus/gf.high", laid_quietus_gf_high)] }
def CodeEncodesAsSpecifiedSaid : Prop := codeEncodesAsSpecifiedRow.holds Tryd.pinned (OpenSpec.ofChange codeEncodesAsSpecifiedSpec)

/-- ITS FALSE NEIGHBOUR: 'it returns false'. Refute it at one input. -/
def codeEncodesAsSpecifiedWrong : ChangeSpec := { name := "codeEncodesAsSpecified", fn := fun _ => fun
  | [d1, d2, d3] => { results := [.lit (.bool false)], args := [d1, d2, d3] }
  | _ => none }
def CodeEncodesAsSpecifiedWrongFalsely : Prop := codeEncodesAsSpecifiedRow.holds Tryd.pinned (OpenSpec.ofChange codeEncodesAsSpecifiedWrong)

/-- 'quietuslaw07.CodeDecodesAsSpecified': WHATEVER THE INPUT: true; the input reads as it did. -/
def codeDecodesAsSpecifiedSpec : ChangeSpec := { name := "codeDecodesAsSpecified", fn := fun _ => fun
  | [d1, d2, d3] => { results := [.lit (.bool true)], args := [d1, d2, d3] }
  | _ => none }
def codeDecodesAsSpecifiedRow : OpenClaim := { program := "ytkadfidmfnpohaadoor", sum := "24fb91729b4b824ad84be898eed0e0de2765aaadaeccc2402b449e14421a3fd7", func := "quietus/quietuslaw07.CodeDecodesAsSpecified", spec := "codeDecodesAsSpecified", unfollowed := true, recurses := true, named := ["quietus/gf.high"], apart := false, laid := [("quietus/gf.high", laid_quietus_gf_high)] }
def CodeDecodesAsSpecifiedSaid : Prop := codeDecodesAsSpecifiedRow.holds Tryd.pinned (OpenSpec.ofChange codeDecodesAsSpecifiedSpec)

/-- ITS FALSE NEIGHBOUR: 'it returns false'. Refute it at one input. -/
def codeDecodesAsSpecifiedWrong : ChangeSpec := { name := "codeDecodesAsSpecified", fn := fun _ => fun
  | [d1, d2, d3] => { results := [.lit (.bool false)], args := [d1, d2, d3] }
  | _ => none }
def CodeDecodesAsSpecifiedWrongFalsely : Prop := codeDecodesAsSpecifiedRow.holds Tryd.pinned (OpenSpec.ofChange codeDecodesAsSpecifiedWrong)

/-- 'quietuslaw07.CodeDistanceIsLeast': WHATEVER THE INPUT: true; the input reads as it did. -/
def codeDistanceIsLeastSpec : ChangeSpec := { name := "codeDistanceIsLeast", fn := fun _ => fun
  | [d1, d2, d3] => { results := [.lit (.bool true)], args := [d1, d2, d3] }
  | _ => none }
def codeDistanceIsLeastRow : OpenClaim := { program := "ytkadfidmfnpohaadoor", sum := "24fb91729b4b824ad84be898eed0e0de2765aaadaeccc2402b449e14421a3fd7", func := "quietus/quietuslaw07.CodeDistanceIsLeast", spec := "codeDistanceIsLeast", unfollowed := true, recurses := true, named := ["quietus/gf.high"], apart := false, laid := [("quietus/gf.high", laid_quietus_gf_high)] }
def CodeDistanceIsLeastSaid : Prop := codeDistanceIsLeastRow.holds Tryd.pinned (OpenSpec.ofChange codeDistanceIsLeastSpec)

/-- ITS FALSE NEIGHBOUR: 'it returns false'. Refute it at one input. -/
def codeDistanceIsLeastWrong : ChangeSpec := { name := "codeDistanceIsLeast", fn := fun _ => fun
  | [d1, d2, d3] => { results := [.lit (.bool false)], args := [d1, d2, d3] }
  | _ => none }
def CodeDistanceIsLeastWrongFalsely : Prop := codeDistanceIsLeastRow.holds Tryd.pinned (OpenSpec.ofChange codeDistanceIsLeastWrong)

/-- 'quietuslaw07.CodeRoundTrips': WHATEVER THE INPUT: true; the input reads as it did. -/
def codeRoundTripsSpec : ChangeSpec := { name := "codeRoundTrips", fn := fun _ => fun
  | [d1, d2, d3] => { results := [.lit (.bool true)], args := [d1, d2, d3] }
  | _ => none }
def codeRoundTripsRow : OpenClaim := { program := "ytkadfidmfnpohaadoor", sum := "24fb91729b4b824ad84be898eed0e0de2765aaadaeccc2402b449e14421a3fd7", func := "quietus/quietuslaw07.CodeRoundTrips", spec := "codeRoundTrips", unfollowed := true, recurses := true, named := ["quietus/gf.high"], apart := false, laid := [("quietus/gf.high", laid_quietus_gf_high)] }
def CodeRoundTripsSaid : Prop := codeRoundTripsRow.holds Tryd.pinned (OpenSpec.ofChange codeRoundTripsSpec)

/-- ITS FALSE NEIGHBOUR: 'it returns false'. Refute it at one input. -/
def codeRoundTripsWrong : ChangeSpec := { name := "codeRoundTrips", fn := fun _ => fun
  | [d1, d2, d3] => { results := [.lit (.bool false)], args := [d1, d2, d3] }
  | _ => none }
def CodeRoundTripsWrongFalsely : Prop := codeRoundTripsRow.holds Tryd.pinned (OpenSpec.ofChange codeRoundTripsWrong)

/-- 'quietuslaw07.CodeRepairsLocally': WHATEVER THE INPUT: true; the input reads as it did. -/
def codeRepairsLocallySpec : ChangeSpec := { name := "codeRepairsLocally", fn := fun _ => fun
  | [d1, d2, d3] => { results := [.lit (.bool true)], args := [d1, d2, d3] }
  | _ => none }
def codeRepairsLocallyRow : OpenClaim := { program := "ytkadfidmfnpohaadoor", sum := "24fb91729b4b824ad84be898eed0e0de2765aaadaeccc2402b449e14421a3fd7", func := "quietus/quietuslaw07.CodeRepairsLocally", spec := "codeRepairsLocally", unfollowed := true, recurses := true, named := ["quietus/gf.high"], apart := false, laid := [("quietus/gf.high", laid_quietus_gf_high)] }
def CodeRepairsLocallySaid : Prop := codeRepairsLocallyRow.holds Tryd.pinned (OpenSpec.ofChange codeRepairsLocallySpec)

/-- ITS FALSE NEIGHBOUR: 'it returns false'. Refute it at one input. -/
def codeRepairsLocallyWrong : ChangeSpec := { name := "codeRepairsLocally", fn := fun _ => fun
  | [d1, d2, d3] => { results := [.lit (.bool false)], args := [d1, d2, d3] }
  | _ => none }
def CodeRepairsLocallyWrongFalsely : Prop := codeRepairsLocallyRow.holds Tryd.pinned (OpenSpec.ofChange codeRepairsLocallyWrong)

/-- 'quietuslaw12.RiskMatchesSpec': WHATEVER THE INPUT: true; the input reads as it did. -/
def riskMatchesSpecSpec : ChangeSpec := { name := "riskMatchesSpec", fn := fun _ => fun
  | [d1, d2, d3] => { results := [.lit (.bool true)], args := [d1, d2, d3] }
  | _ => none }
def riskMatchesSpecRow : OpenClaim := { program := "ytkadfidmfnpohaadoor", sum := "24fb91729b4b824ad84be898eed0e0de2765aaadaeccc2402b449e14421a3fd7", func := "quietus/quietuslaw12.RiskMatchesSpec", spec := "riskMatchesSpec", unfollowed := true, recurses := true, named := ["quietus/gf.high"], apart := false, laid := [("quietus/gf.high", laid_quietus_gf_high)] }
def RiskMatchesSpecSaid : Prop := riskMatchesSpecRow.holds Tryd.pinned (OpenSpec.ofChange riskMatchesSpecSpec)

/-- ITS FALSE NEIGHBOUR: 'it returns false'. Refute it at one input. -/
def riskMatchesSpecWrong : ChangeSpec := { name := "riskMatchesSpec", fn := fun _ => fun
  | [d1, d2, d3] => { results := [.lit (.bool false)], args := [d1, d2, d3] }
  | _ => none }
def RiskMatchesSpecWrongFalsely : Prop := riskMatchesSpecRow.holds Tryd.pinned (OpenSpec.ofChange riskMatchesSpecWrong)

/-- 'quietuslaw12.RiskConditions': WHATEVER THE INPUT: true; the input reads as it did. -/
def riskConditionsSpec : ChangeSpec := { name := "riskConditions", fn := fun _ => fun
  | [d1, d2] => { results := [.lit (.bool true)], args := [d1, d2] }
  | _ => none }
def riskConditionsRow : OpenClaim := { program := "ytkadfidmfnpohaadoor", sum := "24fb91729b4b824ad84be898eed0e0de2765aaadaeccc2402b449e14421a3fd7", func := "quietus/quietuslaw12.RiskConditions", spec := "riskConditions", unfollowed := true, recurses := true, named := ["quietus/gf.high"], apart := false, laid := [("quietus/gf.high", laid_quietus_gf_high)] }
def RiskConditionsSaid : Prop := riskConditionsRow.holds Tryd.pinned (OpenSpec.ofChange riskConditionsSpec)

/-- ITS FALSE NEIGHBOUR: 'it returns false'. Refute it at one input. -/
def riskConditionsWrong : ChangeSpec := { name := "riskConditions", fn := fun _ => fun
  | [d1, d2] => { results := [.lit (.bool false)], args := [d1, d2] }
  | _ => none }
def RiskConditionsWrongFalsely : Prop := riskConditionsRow.holds Tryd.pinned (OpenSpec.ofChange riskConditionsWrong)

/-- 'quietuslaw12.RiskIsMonotone': WHATEVER THE INPUT: true; the input reads as it did. -/
def riskIsMonotoneSpec : ChangeSpec := { name := "riskIsMonotone", fn := fun _ => fun
  | [d1, d2, d3] => { results := [.lit (.bool true)], args := [d1, d2, d3] }
  | _ => none }
def riskIsMonotoneRow : OpenClaim := { program := "ytkadfidmfnpohaadoor", sum := "24fb91729b4b824ad84be898eed0e0de2765aaadaeccc2402b449e14421a3fd7", func := "quietus/quietuslaw12.RiskIsMonotone", spec := "riskIsMonotone", unfollowed := true, recurses := true, named := ["quietus/gf.high"], apart := false, laid := [("quietus/gf.high", laid_quietus_gf_high)] }
def RiskIsMonotoneSaid : Prop := riskIsMonotoneRow.holds Tryd.pinned (OpenSpec.ofChange riskIsMonotoneSpec)

/-- ITS FALSE NEIGHBOUR: 'it returns false'. Refute it at one input. -/
def riskIsMonotoneWrong : ChangeSpec := { name := "riskIsMonotone", fn := fun _ => fun
  | [d1, d2, d3] => { results := [.lit (.bool false)], args := [d1, d2, d3] }
  | _ => none }
def RiskIsMonotoneWrongFalsely : Prop := riskIsMonotoneRow.holds Tryd.pinned (OpenSpec.ofChange riskIsMonotoneWrong)

/-- 'quietuslaw12.RiskLeastIsLeast': WHATEVER THE INPUT: true; the input reads as it did. -/
def riskLeastIsLeastSpec : ChangeSpec := { name := "riskLeastIsLeast", fn := fun _ => fun
  | [d1, d2] => { results := [.lit (.bool true)], args := [d1, d2] }
  | _ => none }
def riskLeastIsLeastRow : OpenClaim := { program := "ytkadfidmfnpohaadoor", sum := "24fb91729b4b824ad84be898eed0e0de2765aaadaeccc2402b449e14421a3fd7", func := "quietus/quietuslaw12.RiskLeastIsLeast", spec := "riskLeastIsLeast", unfollowed := true, recurses := true, named := ["quietus/gf.high"], apart := false, laid := [("quietus/gf.high", laid_quietus_gf_high)] }
def RiskLeastIsLeastSaid : Prop := riskLeastIsLeastRow.holds Tryd.pinned (OpenSpec.ofChange riskLeastIsLeastSpec)

/-- ITS FALSE NEIGHBOUR: 'it returns false'. Refute it at one input. -/
def riskLeastIsLeastWrong : ChangeSpec := { name := "riskLeastIsLeast", fn := fun _ => fun
  | [d1, d2] => { results := [.lit (.bool false)], args := [d1, d2] }
  | _ => none }
def RiskLeastIsLeastWrongFalsely : Prop := riskLeastIsLeastRow.holds Tryd.pinned (OpenSpec.ofChange riskLeastIsLeastWrong)

/-- 'quietuslaw12.RiskOfCopies': WHATEVER THE INPUT: true; the input reads as it did. -/
def riskOfCopiesSpec : ChangeSpec := { name := "riskOfCopies", fn := fun _ => fun
  | [d1, d2, d3, d4] => { results := [.lit (.bool true)], args := [d1, d2, d3, d4] }
  | _ => none }
def riskOfCopiesRow : OpenClaim := { program := "ytkadfidmfnpohaadoor", sum := "24fb91729b4b824ad84be898eed0e0de2765aaadaeccc2402b449e14421a3fd7", func := "quietus/quietuslaw12.RiskOfCopies", spec := "riskOfCopies", unfollowed := true, recurses := true, named := ["quietus/gf.high"], apart := false, laid := [("quietus/gf.high", laid_quietus_gf_high)] }
def RiskOfCopiesSaid : Prop := riskOfCopiesRow.holds Tryd.pinned (OpenSpec.ofChange riskOfCopiesSpec)

/-- ITS FALSE NEIGHBOUR: 'it returns false'. Refute it at one input. -/
def riskOfCopiesWrong : ChangeSpec := { name := "riskOfCopies", fn := fun _ => fun
  | [d1, d2, d3, d4] => { results := [.lit (.bool false)], args := [d1, d2, d3, d4] }
  | _ => none }
def RiskOfCopiesWrongFalsely : Prop := riskOfCopiesRow.holds Tryd.pinned (OpenSpec.ofChange riskOfCopiesWrong)

/-- 'quietuslaw12.RiskForgetsNames': WHATEVER THE INPUT: true; the input reads as it did. -/
def riskForgetsNamesSpec : ChangeSpec := { name := "riskForgetsNames", fn := fun _ => fun
  | [d1, d2, d3] => { results := [.lit (.bool true)], args := [d1, d2, d3] }
  | _ => none }
def riskForgetsNamesRow : OpenClaim := { program := "ytkadfidmfnpohaadoor", sum := "24fb91729b4b824ad84be898eed0e0de2765aaadaeccc2402b449e14421a3fd7", func := "quietus/quietuslaw12.RiskForgetsNames", spec := "riskForgetsNames", unfollowed := true, recurses := true, named := ["quietus/gf.high"], apart := false, laid := [("quietus/gf.high", laid_quietus_gf_high)] }
def RiskForgetsNamesSaid : Prop := riskForgetsNamesRow.holds Tryd.pinned (OpenSpec.ofChange riskForgetsNamesSpec)

/-- ITS FALSE NEIGHBOUR: 'it returns false'. Refute it at one input. -/
def riskForgetsNamesWrong : ChangeSpec := { name := "riskForgetsNames", fn := fun _ => fun
  | [d1, d2, d3] => { results := [.lit (.bool false)], args := [d1, d2, d3] }
  | _ => none }
def RiskForgetsNamesWrongFalsely : Prop := riskForgetsNamesRow.holds Tryd.pinned (OpenSpec.ofChange riskForgetsNamesWrong)

/- THE SECOND FORM. 'bulk': how many values and letters a reading holds, each counted each time it is reached (what is shared counts as often as it is met; a slice's spare places count too). A statement '..UptoSaid' is the law's where the arguments, and the package variables that the reading takes, are together of bulk at most 1048576: NARROWER than '..Said'. Prove '..Said' where nothing that the law and all that it calls make is longer than what came in: it says more and counts as full. Else prove '..UptoSaid'. A law counts once. -/
mutual
def uptoBulk {H : Type} : DataW H → Nat
  | .lit (.string bytes) => bytes.length + 1
  | .lit _ => 1
  | .nil => 1
  | .ptr d => uptoBulk d + 1
  | .slice elems spare => uptoBulkAll elems + uptoBulkAll spare + 1
  | .agg parts => uptoBulkAll parts + 1
  | .iface _ d => uptoBulk d + 1
  | .map entries => uptoBulkEntries entries + 1
  | .held _ => 1
def uptoBulkAll {H : Type} : List (DataW H) → Nat
  | [] => 0
  | d :: r => uptoBulk d + uptoBulkAll r
def uptoBulkEntries {H : Type} : List (Lit × DataW H) → Nat
  | [] => 0
  | x :: r => uptoBulkEntry x + uptoBulkEntries r
def uptoBulkEntry {H : Type} : Lit × DataW H → Nat
  | (.string bytes, d) => bytes.length + uptoBulk d + 1
  | (_, d) => uptoBulk d + 1
 end
def uptoSmall : (H : Type) → List (DataW H) → Bool := fun _ ds => decide (uptoBulkAll ds ≤ 1048576)
def OpenSpec.upto (s : _root_.Go.ChangeSpec) : _root_.Go.OpenSpec := { _root_.Go.OpenSpec.ofChange s with cond := some uptoSmall }

/-- 'quietuslaw07.CodeEncodesAsSpecified', WHERE WHAT IT READS IS OF BULK AT MOST 1048576: true; the input reads as it did. -/
def codeEncodesAsSpecifiedUptoRow : OpenClaim := { program := "ytkadfidmfnpohaadoor", sum := "24fb91729b4b824ad84be898eed0e0de2765aaadaeccc2402b449e14421a3fd7", func := "quietus/quietuslaw07.CodeEncodesAsSpecified", spec := "codeEncodesAsSpecified", unfollowed := true, recurses := true, named := ["quietus/gf.high"], apart := false, laid := [("quietus/gf.high", laid_quietus_gf_high)], narrowed := true }
def CodeEncodesAsSpecifiedUptoSaid : Prop := codeEncodesAsSpecifiedUptoRow.holds Tryd.pinned (OpenSpec.upto codeEncodesAsSpecifiedSpec)

/-- 'quietuslaw07.CodeDecodesAsSpecified', WHERE WHAT IT READS IS OF BULK AT MOST 1048576: true; the input reads as it did. -/
def codeDecodesAsSpecifiedUptoRow : OpenClaim := { program := "ytkadfidmfnpohaadoor", sum := "24fb91729b4b824ad84be898eed0e0de2765aaadaeccc2402b449e14421a3fd7", func := "quietus/quietuslaw07.CodeDecodesAsSpecified", spec := "codeDecodesAsSpecified", unfollowed := true, recurses := true, named := ["quietus/gf.high"], apart := false, laid := [("quietus/gf.high", laid_quietus_gf_high)], narrowed := true }
def CodeDecodesAsSpecifiedUptoSaid : Prop := codeDecodesAsSpecifiedUptoRow.holds Tryd.pinned (OpenSpec.upto codeDecodesAsSpecifiedSpec)

/-- 'quietuslaw07.CodeDistanceIsLeast', WHERE WHAT IT READS IS OF BULK AT MOST 1048576: true; the input reads as it did. -/
def codeDistanceIsLeastUptoRow : OpenClaim := { program := "ytkadfidmfnpohaadoor", sum := "24fb91729b4b824ad84be898eed0e0de2765aaadaeccc2402b449e14421a3fd7", func := "quietus/quietuslaw07.CodeDistanceIsLeast", spec := "codeDistanceIsLeast", unfollowed := true, recurses := true, named := ["quietus/gf.high"], apart := false, laid := [("quietus/gf.high", laid_quietus_gf_high)], narrowed := true }
def CodeDistanceIsLeastUptoSaid : Prop := codeDistanceIsLeastUptoRow.holds Tryd.pinned (OpenSpec.upto codeDistanceIsLeastSpec)

/-- 'quietuslaw07.CodeRoundTrips', WHERE WHAT IT READS IS OF BULK AT MOST 1048576: true; the input reads as it did. -/
def codeRoundTripsUptoRow : OpenClaim := { program := "ytkadfidmfnpohaadoor", sum := "24fb91729b4b824ad84be898eed0e0de2765aaadaeccc2402b449e14421a3fd7", func := "quietus/quietuslaw07.CodeRoundTrips", spec := "codeRoundTrips", unfollowed := true, recurses := true, named := ["quietus/gf.high"], apart := false, laid := [("quietus/gf.high", laid_quietus_gf_high)], narrowed := true }
def CodeRoundTripsUptoSaid : Prop := codeRoundTripsUptoRow.holds Tryd.pinned (OpenSpec.upto codeRoundTripsSpec)

/-- 'quietuslaw07.CodeRepairsLocally', WHERE WHAT IT READS IS OF BULK AT MOST 1048576: true; the input reads as it did. -/
def codeRepairsLocallyUptoRow : OpenClaim := { program := "ytkadfidmfnpohaadoor", sum := "24fb91729b4b824ad84be898eed0e0de2765aaadaeccc2402b449e14421a3fd7", func := "quietus/quietuslaw07.CodeRepairsLocally", spec := "codeRepairsLocally", unfollowed := true, recurses := true, named := ["quietus/gf.high"], apart := false, laid := [("quietus/gf.high", laid_quietus_gf_high)], narrowed := true }
def CodeRepairsLocallyUptoSaid : Prop := codeRepairsLocallyUptoRow.holds Tryd.pinned (OpenSpec.upto codeRepairsLocallySpec)

/-- 'quietuslaw12.RiskMatchesSpec', WHERE WHAT IT READS IS OF BULK AT MOST 1048576: true; the input reads as it did. -/
def riskMatchesSpecUptoRow : OpenClaim := { program := "ytkadfidmfnpohaadoor", sum := "24fb91729b4b824ad84be898eed0e0de2765aaadaeccc2402b449e14421a3fd7", func := "quietus/quietuslaw12.RiskMatchesSpec", spec := "riskMatchesSpec", unfollowed := true, recurses := true, named := ["quietus/gf.high"], apart := false, laid := [("quietus/gf.high", laid_quietus_gf_high)], narrowed := true }
def RiskMatchesSpecUptoSaid : Prop := riskMatchesSpecUptoRow.holds Tryd.pinned (OpenSpec.upto riskMatchesSpecSpec)

/-- 'quietuslaw12.RiskConditions', WHERE WHAT IT READS IS OF BULK AT MOST 1048576: true; the input reads as it did. -/
def riskConditionsUptoRow : OpenClaim := { program := "ytkadfidmfnpohaadoor", sum := "24fb91729b4b824ad84be898eed0e0de2765aaadaeccc2402b449e14421a3fd7", func := "quietus/quietuslaw12.RiskConditions", spec := "riskConditions", unfollowed := true, recurses := true, named := ["quietus/gf.high"], apart := false, laid := [("quietus/gf.high", laid_quietus_gf_high)], narrowed := true }
def RiskConditionsUptoSaid : Prop := riskConditionsUptoRow.holds Tryd.pinned (OpenSpec.upto riskConditionsSpec)

/-- 'quietuslaw12.RiskIsMonotone', WHERE WHAT IT READS IS OF BULK AT MOST 1048576: true; the input reads as it did. -/
def riskIsMonotoneUptoRow : OpenClaim := { program := "ytkadfidmfnpohaadoor", sum := "24fb91729b4b824ad84be898eed0e0de2765aaadaeccc2402b449e14421a3fd7", func := "quietus/quietuslaw12.RiskIsMonotone", spec := "riskIsMonotone", unfollowed := true, recurses := true, named := ["quietus/gf.high"], apart := false, laid := [("quietus/gf.high", laid_quietus_gf_high)], narrowed := true }
def RiskIsMonotoneUptoSaid : Prop := riskIsMonotoneUptoRow.holds Tryd.pinned (OpenSpec.upto riskIsMonotoneSpec)

/-- 'quietuslaw12.RiskLeastIsLeast', WHERE WHAT IT READS IS OF BULK AT MOST 1048576: true; the input reads as it did. -/
def riskLeastIsLeastUptoRow : OpenClaim := { program := "ytkadfidmfnpohaadoor", sum := "24fb91729b4b824ad84be898eed0e0de2765aaadaeccc2402b449e14421a3fd7", func := "quietus/quietuslaw12.RiskLeastIsLeast", spec := "riskLeastIsLeast", unfollowed := true, recurses := true, named := ["quietus/gf.high"], apart := false, laid := [("quietus/gf.high", laid_quietus_gf_high)], narrowed := true }
def RiskLeastIsLeastUptoSaid : Prop := riskLeastIsLeastUptoRow.holds Tryd.pinned (OpenSpec.upto riskLeastIsLeastSpec)

/-- 'quietuslaw12.RiskOfCopies', WHERE WHAT IT READS IS OF BULK AT MOST 1048576: true; the input reads as it did. -/
def riskOfCopiesUptoRow : OpenClaim := { program := "ytkadfidmfnpohaadoor", sum := "24fb91729b4b824ad84be898eed0e0de2765aaadaeccc2402b449e14421a3fd7", func := "quietus/quietuslaw12.RiskOfCopies", spec := "riskOfCopies", unfollowed := true, recurses := true, named := ["quietus/gf.high"], apart := false, laid := [("quietus/gf.high", laid_quietus_gf_high)], narrowed := true }
def RiskOfCopiesUptoSaid : Prop := riskOfCopiesUptoRow.holds Tryd.pinned (OpenSpec.upto riskOfCopiesSpec)

/-- 'quietuslaw12.RiskForgetsNames', WHERE WHAT IT READS IS OF BULK AT MOST 1048576: true; the input reads as it did. -/
def riskForgetsNamesUptoRow : OpenClaim := { program := "ytkadfidmfnpohaadoor", sum := "24fb91729b4b824ad84be898eed0e0de2765aaadaeccc2402b449e14421a3fd7", func := "quietus/quietuslaw12.RiskForgetsNames", spec := "riskForgetsNames", unfollowed := true, recurses := true, named := ["quietus/gf.high"], apart := false, laid := [("quietus/gf.high", laid_quietus_gf_high)], narrowed := true }
def RiskForgetsNamesUptoSaid : Prop := riskForgetsNamesUptoRow.holds Tryd.pinned (OpenSpec.upto riskForgetsNamesSpec)

end Rows
end Go.Proofs.YtkadfidmfnpohaaDoor
