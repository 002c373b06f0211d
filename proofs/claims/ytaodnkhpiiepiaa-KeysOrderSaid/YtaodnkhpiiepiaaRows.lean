/-
  No cell of these rows narrows 'for every input' (looked for: loops, veiled, ifaces, maps, wideKeys, modest, calm, conditions, laid).
  DERIVED. THE GIVEN ROWS OF THIS SEAT. 23 by the template 'for every input the law returns true; each argument reads behind the call as it read before'; 0 by the template 'total and deterministic' (their statements: YtaodnkhpiiepiaaTotals.lean).
  GIVEN WITH THE SEED: the statements are not yours to turn. If you find one false, say at which input.
  Laid BY PROGRAM, IN A SANDBOX (cutbox-rows.mjs): the forced cells as the released guide's own fill.sh prints them over the translation fa97c3eb176a0139… (all of the seat's roots in one cut). By AI agents, Wed Nov 11 2026. No macro, syntax, notation, axiom, sorry.
-/
import Derived.Test.YtaodnkhpiiepiaaChecked
import GoSem.Claim
import GoSem.ClaimJoined
import GoSem.ClaimMapViews
import Derived.JoinedTies
import Derived.KernelRfl
namespace Go.Proofs.Ytaodnkhpiiepiaa
/- THE CELL 'sum', in the pinned program and in every row, IS THE sha256 OF THE DUMP (.gsa) THAT YtaodnkhpiiepiaaProg.lean LOADS. Nothing in Lean hashes anything: it is a label: what it is worth is what the hold of that sum in a sandbox is worth. -/
noncomputable def Try.pinned : Pinned := { name := "ytaodnkhpiiepiaa", sum := "fa97c3eb176a013945cbe93749e13b139e66810dfafe47f25d52547a120bbb73", checked := Try.checked }
namespace Rows
def none {H : Type} : Left H := { results := [], args := [] }

/-- 'cadastrelaw5.CastInts': WHATEVER THE INPUT: true; the input reads as it did. -/
def castIntsSpec : ChangeSpec := { name := "castInts", fn := fun _ => fun
  | [d] => { results := [.lit (.bool true)], args := [d] }
  | _ => none }
def castIntsRow : OpenClaim := { program := "ytaodnkhpiiepiaa", sum := "fa97c3eb176a013945cbe93749e13b139e66810dfafe47f25d52547a120bbb73", func := "cadastre/cadastrelaw5.CastInts", spec := "castInts", apart := false }
def CastIntsSaid : Prop := castIntsRow.holds Try.pinned (OpenSpec.ofChange castIntsSpec)

/-- ITS FALSE NEIGHBOUR: 'it returns false'. Refute it at one input. -/
def castIntsWrong : ChangeSpec := { name := "castInts", fn := fun _ => fun
  | [d] => { results := [.lit (.bool false)], args := [d] }
  | _ => none }
def CastIntsWrongFalsely : Prop := castIntsRow.holds Try.pinned (OpenSpec.ofChange castIntsWrong)

/-- 'cadastrelaw5.CastSigns': WHATEVER THE INPUT: true; the input reads as it did. -/
def castSignsSpec : ChangeSpec := { name := "castSigns", fn := fun _ => fun
  | [d] => { results := [.lit (.bool true)], args := [d] }
  | _ => none }
def castSignsRow : OpenClaim := { program := "ytaodnkhpiiepiaa", sum := "fa97c3eb176a013945cbe93749e13b139e66810dfafe47f25d52547a120bbb73", func := "cadastre/cadastrelaw5.CastSigns", spec := "castSigns", apart := false }
def CastSignsSaid : Prop := castSignsRow.holds Try.pinned (OpenSpec.ofChange castSignsSpec)

/-- ITS FALSE NEIGHBOUR: 'it returns false'. Refute it at one input. -/
def castSignsWrong : ChangeSpec := { name := "castSigns", fn := fun _ => fun
  | [d] => { results := [.lit (.bool false)], args := [d] }
  | _ => none }
def CastSignsWrongFalsely : Prop := castSignsRow.holds Try.pinned (OpenSpec.ofChange castSignsWrong)

/-- 'cadastrelaw3.LogicJoins': WHATEVER THE INPUT: true; the input reads as it did. -/
def logicJoinsSpec : ChangeSpec := { name := "logicJoins", fn := fun _ => fun
  | [d] => { results := [.lit (.bool true)], args := [d] }
  | _ => none }
def logicJoinsRow : OpenClaim := { program := "ytaodnkhpiiepiaa", sum := "fa97c3eb176a013945cbe93749e13b139e66810dfafe47f25d52547a120bbb73", func := "cadastre/cadastrelaw3.LogicJoins", spec := "logicJoins", apart := false }
def LogicJoinsSaid : Prop := logicJoinsRow.holds Try.pinned (OpenSpec.ofChange logicJoinsSpec)

/-- ITS FALSE NEIGHBOUR: 'it returns false'. Refute it at one input. -/
def logicJoinsWrong : ChangeSpec := { name := "logicJoins", fn := fun _ => fun
  | [d] => { results := [.lit (.bool false)], args := [d] }
  | _ => none }
def LogicJoinsWrongFalsely : Prop := logicJoinsRow.holds Try.pinned (OpenSpec.ofChange logicJoinsWrong)

/-- 'cadastrelaw2.ValueOrder': WHATEVER THE INPUT: true; the input reads as it did. -/
def valueOrderSpec : ChangeSpec := { name := "valueOrder", fn := fun _ => fun
  | [d] => { results := [.lit (.bool true)], args := [d] }
  | _ => none }
def valueOrderRow : OpenClaim := { program := "ytaodnkhpiiepiaa", sum := "fa97c3eb176a013945cbe93749e13b139e66810dfafe47f25d52547a120bbb73", func := "cadastre/cadastrelaw2.ValueOrder", spec := "valueOrder", apart := false }
def ValueOrderSaid : Prop := valueOrderRow.holds Try.pinned (OpenSpec.ofChange valueOrderSpec)

/-- ITS FALSE NEIGHBOUR: 'it returns false'. Refute it at one input. -/
def valueOrderWrong : ChangeSpec := { name := "valueOrder", fn := fun _ => fun
  | [d] => { results := [.lit (.bool false)], args := [d] }
  | _ => none }
def ValueOrderWrongFalsely : Prop := valueOrderRow.holds Try.pinned (OpenSpec.ofChange valueOrderWrong)

/-- 'cadastrelaw2.ValueCmps': WHATEVER THE INPUT: true; the input reads as it did. -/
def valueCmpsSpec : ChangeSpec := { name := "valueCmps", fn := fun _ => fun
  | [d] => { results := [.lit (.bool true)], args := [d] }
  | _ => none }
def valueCmpsRow : OpenClaim := { program := "ytaodnkhpiiepiaa", sum := "fa97c3eb176a013945cbe93749e13b139e66810dfafe47f25d52547a120bbb73", func := "cadastre/cadastrelaw2.ValueCmps", spec := "valueCmps", apart := false }
def ValueCmpsSaid : Prop := valueCmpsRow.holds Try.pinned (OpenSpec.ofChange valueCmpsSpec)

/-- ITS FALSE NEIGHBOUR: 'it returns false'. Refute it at one input. -/
def valueCmpsWrong : ChangeSpec := { name := "valueCmps", fn := fun _ => fun
  | [d] => { results := [.lit (.bool false)], args := [d] }
  | _ => none }
def ValueCmpsWrongFalsely : Prop := valueCmpsRow.holds Try.pinned (OpenSpec.ofChange valueCmpsWrong)

/-- 'cadastrelaw2.ValueKinds': WHATEVER THE INPUT: true; the input reads as it did. -/
def valueKindsSpec : ChangeSpec := { name := "valueKinds", fn := fun _ => fun
  | [d] => { results := [.lit (.bool true)], args := [d] }
  | _ => none }
def valueKindsRow : OpenClaim := { program := "ytaodnkhpiiepiaa", sum := "fa97c3eb176a013945cbe93749e13b139e66810dfafe47f25d52547a120bbb73", func := "cadastre/cadastrelaw2.ValueKinds", spec := "valueKinds", apart := false }
def ValueKindsSaid : Prop := valueKindsRow.holds Try.pinned (OpenSpec.ofChange valueKindsSpec)

/-- ITS FALSE NEIGHBOUR: 'it returns false'. Refute it at one input. -/
def valueKindsWrong : ChangeSpec := { name := "valueKinds", fn := fun _ => fun
  | [d] => { results := [.lit (.bool false)], args := [d] }
  | _ => none }
def ValueKindsWrongFalsely : Prop := valueKindsRow.holds Try.pinned (OpenSpec.ofChange valueKindsWrong)

/-- 'cadastrelaw2.ValueChecks': WHATEVER THE INPUT: true; the input reads as it did. -/
def valueChecksSpec : ChangeSpec := { name := "valueChecks", fn := fun _ => fun
  | [d] => { results := [.lit (.bool true)], args := [d] }
  | _ => none }
def valueChecksRow : OpenClaim := { program := "ytaodnkhpiiepiaa", sum := "fa97c3eb176a013945cbe93749e13b139e66810dfafe47f25d52547a120bbb73", func := "cadastre/cadastrelaw2.ValueChecks", spec := "valueChecks", apart := false }
def ValueChecksSaid : Prop := valueChecksRow.holds Try.pinned (OpenSpec.ofChange valueChecksSpec)

/-- ITS FALSE NEIGHBOUR: 'it returns false'. Refute it at one input. -/
def valueChecksWrong : ChangeSpec := { name := "valueChecks", fn := fun _ => fun
  | [d] => { results := [.lit (.bool false)], args := [d] }
  | _ => none }
def ValueChecksWrongFalsely : Prop := valueChecksRow.holds Try.pinned (OpenSpec.ofChange valueChecksWrong)

/-- 'cadastrelaw3.LogicNots': WHATEVER THE INPUT: true; the input reads as it did. -/
def logicNotsSpec : ChangeSpec := { name := "logicNots", fn := fun _ => fun
  | [d] => { results := [.lit (.bool true)], args := [d] }
  | _ => none }
def logicNotsRow : OpenClaim := { program := "ytaodnkhpiiepiaa", sum := "fa97c3eb176a013945cbe93749e13b139e66810dfafe47f25d52547a120bbb73", func := "cadastre/cadastrelaw3.LogicNots", spec := "logicNots", apart := false }
def LogicNotsSaid : Prop := logicNotsRow.holds Try.pinned (OpenSpec.ofChange logicNotsSpec)

/-- ITS FALSE NEIGHBOUR: 'it returns false'. Refute it at one input. -/
def logicNotsWrong : ChangeSpec := { name := "logicNots", fn := fun _ => fun
  | [d] => { results := [.lit (.bool false)], args := [d] }
  | _ => none }
def LogicNotsWrongFalsely : Prop := logicNotsRow.holds Try.pinned (OpenSpec.ofChange logicNotsWrong)

/-- 'cadastrelaw4.ArithLaws': WHATEVER THE INPUT: true; the input reads as it did. -/
def arithLawsSpec : ChangeSpec := { name := "arithLaws", fn := fun _ => fun
  | [d] => { results := [.lit (.bool true)], args := [d] }
  | _ => none }
def arithLawsRow : OpenClaim := { program := "ytaodnkhpiiepiaa", sum := "fa97c3eb176a013945cbe93749e13b139e66810dfafe47f25d52547a120bbb73", func := "cadastre/cadastrelaw4.ArithLaws", spec := "arithLaws", apart := false }
def ArithLawsSaid : Prop := arithLawsRow.holds Try.pinned (OpenSpec.ofChange arithLawsSpec)

/-- ITS FALSE NEIGHBOUR: 'it returns false'. Refute it at one input. -/
def arithLawsWrong : ChangeSpec := { name := "arithLaws", fn := fun _ => fun
  | [d] => { results := [.lit (.bool false)], args := [d] }
  | _ => none }
def ArithLawsWrongFalsely : Prop := arithLawsRow.holds Try.pinned (OpenSpec.ofChange arithLawsWrong)

/-- 'cadastrelaw4.ArithSums': WHATEVER THE INPUT: true; the input reads as it did. -/
def arithSumsSpec : ChangeSpec := { name := "arithSums", fn := fun _ => fun
  | [d] => { results := [.lit (.bool true)], args := [d] }
  | _ => none }
def arithSumsRow : OpenClaim := { program := "ytaodnkhpiiepiaa", sum := "fa97c3eb176a013945cbe93749e13b139e66810dfafe47f25d52547a120bbb73", func := "cadastre/cadastrelaw4.ArithSums", spec := "arithSums", apart := false }
def ArithSumsSaid : Prop := arithSumsRow.holds Try.pinned (OpenSpec.ofChange arithSumsSpec)

/-- ITS FALSE NEIGHBOUR: 'it returns false'. Refute it at one input. -/
def arithSumsWrong : ChangeSpec := { name := "arithSums", fn := fun _ => fun
  | [d] => { results := [.lit (.bool false)], args := [d] }
  | _ => none }
def ArithSumsWrongFalsely : Prop := arithSumsRow.holds Try.pinned (OpenSpec.ofChange arithSumsWrong)

/-- 'cadastrelaw4.ArithProducts': WHATEVER THE INPUT: true; the input reads as it did. -/
def arithProductsSpec : ChangeSpec := { name := "arithProducts", fn := fun _ => fun
  | [d] => { results := [.lit (.bool true)], args := [d] }
  | _ => none }
def arithProductsRow : OpenClaim := { program := "ytaodnkhpiiepiaa", sum := "fa97c3eb176a013945cbe93749e13b139e66810dfafe47f25d52547a120bbb73", func := "cadastre/cadastrelaw4.ArithProducts", spec := "arithProducts", apart := false }
def ArithProductsSaid : Prop := arithProductsRow.holds Try.pinned (OpenSpec.ofChange arithProductsSpec)

/-- ITS FALSE NEIGHBOUR: 'it returns false'. Refute it at one input. -/
def arithProductsWrong : ChangeSpec := { name := "arithProducts", fn := fun _ => fun
  | [d] => { results := [.lit (.bool false)], args := [d] }
  | _ => none }
def ArithProductsWrongFalsely : Prop := arithProductsRow.holds Try.pinned (OpenSpec.ofChange arithProductsWrong)

/-- 'cadastrelaw4.ArithQuotients': WHATEVER THE INPUT: true; the input reads as it did. -/
def arithQuotientsSpec : ChangeSpec := { name := "arithQuotients", fn := fun _ => fun
  | [d] => { results := [.lit (.bool true)], args := [d] }
  | _ => none }
def arithQuotientsRow : OpenClaim := { program := "ytaodnkhpiiepiaa", sum := "fa97c3eb176a013945cbe93749e13b139e66810dfafe47f25d52547a120bbb73", func := "cadastre/cadastrelaw4.ArithQuotients", spec := "arithQuotients", apart := false }
def ArithQuotientsSaid : Prop := arithQuotientsRow.holds Try.pinned (OpenSpec.ofChange arithQuotientsSpec)

/-- ITS FALSE NEIGHBOUR: 'it returns false'. Refute it at one input. -/
def arithQuotientsWrong : ChangeSpec := { name := "arithQuotients", fn := fun _ => fun
  | [d] => { results := [.lit (.bool false)], args := [d] }
  | _ => none }
def ArithQuotientsWrongFalsely : Prop := arithQuotientsRow.holds Try.pinned (OpenSpec.ofChange arithQuotientsWrong)

/-- 'cadastrelaw2.ValueExact': WHATEVER THE INPUT: true; the input reads as it did. -/
def valueExactSpec : ChangeSpec := { name := "valueExact", fn := fun _ => fun
  | [d] => { results := [.lit (.bool true)], args := [d] }
  | _ => none }
def valueExactRow : OpenClaim := { program := "ytaodnkhpiiepiaa", sum := "fa97c3eb176a013945cbe93749e13b139e66810dfafe47f25d52547a120bbb73", func := "cadastre/cadastrelaw2.ValueExact", spec := "valueExact", apart := false }
def ValueExactSaid : Prop := valueExactRow.holds Try.pinned (OpenSpec.ofChange valueExactSpec)

/-- ITS FALSE NEIGHBOUR: 'it returns false'. Refute it at one input. -/
def valueExactWrong : ChangeSpec := { name := "valueExact", fn := fun _ => fun
  | [d] => { results := [.lit (.bool false)], args := [d] }
  | _ => none }
def ValueExactWrongFalsely : Prop := valueExactRow.holds Try.pinned (OpenSpec.ofChange valueExactWrong)

/-- 'cadastrelaw4.ArithExact': WHATEVER THE INPUT: true; the input reads as it did. -/
def arithExactSpec : ChangeSpec := { name := "arithExact", fn := fun _ => fun
  | [d] => { results := [.lit (.bool true)], args := [d] }
  | _ => none }
def arithExactRow : OpenClaim := { program := "ytaodnkhpiiepiaa", sum := "fa97c3eb176a013945cbe93749e13b139e66810dfafe47f25d52547a120bbb73", func := "cadastre/cadastrelaw4.ArithExact", spec := "arithExact", apart := false }
def ArithExactSaid : Prop := arithExactRow.holds Try.pinned (OpenSpec.ofChange arithExactSpec)

/-- ITS FALSE NEIGHBOUR: 'it returns false'. Refute it at one input. -/
def arithExactWrong : ChangeSpec := { name := "arithExact", fn := fun _ => fun
  | [d] => { results := [.lit (.bool false)], args := [d] }
  | _ => none }
def ArithExactWrongFalsely : Prop := arithExactRow.holds Try.pinned (OpenSpec.ofChange arithExactWrong)

/-- 'cadastrelaw4.ArithNegs': WHATEVER THE INPUT: true; the input reads as it did. -/
def arithNegsSpec : ChangeSpec := { name := "arithNegs", fn := fun _ => fun
  | [d] => { results := [.lit (.bool true)], args := [d] }
  | _ => none }
def arithNegsRow : OpenClaim := { program := "ytaodnkhpiiepiaa", sum := "fa97c3eb176a013945cbe93749e13b139e66810dfafe47f25d52547a120bbb73", func := "cadastre/cadastrelaw4.ArithNegs", spec := "arithNegs", apart := false }
def ArithNegsSaid : Prop := arithNegsRow.holds Try.pinned (OpenSpec.ofChange arithNegsSpec)

/-- ITS FALSE NEIGHBOUR: 'it returns false'. Refute it at one input. -/
def arithNegsWrong : ChangeSpec := { name := "arithNegs", fn := fun _ => fun
  | [d] => { results := [.lit (.bool false)], args := [d] }
  | _ => none }
def ArithNegsWrongFalsely : Prop := arithNegsRow.holds Try.pinned (OpenSpec.ofChange arithNegsWrong)

/-- 'cadastrelaw7.KeysCmps': WHATEVER THE INPUT: true; the input reads as it did. -/
def keysCmpsSpec : ChangeSpec := { name := "keysCmps", fn := fun _ => fun
  | [d] => { results := [.lit (.bool true)], args := [d] }
  | _ => none }
def keysCmpsRow : OpenClaim := { program := "ytaodnkhpiiepiaa", sum := "fa97c3eb176a013945cbe93749e13b139e66810dfafe47f25d52547a120bbb73", func := "cadastre/cadastrelaw7.KeysCmps", spec := "keysCmps", apart := false }
def KeysCmpsSaid : Prop := keysCmpsRow.holds Try.pinned (OpenSpec.ofChange keysCmpsSpec)

/-- ITS FALSE NEIGHBOUR: 'it returns false'. Refute it at one input. -/
def keysCmpsWrong : ChangeSpec := { name := "keysCmps", fn := fun _ => fun
  | [d] => { results := [.lit (.bool false)], args := [d] }
  | _ => none }
def KeysCmpsWrongFalsely : Prop := keysCmpsRow.holds Try.pinned (OpenSpec.ofChange keysCmpsWrong)

/-- 'cadastrelaw7.KeysOrder': WHATEVER THE INPUT: true; the input reads as it did. -/
def keysOrderSpec : ChangeSpec := { name := "keysOrder", fn := fun _ => fun
  | [d] => { results := [.lit (.bool true)], args := [d] }
  | _ => none }
def keysOrderRow : OpenClaim := { program := "ytaodnkhpiiepiaa", sum := "fa97c3eb176a013945cbe93749e13b139e66810dfafe47f25d52547a120bbb73", func := "cadastre/cadastrelaw7.KeysOrder", spec := "keysOrder", apart := false }
def KeysOrderSaid : Prop := keysOrderRow.holds Try.pinned (OpenSpec.ofChange keysOrderSpec)

/-- ITS FALSE NEIGHBOUR: 'it returns false'. Refute it at one input. -/
def keysOrderWrong : ChangeSpec := { name := "keysOrder", fn := fun _ => fun
  | [d] => { results := [.lit (.bool false)], args := [d] }
  | _ => none }
def KeysOrderWrongFalsely : Prop := keysOrderRow.holds Try.pinned (OpenSpec.ofChange keysOrderWrong)

/-- 'cadastrelaw7.KeysBegin': WHATEVER THE INPUT: true; the input reads as it did. -/
def keysBeginSpec : ChangeSpec := { name := "keysBegin", fn := fun _ => fun
  | [d] => { results := [.lit (.bool true)], args := [d] }
  | _ => none }
def keysBeginRow : OpenClaim := { program := "ytaodnkhpiiepiaa", sum := "fa97c3eb176a013945cbe93749e13b139e66810dfafe47f25d52547a120bbb73", func := "cadastre/cadastrelaw7.KeysBegin", spec := "keysBegin", apart := false }
def KeysBeginSaid : Prop := keysBeginRow.holds Try.pinned (OpenSpec.ofChange keysBeginSpec)

/-- ITS FALSE NEIGHBOUR: 'it returns false'. Refute it at one input. -/
def keysBeginWrong : ChangeSpec := { name := "keysBegin", fn := fun _ => fun
  | [d] => { results := [.lit (.bool false)], args := [d] }
  | _ => none }
def KeysBeginWrongFalsely : Prop := keysBeginRow.holds Try.pinned (OpenSpec.ofChange keysBeginWrong)

/-- 'cadastrelaw3.LogicTests': WHATEVER THE INPUT: true; the input reads as it did. -/
def logicTestsSpec : ChangeSpec := { name := "logicTests", fn := fun _ => fun
  | [d] => { results := [.lit (.bool true)], args := [d] }
  | _ => none }
def logicTestsRow : OpenClaim := { program := "ytaodnkhpiiepiaa", sum := "fa97c3eb176a013945cbe93749e13b139e66810dfafe47f25d52547a120bbb73", func := "cadastre/cadastrelaw3.LogicTests", spec := "logicTests", apart := false }
def LogicTestsSaid : Prop := logicTestsRow.holds Try.pinned (OpenSpec.ofChange logicTestsSpec)

/-- ITS FALSE NEIGHBOUR: 'it returns false'. Refute it at one input. -/
def logicTestsWrong : ChangeSpec := { name := "logicTests", fn := fun _ => fun
  | [d] => { results := [.lit (.bool false)], args := [d] }
  | _ => none }
def LogicTestsWrongFalsely : Prop := logicTestsRow.holds Try.pinned (OpenSpec.ofChange logicTestsWrong)

/-- 'cadastrelaw7.KeysFinds': WHATEVER THE INPUT: true; the input reads as it did. -/
def keysFindsSpec : ChangeSpec := { name := "keysFinds", fn := fun _ => fun
  | [d] => { results := [.lit (.bool true)], args := [d] }
  | _ => none }
def keysFindsRow : OpenClaim := { program := "ytaodnkhpiiepiaa", sum := "fa97c3eb176a013945cbe93749e13b139e66810dfafe47f25d52547a120bbb73", func := "cadastre/cadastrelaw7.KeysFinds", spec := "keysFinds", unfollowed := true, recurses := true, apart := false }
def KeysFindsSaid : Prop := keysFindsRow.holds Try.pinned (OpenSpec.ofChange keysFindsSpec)

/-- ITS FALSE NEIGHBOUR: 'it returns false'. Refute it at one input. -/
def keysFindsWrong : ChangeSpec := { name := "keysFinds", fn := fun _ => fun
  | [d] => { results := [.lit (.bool false)], args := [d] }
  | _ => none }
def KeysFindsWrongFalsely : Prop := keysFindsRow.holds Try.pinned (OpenSpec.ofChange keysFindsWrong)

/-- 'cadastrelaw3.LogicNulls': WHATEVER THE INPUT: true; the input reads as it did. -/
def logicNullsSpec : ChangeSpec := { name := "logicNulls", fn := fun _ => fun
  | [d] => { results := [.lit (.bool true)], args := [d] }
  | _ => none }
def logicNullsRow : OpenClaim := { program := "ytaodnkhpiiepiaa", sum := "fa97c3eb176a013945cbe93749e13b139e66810dfafe47f25d52547a120bbb73", func := "cadastre/cadastrelaw3.LogicNulls", spec := "logicNulls", apart := false }
def LogicNullsSaid : Prop := logicNullsRow.holds Try.pinned (OpenSpec.ofChange logicNullsSpec)

/-- ITS FALSE NEIGHBOUR: 'it returns false'. Refute it at one input. -/
def logicNullsWrong : ChangeSpec := { name := "logicNulls", fn := fun _ => fun
  | [d] => { results := [.lit (.bool false)], args := [d] }
  | _ => none }
def LogicNullsWrongFalsely : Prop := logicNullsRow.holds Try.pinned (OpenSpec.ofChange logicNullsWrong)

/-- 'cadastrelaw3.LogicLaws': WHATEVER THE INPUT: true; the input reads as it did. -/
def logicLawsSpec : ChangeSpec := { name := "logicLaws", fn := fun _ => fun
  | [d] => { results := [.lit (.bool true)], args := [d] }
  | _ => none }
def logicLawsRow : OpenClaim := { program := "ytaodnkhpiiepiaa", sum := "fa97c3eb176a013945cbe93749e13b139e66810dfafe47f25d52547a120bbb73", func := "cadastre/cadastrelaw3.LogicLaws", spec := "logicLaws", apart := false }
def LogicLawsSaid : Prop := logicLawsRow.holds Try.pinned (OpenSpec.ofChange logicLawsSpec)

/-- ITS FALSE NEIGHBOUR: 'it returns false'. Refute it at one input. -/
def logicLawsWrong : ChangeSpec := { name := "logicLaws", fn := fun _ => fun
  | [d] => { results := [.lit (.bool false)], args := [d] }
  | _ => none }
def LogicLawsWrongFalsely : Prop := logicLawsRow.holds Try.pinned (OpenSpec.ofChange logicLawsWrong)

/-- 'cadastrelaw3.LogicExact': WHATEVER THE INPUT: true; the input reads as it did. -/
def logicExactSpec : ChangeSpec := { name := "logicExact", fn := fun _ => fun
  | [d] => { results := [.lit (.bool true)], args := [d] }
  | _ => none }
def logicExactRow : OpenClaim := { program := "ytaodnkhpiiepiaa", sum := "fa97c3eb176a013945cbe93749e13b139e66810dfafe47f25d52547a120bbb73", func := "cadastre/cadastrelaw3.LogicExact", spec := "logicExact", apart := false }
def LogicExactSaid : Prop := logicExactRow.holds Try.pinned (OpenSpec.ofChange logicExactSpec)

/-- ITS FALSE NEIGHBOUR: 'it returns false'. Refute it at one input. -/
def logicExactWrong : ChangeSpec := { name := "logicExact", fn := fun _ => fun
  | [d] => { results := [.lit (.bool false)], args := [d] }
  | _ => none }
def LogicExactWrongFalsely : Prop := logicExactRow.holds Try.pinned (OpenSpec.ofChange logicExactWrong)

/- THE SECOND FORM. 'bulk': how many values and letters a reading holds, each counted each time it is reached (what is shared counts as often as it is met; a slice's spare places count too). A statement '..UptoSaid' is the law's where the arguments, and the package variables that the reading takes, are together of bulk at most 1048576: NARROWER than '..Said'. Prove '..Said' where nothing that the law and all that it calls make is longer than what came in: it says more and counts as full. Else prove '..UptoSaid'. A law counts once. -/
mutual
def uptoBulk {H : Type} : DataW H → Nat
  | .lit (.string bytes) => bytes.length + 1
  | .lit _ => 1
  | .nil => 1
  | .ptr d => uptoBulk d + 1
  | .slice elems spare => uptoBulkAll elems + uptoBulkAll spare + 1
  | .agg parts => uptoBulkAll parts + 1
  | .iface _ d => uptoBulk d + 1
  | .map entries => uptoBulkEntries entries + 1
  | .held _ => 1
def uptoBulkAll {H : Type} : List (DataW H) → Nat
  | [] => 0
  | d :: r => uptoBulk d + uptoBulkAll r
def uptoBulkEntries {H : Type} : List (Lit × DataW H) → Nat
  | [] => 0
  | x :: r => uptoBulkEntry x + uptoBulkEntries r
def uptoBulkEntry {H : Type} : Lit × DataW H → Nat
  | (.string bytes, d) => bytes.length + uptoBulk d + 1
  | (_, d) => uptoBulk d + 1
 end
def uptoSmall : (H : Type) → List (DataW H) → Bool := fun _ ds => decide (uptoBulkAll ds ≤ 1048576)
def OpenSpec.upto (s : _root_.Go.ChangeSpec) : _root_.Go.OpenSpec := { _root_.Go.OpenSpec.ofChange s with cond := some uptoSmall }

/-- 'cadastrelaw5.CastInts', WHERE WHAT IT READS IS OF BULK AT MOST 1048576: true; the input reads as it did. -/
def castIntsUptoRow : OpenClaim := { program := "ytaodnkhpiiepiaa", sum := "fa97c3eb176a013945cbe93749e13b139e66810dfafe47f25d52547a120bbb73", func := "cadastre/cadastrelaw5.CastInts", spec := "castInts", apart := false, narrowed := true }
def CastIntsUptoSaid : Prop := castIntsUptoRow.holds Try.pinned (OpenSpec.upto castIntsSpec)

/-- 'cadastrelaw5.CastSigns', WHERE WHAT IT READS IS OF BULK AT MOST 1048576: true; the input reads as it did. -/
def castSignsUptoRow : OpenClaim := { program := "ytaodnkhpiiepiaa", sum := "fa97c3eb176a013945cbe93749e13b139e66810dfafe47f25d52547a120bbb73", func := "cadastre/cadastrelaw5.CastSigns", spec := "castSigns", apart := false, narrowed := true }
def CastSignsUptoSaid : Prop := castSignsUptoRow.holds Try.pinned (OpenSpec.upto castSignsSpec)

/-- 'cadastrelaw3.LogicJoins', WHERE WHAT IT READS IS OF BULK AT MOST 1048576: true; the input reads as it did. -/
def logicJoinsUptoRow : OpenClaim := { program := "ytaodnkhpiiepiaa", sum := "fa97c3eb176a013945cbe93749e13b139e66810dfafe47f25d52547a120bbb73", func := "cadastre/cadastrelaw3.LogicJoins", spec := "logicJoins", apart := false, narrowed := true }
def LogicJoinsUptoSaid : Prop := logicJoinsUptoRow.holds Try.pinned (OpenSpec.upto logicJoinsSpec)

/-- 'cadastrelaw2.ValueOrder', WHERE WHAT IT READS IS OF BULK AT MOST 1048576: true; the input reads as it did. -/
def valueOrderUptoRow : OpenClaim := { program := "ytaodnkhpiiepiaa", sum := "fa97c3eb176a013945cbe93749e13b139e66810dfafe47f25d52547a120bbb73", func := "cadastre/cadastrelaw2.ValueOrder", spec := "valueOrder", apart := false, narrowed := true }
def ValueOrderUptoSaid : Prop := valueOrderUptoRow.holds Try.pinned (OpenSpec.upto valueOrderSpec)

/-- 'cadastrelaw2.ValueCmps', WHERE WHAT IT READS IS OF BULK AT MOST 1048576: true; the input reads as it did. -/
def valueCmpsUptoRow : OpenClaim := { program := "ytaodnkhpiiepiaa", sum := "fa97c3eb176a013945cbe93749e13b139e66810dfafe47f25d52547a120bbb73", func := "cadastre/cadastrelaw2.ValueCmps", spec := "valueCmps", apart := false, narrowed := true }
def ValueCmpsUptoSaid : Prop := valueCmpsUptoRow.holds Try.pinned (OpenSpec.upto valueCmpsSpec)

/-- 'cadastrelaw2.ValueKinds', WHERE WHAT IT READS IS OF BULK AT MOST 1048576: true; the input reads as it did. -/
def valueKindsUptoRow : OpenClaim := { program := "ytaodnkhpiiepiaa", sum := "fa97c3eb176a013945cbe93749e13b139e66810dfafe47f25d52547a120bbb73", func := "cadastre/cadastrelaw2.ValueKinds", spec := "valueKinds", apart := false, narrowed := true }
def ValueKindsUptoSaid : Prop := valueKindsUptoRow.holds Try.pinned (OpenSpec.upto valueKindsSpec)

/-- 'cadastrelaw2.ValueChecks', WHERE WHAT IT READS IS OF BULK AT MOST 1048576: true; the input reads as it did. -/
def valueChecksUptoRow : OpenClaim := { program := "ytaodnkhpiiepiaa", sum := "fa97c3eb176a013945cbe93749e13b139e66810dfafe47f25d52547a120bbb73", func := "cadastre/cadastrelaw2.ValueChecks", spec := "valueChecks", apart := false, narrowed := true }
def ValueChecksUptoSaid : Prop := valueChecksUptoRow.holds Try.pinned (OpenSpec.upto valueChecksSpec)

/-- 'cadastrelaw3.LogicNots', WHERE WHAT IT READS IS OF BULK AT MOST 1048576: true; the input reads as it did. -/
def logicNotsUptoRow : OpenClaim := { program := "ytaodnkhpiiepiaa", sum := "fa97c3eb176a013945cbe93749e13b139e66810dfafe47f25d52547a120bbb73", func := "cadastre/cadastrelaw3.LogicNots", spec := "logicNots", apart := false, narrowed := true }
def LogicNotsUptoSaid : Prop := logicNotsUptoRow.holds Try.pinned (OpenSpec.upto logicNotsSpec)

/-- 'cadastrelaw4.ArithLaws', WHERE WHAT IT READS IS OF BULK AT MOST 1048576: true; the input reads as it did. -/
def arithLawsUptoRow : OpenClaim := { program := "ytaodnkhpiiepiaa", sum := "fa97c3eb176a013945cbe93749e13b139e66810dfafe47f25d52547a120bbb73", func := "cadastre/cadastrelaw4.ArithLaws", spec := "arithLaws", apart := false, narrowed := true }
def ArithLawsUptoSaid : Prop := arithLawsUptoRow.holds Try.pinned (OpenSpec.upto arithLawsSpec)

/-- 'cadastrelaw4.ArithSums', WHERE WHAT IT READS IS OF BULK AT MOST 1048576: true; the input reads as it did. -/
def arithSumsUptoRow : OpenClaim := { program := "ytaodnkhpiiepiaa", sum := "fa97c3eb176a013945cbe93749e13b139e66810dfafe47f25d52547a120bbb73", func := "cadastre/cadastrelaw4.ArithSums", spec := "arithSums", apart := false, narrowed := true }
def ArithSumsUptoSaid : Prop := arithSumsUptoRow.holds Try.pinned (OpenSpec.upto arithSumsSpec)

/-- 'cadastrelaw4.ArithProducts', WHERE WHAT IT READS IS OF BULK AT MOST 1048576: true; the input reads as it did. -/
def arithProductsUptoRow : OpenClaim := { program := "ytaodnkhpiiepiaa", sum := "fa97c3eb176a013945cbe93749e13b139e66810dfafe47f25d52547a120bbb73", func := "cadastre/cadastrelaw4.ArithProducts", spec := "arithProducts", apart := false, narrowed := true }
def ArithProductsUptoSaid : Prop := arithProductsUptoRow.holds Try.pinned (OpenSpec.upto arithProductsSpec)

/-- 'cadastrelaw4.ArithQuotients', WHERE WHAT IT READS IS OF BULK AT MOST 1048576: true; the input reads as it did. -/
def arithQuotientsUptoRow : OpenClaim := { program := "ytaodnkhpiiepiaa", sum := "fa97c3eb176a013945cbe93749e13b139e66810dfafe47f25d52547a120bbb73", func := "cadastre/cadastrelaw4.ArithQuotients", spec := "arithQuotients", apart := false, narrowed := true }
def ArithQuotientsUptoSaid : Prop := arithQuotientsUptoRow.holds Try.pinned (OpenSpec.upto arithQuotientsSpec)

/-- 'cadastrelaw2.ValueExact', WHERE WHAT IT READS IS OF BULK AT MOST 1048576: true; the input reads as it did. -/
def valueExactUptoRow : OpenClaim := { program := "ytaodnkhpiiepiaa", sum := "fa97c3eb176a013945cbe93749e13b139e66810dfafe47f25d52547a120bbb73", func := "cadastre/cadastrelaw2.ValueExact", spec := "valueExact", apart := false, narrowed := true }
def ValueExactUptoSaid : Prop := valueExactUptoRow.holds Try.pinned (OpenSpec.upto valueExactSpec)

/-- 'cadastrelaw4.ArithExact', WHERE WHAT IT READS IS OF BULK AT MOST 1048576: true; the input reads as it did. -/
def arithExactUptoRow : OpenClaim := { program := "ytaodnkhpiiepiaa", sum := "fa97c3eb176a013945cbe93749e13b139e66810dfafe47f25d52547a120bbb73", func := "cadastre/cadastrelaw4.ArithExact", spec := "arithExact", apart := false, narrowed := true }
def ArithExactUptoSaid : Prop := arithExactUptoRow.holds Try.pinned (OpenSpec.upto arithExactSpec)

/-- 'cadastrelaw4.ArithNegs', WHERE WHAT IT READS IS OF BULK AT MOST 1048576: true; the input reads as it did. -/
def arithNegsUptoRow : OpenClaim := { program := "ytaodnkhpiiepiaa", sum := "fa97c3eb176a013945cbe93749e13b139e66810dfafe47f25d52547a120bbb73", func := "cadastre/cadastrelaw4.ArithNegs", spec := "arithNegs", apart := false, narrowed := true }
def ArithNegsUptoSaid : Prop := arithNegsUptoRow.holds Try.pinned (OpenSpec.upto arithNegsSpec)

/-- 'cadastrelaw7.KeysCmps', WHERE WHAT IT READS IS OF BULK AT MOST 1048576: true; the input reads as it did. -/
def keysCmpsUptoRow : OpenClaim := { program := "ytaodnkhpiiepiaa", sum := "fa97c3eb176a013945cbe93749e13b139e66810dfafe47f25d52547a120bbb73", func := "cadastre/cadastrelaw7.KeysCmps", spec := "keysCmps", apart := false, narrowed := true }
def KeysCmpsUptoSaid : Prop := keysCmpsUptoRow.holds Try.pinned (OpenSpec.upto keysCmpsSpec)

/-- 'cadastrelaw7.KeysOrder', WHERE WHAT IT READS IS OF BULK AT MOST 1048576: true; the input reads as it did. -/
def keysOrderUptoRow : OpenClaim := { program := "ytaodnkhpiiepiaa", sum := "fa97c3eb176a013945cbe93749e13b139e66810dfafe47f25d52547a120bbb73", func := "cadastre/cadastrelaw7.KeysOrder", spec := "keysOrder", apart := false, narrowed := true }
def KeysOrderUptoSaid : Prop := keysOrderUptoRow.holds Try.pinned (OpenSpec.upto keysOrderSpec)

/-- 'cadastrelaw7.KeysBegin', WHERE WHAT IT READS IS OF BULK AT MOST 1048576: true; the input reads as it did. -/
def keysBeginUptoRow : OpenClaim := { program := "ytaodnkhpiiepiaa", sum := "fa97c3eb176a013945cbe93749e13b139e66810dfafe47f25d52547a120bbb73", func := "cadastre/cadastrelaw7.KeysBegin", spec := "keysBegin", apart := false, narrowed := true }
def KeysBeginUptoSaid : Prop := keysBeginUptoRow.holds Try.pinned (OpenSpec.upto keysBeginSpec)

/-- 'cadastrelaw3.LogicTests', WHERE WHAT IT READS IS OF BULK AT MOST 1048576: true; the input reads as it did. -/
def logicTestsUptoRow : OpenClaim := { program := "ytaodnkhpiiepiaa", sum := "fa97c3eb176a013945cbe93749e13b139e66810dfafe47f25d52547a120bbb73", func := "cadastre/cadastrelaw3.LogicTests", spec := "logicTests", apart := false, narrowed := true }
def LogicTestsUptoSaid : Prop := logicTestsUptoRow.holds Try.pinned (OpenSpec.upto logicTestsSpec)

/-- 'cadastrelaw7.KeysFinds', WHERE WHAT IT READS IS OF BULK AT MOST 1048576: true; the input reads as it did. -/
def keysFindsUptoRow : OpenClaim := { program := "ytaodnkhpiiepiaa", sum := "fa97c3eb176a013945cbe93749e13b139e66810dfafe47f25d52547a120bbb73", func := "cadastre/cadastrelaw7.KeysFinds", spec := "keysFinds", unfollowed := true, recurses := true, apart := false, narrowed := true }
def KeysFindsUptoSaid : Prop := keysFindsUptoRow.holds Try.pinned (OpenSpec.upto keysFindsSpec)

/-- 'cadastrelaw3.LogicNulls', WHERE WHAT IT READS IS OF BULK AT MOST 1048576: true; the input reads as it did. -/
def logicNullsUptoRow : OpenClaim := { program := "ytaodnkhpiiepiaa", sum := "fa97c3eb176a013945cbe93749e13b139e66810dfafe47f25d52547a120bbb73", func := "cadastre/cadastrelaw3.LogicNulls", spec := "logicNulls", apart := false, narrowed := true }
def LogicNullsUptoSaid : Prop := logicNullsUptoRow.holds Try.pinned (OpenSpec.upto logicNullsSpec)

/-- 'cadastrelaw3.LogicLaws', WHERE WHAT IT READS IS OF BULK AT MOST 1048576: true; the input reads as it did. -/
def logicLawsUptoRow : OpenClaim := { program := "ytaodnkhpiiepiaa", sum := "fa97c3eb176a013945cbe93749e13b139e66810dfafe47f25d52547a120bbb73", func := "cadastre/cadastrelaw3.LogicLaws", spec := "logicLaws", apart := false, narrowed := true }
def LogicLawsUptoSaid : Prop := logicLawsUptoRow.holds Try.pinned (OpenSpec.upto logicLawsSpec)

/-- 'cadastrelaw3.LogicExact', WHERE WHAT IT READS IS OF BULK AT MOST 1048576: true; the input reads as it did. -/
def logicExactUptoRow : OpenClaim := { program := "ytaodnkhpiiepiaa", sum := "fa97c3eb176a013945cbe93749e13b139e66810dfafe47f25d52547a120bbb73", func := "cadastre/cadastrelaw3.LogicExact", spec := "logicExact", apart := false, narrowed := true }
def LogicExactUptoSaid : Prop := logicExactUptoRow.holds Try.pinned (OpenSpec.upto logicExactSpec)

end Rows
end Go.Proofs.Ytaodnkhpiiepiaa
