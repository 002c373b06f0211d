/-
  DERIVED. GIVEN WITH THE SEED: THE CARDS: each row of YtnoeedkbadoogaaDoorRows.lean that lists a variable, with what it lists TIED to the program's text (the seventh form; the later family's looks); each row that meets fmt, with fmt's text TOLD by the authors' own Lean function (tested against real Go, not proved from fmt's source: count such statements apart). THE CARD IS WHAT COUNTS. Prove the row's statement (the work); the ties are given (YtnoeedkbadoogaaDoorTie.lean); close each card by the builder's one call (the guide's Derived/Test/ToyasCard.lean, 'card_holds'). Laid BY PROGRAM, IN A SANDBOX (cutbox-door.mjs). By AI agents, Wed Nov 11 2026. No macro, syntax, notation, axiom, sorry.
-/
import Derived.Test.YtnoeedkbadoogaaDoorRows
import GoSem.ClaimSeven
namespace Go.Proofs.YtnoeedkbadoogaaDoor
namespace Rows

/-- THE TIED CARD OF 'cadastrelaw21.PrintValues'. -/
def printValuesCard : Claim7 := { stood := { row := printValuesRow, standIns := [], harness := (true, "daa39342402a9ec078fdb054b464194917c3a06de4ac6bd8d75b144c773f3843"), looks := false }, kinds := [], alts := [], laidByText := true, laidKinds := [.data, .data, .data], laidTests := true, laidLooks := .later }
def PrintValuesCardSaid : Prop := Claim7.holds Tryd.pinned (.plain (OpenSpec.ofChange printValuesSpec)) printValuesCard

/-- THE TIED CARD OF 'cadastrelaw23.EvalParts'. -/
def evalPartsCard : Claim7 := { stood := { row := evalPartsRow, standIns := [], harness := (true, "daa39342402a9ec078fdb054b464194917c3a06de4ac6bd8d75b144c773f3843"), looks := false }, kinds := [], alts := [], laidByText := true, laidKinds := [.data, .data, .data], laidTests := true, laidLooks := .later }
def EvalPartsCardSaid : Prop := Claim7.holds Tryd.pinned (.plain (OpenSpec.ofChange evalPartsSpec)) evalPartsCard

/-- THE TIED CARD OF 'cadastrelaw23.EvalLets'. -/
def evalLetsCard : Claim7 := { stood := { row := evalLetsRow, standIns := [], harness := (true, "daa39342402a9ec078fdb054b464194917c3a06de4ac6bd8d75b144c773f3843"), looks := false }, kinds := [], alts := [], laidByText := true, laidKinds := [.data, .data, .data], laidTests := true, laidLooks := .later }
def EvalLetsCardSaid : Prop := Claim7.holds Tryd.pinned (.plain (OpenSpec.ofChange evalLetsSpec)) evalLetsCard

/-- THE SECOND FORM's CARD OF 'cadastrelaw21.PrintValues'. -/
def printValuesUptoCard : Claim7 := { stood := { row := printValuesUptoRow, standIns := [], harness := (true, "daa39342402a9ec078fdb054b464194917c3a06de4ac6bd8d75b144c773f3843"), looks := false }, kinds := [], alts := [], laidByText := true, laidKinds := [.data, .data, .data], laidTests := true, laidLooks := .later }
def PrintValuesUptoCardSaid : Prop := Claim7.holds Tryd.pinned (.plain (OpenSpec.upto printValuesSpec)) printValuesUptoCard

/-- THE SECOND FORM's CARD OF 'cadastrelaw23.EvalParts'. -/
def evalPartsUptoCard : Claim7 := { stood := { row := evalPartsUptoRow, standIns := [], harness := (true, "daa39342402a9ec078fdb054b464194917c3a06de4ac6bd8d75b144c773f3843"), looks := false }, kinds := [], alts := [], laidByText := true, laidKinds := [.data, .data, .data], laidTests := true, laidLooks := .later }
def EvalPartsUptoCardSaid : Prop := Claim7.holds Tryd.pinned (.plain (OpenSpec.upto evalPartsSpec)) evalPartsUptoCard

/-- THE SECOND FORM's CARD OF 'cadastrelaw23.EvalLets'. -/
def evalLetsUptoCard : Claim7 := { stood := { row := evalLetsUptoRow, standIns := [], harness := (true, "daa39342402a9ec078fdb054b464194917c3a06de4ac6bd8d75b144c773f3843"), looks := false }, kinds := [], alts := [], laidByText := true, laidKinds := [.data, .data, .data], laidTests := true, laidLooks := .later }
def EvalLetsUptoCardSaid : Prop := Claim7.holds Tryd.pinned (.plain (OpenSpec.upto evalLetsSpec)) evalLetsUptoCard
end Rows
end Go.Proofs.YtnoeedkbadoogaaDoor
