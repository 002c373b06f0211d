/-
  DERIVED. GIVEN WITH THE SEED: THE CARDS: each row of YtdfmfpbdggefpaaDoorRows.lean that lists a variable, with what it lists TIED to the program's text (the seventh form; the later family's looks); each row that meets fmt, with fmt's text TOLD by the authors' own Lean function (tested against real Go, not proved from fmt's source: count such statements apart). THE CARD IS WHAT COUNTS. Prove the row's statement (the work); the ties are given (YtdfmfpbdggefpaaDoorTie.lean); close each card by the builder's one call (the guide's Derived/Test/ToyasCard.lean, 'card_holds'). Laid BY PROGRAM, IN A SANDBOX (cutbox-door.mjs). By AI agents, Wed Nov 11 2026. No macro, syntax, notation, axiom, sorry.
-/
import Derived.Test.YtdfmfpbdggefpaaDoorRows
import GoSem.ClaimSeven
namespace Go.Proofs.YtdfmfpbdggefpaaDoor
namespace Rows

/-- THE TIED CARD OF 'cadastrelaw5.CastExact'. -/
def castExactCard : Claim7 := { stood := { row := castExactRow, standIns := [], harness := (true, "aab223bcbdbc1dacb8947867f1c003320591b958338de9fe0c238228e703c620"), looks := false }, kinds := [], alts := [], laidByText := true, laidKinds := [.data, .data, .data], laidTests := true, laidLooks := .later }
def CastExactCardSaid : Prop := Claim7.holds Tryd.pinned (.plain (OpenSpec.ofChange castExactSpec)) castExactCard

/-- THE TIED CARD OF 'cadastrelaw5.CastStores'. -/
def castStoresCard : Claim7 := { stood := { row := castStoresRow, standIns := [], harness := (true, "aab223bcbdbc1dacb8947867f1c003320591b958338de9fe0c238228e703c620"), looks := false }, kinds := [], alts := [], laidByText := true, laidKinds := [.data, .data, .data], laidTests := true, laidLooks := .later }
def CastStoresCardSaid : Prop := Claim7.holds Tryd.pinned (.plain (OpenSpec.ofChange castStoresSpec)) castStoresCard

/-- THE TIED CARD OF 'cadastrelaw5.CastBack'. -/
def castBackCard : Claim7 := { stood := { row := castBackRow, standIns := [], harness := (true, "aab223bcbdbc1dacb8947867f1c003320591b958338de9fe0c238228e703c620"), looks := false }, kinds := [], alts := [], laidByText := true, laidKinds := [.data, .data, .data], laidTests := true, laidLooks := .later }
def CastBackCardSaid : Prop := Claim7.holds Tryd.pinned (.plain (OpenSpec.ofChange castBackSpec)) castBackCard

/-- THE TIED CARD OF 'cadastrelaw4.ArithConcats'. -/
def arithConcatsCard : Claim7 := { stood := { row := arithConcatsRow, standIns := [], harness := (true, "aab223bcbdbc1dacb8947867f1c003320591b958338de9fe0c238228e703c620"), looks := false }, kinds := [], alts := [], laidByText := true, laidKinds := [.data, .data, .data], laidTests := true, laidLooks := .later }
def ArithConcatsCardSaid : Prop := Claim7.holds Tryd.pinned (.plain (OpenSpec.ofChange arithConcatsSpec)) arithConcatsCard

/-- THE TIED CARD OF 'cadastrelaw4.ArithTexts'. -/
def arithTextsCard : Claim7 := { stood := { row := arithTextsRow, standIns := [], harness := (true, "aab223bcbdbc1dacb8947867f1c003320591b958338de9fe0c238228e703c620"), looks := false }, kinds := [], alts := [], laidByText := true, laidKinds := [.data, .data, .data], laidTests := true, laidLooks := .later }
def ArithTextsCardSaid : Prop := Claim7.holds Tryd.pinned (.plain (OpenSpec.ofChange arithTextsSpec)) arithTextsCard

/-- THE SECOND FORM's CARD OF 'cadastrelaw5.CastExact'. -/
def castExactUptoCard : Claim7 := { stood := { row := castExactUptoRow, standIns := [], harness := (true, "aab223bcbdbc1dacb8947867f1c003320591b958338de9fe0c238228e703c620"), looks := false }, kinds := [], alts := [], laidByText := true, laidKinds := [.data, .data, .data], laidTests := true, laidLooks := .later }
def CastExactUptoCardSaid : Prop := Claim7.holds Tryd.pinned (.plain (OpenSpec.upto castExactSpec)) castExactUptoCard

/-- THE SECOND FORM's CARD OF 'cadastrelaw5.CastStores'. -/
def castStoresUptoCard : Claim7 := { stood := { row := castStoresUptoRow, standIns := [], harness := (true, "aab223bcbdbc1dacb8947867f1c003320591b958338de9fe0c238228e703c620"), looks := false }, kinds := [], alts := [], laidByText := true, laidKinds := [.data, .data, .data], laidTests := true, laidLooks := .later }
def CastStoresUptoCardSaid : Prop := Claim7.holds Tryd.pinned (.plain (OpenSpec.upto castStoresSpec)) castStoresUptoCard

/-- THE SECOND FORM's CARD OF 'cadastrelaw5.CastBack'. -/
def castBackUptoCard : Claim7 := { stood := { row := castBackUptoRow, standIns := [], harness := (true, "aab223bcbdbc1dacb8947867f1c003320591b958338de9fe0c238228e703c620"), looks := false }, kinds := [], alts := [], laidByText := true, laidKinds := [.data, .data, .data], laidTests := true, laidLooks := .later }
def CastBackUptoCardSaid : Prop := Claim7.holds Tryd.pinned (.plain (OpenSpec.upto castBackSpec)) castBackUptoCard

/-- THE SECOND FORM's CARD OF 'cadastrelaw4.ArithConcats'. -/
def arithConcatsUptoCard : Claim7 := { stood := { row := arithConcatsUptoRow, standIns := [], harness := (true, "aab223bcbdbc1dacb8947867f1c003320591b958338de9fe0c238228e703c620"), looks := false }, kinds := [], alts := [], laidByText := true, laidKinds := [.data, .data, .data], laidTests := true, laidLooks := .later }
def ArithConcatsUptoCardSaid : Prop := Claim7.holds Tryd.pinned (.plain (OpenSpec.upto arithConcatsSpec)) arithConcatsUptoCard

/-- THE SECOND FORM's CARD OF 'cadastrelaw4.ArithTexts'. -/
def arithTextsUptoCard : Claim7 := { stood := { row := arithTextsUptoRow, standIns := [], harness := (true, "aab223bcbdbc1dacb8947867f1c003320591b958338de9fe0c238228e703c620"), looks := false }, kinds := [], alts := [], laidByText := true, laidKinds := [.data, .data, .data], laidTests := true, laidLooks := .later }
def ArithTextsUptoCardSaid : Prop := Claim7.holds Tryd.pinned (.plain (OpenSpec.upto arithTextsSpec)) arithTextsUptoCard
end Rows
end Go.Proofs.YtdfmfpbdggefpaaDoor
