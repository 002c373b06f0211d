/-
  DERIVED. GIVEN WITH THE SEED: THE CARDS: each row of YtjkgphpmdkbpfaaDoorRows.lean that lists a variable, with what it lists TIED to the program's text (the seventh form; the later family's looks); each row that meets fmt, with fmt's text TOLD by the authors' own Lean function (tested against real Go, not proved from fmt's source: count such statements apart). THE CARD IS WHAT COUNTS. Prove the row's statement (the work); the ties are given (YtjkgphpmdkbpfaaDoorTie.lean); close each card by the builder's one call (the guide's Derived/Test/ToyasCard.lean, 'card_holds'). Laid BY PROGRAM, IN A SANDBOX (cutbox-door.mjs). By AI agents, Wed Nov 11 2026. No macro, syntax, notation, axiom, sorry.
-/
import Derived.Test.YtjkgphpmdkbpfaaDoorRows
import GoSem.ClaimSeven
namespace Go.Proofs.YtjkgphpmdkbpfaaDoor
namespace Rows

/-- THE TIED CARD OF 'cadastrelaw24.VmExact'. -/
def vmExactCard : Claim7 := { stood := { row := vmExactRow, standIns := [], harness := (true, "5fa7244c68af1f5d447fb87948e46fc324972bde163fdbb66c0670d63523e770"), looks := false }, kinds := [], alts := [], laidByText := true, laidKinds := [.data, .data, .data], laidTests := true, laidLooks := .later }
def VmExactCardSaid : Prop := Claim7.holds Tryd.pinned (.plain (OpenSpec.ofChange vmExactSpec)) vmExactCard

/-- THE TIED CARD OF 'cadastrelaw24.VmSteps'. -/
def vmStepsCard : Claim7 := { stood := { row := vmStepsRow, standIns := [], harness := (true, "5fa7244c68af1f5d447fb87948e46fc324972bde163fdbb66c0670d63523e770"), looks := false }, kinds := [], alts := [], laidByText := true, laidKinds := [.data, .data, .data], laidTests := true, laidLooks := .later }
def VmStepsCardSaid : Prop := Claim7.holds Tryd.pinned (.plain (OpenSpec.ofChange vmStepsSpec)) vmStepsCard

/-- THE SECOND FORM's CARD OF 'cadastrelaw24.VmExact'. -/
def vmExactUptoCard : Claim7 := { stood := { row := vmExactUptoRow, standIns := [], harness := (true, "5fa7244c68af1f5d447fb87948e46fc324972bde163fdbb66c0670d63523e770"), looks := false }, kinds := [], alts := [], laidByText := true, laidKinds := [.data, .data, .data], laidTests := true, laidLooks := .later }
def VmExactUptoCardSaid : Prop := Claim7.holds Tryd.pinned (.plain (OpenSpec.upto vmExactSpec)) vmExactUptoCard

/-- THE SECOND FORM's CARD OF 'cadastrelaw24.VmSteps'. -/
def vmStepsUptoCard : Claim7 := { stood := { row := vmStepsUptoRow, standIns := [], harness := (true, "5fa7244c68af1f5d447fb87948e46fc324972bde163fdbb66c0670d63523e770"), looks := false }, kinds := [], alts := [], laidByText := true, laidKinds := [.data, .data, .data], laidTests := true, laidLooks := .later }
def VmStepsUptoCardSaid : Prop := Claim7.holds Tryd.pinned (.plain (OpenSpec.upto vmStepsSpec)) vmStepsUptoCard
end Rows
end Go.Proofs.YtjkgphpmdkbpfaaDoor
