/-
  No cell of these rows narrows 'for every input' (looked for: loops, veiled, ifaces, maps, wideKeys, modest, calm, conditions, laid).
  DERIVED. THE GIVEN ROWS OF THIS SEAT. 13 by the template 'for every input the law returns true; each argument reads behind the call as it read before'; 0 by the template 'total and deterministic' (their statements: YtekjibpkkgldgaaTotals.lean).
  GIVEN WITH THE SEED: the statements are not yours to turn. If you find one false, say at which input.
  Laid BY PROGRAM, IN A SANDBOX (cutbox-rows.mjs): the forced cells as the released guide's own fill.sh prints them over the translation 679a5985638fde33… (all of the seat's roots in one cut). By AI agents, Wed Nov 11 2026. No macro, syntax, notation, axiom, sorry.
-/
import Derived.Test.YtekjibpkkgldgaaChecked
import GoSem.Claim
import GoSem.ClaimJoined
import GoSem.ClaimMapViews
import Derived.JoinedTies
import Derived.KernelRfl
namespace Go.Proofs.Ytekjibpkkgldgaa
/- THE CELL 'sum', in the pinned program and in every row, IS THE sha256 OF THE DUMP (.gsa) THAT YtekjibpkkgldgaaProg.lean LOADS. Nothing in Lean hashes anything: it is a label: what it is worth is what the hold of that sum in a sandbox is worth. -/
noncomputable def Try.pinned : Pinned := { name := "ytekjibpkkgldgaa", sum := "679a5985638fde333ad1e18755e51c7eba14508d03af76fd7a9ce7082c51b9ef", checked := Try.checked }
namespace Rows
def none {H : Type} : Left H := { results := [], args := [] }

/-- 'cadastrelaw11.NodeRooms': WHATEVER THE INPUT: true; the input reads as it did. -/
def nodeRoomsSpec : ChangeSpec := { name := "nodeRooms", fn := fun _ => fun
  | [d] => { results := [.lit (.bool true)], args := [d] }
  | _ => none }
def nodeRoomsRow : OpenClaim := { program := "ytekjibpkkgldgaa", sum := "679a5985638fde333ad1e18755e51c7eba14508d03af76fd7a9ce7082c51b9ef", func := "cadastre/cadastrelaw11.NodeRooms", spec := "nodeRooms", apart := false }
def NodeRoomsSaid : Prop := nodeRoomsRow.holds Try.pinned (OpenSpec.ofChange nodeRoomsSpec)

/-- ITS FALSE NEIGHBOUR: 'it returns false'. Refute it at one input. -/
def nodeRoomsWrong : ChangeSpec := { name := "nodeRooms", fn := fun _ => fun
  | [d] => { results := [.lit (.bool false)], args := [d] }
  | _ => none }
def NodeRoomsWrongFalsely : Prop := nodeRoomsRow.holds Try.pinned (OpenSpec.ofChange nodeRoomsWrong)

/-- 'cadastrelaw6.RecordEncodes': WHATEVER THE INPUT: true; the input reads as it did. -/
def recordEncodesSpec : ChangeSpec := { name := "recordEncodes", fn := fun _ => fun
  | [d] => { results := [.lit (.bool true)], args := [d] }
  | _ => none }
def recordEncodesRow : OpenClaim := { program := "ytekjibpkkgldgaa", sum := "679a5985638fde333ad1e18755e51c7eba14508d03af76fd7a9ce7082c51b9ef", func := "cadastre/cadastrelaw6.RecordEncodes", spec := "recordEncodes", apart := false }
def RecordEncodesSaid : Prop := recordEncodesRow.holds Try.pinned (OpenSpec.ofChange recordEncodesSpec)

/-- ITS FALSE NEIGHBOUR: 'it returns false'. Refute it at one input. -/
def recordEncodesWrong : ChangeSpec := { name := "recordEncodes", fn := fun _ => fun
  | [d] => { results := [.lit (.bool false)], args := [d] }
  | _ => none }
def RecordEncodesWrongFalsely : Prop := recordEncodesRow.holds Try.pinned (OpenSpec.ofChange recordEncodesWrong)

/-- 'cadastrelaw6.RecordSizes': WHATEVER THE INPUT: true; the input reads as it did. -/
def recordSizesSpec : ChangeSpec := { name := "recordSizes", fn := fun _ => fun
  | [d] => { results := [.lit (.bool true)], args := [d] }
  | _ => none }
def recordSizesRow : OpenClaim := { program := "ytekjibpkkgldgaa", sum := "679a5985638fde333ad1e18755e51c7eba14508d03af76fd7a9ce7082c51b9ef", func := "cadastre/cadastrelaw6.RecordSizes", spec := "recordSizes", apart := false }
def RecordSizesSaid : Prop := recordSizesRow.holds Try.pinned (OpenSpec.ofChange recordSizesSpec)

/-- ITS FALSE NEIGHBOUR: 'it returns false'. Refute it at one input. -/
def recordSizesWrong : ChangeSpec := { name := "recordSizes", fn := fun _ => fun
  | [d] => { results := [.lit (.bool false)], args := [d] }
  | _ => none }
def RecordSizesWrongFalsely : Prop := recordSizesRow.holds Try.pinned (OpenSpec.ofChange recordSizesWrong)

/-- 'cadastrelaw11.NodeExact': WHATEVER THE INPUT: true; the input reads as it did. -/
def nodeExactSpec : ChangeSpec := { name := "nodeExact", fn := fun _ => fun
  | [d] => { results := [.lit (.bool true)], args := [d] }
  | _ => none }
def nodeExactRow : OpenClaim := { program := "ytekjibpkkgldgaa", sum := "679a5985638fde333ad1e18755e51c7eba14508d03af76fd7a9ce7082c51b9ef", func := "cadastre/cadastrelaw11.NodeExact", spec := "nodeExact", apart := false }
def NodeExactSaid : Prop := nodeExactRow.holds Try.pinned (OpenSpec.ofChange nodeExactSpec)

/-- ITS FALSE NEIGHBOUR: 'it returns false'. Refute it at one input. -/
def nodeExactWrong : ChangeSpec := { name := "nodeExact", fn := fun _ => fun
  | [d] => { results := [.lit (.bool false)], args := [d] }
  | _ => none }
def NodeExactWrongFalsely : Prop := nodeExactRow.holds Try.pinned (OpenSpec.ofChange nodeExactWrong)

/-- 'cadastrelaw11.NodeBack': WHATEVER THE INPUT: true; the input reads as it did. -/
def nodeBackSpec : ChangeSpec := { name := "nodeBack", fn := fun _ => fun
  | [d] => { results := [.lit (.bool true)], args := [d] }
  | _ => none }
def nodeBackRow : OpenClaim := { program := "ytekjibpkkgldgaa", sum := "679a5985638fde333ad1e18755e51c7eba14508d03af76fd7a9ce7082c51b9ef", func := "cadastre/cadastrelaw11.NodeBack", spec := "nodeBack", apart := false }
def NodeBackSaid : Prop := nodeBackRow.holds Try.pinned (OpenSpec.ofChange nodeBackSpec)

/-- ITS FALSE NEIGHBOUR: 'it returns false'. Refute it at one input. -/
def nodeBackWrong : ChangeSpec := { name := "nodeBack", fn := fun _ => fun
  | [d] => { results := [.lit (.bool false)], args := [d] }
  | _ => none }
def NodeBackWrongFalsely : Prop := nodeBackRow.holds Try.pinned (OpenSpec.ofChange nodeBackWrong)

/-- 'cadastrelaw11.NodeDecodes': WHATEVER THE INPUT: true; the input reads as it did. -/
def nodeDecodesSpec : ChangeSpec := { name := "nodeDecodes", fn := fun _ => fun
  | [d] => { results := [.lit (.bool true)], args := [d] }
  | _ => none }
def nodeDecodesRow : OpenClaim := { program := "ytekjibpkkgldgaa", sum := "679a5985638fde333ad1e18755e51c7eba14508d03af76fd7a9ce7082c51b9ef", func := "cadastre/cadastrelaw11.NodeDecodes", spec := "nodeDecodes", apart := false }
def NodeDecodesSaid : Prop := nodeDecodesRow.holds Try.pinned (OpenSpec.ofChange nodeDecodesSpec)

/-- ITS FALSE NEIGHBOUR: 'it returns false'. Refute it at one input. -/
def nodeDecodesWrong : ChangeSpec := { name := "nodeDecodes", fn := fun _ => fun
  | [d] => { results := [.lit (.bool false)], args := [d] }
  | _ => none }
def NodeDecodesWrongFalsely : Prop := nodeDecodesRow.holds Try.pinned (OpenSpec.ofChange nodeDecodesWrong)

/-- 'cadastrelaw19.LexExact': WHATEVER THE INPUT: true; the input reads as it did. -/
def lexExactSpec : ChangeSpec := { name := "lexExact", fn := fun _ => fun
  | [d] => { results := [.lit (.bool true)], args := [d] }
  | _ => none }
def lexExactRow : OpenClaim := { program := "ytekjibpkkgldgaa", sum := "679a5985638fde333ad1e18755e51c7eba14508d03af76fd7a9ce7082c51b9ef", func := "cadastre/cadastrelaw19.LexExact", spec := "lexExact", inPlace := ["internal/bytealg.IndexByteString"], unfollowed := true, recurses := true, apart := false }
def LexExactSaid : Prop := lexExactRow.holds Try.pinned (OpenSpec.ofChange lexExactSpec)

/-- ITS FALSE NEIGHBOUR: 'it returns false'. Refute it at one input. -/
def lexExactWrong : ChangeSpec := { name := "lexExact", fn := fun _ => fun
  | [d] => { results := [.lit (.bool false)], args := [d] }
  | _ => none }
def LexExactWrongFalsely : Prop := lexExactRow.holds Try.pinned (OpenSpec.ofChange lexExactWrong)

/-- 'cadastrelaw19.LexBlanks': WHATEVER THE INPUT: true; the input reads as it did. -/
def lexBlanksSpec : ChangeSpec := { name := "lexBlanks", fn := fun _ => fun
  | [d] => { results := [.lit (.bool true)], args := [d] }
  | _ => none }
def lexBlanksRow : OpenClaim := { program := "ytekjibpkkgldgaa", sum := "679a5985638fde333ad1e18755e51c7eba14508d03af76fd7a9ce7082c51b9ef", func := "cadastre/cadastrelaw19.LexBlanks", spec := "lexBlanks", inPlace := ["internal/bytealg.IndexByteString"], unfollowed := true, recurses := true, apart := false }
def LexBlanksSaid : Prop := lexBlanksRow.holds Try.pinned (OpenSpec.ofChange lexBlanksSpec)

/-- ITS FALSE NEIGHBOUR: 'it returns false'. Refute it at one input. -/
def lexBlanksWrong : ChangeSpec := { name := "lexBlanks", fn := fun _ => fun
  | [d] => { results := [.lit (.bool false)], args := [d] }
  | _ => none }
def LexBlanksWrongFalsely : Prop := lexBlanksRow.holds Try.pinned (OpenSpec.ofChange lexBlanksWrong)

/-- 'cadastrelaw19.LexTexts': WHATEVER THE INPUT: true; the input reads as it did. -/
def lexTextsSpec : ChangeSpec := { name := "lexTexts", fn := fun _ => fun
  | [d] => { results := [.lit (.bool true)], args := [d] }
  | _ => none }
def lexTextsRow : OpenClaim := { program := "ytekjibpkkgldgaa", sum := "679a5985638fde333ad1e18755e51c7eba14508d03af76fd7a9ce7082c51b9ef", func := "cadastre/cadastrelaw19.LexTexts", spec := "lexTexts", inPlace := ["internal/bytealg.IndexByteString"], unfollowed := true, recurses := true, apart := false }
def LexTextsSaid : Prop := lexTextsRow.holds Try.pinned (OpenSpec.ofChange lexTextsSpec)

/-- ITS FALSE NEIGHBOUR: 'it returns false'. Refute it at one input. -/
def lexTextsWrong : ChangeSpec := { name := "lexTexts", fn := fun _ => fun
  | [d] => { results := [.lit (.bool false)], args := [d] }
  | _ => none }
def LexTextsWrongFalsely : Prop := lexTextsRow.holds Try.pinned (OpenSpec.ofChange lexTextsWrong)

/-- 'cadastrelaw19.LexMarks': WHATEVER THE INPUT: true; the input reads as it did. -/
def lexMarksSpec : ChangeSpec := { name := "lexMarks", fn := fun _ => fun
  | [d] => { results := [.lit (.bool true)], args := [d] }
  | _ => none }
def lexMarksRow : OpenClaim := { program := "ytekjibpkkgldgaa", sum := "679a5985638fde333ad1e18755e51c7eba14508d03af76fd7a9ce7082c51b9ef", func := "cadastre/cadastrelaw19.LexMarks", spec := "lexMarks", inPlace := ["internal/bytealg.IndexByteString"], unfollowed := true, recurses := true, apart := false }
def LexMarksSaid : Prop := lexMarksRow.holds Try.pinned (OpenSpec.ofChange lexMarksSpec)

/-- ITS FALSE NEIGHBOUR: 'it returns false'. Refute it at one input. -/
def lexMarksWrong : ChangeSpec := { name := "lexMarks", fn := fun _ => fun
  | [d] => { results := [.lit (.bool false)], args := [d] }
  | _ => none }
def LexMarksWrongFalsely : Prop := lexMarksRow.holds Try.pinned (OpenSpec.ofChange lexMarksWrong)

/-- 'cadastrelaw6.RecordExact': WHATEVER THE INPUT: true; the input reads as it did. -/
def recordExactSpec : ChangeSpec := { name := "recordExact", fn := fun _ => fun
  | [d] => { results := [.lit (.bool true)], args := [d] }
  | _ => none }
def recordExactRow : OpenClaim := { program := "ytekjibpkkgldgaa", sum := "679a5985638fde333ad1e18755e51c7eba14508d03af76fd7a9ce7082c51b9ef", func := "cadastre/cadastrelaw6.RecordExact", spec := "recordExact", apart := false }
def RecordExactSaid : Prop := recordExactRow.holds Try.pinned (OpenSpec.ofChange recordExactSpec)

/-- ITS FALSE NEIGHBOUR: 'it returns false'. Refute it at one input. -/
def recordExactWrong : ChangeSpec := { name := "recordExact", fn := fun _ => fun
  | [d] => { results := [.lit (.bool false)], args := [d] }
  | _ => none }
def RecordExactWrongFalsely : Prop := recordExactRow.holds Try.pinned (OpenSpec.ofChange recordExactWrong)

/-- 'cadastrelaw6.RecordBack': WHATEVER THE INPUT: true; the input reads as it did. -/
def recordBackSpec : ChangeSpec := { name := "recordBack", fn := fun _ => fun
  | [d] => { results := [.lit (.bool true)], args := [d] }
  | _ => none }
def recordBackRow : OpenClaim := { program := "ytekjibpkkgldgaa", sum := "679a5985638fde333ad1e18755e51c7eba14508d03af76fd7a9ce7082c51b9ef", func := "cadastre/cadastrelaw6.RecordBack", spec := "recordBack", apart := false }
def RecordBackSaid : Prop := recordBackRow.holds Try.pinned (OpenSpec.ofChange recordBackSpec)

/-- ITS FALSE NEIGHBOUR: 'it returns false'. Refute it at one input. -/
def recordBackWrong : ChangeSpec := { name := "recordBack", fn := fun _ => fun
  | [d] => { results := [.lit (.bool false)], args := [d] }
  | _ => none }
def RecordBackWrongFalsely : Prop := recordBackRow.holds Try.pinned (OpenSpec.ofChange recordBackWrong)

/-- 'cadastrelaw6.RecordDecodes': WHATEVER THE INPUT: true; the input reads as it did. -/
def recordDecodesSpec : ChangeSpec := { name := "recordDecodes", fn := fun _ => fun
  | [d] => { results := [.lit (.bool true)], args := [d] }
  | _ => none }
def recordDecodesRow : OpenClaim := { program := "ytekjibpkkgldgaa", sum := "679a5985638fde333ad1e18755e51c7eba14508d03af76fd7a9ce7082c51b9ef", func := "cadastre/cadastrelaw6.RecordDecodes", spec := "recordDecodes", apart := false }
def RecordDecodesSaid : Prop := recordDecodesRow.holds Try.pinned (OpenSpec.ofChange recordDecodesSpec)

/-- ITS FALSE NEIGHBOUR: 'it returns false'. Refute it at one input. -/
def recordDecodesWrong : ChangeSpec := { name := "recordDecodes", fn := fun _ => fun
  | [d] => { results := [.lit (.bool false)], args := [d] }
  | _ => none }
def RecordDecodesWrongFalsely : Prop := recordDecodesRow.holds Try.pinned (OpenSpec.ofChange recordDecodesWrong)

/- THE SECOND FORM. 'bulk': how many values and letters a reading holds, each counted each time it is reached (what is shared counts as often as it is met; a slice's spare places count too). A statement '..UptoSaid' is the law's where the arguments, and the package variables that the reading takes, are together of bulk at most 1048576: NARROWER than '..Said'. Prove '..Said' where nothing that the law and all that it calls make is longer than what came in: it says more and counts as full. Else prove '..UptoSaid'. A law counts once. -/
mutual
def uptoBulk {H : Type} : DataW H → Nat
  | .lit (.string bytes) => bytes.length + 1
  | .lit _ => 1
  | .nil => 1
  | .ptr d => uptoBulk d + 1
  | .slice elems spare => uptoBulkAll elems + uptoBulkAll spare + 1
  | .agg parts => uptoBulkAll parts + 1
  | .iface _ d => uptoBulk d + 1
  | .map entries => uptoBulkEntries entries + 1
  | .held _ => 1
def uptoBulkAll {H : Type} : List (DataW H) → Nat
  | [] => 0
  | d :: r => uptoBulk d + uptoBulkAll r
def uptoBulkEntries {H : Type} : List (Lit × DataW H) → Nat
  | [] => 0
  | x :: r => uptoBulkEntry x + uptoBulkEntries r
def uptoBulkEntry {H : Type} : Lit × DataW H → Nat
  | (.string bytes, d) => bytes.length + uptoBulk d + 1
  | (_, d) => uptoBulk d + 1
 end
def uptoSmall : (H : Type) → List (DataW H) → Bool := fun _ ds => decide (uptoBulkAll ds ≤ 1048576)
def OpenSpec.upto (s : _root_.Go.ChangeSpec) : _root_.Go.OpenSpec := { _root_.Go.OpenSpec.ofChange s with cond := some uptoSmall }

/-- 'cadastrelaw11.NodeRooms', WHERE WHAT IT READS IS OF BULK AT MOST 1048576: true; the input reads as it did. -/
def nodeRoomsUptoRow : OpenClaim := { program := "ytekjibpkkgldgaa", sum := "679a5985638fde333ad1e18755e51c7eba14508d03af76fd7a9ce7082c51b9ef", func := "cadastre/cadastrelaw11.NodeRooms", spec := "nodeRooms", apart := false, narrowed := true }
def NodeRoomsUptoSaid : Prop := nodeRoomsUptoRow.holds Try.pinned (OpenSpec.upto nodeRoomsSpec)

/-- 'cadastrelaw6.RecordEncodes', WHERE WHAT IT READS IS OF BULK AT MOST 1048576: true; the input reads as it did. -/
def recordEncodesUptoRow : OpenClaim := { program := "ytekjibpkkgldgaa", sum := "679a5985638fde333ad1e18755e51c7eba14508d03af76fd7a9ce7082c51b9ef", func := "cadastre/cadastrelaw6.RecordEncodes", spec := "recordEncodes", apart := false, narrowed := true }
def RecordEncodesUptoSaid : Prop := recordEncodesUptoRow.holds Try.pinned (OpenSpec.upto recordEncodesSpec)

/-- 'cadastrelaw6.RecordSizes', WHERE WHAT IT READS IS OF BULK AT MOST 1048576: true; the input reads as it did. -/
def recordSizesUptoRow : OpenClaim := { program := "ytekjibpkkgldgaa", sum := "679a5985638fde333ad1e18755e51c7eba14508d03af76fd7a9ce7082c51b9ef", func := "cadastre/cadastrelaw6.RecordSizes", spec := "recordSizes", apart := false, narrowed := true }
def RecordSizesUptoSaid : Prop := recordSizesUptoRow.holds Try.pinned (OpenSpec.upto recordSizesSpec)

/-- 'cadastrelaw11.NodeExact', WHERE WHAT IT READS IS OF BULK AT MOST 1048576: true; the input reads as it did. -/
def nodeExactUptoRow : OpenClaim := { program := "ytekjibpkkgldgaa", sum := "679a5985638fde333ad1e18755e51c7eba14508d03af76fd7a9ce7082c51b9ef", func := "cadastre/cadastrelaw11.NodeExact", spec := "nodeExact", apart := false, narrowed := true }
def NodeExactUptoSaid : Prop := nodeExactUptoRow.holds Try.pinned (OpenSpec.upto nodeExactSpec)

/-- 'cadastrelaw11.NodeBack', WHERE WHAT IT READS IS OF BULK AT MOST 1048576: true; the input reads as it did. -/
def nodeBackUptoRow : OpenClaim := { program := "ytekjibpkkgldgaa", sum := "679a5985638fde333ad1e18755e51c7eba14508d03af76fd7a9ce7082c51b9ef", func := "cadastre/cadastrelaw11.NodeBack", spec := "nodeBack", apart := false, narrowed := true }
def NodeBackUptoSaid : Prop := nodeBackUptoRow.holds Try.pinned (OpenSpec.upto nodeBackSpec)

/-- 'cadastrelaw11.NodeDecodes', WHERE WHAT IT READS IS OF BULK AT MOST 1048576: true; the input reads as it did. -/
def nodeDecodesUptoRow : OpenClaim := { program := "ytekjibpkkgldgaa", sum := "679a5985638fde333ad1e18755e51c7eba14508d03af76fd7a9ce7082c51b9ef", func := "cadastre/cadastrelaw11.NodeDecodes", spec := "nodeDecodes", apart := false, narrowed := true }
def NodeDecodesUptoSaid : Prop := nodeDecodesUptoRow.holds Try.pinned (OpenSpec.upto nodeDecodesSpec)

/-- 'cadastrelaw19.LexExact', WHERE WHAT IT READS IS OF BULK AT MOST 1048576: true; the input reads as it did. -/
def lexExactUptoRow : OpenClaim := { program := "ytekjibpkkgldgaa", sum := "679a5985638fde333ad1e18755e51c7eba14508d03af76fd7a9ce7082c51b9ef", func := "cadastre/cadastrelaw19.LexExact", spec := "lexExact", inPlace := ["internal/bytealg.IndexByteString"], unfollowed := true, recurses := true, apart := false, narrowed := true }
def LexExactUptoSaid : Prop := lexExactUptoRow.holds Try.pinned (OpenSpec.upto lexExactSpec)

/-- 'cadastrelaw19.LexBlanks', WHERE WHAT IT READS IS OF BULK AT MOST 1048576: true; the input reads as it did. -/
def lexBlanksUptoRow : OpenClaim := { program := "ytekjibpkkgldgaa", sum := "679a5985638fde333ad1e18755e51c7eba14508d03af76fd7a9ce7082c51b9ef", func := "cadastre/cadastrelaw19.LexBlanks", spec := "lexBlanks", inPlace := ["internal/bytealg.IndexByteString"], unfollowed := true, recurses := true, apart := false, narrowed := true }
def LexBlanksUptoSaid : Prop := lexBlanksUptoRow.holds Try.pinned (OpenSpec.upto lexBlanksSpec)

/-- 'cadastrelaw19.LexTexts', WHERE WHAT IT READS IS OF BULK AT MOST 1048576: true; the input reads as it did. -/
def lexTextsUptoRow : OpenClaim := { program := "ytekjibpkkgldgaa", sum := "679a5985638fde333ad1e18755e51c7eba14508d03af76fd7a9ce7082c51b9ef", func := "cadastre/cadastrelaw19.LexTexts", spec := "lexTexts", inPlace := ["internal/bytealg.IndexByteString"], unfollowed := true, recurses := true, apart := false, narrowed := true }
def LexTextsUptoSaid : Prop := lexTextsUptoRow.holds Try.pinned (OpenSpec.upto lexTextsSpec)

/-- 'cadastrelaw19.LexMarks', WHERE WHAT IT READS IS OF BULK AT MOST 1048576: true; the input reads as it did. -/
def lexMarksUptoRow : OpenClaim := { program := "ytekjibpkkgldgaa", sum := "679a5985638fde333ad1e18755e51c7eba14508d03af76fd7a9ce7082c51b9ef", func := "cadastre/cadastrelaw19.LexMarks", spec := "lexMarks", inPlace := ["internal/bytealg.IndexByteString"], unfollowed := true, recurses := true, apart := false, narrowed := true }
def LexMarksUptoSaid : Prop := lexMarksUptoRow.holds Try.pinned (OpenSpec.upto lexMarksSpec)

/-- 'cadastrelaw6.RecordExact', WHERE WHAT IT READS IS OF BULK AT MOST 1048576: true; the input reads as it did. -/
def recordExactUptoRow : OpenClaim := { program := "ytekjibpkkgldgaa", sum := "679a5985638fde333ad1e18755e51c7eba14508d03af76fd7a9ce7082c51b9ef", func := "cadastre/cadastrelaw6.RecordExact", spec := "recordExact", apart := false, narrowed := true }
def RecordExactUptoSaid : Prop := recordExactUptoRow.holds Try.pinned (OpenSpec.upto recordExactSpec)

/-- 'cadastrelaw6.RecordBack', WHERE WHAT IT READS IS OF BULK AT MOST 1048576: true; the input reads as it did. -/
def recordBackUptoRow : OpenClaim := { program := "ytekjibpkkgldgaa", sum := "679a5985638fde333ad1e18755e51c7eba14508d03af76fd7a9ce7082c51b9ef", func := "cadastre/cadastrelaw6.RecordBack", spec := "recordBack", apart := false, narrowed := true }
def RecordBackUptoSaid : Prop := recordBackUptoRow.holds Try.pinned (OpenSpec.upto recordBackSpec)

/-- 'cadastrelaw6.RecordDecodes', WHERE WHAT IT READS IS OF BULK AT MOST 1048576: true; the input reads as it did. -/
def recordDecodesUptoRow : OpenClaim := { program := "ytekjibpkkgldgaa", sum := "679a5985638fde333ad1e18755e51c7eba14508d03af76fd7a9ce7082c51b9ef", func := "cadastre/cadastrelaw6.RecordDecodes", spec := "recordDecodes", apart := false, narrowed := true }
def RecordDecodesUptoSaid : Prop := recordDecodesUptoRow.holds Try.pinned (OpenSpec.upto recordDecodesSpec)

end Rows
end Go.Proofs.Ytekjibpkkgldgaa
