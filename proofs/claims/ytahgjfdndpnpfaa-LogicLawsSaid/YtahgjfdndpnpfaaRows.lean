/-
  No cell of these rows narrows 'for every input' (looked for: loops, veiled, ifaces, maps, wideKeys, modest, calm, conditions, laid).
  DERIVED. THE GIVEN ROWS OF THIS SEAT. 5 by the template 'for every input the law returns true; each argument reads behind the call as it read before'; 0 by the template 'total and deterministic' (their statements: YtahgjfdndpnpfaaTotals.lean).
  GIVEN WITH THE SEED: the statements are not yours to turn. If you find one false, say at which input.
  Laid BY PROGRAM, IN A SANDBOX (cutbox-rows.mjs): the forced cells as the released guide's own fill.sh prints them over the translation 82ab14ecc953eb12… (all of the seat's roots in one cut). By AI agents, Wed Nov 11 2026. No macro, syntax, notation, axiom, sorry.
-/
import Derived.Test.YtahgjfdndpnpfaaChecked
import GoSem.Claim
import GoSem.ClaimJoined
import GoSem.ClaimMapViews
import Derived.JoinedTies
import Derived.KernelRfl
namespace Go.Proofs.Ytahgjfdndpnpfaa
/- THE CELL 'sum', in the pinned program and in every row, IS THE sha256 OF THE DUMP (.gsa) THAT YtahgjfdndpnpfaaProg.lean LOADS. Nothing in Lean hashes anything: it is a label: what it is worth is what the hold of that sum in a sandbox is worth. -/
noncomputable def Try.pinned : Pinned := { name := "ytahgjfdndpnpfaa", sum := "82ab14ecc953eb12201ce15507570686cc4a51792526df3fa29a394f9555781a", checked := Try.checked }
namespace Rows
def none {H : Type} : Left H := { results := [], args := [] }

/-- 'cadastrelaw4.ArithLaws': WHATEVER THE INPUT: true; the input reads as it did. -/
def arithLawsSpec : ChangeSpec := { name := "arithLaws", fn := fun _ => fun
  | [d] => { results := [.lit (.bool true)], args := [d] }
  | _ => none }
def arithLawsRow : OpenClaim := { program := "ytahgjfdndpnpfaa", sum := "82ab14ecc953eb12201ce15507570686cc4a51792526df3fa29a394f9555781a", func := "cadastre/cadastrelaw4.ArithLaws", spec := "arithLaws", apart := false }
def ArithLawsSaid : Prop := arithLawsRow.holds Try.pinned (OpenSpec.ofChange arithLawsSpec)

/-- ITS FALSE NEIGHBOUR: 'it returns false'. Refute it at one input. -/
def arithLawsWrong : ChangeSpec := { name := "arithLaws", fn := fun _ => fun
  | [d] => { results := [.lit (.bool false)], args := [d] }
  | _ => none }
def ArithLawsWrongFalsely : Prop := arithLawsRow.holds Try.pinned (OpenSpec.ofChange arithLawsWrong)

/-- 'cadastrelaw7.KeysFinds': WHATEVER THE INPUT: true; the input reads as it did. -/
def keysFindsSpec : ChangeSpec := { name := "keysFinds", fn := fun _ => fun
  | [d] => { results := [.lit (.bool true)], args := [d] }
  | _ => none }
def keysFindsRow : OpenClaim := { program := "ytahgjfdndpnpfaa", sum := "82ab14ecc953eb12201ce15507570686cc4a51792526df3fa29a394f9555781a", func := "cadastre/cadastrelaw7.KeysFinds", spec := "keysFinds", unfollowed := true, recurses := true, apart := false }
def KeysFindsSaid : Prop := keysFindsRow.holds Try.pinned (OpenSpec.ofChange keysFindsSpec)

/-- ITS FALSE NEIGHBOUR: 'it returns false'. Refute it at one input. -/
def keysFindsWrong : ChangeSpec := { name := "keysFinds", fn := fun _ => fun
  | [d] => { results := [.lit (.bool false)], args := [d] }
  | _ => none }
def KeysFindsWrongFalsely : Prop := keysFindsRow.holds Try.pinned (OpenSpec.ofChange keysFindsWrong)

/-- 'cadastrelaw3.LogicNulls': WHATEVER THE INPUT: true; the input reads as it did. -/
def logicNullsSpec : ChangeSpec := { name := "logicNulls", fn := fun _ => fun
  | [d] => { results := [.lit (.bool true)], args := [d] }
  | _ => none }
def logicNullsRow : OpenClaim := { program := "ytahgjfdndpnpfaa", sum := "82ab14ecc953eb12201ce15507570686cc4a51792526df3fa29a394f9555781a", func := "cadastre/cadastrelaw3.LogicNulls", spec := "logicNulls", apart := false }
def LogicNullsSaid : Prop := logicNullsRow.holds Try.pinned (OpenSpec.ofChange logicNullsSpec)

/-- ITS FALSE NEIGHBOUR: 'it returns false'. Refute it at one input. -/
def logicNullsWrong : ChangeSpec := { name := "logicNulls", fn := fun _ => fun
  | [d] => { results := [.lit (.bool false)], args := [d] }
  | _ => none }
def LogicNullsWrongFalsely : Prop := logicNullsRow.holds Try.pinned (OpenSpec.ofChange logicNullsWrong)

/-- 'cadastrelaw3.LogicLaws': WHATEVER THE INPUT: true; the input reads as it did. -/
def logicLawsSpec : ChangeSpec := { name := "logicLaws", fn := fun _ => fun
  | [d] => { results := [.lit (.bool true)], args := [d] }
  | _ => none }
def logicLawsRow : OpenClaim := { program := "ytahgjfdndpnpfaa", sum := "82ab14ecc953eb12201ce15507570686cc4a51792526df3fa29a394f9555781a", func := "cadastre/cadastrelaw3.LogicLaws", spec := "logicLaws", apart := false }
def LogicLawsSaid : Prop := logicLawsRow.holds Try.pinned (OpenSpec.ofChange logicLawsSpec)

/-- ITS FALSE NEIGHBOUR: 'it returns false'. Refute it at one input. -/
def logicLawsWrong : ChangeSpec := { name := "logicLaws", fn := fun _ => fun
  | [d] => { results := [.lit (.bool false)], args := [d] }
  | _ => none }
def LogicLawsWrongFalsely : Prop := logicLawsRow.holds Try.pinned (OpenSpec.ofChange logicLawsWrong)

/-- 'cadastrelaw3.LogicExact': WHATEVER THE INPUT: true; the input reads as it did. -/
def logicExactSpec : ChangeSpec := { name := "logicExact", fn := fun _ => fun
  | [d] => { results := [.lit (.bool true)], args := [d] }
  | _ => none }
def logicExactRow : OpenClaim := { program := "ytahgjfdndpnpfaa", sum := "82ab14ecc953eb12201ce15507570686cc4a51792526df3fa29a394f9555781a", func := "cadastre/cadastrelaw3.LogicExact", spec := "logicExact", apart := false }
def LogicExactSaid : Prop := logicExactRow.holds Try.pinned (OpenSpec.ofChange logicExactSpec)

/-- ITS FALSE NEIGHBOUR: 'it returns false'. Refute it at one input. -/
def logicExactWrong : ChangeSpec := { name := "logicExact", fn := fun _ => fun
  | [d] => { results := [.lit (.bool false)], args := [d] }
  | _ => none }
def LogicExactWrongFalsely : Prop := logicExactRow.holds Try.pinned (OpenSpec.ofChange logicExactWrong)

/- THE SECOND FORM. 'bulk': how many values and letters a reading holds, each counted each time it is reached (what is shared counts as often as it is met; a slice's spare places count too). A statement '..UptoSaid' is the law's where the arguments, and the package variables that the reading takes, are together of bulk at most 1048576: NARROWER than '..Said'. Prove '..Said' where nothing that the law and all that it calls make is longer than what came in: it says more and counts as full. Else prove '..UptoSaid'. A law counts once. -/
mutual
def uptoBulk {H : Type} : DataW H → Nat
  | .lit (.string bytes) => bytes.length + 1
  | .lit _ => 1
  | .nil => 1
  | .ptr d => uptoBulk d + 1
  | .slice elems spare => uptoBulkAll elems + uptoBulkAll spare + 1
  | .agg parts => uptoBulkAll parts + 1
  | .iface _ d => uptoBulk d + 1
  | .map entries => uptoBulkEntries entries + 1
  | .held _ => 1
def uptoBulkAll {H : Type} : List (DataW H) → Nat
  | [] => 0
  | d :: r => uptoBulk d + uptoBulkAll r
def uptoBulkEntries {H : Type} : List (Lit × DataW H) → Nat
  | [] => 0
  | x :: r => uptoBulkEntry x + uptoBulkEntries r
def uptoBulkEntry {H : Type} : Lit × DataW H → Nat
  | (.string bytes, d) => bytes.length + uptoBulk d + 1
  | (_, d) => uptoBulk d + 1
 end
def uptoSmall : (H : Type) → List (DataW H) → Bool := fun _ ds => decide (uptoBulkAll ds ≤ 1048576)
def OpenSpec.upto (s : _root_.Go.ChangeSpec) : _root_.Go.OpenSpec := { _root_.Go.OpenSpec.ofChange s with cond := some uptoSmall }

/-- 'cadastrelaw4.ArithLaws', WHERE WHAT IT READS IS OF BULK AT MOST 1048576: true; the input reads as it did. -/
def arithLawsUptoRow : OpenClaim := { program := "ytahgjfdndpnpfaa", sum := "82ab14ecc953eb12201ce15507570686cc4a51792526df3fa29a394f9555781a", func := "cadastre/cadastrelaw4.ArithLaws", spec := "arithLaws", apart := false, narrowed := true }
def ArithLawsUptoSaid : Prop := arithLawsUptoRow.holds Try.pinned (OpenSpec.upto arithLawsSpec)

/-- 'cadastrelaw7.KeysFinds', WHERE WHAT IT READS IS OF BULK AT MOST 1048576: true; the input reads as it did. -/
def keysFindsUptoRow : OpenClaim := { program := "ytahgjfdndpnpfaa", sum := "82ab14ecc953eb12201ce15507570686cc4a51792526df3fa29a394f9555781a", func := "cadastre/cadastrelaw7.KeysFinds", spec := "keysFinds", unfollowed := true, recurses := true, apart := false, narrowed := true }
def KeysFindsUptoSaid : Prop := keysFindsUptoRow.holds Try.pinned (OpenSpec.upto keysFindsSpec)

/-- 'cadastrelaw3.LogicNulls', WHERE WHAT IT READS IS OF BULK AT MOST 1048576: true; the input reads as it did. -/
def logicNullsUptoRow : OpenClaim := { program := "ytahgjfdndpnpfaa", sum := "82ab14ecc953eb12201ce15507570686cc4a51792526df3fa29a394f9555781a", func := "cadastre/cadastrelaw3.LogicNulls", spec := "logicNulls", apart := false, narrowed := true }
def LogicNullsUptoSaid : Prop := logicNullsUptoRow.holds Try.pinned (OpenSpec.upto logicNullsSpec)

/-- 'cadastrelaw3.LogicLaws', WHERE WHAT IT READS IS OF BULK AT MOST 1048576: true; the input reads as it did. -/
def logicLawsUptoRow : OpenClaim := { program := "ytahgjfdndpnpfaa", sum := "82ab14ecc953eb12201ce15507570686cc4a51792526df3fa29a394f9555781a", func := "cadastre/cadastrelaw3.LogicLaws", spec := "logicLaws", apart := false, narrowed := true }
def LogicLawsUptoSaid : Prop := logicLawsUptoRow.holds Try.pinned (OpenSpec.upto logicLawsSpec)

/-- 'cadastrelaw3.LogicExact', WHERE WHAT IT READS IS OF BULK AT MOST 1048576: true; the input reads as it did. -/
def logicExactUptoRow : OpenClaim := { program := "ytahgjfdndpnpfaa", sum := "82ab14ecc953eb12201ce15507570686cc4a51792526df3fa29a394f9555781a", func := "cadastre/cadastrelaw3.LogicExact", spec := "logicExact", apart := false, narrowed := true }
def LogicExactUptoSaid : Prop := logicExactUptoRow.holds Try.pinned (OpenSpec.upto logicExactSpec)

end Rows
end Go.Proofs.Ytahgjfdndpnpfaa
