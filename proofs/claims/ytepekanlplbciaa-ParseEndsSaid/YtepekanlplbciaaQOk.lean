/-
  How a law's parameter reads as plain data, and the bounds that its datum gives.
-/
import Derived.Test.YtepekanlplbciaaAxRow
import Derived.Test.YtepekanlplbciaaQU
namespace Go.Proofs.Ytepekanlplbciaa.Q
open Go Go.AX

end Go.Proofs.Ytepekanlplbciaa.Q
