/-
  How a law's parameter reads as plain data, and the bounds that its datum gives.
-/
import Derived.Test.YtekjibpkkgldgaaAxRow
import Derived.Test.YtekjibpkkgldgaaXU
namespace Go.Proofs.Ytekjibpkkgldgaa.X
open Go Go.AX

end Go.Proofs.Ytekjibpkkgldgaa.X
