/- ArithQuotients: what its printed function answers is true, for every list. No condition beyond the numbers' own bounds. -/
import Derived.Test.YtaodnkhpiiepiaaALAri
import Derived.Test.YtaodnkhpiiepiaaAOk
import Derived.Test.YtaodnkhpiiepiaaAx7
namespace Go.Proofs.Ytaodnkhpiiepiaa.A
open Go Go.RowKit Go.Proofs.YtaodnkhpiiepiaaW.PrintWords Go.Proofs.YtaodnkhpiiepiaaW.PrintLast Go.Proofs.YtaodnkhpiiepiaaG
theorem ArithQuotients_pure : ∀ l : List S58, (l.length * 72 ≤ 140737488351232 ∧ l.length ≤ 9223372036854775807 ∧ ∀ y ∈ l, (ok58 y)) → ∃ k, cadastrelaw4_ArithQuotients.f k l = some true := by
  rintro l ⟨hby, hlen, hok⟩
  refine Ev.rounds (g := fun k => cadastrelaw4_ArithQuotients.f k l) (Ev.congr (fun k => by rw [cadastrelaw4_ArithQuotients.f]) ?_)
  exact Ev.bind (law_do 10 11 (by decide) (by decide) l hok hlen) (Ev.ret rfl)
end Go.Proofs.Ytaodnkhpiiepiaa.A
