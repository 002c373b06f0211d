/- Layer 2: the laws' own small test. -/
import Derived.Test.YtaodnkhpiiepiaaVLVal
import Derived.Test.YtaodnkhpiiepiaaVx2
namespace Go.Proofs.Ytaodnkhpiiepiaa.V
open Go Go.RowKit Go.Proofs.YtaodnkhpiiepiaaW.PrintWords Go.Proofs.YtaodnkhpiiepiaaW.PrintLast Go.Proofs.YtaodnkhpiiepiaaG
theorem wakes2_ev : Ev (fun k => cadastrelaw2_wakes.f k) true := by
  refine Ev.congr (fun k => by rw [cadastrelaw2_wakes.f]) ?_
  refine Ev.bind (cmp_ev ⟨0, 0, ⟨#[]⟩⟩ ⟨1, 5, ⟨#[]⟩⟩ (by decide) (by decide)) ?_
  have e : cmpR ⟨0, 0, ⟨#[]⟩⟩ ⟨1, 5, ⟨#[]⟩⟩ = (-1, 0) := by decide
  rw [e]
  exact Ev.const (r := 0) rfl (Ev.ifp rfl (Ev.ret rfl))
end Go.Proofs.Ytaodnkhpiiepiaa.V
