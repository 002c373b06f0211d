/- ValueChecks: what its printed function answers is true, for every list. No condition beyond the numbers' own bounds. -/
import Derived.Test.YtaodnkhpiiepiaaVLWk2
import Derived.Test.YtaodnkhpiiepiaaVLFit
import Derived.Test.YtaodnkhpiiepiaaVOk
import Derived.Test.YtaodnkhpiiepiaaVx7
namespace Go.Proofs.Ytaodnkhpiiepiaa.V
open Go Go.RowKit Go.Proofs.YtaodnkhpiiepiaaW.PrintWords Go.Proofs.YtaodnkhpiiepiaaW.PrintLast Go.Proofs.YtaodnkhpiiepiaaG

theorem ValueChecks_pure : ∀ l : List S47, (l.length * 104 ≤ 140737488351232 ∧ l.length ≤ 9223372036854775807 ∧ ∀ y ∈ l, (ok47 y)) → ∃ k, cadastrelaw2_ValueChecks.f k l = some true := by
  rintro l ⟨hby, hlen, hok⟩
  refine Ev.rounds (g := fun k => cadastrelaw2_ValueChecks.f k l) (Ev.congr (fun k => by rw [cadastrelaw2_ValueChecks.f]) ?_)
  have tl : ∀ i, Ev (fun k => cadastrelaw2_ValueChecks.j1 k l i false) true := fun i => by
    refine Ev.step (fun k => by rw [cadastrelaw2_ValueChecks.j1]) ?_
    exact Ev.ifn (by decide) (Ev.bind wakes2_ev (Ev.ret rfl))
  refine ev_loop (g := fun i k => cadastrelaw2_ValueChecks.l0 k l i) l.length ?_ ?_
  · refine Ev.step (fun k => by rw [cadastrelaw2_ValueChecks.l0]) ?_
    exact Ev.ifn (by omega) (tl _)
  · intro i hi ih
    have e1 : wrap64 ((i : Int) + 1) = (i : Int) + 1 := w64 (by omega) (by omega)
    have hx : ok47 (rd_T47 l i) := hok _ (rdOf_mem hi)
    refine Ev.step (fun k => by rw [cadastrelaw2_ValueChecks.l0]) ?_
    refine Ev.ifp (by omega) ?_
    by_cases h20 : (i : Int) < 30
    case neg => rw [decide_eq_false h20]; exact tl _
    rw [decide_eq_true h20]
    refine Ev.step (fun k => by rw [cadastrelaw2_ValueChecks.j1]) ?_
    refine Ev.ifp rfl (Ev.ifp (by omega) (Ev.ifp (by omega) ?_))
    obtain ⟨p, hp⟩ : ∃ p, rd_T47 l i = p := ⟨_, rfl⟩
    rw [hp] at hx ⊢
    rw [← e1] at ih
    have ea : (⟨p.f0.f0, p.f0.f1, p.f0.f2⟩ : S24) = p.f0 := rfl
    refine Ev.const (check_eq p.f0) (Ev.const rfl (Ev.const (may_eq _ _ _) ?_))
    rw [ea]
    cases h : good p.f0
    · refine Ev.ifn (by decide) (Ev.ifn (by decide) (Ev.const (check_eq p.f0) (Ev.const rfl (Ev.ifp (by rw [h]; rfl) ih))))
    · exact Ev.ifn (by decide) (Ev.ifp rfl ih)
end Go.Proofs.Ytaodnkhpiiepiaa.V
