/- SumExact: what its printed function answers is true, for every list. No condition beyond the numbers' own bounds. -/
import Derived.Test.YtbamdjfonfmbbaaLSum
namespace Go.Proofs.Ytbamdjfonfmbbaa.M
open Go Go.RowKit Go.Proofs.YtbamdjfonfmbbaaW.PrintWords Go.Proofs.YtbamdjfonfmbbaaW.PrintLast Go.Proofs.YtbamdjfonfmbbaaG

theorem SumExact_pure : ∀ l : List S26, (l.length * 40 ≤ 140737488351232 ∧ l.length ≤ 9223372036854775807 ∧ ∀ y ∈ l, (ok26 y)) → ∃ k, cadastrelaw8_SumExact.f k l = some true := by
  rintro l ⟨hby, hlen, hok⟩
  refine Ev.rounds (g := fun k => cadastrelaw8_SumExact.f k l) (Ev.congr (fun k => by rw [cadastrelaw8_SumExact.f]) ?_)
  have tl : ∀ i, Ev (fun k => cadastrelaw8_SumExact.j1 k l i false) true := fun i => by
    refine Ev.step (fun k => by rw [cadastrelaw8_SumExact.j1]) ?_
    exact Ev.ifn (by decide) (Ev.bind wakes_ev (Ev.ret rfl))
  refine ev_loop (g := fun i k => cadastrelaw8_SumExact.l0 k l i) l.length ?_ ?_
  · refine Ev.step (fun k => by rw [cadastrelaw8_SumExact.l0]) ?_
    exact Ev.ifn (by omega) (tl _)
  · intro i hi ih
    have e1 : wrap64 ((i : Int) + 1) = (i : Int) + 1 := w64 (by omega) (by omega)
    have hx : ok26 (rd_T26 l i) := hok _ (rdOf_mem hi)
    refine Ev.step (fun k => by rw [cadastrelaw8_SumExact.l0]) ?_
    refine Ev.ifp (by omega) ?_
    by_cases h20 : (i : Int) < 20
    case neg => rw [decide_eq_false h20]; exact tl _
    rw [decide_eq_true h20]
    refine Ev.step (fun k => by rw [cadastrelaw8_SumExact.j1]) ?_
    refine Ev.ifp rfl (Ev.ifp (by omega) (Ev.ifp (by omega) ?_))
    generalize rd_T26 l i = p at hx ⊢
    rw [← e1] at ih
    obtain ⟨ha, hb, ⟨_, _, hl⟩, hN⟩ := hx
    by_cases h5 : (p.f2.length : Int) > 5000
    · exact Ev.ifp h5 (Ev.ret rfl)
    refine Ev.ifn h5 ?_
    refine Ev.bind (copy_ev (by omega)) (Ev.bind (sum_ev hl (by omega) _ _) (Ev.bind (ref_sum_ev hl (by omega) _ _) ?_))
    refine Ev.ifp rfl (Ev.ifp rfl (Ev.bind (eq_ev _ _ (by omega)) ?_))
    exact Ev.ifp (by simp) ih
end Go.Proofs.Ytbamdjfonfmbbaa.M
