/- VarintExact: what its printed function answers is true, for every list. No condition beyond the numbers' own bounds. -/
import Derived.Test.YtbamdjfonfmbbaaLVar2
import Derived.Test.YtbamdjfonfmbbaaMx9
namespace Go.Proofs.Ytbamdjfonfmbbaa.M
open Go Go.RowKit Go.Proofs.YtbamdjfonfmbbaaW.PrintWords Go.Proofs.YtbamdjfonfmbbaaW.PrintLast Go.Proofs.YtbamdjfonfmbbaaG

theorem VarintExact_pure : ∀ l : List S41, (l.length * 32 ≤ 140737488351232 ∧ l.length ≤ 9223372036854775807 ∧ ∀ y ∈ l, (ok41 y)) → ∃ k, cadastrelaw1_VarintExact.f k l = some true := by
  rintro l ⟨hby, hlen, hok⟩
  refine Ev.rounds (g := fun k => cadastrelaw1_VarintExact.f k l) (Ev.congr (fun k => by rw [cadastrelaw1_VarintExact.f]) ?_)
  have tl : ∀ i, Ev (fun k => cadastrelaw1_VarintExact.j1 k l i false) true := fun i => by
    refine Ev.step (fun k => by rw [cadastrelaw1_VarintExact.j1]) ?_
    exact Ev.ifn (by decide) (Ev.bind vwakes_ev (Ev.ret rfl))
  refine ev_loop (g := fun i k => cadastrelaw1_VarintExact.l0 k l i) l.length ?_ ?_
  · refine Ev.step (fun k => by rw [cadastrelaw1_VarintExact.l0]) ?_
    exact Ev.ifn (by omega) (tl _)
  · intro i hi ih
    have e1 : wrap64 ((i : Int) + 1) = (i : Int) + 1 := w64 (by omega) (by omega)
    have hx : ok41 (rd_T41 l i) := hok _ (rdOf_mem hi)
    refine Ev.step (fun k => by rw [cadastrelaw1_VarintExact.l0]) ?_
    refine Ev.ifp (by omega) ?_
    by_cases h20 : (i : Int) < 40
    case neg => rw [decide_eq_false h20]; exact tl _
    rw [decide_eq_true h20]
    refine Ev.step (fun k => by rw [cadastrelaw1_VarintExact.j1]) ?_
    refine Ev.ifp rfl (Ev.ifp (by omega) (Ev.ifp (by omega) ?_))
    generalize rd_T41 l i = p at hx ⊢
    rw [← e1] at ih
    obtain ⟨hn, ⟨_, hll, hl⟩⟩ := hx
    have hpl := put_length p.f0
    refine Ev.bind (put_ev _ hn.1 hn.2) (Ev.bind (rput_ev _ hn.1 hn.2) (Ev.bind (eq_ev _ _ (by omega)) (Ev.ifp (by simp) ?_)))
    refine Ev.bind (copy_ev (by omega)) (Ev.bind (get_ev hl (by omega)) (Ev.bind (rget_ev hl (by omega)) ?_))
    refine Ev.ifp rfl (Ev.ifp rfl (Ev.const rfl ?_))
    rcases gs_says hl 9 0 rfl (fun j hj => by omega) (by omega) (by omega) with h | ⟨n, m, h, h1, h2, _⟩
    · rw [h]
      refine Ev.ifn (by simp [two]) (Ev.ifp rfl (Ev.const rfl (Ev.ifp rfl (Ev.bind (eq_ev _ _ (by omega)) (Ev.ifp (by simp) ih)))))
    · rw [h]
      refine Ev.ifn (by simp [two]; omega) (Ev.ifn (show ¬ (m : Int) = 0 by omega) (Ev.bind (eq_ev _ _ (by omega)) (Ev.ifp (by simp) ih)))
end Go.Proofs.Ytbamdjfonfmbbaa.M
