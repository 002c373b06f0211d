/- VarintOnly: what its printed function answers is true, for every list. No condition beyond the numbers' own bounds. -/
import Derived.Test.YtbamdjfonfmbbaaLVar2
import Derived.Test.YtbamdjfonfmbbaaMx10
namespace Go.Proofs.Ytbamdjfonfmbbaa.M
open Go Go.RowKit Go.Proofs.YtbamdjfonfmbbaaW.PrintWords Go.Proofs.YtbamdjfonfmbbaaW.PrintLast Go.Proofs.YtbamdjfonfmbbaaG

theorem VarintOnly_pure : ∀ l : List S41, (l.length * 32 ≤ 140737488351232 ∧ l.length ≤ 9223372036854775807 ∧ ∀ y ∈ l, (ok41 y)) → ∃ k, cadastrelaw1_VarintOnly.f k l = some true := by
  rintro l ⟨hby, hlen, hok⟩
  refine Ev.rounds (g := fun k => cadastrelaw1_VarintOnly.f k l) (Ev.congr (fun k => by rw [cadastrelaw1_VarintOnly.f]) ?_)
  have tl : ∀ i, Ev (fun k => cadastrelaw1_VarintOnly.j1 k l i false) true := fun i => by
    refine Ev.step (fun k => by rw [cadastrelaw1_VarintOnly.j1]) ?_
    exact Ev.ifn (by decide) (Ev.bind vwakes_ev (Ev.ret rfl))
  refine ev_loop (g := fun i k => cadastrelaw1_VarintOnly.l0 k l i) l.length ?_ ?_
  · refine Ev.step (fun k => by rw [cadastrelaw1_VarintOnly.l0]) ?_
    exact Ev.ifn (by omega) (tl _)
  · intro i hi ih
    have e1 : wrap64 ((i : Int) + 1) = (i : Int) + 1 := w64 (by omega) (by omega)
    have hx : ok41 (rd_T41 l i) := hok _ (rdOf_mem hi)
    refine Ev.step (fun k => by rw [cadastrelaw1_VarintOnly.l0]) ?_
    refine Ev.ifp (by omega) ?_
    by_cases h20 : (i : Int) < 40
    case neg => rw [decide_eq_false h20]; exact tl _
    rw [decide_eq_true h20]
    refine Ev.step (fun k => by rw [cadastrelaw1_VarintOnly.j1]) ?_
    refine Ev.ifp rfl (Ev.ifp (by omega) (Ev.ifp (by omega) ?_))
    generalize rd_T41 l i = p at hx ⊢
    rw [← e1] at ih
    obtain ⟨hn, ⟨_, hll, hl⟩⟩ := hx
    refine Ev.bind (get_ev hl (by omega)) (Ev.const rfl ?_)
    rcases gs_says hl 9 0 rfl (fun j hj => by omega) (by omega) (by omega) with h | ⟨n, m, h, h1, h2, _, h3, h4, h5⟩
    · rw [h]
      exact Ev.ifn (by decide) ih
    · rw [h]
      have hpl := put_length n
      refine Ev.ifp rfl (Ev.ifn (show ¬ (m : Int) < 1 by omega) (Ev.ifn (show ¬ (m : Int) > (p.f1.length : Int) by omega) (Ev.bind (put_ev n h4 h5) (Ev.ifp (show 0 ≤ (m : Int) by omega) (Ev.ifp (show (m : Int) ≤ (p.f1.length : Int) by omega) ?_)))))
      refine Ev.bind (eq_ev _ _ (by omega)) (Ev.ifp ?_ ih)
      have e : ((m : Int)).toNat = m := by omega
      simp only [e]
      simp [h3]
end Go.Proofs.Ytbamdjfonfmbbaa.M
