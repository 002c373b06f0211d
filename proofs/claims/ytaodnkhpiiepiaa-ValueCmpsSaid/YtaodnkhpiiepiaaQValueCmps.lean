/- ValueCmps: what its printed function answers is true, for every list. No condition beyond the numbers' own bounds. -/
import Derived.Test.YtaodnkhpiiepiaaVLWk2
import Derived.Test.YtaodnkhpiiepiaaVOk
import Derived.Test.YtaodnkhpiiepiaaVx5
namespace Go.Proofs.Ytaodnkhpiiepiaa.V
open Go Go.RowKit Go.Proofs.YtaodnkhpiiepiaaW.PrintWords Go.Proofs.YtaodnkhpiiepiaaW.PrintLast Go.Proofs.YtaodnkhpiiepiaaG

theorem ValueCmps_pure : ∀ l : List S47, (l.length * 104 ≤ 140737488351232 ∧ l.length ≤ 9223372036854775807 ∧ ∀ y ∈ l, (ok47 y)) → ∃ k, cadastrelaw2_ValueCmps.f k l = some true := by
  rintro l ⟨hby, hlen, hok⟩
  refine Ev.rounds (g := fun k => cadastrelaw2_ValueCmps.f k l) (Ev.congr (fun k => by rw [cadastrelaw2_ValueCmps.f]) ?_)
  have tl : ∀ i, Ev (fun k => cadastrelaw2_ValueCmps.j1 k l i false) true := fun i => by
    refine Ev.step (fun k => by rw [cadastrelaw2_ValueCmps.j1]) ?_
    exact Ev.ifn (by decide) (Ev.bind wakes2_ev (Ev.ret rfl))
  refine ev_loop (g := fun i k => cadastrelaw2_ValueCmps.l0 k l i) l.length ?_ ?_
  · refine Ev.step (fun k => by rw [cadastrelaw2_ValueCmps.l0]) ?_
    exact Ev.ifn (by omega) (tl _)
  · intro i hi ih
    have e1 : wrap64 ((i : Int) + 1) = (i : Int) + 1 := w64 (by omega) (by omega)
    have hx : ok47 (rd_T47 l i) := hok _ (rdOf_mem hi)
    refine Ev.step (fun k => by rw [cadastrelaw2_ValueCmps.l0]) ?_
    refine Ev.ifp (by omega) ?_
    by_cases h20 : (i : Int) < 30
    case neg => rw [decide_eq_false h20]; exact tl _
    rw [decide_eq_true h20]
    refine Ev.step (fun k => by rw [cadastrelaw2_ValueCmps.j1]) ?_
    refine Ev.ifp rfl (Ev.ifp (by omega) (Ev.ifp (by omega) ?_))
    obtain ⟨p, hp⟩ : ∃ p, rd_T47 l i = p := ⟨_, rfl⟩
    rw [hp] at hx ⊢
    rw [← e1] at ih
    obtain ⟨⟨_, _, ha⟩, ⟨_, _, hb⟩, ⟨_, _, hc⟩, _⟩ := hx
    refine Ev.bind (cmp_ev p.f0 p.f1 ha hb) (Ev.const (may_eq _ _ _) ?_)
    have bad : ¬ (good p.f0 = true ∧ good p.f1 = true) → Ev (fun k => cadastrelaw2_ValueCmps.j2 k l i (cmpR p.f0 p.f1).1 (cmpR p.f0 p.f1).2 true) true := fun h => by
      rw [cmpR_bad h]
      refine Ev.step (fun k => by rw [cadastrelaw2_ValueCmps.j2]) ?_
      exact Ev.ifp rfl (Ev.const (r := 1) rfl (Ev.ifp rfl (Ev.ifp rfl ih)))
    have ea : (⟨p.f0.f0, p.f0.f1, p.f0.f2⟩ : S24) = p.f0 := rfl
    have eb : (⟨p.f1.f0, p.f1.f1, p.f1.f2⟩ : S24) = p.f1 := rfl
    rw [ea]
    by_cases h1 : good p.f0 = true
    case neg =>
      exact Ev.ifn h1 (bad (fun h => h1 h.1))
    refine Ev.ifp h1 (Ev.const (may_eq _ _ _) ?_)
    rw [eb]
    by_cases h2 : good p.f1 = true
    case neg =>
      rw [Bool.eq_false_iff.mpr h2]
      exact bad (fun h => h2 h.2)
    rw [cmpR_good h1 h2, h2]
    refine Ev.step (fun k => by rw [cadastrelaw2_ValueCmps.j2]) ?_
    refine Ev.ifn (by decide) (Ev.const (r := 0) rfl (Ev.ifp rfl (Ev.ifp (by omega) (Ev.ifp (by omega) ?_))))
    rw [hp]
    exact Ev.bind (rcmp_ev p.f0 p.f1 h1 h2) (Ev.ifp rfl ih)
end Go.Proofs.Ytaodnkhpiiepiaa.V
