/- KeysCmps: what its printed function answers is true, for every list. No condition beyond the numbers' own bounds. -/
import Derived.Test.YtaodnkhpiiepiaaKLKey
import Derived.Test.YtaodnkhpiiepiaaKOk
import Derived.Test.YtaodnkhpiiepiaaKx0
import Derived.Test.YtaodnkhpiiepiaaKx6
namespace Go.Proofs.Ytaodnkhpiiepiaa.K
open Go Go.RowKit Go.Proofs.YtaodnkhpiiepiaaW.PrintWords Go.Proofs.YtaodnkhpiiepiaaW.PrintLast Go.Proofs.YtaodnkhpiiepiaaG

theorem KeysCmps_pure : ∀ l : List S70, (l.length * 72 ≤ 140737488351232 ∧ l.length ≤ 9223372036854775807 ∧ ∀ y ∈ l, (ok70 y)) → ∃ k, cadastrelaw7_KeysCmps.f k l = some true := by
  rintro l ⟨hby, hlen, hok⟩
  refine Ev.rounds (g := fun k => cadastrelaw7_KeysCmps.f k l) (Ev.congr (fun k => by rw [cadastrelaw7_KeysCmps.f]) ?_)
  have tl : ∀ i, Ev (fun k => cadastrelaw7_KeysCmps.j1 k l i false) true := fun i => by
    refine Ev.step (fun k => by rw [cadastrelaw7_KeysCmps.j1]) ?_
    exact Ev.ifn (by decide) (Ev.bind wakes7_ev (Ev.ret rfl))
  refine ev_loop (g := fun i k => cadastrelaw7_KeysCmps.l0 k l i) l.length ?_ ?_
  · refine Ev.step (fun k => by rw [cadastrelaw7_KeysCmps.l0]) ?_
    exact Ev.ifn (by omega) (tl _)
  · intro i hi ih
    have e1 : wrap64 ((i : Int) + 1) = (i : Int) + 1 := w64 (by omega) (by omega)
    have hx : ok70 (rd_T70 l i) := hok _ (rdOf_mem hi)
    refine Ev.step (fun k => by rw [cadastrelaw7_KeysCmps.l0]) ?_
    refine Ev.ifp (by omega) ?_
    by_cases h20 : (i : Int) < 12
    case neg => rw [decide_eq_false h20]; exact tl _
    rw [decide_eq_true h20]
    refine Ev.step (fun k => by rw [cadastrelaw7_KeysCmps.j1]) ?_
    refine Ev.ifp rfl (Ev.ifp (by omega) (Ev.ifp (by omega) ?_))
    obtain ⟨p, hp⟩ : ∃ p, rd_T70 l i = p := ⟨_, rfl⟩
    rw [hp] at hx ⊢
    rw [← e1] at ih
    obtain ⟨⟨ha32, _, _⟩, ⟨hb32, _, _⟩, _⟩ := hx
    obtain ⟨t, ht⟩ := heavy_ev p.f0 p.f1 p.f2
    refine Ev.bind ht ?_
    cases t with
    | true => exact Ev.ifp rfl (Ev.ret rfl)
    | false =>
    refine Ev.ifn (by decide) (Ev.bind (both_ev (by omega) (by omega)) ?_)
    have step2 : ∀ w, w = (if bothR p.f0 p.f1 = 0 then kcmp p.f0 p.f1 else 0) → Ev (fun k => cadastrelaw7_KeysCmps.j2 k l i (bothR p.f0 p.f1) w p.f0 p.f1 p.f2) true := by
      intro w hw
      refine Ev.step (fun k => by rw [cadastrelaw7_KeysCmps.j2]) ?_
      refine Ev.bind (kcmp_ev (by omega) (by omega)) ?_
      by_cases h : bothR p.f0 p.f1 = 0
      · rw [if_pos h] at hw
        rw [if_pos (c := bothR p.f0 p.f1 = 0) h]
        exact Ev.const rfl (Ev.ifp h.symm (Ev.ifp hw.symm ih))
      · rw [if_neg h] at hw
        rw [if_neg (c := bothR p.f0 p.f1 = 0) h]
        exact Ev.const rfl (Ev.ifp rfl (Ev.ifp hw.symm ih))
    by_cases h : bothR p.f0 p.f1 = 0
    · have g := (bothR_ok.mp h).1
      exact Ev.ifp h (Ev.bind (rkeys_ev (by omega) g.1 g.2) (step2 _ (if_pos h).symm))
    · exact Ev.ifn h (step2 0 (if_neg h).symm)
end Go.Proofs.Ytaodnkhpiiepiaa.K
