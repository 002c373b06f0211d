/- CastInts: what its printed function answers is true, for every list. No condition beyond the numbers' own bounds. -/
import Derived.Test.YtaodnkhpiiepiaaCLCast
import Derived.Test.YtaodnkhpiiepiaaCOk
import Derived.Test.YtaodnkhpiiepiaaCx0
import Derived.Test.YtaodnkhpiiepiaaCx5
namespace Go.Proofs.Ytaodnkhpiiepiaa.C
open Go Go.RowKit Go.Proofs.YtaodnkhpiiepiaaW.PrintWords Go.Proofs.YtaodnkhpiiepiaaW.PrintLast Go.Proofs.YtaodnkhpiiepiaaG

theorem CastInts_pure : ∀ l : List S26, (l.length * 56 ≤ 140737488351232 ∧ l.length ≤ 9223372036854775807 ∧ ∀ y ∈ l, (ok26 y)) → ∃ k, cadastrelaw5_CastInts.f k l = some true := by
  rintro l ⟨hby, hlen, hok⟩
  refine Ev.rounds (g := fun k => cadastrelaw5_CastInts.f k l) (Ev.congr (fun k => by rw [cadastrelaw5_CastInts.f]) ?_)
  have tl : ∀ i, Ev (fun k => cadastrelaw5_CastInts.j1 k l i false) true := fun i => by
    refine Ev.step (fun k => by rw [cadastrelaw5_CastInts.j1]) ?_
    exact Ev.ifn (by decide) (Ev.bind wakes5_ev (Ev.ret rfl))
  refine ev_loop (g := fun i k => cadastrelaw5_CastInts.l0 k l i) l.length ?_ ?_
  · refine Ev.step (fun k => by rw [cadastrelaw5_CastInts.l0]) ?_
    exact Ev.ifn (by omega) (tl _)
  · intro i hi ih
    have e1 : wrap64 ((i : Int) + 1) = (i : Int) + 1 := w64 (by omega) (by omega)
    have hx : ok26 (rd_T26 l i) := hok _ (rdOf_mem hi)
    refine Ev.step (fun k => by rw [cadastrelaw5_CastInts.l0]) ?_
    refine Ev.ifp (by omega) ?_
    by_cases h20 : (i : Int) < 30
    case neg => rw [decide_eq_false h20]; exact tl _
    rw [decide_eq_true h20]
    refine Ev.step (fun k => by rw [cadastrelaw5_CastInts.j1]) ?_
    refine Ev.ifp rfl (Ev.ifp (by omega) (Ev.ifp (by omega) ?_))
    obtain ⟨p, hp⟩ : ∃ p, rd_T26 l i = p := ⟨_, rfl⟩
    rw [hp] at hx ⊢
    rw [← e1] at ih
    have hs : p.f0.size ≤ 140737488351232 := by simpa using hx.1
    by_cases h1 : (p.f0.size : Int) > 1000
    · exact Ev.ifp h1 (Ev.ret rfl)
    · exact Ev.ifn h1 (Ev.bind (int_ev hs) (Ev.bind (rint_ev hs) (Ev.const rfl (Ev.ifp rfl (Ev.ifp rfl ih)))))
end Go.Proofs.Ytaodnkhpiiepiaa.C
