/- KeysBegin: what its printed function answers is true, for every list. No condition beyond the numbers' own bounds. -/
import Derived.Test.YtaodnkhpiiepiaaKLKey
import Derived.Test.YtaodnkhpiiepiaaKOk
import Derived.Test.YtaodnkhpiiepiaaKx0
import Derived.Test.YtaodnkhpiiepiaaKx8
namespace Go.Proofs.Ytaodnkhpiiepiaa.K
open Go Go.RowKit Go.Proofs.YtaodnkhpiiepiaaW.PrintWords Go.Proofs.YtaodnkhpiiepiaaW.PrintLast Go.Proofs.YtaodnkhpiiepiaaG

theorem KeysBegin_pure : ∀ l : List S70, (l.length * 72 ≤ 140737488351232 ∧ l.length ≤ 9223372036854775807 ∧ ∀ y ∈ l, (ok70 y)) → ∃ k, cadastrelaw7_KeysBegin.f k l = some true := by
  rintro l ⟨hby, hlen, hok⟩
  refine Ev.rounds (g := fun k => cadastrelaw7_KeysBegin.f k l) (Ev.congr (fun k => by rw [cadastrelaw7_KeysBegin.f]) ?_)
  have tl : ∀ i, Ev (fun k => cadastrelaw7_KeysBegin.j1 k l i false) true := fun i => by
    refine Ev.step (fun k => by rw [cadastrelaw7_KeysBegin.j1]) ?_
    refine Ev.ifn (by decide) (Ev.ifp (by decide) (Ev.bind (begins_ev (by decide) (by decide)) ?_))
    have e : bothR (List.replicate 18 z24) [] = 7 := by decide
    rw [e]
    exact Ev.const rfl (Ev.ifp rfl (Ev.bind wakes7_ev (Ev.ret rfl)))
  refine ev_loop (g := fun i k => cadastrelaw7_KeysBegin.l0 k l i) l.length ?_ ?_
  · refine Ev.step (fun k => by rw [cadastrelaw7_KeysBegin.l0]) ?_
    exact Ev.ifn (by omega) (tl _)
  · intro i hi ih
    have e1 : wrap64 ((i : Int) + 1) = (i : Int) + 1 := w64 (by omega) (by omega)
    have hx : ok70 (rd_T70 l i) := hok _ (rdOf_mem hi)
    refine Ev.step (fun k => by rw [cadastrelaw7_KeysBegin.l0]) ?_
    refine Ev.ifp (by omega) ?_
    by_cases h20 : (i : Int) < 12
    case neg => rw [decide_eq_false h20]; exact tl _
    rw [decide_eq_true h20]
    refine Ev.step (fun k => by rw [cadastrelaw7_KeysBegin.j1]) ?_
    refine Ev.ifp rfl (Ev.ifp (by omega) (Ev.ifp (by omega) ?_))
    obtain ⟨p, hp⟩ : ∃ p, rd_T70 l i = p := ⟨_, rfl⟩
    rw [hp] at hx ⊢
    rw [← e1] at ih

    obtain ⟨⟨ha32, _, _⟩, ⟨hb32, _, _⟩, _⟩ := hx
    obtain ⟨t, ht⟩ := heavy_ev p.f0 p.f1 p.f2
    refine Ev.bind ht ?_
    have skip : Ev (fun k => cadastrelaw7_KeysBegin.j2 k l i true p.f0 p.f1 p.f2) true := by
      refine Ev.step (fun k => by rw [cadastrelaw7_KeysBegin.j2]) ?_
      exact Ev.ifp rfl ih
    cases t with
    | true => exact Ev.ifp rfl skip
    | false =>
    refine Ev.ifn (by decide) (Ev.bind (both_ev (by omega) (by omega)) ?_)
    by_cases h0 : bothR p.f0 p.f1 = 0
    case neg => exact Ev.ifn h0 skip
    refine Ev.ifp h0 ?_
    have hg := bothR_ok.mp h0
    by_cases h1 : wrap64 ((p.f0.length : Int) + (p.f1.length : Int)) > 16
    · exact Ev.ifp h1 skip
    refine Ev.ifn h1 ?_
    rw [w64 (by omega) (by omega)] at h1
    by_cases h2 : (p.f1.length : Int) = 0
    · rw [show ((p.f1.length : Int) == 0) = true by rw [beq_iff_eq]; exact h2]; exact skip
    rw [show ((p.f1.length : Int) == 0) = false by rw [beq_eq_false_iff_ne]; exact h2]
    refine Ev.step (fun k => by rw [cadastrelaw7_KeysBegin.j2]) ?_
    have ll : (p.f0 ++ p.f1).length = p.f0.length + p.f1.length := List.length_append
    have gl : (p.f0 ++ p.f1).all good = true := by rw [List.all_append, hg.1.1, hg.1.2]; rfl
    have b1 : bothR (p.f0 ++ p.f1) p.f0 = 0 := bothR_ok.mpr ⟨⟨gl, hg.1.1⟩, by omega, hg.2.1⟩
    have b2 : bothR p.f0 (p.f0 ++ p.f1) = 0 := bothR_ok.mpr ⟨⟨hg.1.1, gl⟩, hg.2.1, by omega⟩
    refine Ev.ifn (by decide) (Ev.bind (copy_ev p.f0 (by omega)) (Ev.ifp (by omega) (Ev.const rfl (Ev.bind (begins_ev (by omega) (by omega)) (Ev.bind (begins_ev (by omega) (by omega)) (Ev.bind (kcmp_ev (by omega) (by omega)) ?_))))))
    rw [if_pos (c := bothR (p.f0 ++ p.f1) p.f0 = 0) b1, if_pos (c := bothR p.f0 (p.f0 ++ p.f1) = 0) b2, if_pos (c := bothR (p.f0 ++ p.f1) p.f0 = 0) b1]
    refine Ev.const rfl (Ev.ifp rfl (Ev.const rfl (Ev.ifp rfl (Ev.const rfl (Ev.ifp rfl (Ev.ifp ?_ (Ev.ifn ?_ (Ev.ifp ?_ ih))))))))
    · rw [List.take_left' rfl, kcmp_refl, ll, decide_eq_true (by omega)]; rfl
    · rw [decide_eq_false (by omega)]; simp
    · rw [kcmp_behind, if_neg (fun h => by rw [h] at h2; exact h2 rfl)]
end Go.Proofs.Ytaodnkhpiiepiaa.K
