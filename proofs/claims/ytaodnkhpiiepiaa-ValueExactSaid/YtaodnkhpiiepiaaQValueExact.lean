/- ValueExact: what its printed function answers is true, for every list. No condition beyond the numbers' own bounds. -/
import Derived.Test.YtaodnkhpiiepiaaVLWk2
import Derived.Test.YtaodnkhpiiepiaaVLFit
import Derived.Test.YtaodnkhpiiepiaaVOk
import Derived.Test.YtaodnkhpiiepiaaVx8
namespace Go.Proofs.Ytaodnkhpiiepiaa.V
open Go Go.RowKit Go.Proofs.YtaodnkhpiiepiaaW.PrintWords Go.Proofs.YtaodnkhpiiepiaaW.PrintLast Go.Proofs.YtaodnkhpiiepiaaG

theorem ValueExact_pure : ∀ l : List S47, (l.length * 104 ≤ 140737488351232 ∧ l.length ≤ 9223372036854775807 ∧ ∀ y ∈ l, (ok47 y)) → ∃ k, cadastrelaw2_ValueExact.f k l = some true := by
  rintro l ⟨hby, hlen, hok⟩
  refine Ev.rounds (g := fun k => cadastrelaw2_ValueExact.f k l) (Ev.congr (fun k => by rw [cadastrelaw2_ValueExact.f]) ?_)
  have tl : ∀ i, Ev (fun k => cadastrelaw2_ValueExact.j1 k l i false) true := fun i => by
    refine Ev.step (fun k => by rw [cadastrelaw2_ValueExact.j1]) ?_
    exact Ev.ifn (by decide) (Ev.bind wakes2_ev (Ev.ret rfl))
  refine ev_loop (g := fun i k => cadastrelaw2_ValueExact.l0 k l i) l.length ?_ ?_
  · refine Ev.step (fun k => by rw [cadastrelaw2_ValueExact.l0]) ?_
    exact Ev.ifn (by omega) (tl _)
  · intro i hi ih
    have e1 : wrap64 ((i : Int) + 1) = (i : Int) + 1 := w64 (by omega) (by omega)
    have hx : ok47 (rd_T47 l i) := hok _ (rdOf_mem hi)
    refine Ev.step (fun k => by rw [cadastrelaw2_ValueExact.l0]) ?_
    refine Ev.ifp (by omega) ?_
    by_cases h20 : (i : Int) < 30
    case neg => rw [decide_eq_false h20]; exact tl _
    rw [decide_eq_true h20]
    refine Ev.step (fun k => by rw [cadastrelaw2_ValueExact.j1]) ?_
    refine Ev.ifp rfl (Ev.ifp (by omega) (Ev.ifp (by omega) ?_))
    obtain ⟨p, hp⟩ : ∃ p, rd_T47 l i = p := ⟨_, rfl⟩
    rw [hp] at hx ⊢
    rw [← e1] at ih
    obtain ⟨⟨_, _, ha⟩, ⟨_, _, hb⟩, ⟨_, _, hc⟩, _⟩ := hx
    have ea : (⟨p.f0.f0, p.f0.f1, p.f0.f2⟩ : S24) = p.f0 := rfl
    have eb : (⟨p.f1.f0, p.f1.f1, p.f1.f2⟩ : S24) = p.f1 := rfl
    have step5 : ∀ (one two c fit : Int), one = (if good p.f0 then 0 else 1) → two = (cmpR p.f0 p.f1).2 → c = (cmpR p.f0 p.f1).1 → fit = (fitsR p.f0 p.f3).2 →
        Ev (fun k => cadastrelaw2_ValueExact.j5 k l i one two c fit p.f0.f0 p.f0.f1 p.f0.f2 p.f1.f0 p.f1.f1 p.f1.f2 p.f2.f0 p.f2.f1 p.f2.f2 p.f3) true := by
      intro one two c fit h1 h2 h3 h4
      refine Ev.step (fun k => by rw [cadastrelaw2_ValueExact.j5]) ?_
      refine Ev.bind (cmp_ev p.f0 p.f1 ha hb) (Ev.const (fits_eq _ _) (Ev.const (check_eq p.f0) (Ev.const rfl (Ev.ifp h1.symm (Ev.const rfl (Ev.ifp h2.symm (Ev.ifp h3.symm (Ev.const rfl (Ev.ifp h4.symm ?_)))))))))
      subst h4
      unfold fitsR
      by_cases hg : (good p.f0 && typeB p.f3) = true
      · rw [if_pos hg]
        exact Ev.ifp rfl (Ev.const (rfits_eq _ _) (Ev.ifn (by simp) ih))
      · rw [if_neg hg]
        exact Ev.ifn (by decide) (Ev.ifn (by decide) ih)
    have step4 : ∀ (one two c : Int), one = (if good p.f0 then 0 else 1) → two = (cmpR p.f0 p.f1).2 → c = (cmpR p.f0 p.f1).1 →
        Ev (fun k => cadastrelaw2_ValueExact.j4 k l i one two c p.f0.f0 p.f0.f1 p.f0.f2 p.f1.f0 p.f1.f1 p.f1.f2 p.f2.f0 p.f2.f1 p.f2.f2 p.f3) true := by
      intro one two c h1 h2 h3
      refine Ev.step (fun k => by rw [cadastrelaw2_ValueExact.j4]) ?_
      refine Ev.const (rtype_eq _) ?_
      cases ht : typeB p.f3
      · refine Ev.ifn (by decide) (step5 _ _ _ _ h1 h2 h3 ?_)
        unfold fitsR; rw [ht, Bool.and_false]; rfl
      · refine Ev.ifp rfl (step5 _ _ _ _ h1 h2 h3 ?_)
        unfold fitsR; rw [ht, Bool.and_true, h1]; split <;> rfl
    have step3 : ∀ (one two : Int), one = (if good p.f0 then 0 else 1) → two = (cmpR p.f0 p.f1).2 →
        Ev (fun k => cadastrelaw2_ValueExact.j3 k l i one two p.f0.f0 p.f0.f1 p.f0.f2 p.f1.f0 p.f1.f1 p.f1.f2 p.f2.f0 p.f2.f1 p.f2.f2 p.f3) true := by
      intro one two h1 h2
      refine Ev.step (fun k => by rw [cadastrelaw2_ValueExact.j3]) ?_
      by_cases hg : good p.f0 = true ∧ good p.f1 = true
      · have e := cmpR_good hg.1 hg.2
        rw [e] at h2
        refine Ev.ifp h2 (Ev.bind (rcmp_ev p.f0 p.f1 hg.1 hg.2) (step4 _ _ _ h1 (by rw [e]; exact h2) (by rw [e])))
      · have e := cmpR_bad hg
        rw [e] at h2
        subst h2
        refine Ev.ifn (by decide) (step4 _ _ _ h1 (by rw [e]) (by rw [e]))
    have step2 : ∀ (one : Int), one = (if good p.f0 then 0 else 1) →
        Ev (fun k => cadastrelaw2_ValueExact.j2 k l i one p.f0.f0 p.f0.f1 p.f0.f2 p.f1.f0 p.f1.f1 p.f1.f2 p.f2.f0 p.f2.f1 p.f2.f2 p.f3) true := by
      intro one h1
      refine Ev.step (fun k => by rw [cadastrelaw2_ValueExact.j2]) ?_
      refine Ev.const (may_eq _ _ _) ?_
      rw [eb]
      cases hg1 : good p.f1
      · refine Ev.ifn (by decide) (step3 _ _ h1 ?_)
        rw [cmpR_bad (fun h => by rw [hg1] at h; exact absurd h.2 (by decide))]
      · refine Ev.ifp rfl (step3 _ _ h1 ?_)
        cases hg0 : good p.f0
        · rw [cmpR_bad (fun h => by rw [hg0] at h; exact absurd h.1 (by decide)), h1, hg0]; rfl
        · rw [cmpR_good hg0 hg1, h1, hg0]; rfl
    refine Ev.const (may_eq _ _ _) ?_
    rw [ea]
    cases hg0 : good p.f0
    · exact Ev.ifn (by decide) (step2 1 (by rw [hg0]; rfl))
    · exact Ev.ifp rfl (step2 0 (by rw [hg0]; rfl))
end Go.Proofs.Ytaodnkhpiiepiaa.V
