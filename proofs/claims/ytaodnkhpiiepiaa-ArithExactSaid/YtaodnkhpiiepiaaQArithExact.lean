/- ArithExact: what its printed function answers is true, for every list. No condition beyond the numbers' own bounds. -/
import Derived.Test.YtaodnkhpiiepiaaALAri
import Derived.Test.YtaodnkhpiiepiaaAOk
import Derived.Test.YtaodnkhpiiepiaaAx9
namespace Go.Proofs.Ytaodnkhpiiepiaa.A
open Go Go.RowKit Go.Proofs.YtaodnkhpiiepiaaW.PrintWords Go.Proofs.YtaodnkhpiiepiaaW.PrintLast Go.Proofs.YtaodnkhpiiepiaaG

theorem ArithExact_pure : ∀ l : List S58, (l.length * 72 ≤ 140737488351232 ∧ l.length ≤ 9223372036854775807 ∧ ∀ y ∈ l, (ok58 y)) → ∃ k, cadastrelaw4_ArithExact.f k l = some true := by
  rintro l ⟨hby, hlen, hok⟩
  refine Ev.rounds (g := fun k => cadastrelaw4_ArithExact.f k l) (Ev.congr (fun k => by rw [cadastrelaw4_ArithExact.f]) ?_)
  have tl : ∀ i, Ev (fun k => cadastrelaw4_ArithExact.j1 k l i false) true := fun i => by
    refine Ev.step (fun k => by rw [cadastrelaw4_ArithExact.j1]) ?_
    exact Ev.ifn (by decide) (Ev.bind wakes4_ev (Ev.ret rfl))
  refine ev_loop (g := fun i k => cadastrelaw4_ArithExact.l0 k l i) l.length ?_ ?_
  · refine Ev.step (fun k => by rw [cadastrelaw4_ArithExact.l0]) ?_
    exact Ev.ifn (by omega) (tl _)
  · intro i hi ih
    have e1 : wrap64 ((i : Int) + 1) = (i : Int) + 1 := w64 (by omega) (by omega)
    have hx : ok58 (rd_T58 l i) := hok _ (rdOf_mem hi)
    refine Ev.step (fun k => by rw [cadastrelaw4_ArithExact.l0]) ?_
    refine Ev.ifp (by omega) ?_
    by_cases h20 : (i : Int) < 30
    case neg => rw [decide_eq_false h20]; exact tl _
    rw [decide_eq_true h20]
    refine Ev.step (fun k => by rw [cadastrelaw4_ArithExact.j1]) ?_
    refine Ev.ifp rfl (Ev.ifp (by omega) (Ev.ifp (by omega) ?_))
    obtain ⟨p, hp⟩ : ∃ p, rd_T58 l i = p := ⟨_, rfl⟩
    rw [hp] at hx ⊢
    rw [← e1] at ih
    obtain ⟨⟨_, ha, _⟩, ⟨_, hb, _⟩, _⟩ := hx
    have ha := inr_iff.mpr ha
    have hb := inr_iff.mpr hb
    have ea : (⟨p.f0.f0, p.f0.f1, p.f0.f2⟩ : S24) = p.f0 := rfl
    have eb : (⟨p.f1.f0, p.f1.f1, p.f1.f2⟩ : S24) = p.f1 := rfl
    have last : ∀ q n : Int × Int × ByteArray × Int, q = doA p.f2 p.f0 p.f1 → n = (if good p.f0 = true then doR 13 ⟨1, 0, ⟨#[]⟩⟩ p.f0 else none4 1) →
        Ev (fun k => cadastrelaw4_ArithExact.j4 k l i q.2.2.2 n.2.2.2 p.f0.f0 p.f0.f1 p.f0.f2 p.f1.f0 p.f1.f1 p.f1.f2 p.f2 q.1 q.2.1 q.2.2.1 n.1 n.2.1 n.2.2.1) true := by
      intro q n hq hn
      refine Ev.step (fun k => by rw [cadastrelaw4_ArithExact.j4]) ?_
      refine Ev.bind (do_ev p.f2 p.f0 p.f1 ha hb) (Ev.const (neg_eq p.f0 ha) ?_)
      rw [← hq, ← hn]
      exact Ev.const (is_same q) (Ev.ifp rfl (Ev.const (is_same n) (Ev.ifp rfl ih)))
    have step3 : ∀ q : Int × Int × ByteArray × Int, q = doA p.f2 p.f0 p.f1 →
        Ev (fun k => cadastrelaw4_ArithExact.j3 k l i q.2.2.2 p.f0.f0 p.f0.f1 p.f0.f2 p.f1.f0 p.f1.f1 p.f1.f2 p.f2 q.1 q.2.1 q.2.2.1) true := by
      intro q hq
      refine Ev.step (fun k => by rw [cadastrelaw4_ArithExact.j3]) ?_
      refine Ev.const (may_eq _ _ _) ?_
      rw [ea]
      by_cases hg : good p.f0 = true
      · exact Ev.ifp hg (Ev.bind (rneg_ev p.f0 ha) (last q _ hq (if_pos hg).symm))
      · exact Ev.ifn hg (last q (none4 1) hq (if_neg hg).symm)
    have bad : ¬ (9 ≤ p.f2 ∧ p.f2 ≤ 13 ∧ good p.f0 = true ∧ good p.f1 = true) →
        Ev (fun k => cadastrelaw4_ArithExact.j2 k l i 1 false p.f0.f0 p.f0.f1 p.f0.f2 p.f1.f0 p.f1.f1 p.f1.f2 p.f2 0 0 (⟨#[]⟩ : ByteArray)) true := by
      intro h
      refine Ev.step (fun k => by rw [cadastrelaw4_ArithExact.j2]) ?_
      exact Ev.ifn (by decide) (step3 (none4 1) (by unfold doA; exact (if_neg h).symm))
    refine Ev.const (may_eq _ _ _) ?_
    rw [ea]
    by_cases g1 : good p.f0 = true
    case neg => exact Ev.ifn g1 (bad (fun h => g1 h.2.2.1))
    refine Ev.ifp g1 (Ev.const (may_eq _ _ _) ?_)
    rw [eb]
    by_cases g2 : good p.f1 = true
    case neg => exact Ev.ifn g2 (bad (fun h => g2 h.2.2.2))
    refine Ev.ifp g2 ?_
    by_cases o1 : p.f2 ≥ 9
    case neg => exact Ev.ifn o1 (bad (fun h => o1 h.1))
    refine Ev.ifp o1 ?_
    by_cases o2 : p.f2 ≤ 13
    case neg => rw [decide_eq_false o2]; exact bad (fun h => o2 h.2.1)
    rw [decide_eq_true o2]
    refine Ev.step (fun k => by rw [cadastrelaw4_ArithExact.j2]) ?_
    exact Ev.ifp rfl (Ev.bind (rdo_ev p.f2 p.f0.f0 p.f0.f1 p.f1.f0 p.f1.f1 p.f0.f2 p.f1.f2 ⟨by omega, o2⟩ ha hb) (step3 (doR p.f2 p.f0 p.f1) (by unfold doA; exact (if_pos ⟨by omega, o2, g1, g2⟩).symm)))
end Go.Proofs.Ytaodnkhpiiepiaa.A
