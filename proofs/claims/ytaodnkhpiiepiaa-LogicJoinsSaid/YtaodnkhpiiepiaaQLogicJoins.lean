/- LogicJoins: what its printed function answers is true, for every list. No condition beyond the numbers' own bounds. -/
import Derived.Test.YtaodnkhpiiepiaaLLLog
import Derived.Test.YtaodnkhpiiepiaaLOk
import Derived.Test.YtaodnkhpiiepiaaLx0
import Derived.Test.YtaodnkhpiiepiaaLx4
namespace Go.Proofs.Ytaodnkhpiiepiaa.L
open Go Go.RowKit Go.Proofs.YtaodnkhpiiepiaaW.PrintWords Go.Proofs.YtaodnkhpiiepiaaW.PrintLast Go.Proofs.YtaodnkhpiiepiaaG

theorem LogicJoins_pure : ∀ l : List S37, (l.length * 72 ≤ 140737488351232 ∧ l.length ≤ 9223372036854775807 ∧ ∀ y ∈ l, (ok37 y)) → ∃ k, cadastrelaw3_LogicJoins.f k l = some true := by
  rintro l ⟨hby, hlen, hok⟩
  refine Ev.rounds (g := fun k => cadastrelaw3_LogicJoins.f k l) (Ev.congr (fun k => by rw [cadastrelaw3_LogicJoins.f]) ?_)
  have tl : ∀ i, Ev (fun k => cadastrelaw3_LogicJoins.j1 k l i false) true := fun i => by
    refine Ev.step (fun k => by rw [cadastrelaw3_LogicJoins.j1]) ?_
    exact Ev.ifn (by decide) (Ev.bind wakes3_ev (Ev.ret rfl))
  refine ev_loop (g := fun i k => cadastrelaw3_LogicJoins.l0 k l i) l.length ?_ ?_
  · refine Ev.step (fun k => by rw [cadastrelaw3_LogicJoins.l0]) ?_
    exact Ev.ifn (by omega) (tl _)
  · intro i hi ih
    have e1 : wrap64 ((i : Int) + 1) = (i : Int) + 1 := w64 (by omega) (by omega)
    have hx : ok37 (rd_T37 l i) := hok _ (rdOf_mem hi)
    refine Ev.step (fun k => by rw [cadastrelaw3_LogicJoins.l0]) ?_
    refine Ev.ifp (by omega) ?_
    by_cases h20 : (i : Int) < 30
    case neg => rw [decide_eq_false h20]; exact tl _
    rw [decide_eq_true h20]
    refine Ev.step (fun k => by rw [cadastrelaw3_LogicJoins.j1]) ?_
    refine Ev.ifp rfl (Ev.ifp (by omega) (Ev.ifp (by omega) ?_))
    obtain ⟨p, hp⟩ : ∃ p, rd_T37 l i = p := ⟨_, rfl⟩
    rw [hp] at hx ⊢
    rw [← e1] at ih
    have ea : (⟨p.f0.f0, p.f0.f1, p.f0.f2⟩ : S24) = p.f0 := rfl
    have eb : (⟨p.f1.f0, p.f1.f1, p.f1.f2⟩ : S24) = p.f1 := rfl
    have loop : ∀ (d : Nat) (op : Int), op + d = 23 → 21 ≤ op → Ev (fun k => cadastrelaw3_LogicJoins.l1 k l i op p.f0.f0 p.f0.f1 p.f0.f2 p.f1.f0 p.f1.f1 p.f1.f2 p.f2) true := by
      intro d
      induction d with
      | zero =>
        intro op hd hf
        refine Ev.step (fun k => by rw [cadastrelaw3_LogicJoins.l1]) ?_
        exact Ev.ifn (by omega) ih
      | succ d ihd =>
        intro op hd hf
        refine Ev.step (fun k => by rw [cadastrelaw3_LogicJoins.l1]) ?_
        have e2 : wrap64 (op + 1) = op + 1 := w64 (by omega) (by omega)
        have nx := ihd (op + 1) (by omega) (by omega)
        rw [← e2] at nx
        have ho : op = 21 ∨ op = 22 := by omega
        refine Ev.ifp (by omega) (Ev.bind (join_ev op ho p.f0 p.f1) (Ev.const (may_eq _ _ _) ?_))
        rw [ea]
        have bad : ¬ (good p.f0 = true ∧ good p.f1 = true) → Ev (fun k => cadastrelaw3_LogicJoins.j3 k l i op (joinA op p.f0 p.f1).2.2.2 1 false p.f0.f0 p.f0.f1 p.f0.f2 p.f1.f0 p.f1.f1 p.f1.f2 p.f2 (joinA op p.f0 p.f1).1 (joinA op p.f0 p.f1).2.1 (joinA op p.f0 p.f1).2.2.1 0 0 (⟨#[]⟩ : ByteArray)) true := fun h => by
          refine Ev.step (fun k => by rw [cadastrelaw3_LogicJoins.j3]) ?_
          have e : joinA op p.f0 p.f1 = none4 1 := by unfold joinA; rw [if_neg h]
          rw [e]
          exact Ev.ifn (by decide) (Ev.const (is_same (none4 1)) (Ev.ifp rfl nx))
        by_cases g1 : good p.f0 = true
        case neg => exact Ev.ifn g1 (bad (fun h => g1 h.1))
        refine Ev.ifp g1 (Ev.const (may_eq _ _ _) ?_)
        rw [eb]
        by_cases g2 : good p.f1 = true
        case neg => rw [Bool.eq_false_iff.mpr g2]; exact bad (fun h => g2 h.2)
        rw [g2]
        refine Ev.step (fun k => by rw [cadastrelaw3_LogicJoins.j3]) ?_
        have e : joinA op p.f0 p.f1 = joinR op p.f0 p.f1 := by unfold joinA; rw [if_pos ⟨g1, g2⟩]
        rw [e]
        exact Ev.ifp rfl (Ev.bind (rjoin_ev op ho p.f0 p.f1 ⟨g1, g2⟩) (Ev.const (is_same (joinR op p.f0 p.f1)) (Ev.ifp rfl nx)))
    exact loop 2 21 (by decide) (by decide)
end Go.Proofs.Ytaodnkhpiiepiaa.L
