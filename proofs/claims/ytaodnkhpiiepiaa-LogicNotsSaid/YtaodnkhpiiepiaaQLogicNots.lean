/- LogicNots: what its printed function answers is true, for every list. No condition beyond the numbers' own bounds. -/
import Derived.Test.YtaodnkhpiiepiaaLLLog
import Derived.Test.YtaodnkhpiiepiaaLOk
import Derived.Test.YtaodnkhpiiepiaaLx0
import Derived.Test.YtaodnkhpiiepiaaLx3
import Derived.Test.YtaodnkhpiiepiaaLx4
import Derived.Test.YtaodnkhpiiepiaaLx5
namespace Go.Proofs.Ytaodnkhpiiepiaa.L
open Go Go.RowKit Go.Proofs.YtaodnkhpiiepiaaW.PrintWords Go.Proofs.YtaodnkhpiiepiaaW.PrintLast Go.Proofs.YtaodnkhpiiepiaaG

theorem LogicNots_pure : ∀ l : List S37, (l.length * 72 ≤ 140737488351232 ∧ l.length ≤ 9223372036854775807 ∧ ∀ y ∈ l, (ok37 y)) → ∃ k, cadastrelaw3_LogicNots.f k l = some true := by
  rintro l ⟨hby, hlen, hok⟩
  refine Ev.rounds (g := fun k => cadastrelaw3_LogicNots.f k l) (Ev.congr (fun k => by rw [cadastrelaw3_LogicNots.f]) ?_)
  have tl : ∀ i, Ev (fun k => cadastrelaw3_LogicNots.j1 k l i false) true := fun i => by
    refine Ev.step (fun k => by rw [cadastrelaw3_LogicNots.j1]) ?_
    exact Ev.ifn (by decide) (Ev.bind wakes3_ev (Ev.ret rfl))
  refine ev_loop (g := fun i k => cadastrelaw3_LogicNots.l0 k l i) l.length ?_ ?_
  · refine Ev.step (fun k => by rw [cadastrelaw3_LogicNots.l0]) ?_
    exact Ev.ifn (by omega) (tl _)
  · intro i hi ih
    have e1 : wrap64 ((i : Int) + 1) = (i : Int) + 1 := w64 (by omega) (by omega)
    have hx : ok37 (rd_T37 l i) := hok _ (rdOf_mem hi)
    refine Ev.step (fun k => by rw [cadastrelaw3_LogicNots.l0]) ?_
    refine Ev.ifp (by omega) ?_
    by_cases h20 : (i : Int) < 30
    case neg => rw [decide_eq_false h20]; exact tl _
    rw [decide_eq_true h20]
    refine Ev.step (fun k => by rw [cadastrelaw3_LogicNots.j1]) ?_
    refine Ev.ifp rfl (Ev.ifp (by omega) (Ev.ifp (by omega) ?_))
    obtain ⟨p, hp⟩ : ∃ p, rd_T37 l i = p := ⟨_, rfl⟩
    rw [hp] at hx ⊢
    rw [← e1] at ih
    have ea : (⟨p.f0.f0, p.f0.f1, p.f0.f2⟩ : S24) = p.f0 := rfl
    refine Ev.const (not_eq p.f0) (Ev.const (may_eq _ _ _) ?_)
    rw [ea]
    by_cases hg : good p.f0 = true
    case neg =>
      have e : notR p.f0 = none4 1 := by unfold notR; rw [tr_bad hg]; rfl
      rw [e]
      refine Ev.ifn hg ?_
      refine Ev.step (fun k => by rw [cadastrelaw3_LogicNots.j2]) ?_
      exact Ev.const (is_same (none4 1)) (Ev.ifp rfl (Ev.ifn (by decide) ih))
    refine Ev.ifp hg (Ev.const (rnot_eq p.f0 hg) ?_)
    refine Ev.step (fun k => by rw [cadastrelaw3_LogicNots.j2]) ?_
    refine Ev.const (is_same (notR p.f0)) (Ev.ifp rfl ?_)
    have g10 : good (⟨1, 0, ⟨#[]⟩⟩ : S24) = true := by decide
    have fin : ∀ v w : S24, tr v ≠ (0, 4) → ∀ q : Int × Int × ByteArray × Int, notR p.f0 = q → v = ⟨q.1, q.2.1, q.2.2.1⟩ → w = ⟨(notR v).1, (notR v).2.1, (notR v).2.2.1⟩ → (notR v).2.2.2 = 0 → (tr p.f0).2 = 0 → (tr w) = tr p.f0 → q.2.2.2 = 0 →
        Ev (fun k => if q.2.2.2 = 0 then ((logic_Not.f q.1 q.2.1 q.2.2.1).bind fun bt215 => ((logic_True.f p.f0.f0 p.f0.f1 p.f0.f2).bind fun bt220 => ((logic_True.f bt215.1 bt215.2.1 bt215.2.2.1).bind fun bt222 => ((cadastrelaw3_num.f bt215.2.2.2).bind fun t224 => (if t224 = 0 then ((cadastrelaw3_num.f bt220.2).bind fun t225 => (if t225 = 0 then ((cadastrelaw3_num.f bt222.2).bind fun t226 => (if t226 = 0 then (if (bt220.1 != bt222.1) = true then (some false) else (cadastrelaw3_LogicNots.l0 k l (wrap64 ((i : Int) + 1)))) else (some false))) else (some false))) else (some false)))))) else (cadastrelaw3_LogicNots.l0 k l (wrap64 ((i : Int) + 1)))) true := by
      intro v w _ q hq hv hw hn ht htw hq0
      have n1 : logic_Not.f q.1 q.2.1 q.2.2.1 = some (notR v) := by subst hv; exact not_eq ⟨q.1, q.2.1, q.2.2.1⟩
      have t2 : logic_True.f (notR v).1 (notR v).2.1 (notR v).2.2.1 = some (if (tr p.f0).2 = 0 then ((tr p.f0).1 == 2, (tr p.f0).2) else (false, (tr p.f0).2)) := by
        have := true_eq w
        rw [htw] at this
        subst hw; exact this
      refine Ev.ifp hq0 (Ev.const n1 (Ev.const (true_eq p.f0) (Ev.const t2 (Ev.const rfl (Ev.ifp hn (Ev.const rfl ?_))))))
      rw [if_pos (c := (tr p.f0).2 = 0) ht]
      exact Ev.ifp ht (Ev.const rfl (Ev.ifp ht (Ev.ifn (by simp) ih)))
    rcases tr_cases hg with ⟨ha, _⟩ | ⟨ha, _⟩ | ⟨ha, _⟩ | ⟨ha, _⟩
    · have e : notR p.f0 = (1, 1, ⟨#[]⟩, 0) := by unfold notR; rw [ha]; rfl
      rw [e]
      exact fin ⟨1, 1, ⟨#[]⟩⟩ ⟨1, 0, ⟨#[]⟩⟩ (by decide) (1, 1, ⟨#[]⟩, 0) e rfl rfl rfl (by rw [ha]) (by rw [ha]; rfl) rfl
    · have e : notR p.f0 = (0, 0, ⟨#[]⟩, 0) := by unfold notR; rw [ha]; rfl
      rw [e]
      exact fin ⟨0, 0, ⟨#[]⟩⟩ ⟨0, 0, ⟨#[]⟩⟩ (by decide) (0, 0, ⟨#[]⟩, 0) e rfl rfl rfl (by rw [ha]) (by rw [ha]; rfl) rfl
    · have e : notR p.f0 = (1, 0, ⟨#[]⟩, 0) := by unfold notR; rw [ha]; rfl
      rw [e]
      exact fin ⟨1, 0, ⟨#[]⟩⟩ ⟨1, 1, ⟨#[]⟩⟩ (by decide) (1, 0, ⟨#[]⟩, 0) e rfl rfl rfl (by rw [ha]) (by rw [ha]; rfl) rfl
    · have e : notR p.f0 = none4 4 := by unfold notR; rw [ha]; rfl
      rw [e]
      exact Ev.ifn (by decide) ih
end Go.Proofs.Ytaodnkhpiiepiaa.L
