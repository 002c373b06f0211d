/- ValueKinds: what its printed function answers is true, for every list. No condition beyond the numbers' own bounds. -/
import Derived.Test.YtaodnkhpiiepiaaVLWk2
import Derived.Test.YtaodnkhpiiepiaaVOk
import Derived.Test.YtaodnkhpiiepiaaVx6
namespace Go.Proofs.Ytaodnkhpiiepiaa.V
open Go Go.RowKit Go.Proofs.YtaodnkhpiiepiaaW.PrintWords Go.Proofs.YtaodnkhpiiepiaaW.PrintLast Go.Proofs.YtaodnkhpiiepiaaG

theorem ValueKinds_pure : ∀ l : List S47, (l.length * 104 ≤ 140737488351232 ∧ l.length ≤ 9223372036854775807 ∧ ∀ y ∈ l, (ok47 y)) → ∃ k, cadastrelaw2_ValueKinds.f k l = some true := by
  rintro l ⟨hby, hlen, hok⟩
  refine Ev.rounds (g := fun k => cadastrelaw2_ValueKinds.f k l) (Ev.congr (fun k => by rw [cadastrelaw2_ValueKinds.f]) ?_)
  have tl : ∀ i, Ev (fun k => cadastrelaw2_ValueKinds.j1 k l i false) true := fun i => by
    refine Ev.step (fun k => by rw [cadastrelaw2_ValueKinds.j1]) ?_
    exact Ev.ifn (by decide) (Ev.bind wakes2_ev (Ev.ret rfl))
  refine ev_loop (g := fun i k => cadastrelaw2_ValueKinds.l0 k l i) l.length ?_ ?_
  · refine Ev.step (fun k => by rw [cadastrelaw2_ValueKinds.l0]) ?_
    exact Ev.ifn (by omega) (tl _)
  · intro i hi ih
    have e1 : wrap64 ((i : Int) + 1) = (i : Int) + 1 := w64 (by omega) (by omega)
    have hx : ok47 (rd_T47 l i) := hok _ (rdOf_mem hi)
    refine Ev.step (fun k => by rw [cadastrelaw2_ValueKinds.l0]) ?_
    refine Ev.ifp (by omega) ?_
    by_cases h20 : (i : Int) < 30
    case neg => rw [decide_eq_false h20]; exact tl _
    rw [decide_eq_true h20]
    refine Ev.step (fun k => by rw [cadastrelaw2_ValueKinds.j1]) ?_
    refine Ev.ifp rfl (Ev.ifp (by omega) (Ev.ifp (by omega) ?_))
    obtain ⟨p, hp⟩ : ∃ p, rd_T47 l i = p := ⟨_, rfl⟩
    rw [hp] at hx ⊢
    rw [← e1] at ih
    obtain ⟨⟨_, _, ha⟩, ⟨_, _, hb⟩, ⟨_, _, hc⟩, _⟩ := hx
    have ea : (⟨p.f0.f0, p.f0.f1, p.f0.f2⟩ : S24) = p.f0 := rfl
    have eb : (⟨p.f1.f0, p.f1.f1, p.f1.f2⟩ : S24) = p.f1 := rfl
    refine Ev.const (may_eq _ _ _) ?_
    rw [ea]
    by_cases h1 : good p.f0 = true
    case neg =>
      refine Ev.ifn h1 ?_
      refine Ev.step (fun k => by rw [cadastrelaw2_ValueKinds.j2]) ?_
      exact Ev.ifp rfl ih
    refine Ev.ifp h1 (Ev.const (may_eq _ _ _) ?_)
    rw [eb]
    refine Ev.step (fun k => by rw [cadastrelaw2_ValueKinds.j2]) ?_
    by_cases h2 : good p.f1 = true
    case neg =>
      rw [Bool.eq_false_iff.mpr h2]
      exact Ev.ifp rfl ih
    rw [h2]
    refine Ev.ifn (by decide) (Ev.bind (cmp_ev p.f0 p.f1 ha hb) ?_)
    rw [cmpR_good h1 h2]
    have g1 := good_says h1; have g2 := good_says h2
    have last : Ev (fun k => cadastrelaw2_ValueKinds.j5 k l i false p.f0.f0 p.f0.f1 p.f0.f2) true := by
      refine Ev.step (fun k => by rw [cadastrelaw2_ValueKinds.j5]) ?_
      refine Ev.ifn (by decide) (Ev.bind (cmp_ev ⟨0, 0, ⟨#[]⟩⟩ p.f0 (by decide) ha) ?_)
      rw [cmpR_good (by decide) h1]
      refine Ev.const (r := 0) rfl (Ev.ifp rfl (Ev.ifp ?_ ih))
      have e1 : mn 1 p.f0.f0 = if p.f0.f0 = 0 then 0 else 1 := by unfold mn; repeat' split <;> omega
      rw [e1]
      unfold vcmp sgn
      by_cases h0 : p.f0.f0 = 0
      · rw [if_pos (show (0 : Int) = p.f0.f0 by omega), if_neg (by decide), size_nil (s := p.f0.f2) (by omega), if_pos h0]
        show tcmp (by_ (⟨#[]⟩ : ByteArray)) [] = wrap64 (-0)
        rw [size_nil (s := (⟨#[]⟩ : ByteArray)) rfl]; simp [tcmp, wrap64]
      · rw [if_neg (show ¬ (0 : Int) = p.f0.f0 by omega), if_pos (show (0 : Int) < p.f0.f0 by omega), if_neg h0]; simp [wrap64]
    have j4 : ∀ z : Int, z = vcmp p.f0 p.f1 → Ev (fun k => cadastrelaw2_ValueKinds.j4 k l i (vcmp p.f0 p.f1) 0 z p.f0.f0 p.f0.f1 p.f0.f2) true := fun z hz => by
      refine Ev.step (fun k => by rw [cadastrelaw2_ValueKinds.j4]) ?_
      refine Ev.const (r := 0) rfl (Ev.ifp rfl ?_)
      rw [hz, show (vcmp p.f0 p.f1 != vcmp p.f0 p.f1) = false by simp]
      exact last
    have jt : vcmp p.f0 p.f1 = -1 → Ev (fun k => cadastrelaw2_ValueKinds.j3 k l i (vcmp p.f0 p.f1) 0 0 true p.f0.f0 p.f0.f1 p.f0.f2 p.f1.f0 p.f1.f1 p.f1.f2) true := fun h => by
      refine Ev.step (fun k => by rw [cadastrelaw2_ValueKinds.j3]) ?_
      exact Ev.ifp rfl (j4 (-1) h.symm)
    have jf : vcmp p.f0 p.f1 ≠ -1 → Ev (fun k => cadastrelaw2_ValueKinds.j3 k l i (vcmp p.f0 p.f1) 0 0 false p.f0.f0 p.f0.f1 p.f0.f2 p.f1.f0 p.f1.f1 p.f1.f2) true := fun h => by
      refine Ev.step (fun k => by rw [cadastrelaw2_ValueKinds.j3]) ?_
      refine Ev.ifn (by decide) ?_
      rcases vcmp_cases p.f0 p.f1 with hc | hc | hc
      · contradiction
      · have e := vcmp_eq h1 h2 hc
        refine Ev.ifn (by rw [e]; simp) (j4 0 hc.symm)
      · refine Ev.ifp ?_ (j4 1 hc.symm)
        have hne : ¬ p.f0 = p.f1 := fun e => by rw [e, vcmp_refl] at hc; omega
        rw [by_toList, by_toList]
        by_cases q0 : p.f0.f0 = p.f1.f0
        · by_cases q1 : p.f0.f1 = p.f1.f1
          · have q2 : ¬ by_ p.f0.f2 = by_ p.f1.f2 := fun q2 => hne (S24_ext q0 q1 (by_inj q2))
            simp [q0, q1, q2]
          · simp [q1]
        · simp [q0]
    by_cases k1 : p.f0.f0 < p.f1.f0
    · refine Ev.ifp k1 (jt ?_)
      unfold vcmp sgn; rw [if_neg (by omega), if_pos k1]
    refine Ev.ifn k1 ?_
    by_cases k2 : p.f0.f0 = p.f1.f0
    case neg =>
      refine Ev.ifn k2 (jf ?_)
      unfold vcmp sgn; rw [if_neg k2, if_neg k1]; split <;> decide
    refine Ev.ifp k2 ?_
    by_cases k3 : p.f0.f1 < p.f1.f1
    · refine Ev.ifp k3 (jt ?_)
      unfold vcmp sgn; rw [if_pos k2, if_pos (by omega), if_pos k3]
    refine Ev.ifn k3 ?_
    rw [by_toList, by_toList, less_tcmp]
    have ev : vcmp p.f0 p.f1 = if p.f0.f0 = 1 then sgn p.f0.f1 p.f1.f1 else tcmp (by_ p.f0.f2) (by_ p.f1.f2) := by unfold vcmp; rw [if_pos k2]
    by_cases k4 : p.f0.f0 = 1
    · rw [size_nil (s := p.f0.f2) (by omega), size_nil (s := p.f1.f2) (by omega)]
      refine jf ?_
      rw [ev, if_pos k4]; unfold sgn; rw [if_neg k3]; split <;> decide
    · rw [if_neg k4] at ev
      by_cases k5 : tcmp (by_ p.f0.f2) (by_ p.f1.f2) = -1
      · rw [decide_eq_true k5]; exact jt (ev.trans k5)
      · rw [decide_eq_false k5]; exact jf (by rw [ev]; exact k5)
end Go.Proofs.Ytaodnkhpiiepiaa.V
