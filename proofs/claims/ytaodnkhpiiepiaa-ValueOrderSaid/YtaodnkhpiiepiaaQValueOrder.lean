/- ValueOrder: what its printed function answers is true, for every list. No condition beyond the numbers' own bounds. -/
import Derived.Test.YtaodnkhpiiepiaaVLWk2
import Derived.Test.YtaodnkhpiiepiaaVOk
import Derived.Test.YtaodnkhpiiepiaaVx3
namespace Go.Proofs.Ytaodnkhpiiepiaa.V
open Go Go.RowKit Go.Proofs.YtaodnkhpiiepiaaW.PrintWords Go.Proofs.YtaodnkhpiiepiaaW.PrintLast Go.Proofs.YtaodnkhpiiepiaaG


theorem same_iff {a b : S24} : (a.f0 == b.f0 && (a.f1 == b.f1 && (a.f2.toList == b.f2.toList))) = true ↔ a = b := by
  rw [by_toList, by_toList]
  simp only [Bool.and_eq_true, beq_iff_eq]
  exact ⟨fun h2 => S24_ext h2.1 h2.2.1 (by_inj h2.2.2), fun h => by subst h; exact ⟨rfl, rfl, rfl⟩⟩
theorem order_j3 (L : List S47) (i : Int) (a b c : S24) (n : Int) (ih : Ev (fun k => cadastrelaw2_ValueOrder.l0 k L (wrap64 (i + 1))) true) :
    Ev (fun k => cadastrelaw2_ValueOrder.j3 k L i (vcmp a b) (vcmp b c) (vcmp a c) 0 true a.f0 a.f1 a.f2 b.f0 b.f1 b.f2 c.f0 c.f1 c.f2 n) true := by
  refine Ev.step (fun k => by rw [cadastrelaw2_ValueOrder.j3]) ?_
  exact Ev.ifp rfl ih
theorem skip_j3 (L : List S47) (i x y z e : Int) (a b c : S24) (n : Int) (ih : Ev (fun k => cadastrelaw2_ValueOrder.l0 k L (wrap64 (i + 1))) true) :
    Ev (fun k => cadastrelaw2_ValueOrder.j3 k L i x y z e true a.f0 a.f1 a.f2 b.f0 b.f1 b.f2 c.f0 c.f1 c.f2 n) true := by
  refine Ev.step (fun k => by rw [cadastrelaw2_ValueOrder.j3]) ?_
  exact Ev.ifp rfl ih
theorem ValueOrder_pure : ∀ l : List S47, (l.length * 104 ≤ 140737488351232 ∧ l.length ≤ 9223372036854775807 ∧ ∀ y ∈ l, (ok47 y)) → ∃ k, cadastrelaw2_ValueOrder.f k l = some true := by
  rintro l ⟨hby, hlen, hok⟩
  refine Ev.rounds (g := fun k => cadastrelaw2_ValueOrder.f k l) (Ev.congr (fun k => by rw [cadastrelaw2_ValueOrder.f]) ?_)
  have tl : ∀ i, Ev (fun k => cadastrelaw2_ValueOrder.j1 k l i false) true := fun i => by
    refine Ev.step (fun k => by rw [cadastrelaw2_ValueOrder.j1]) ?_
    exact Ev.ifn (by decide) (Ev.bind wakes2_ev (Ev.ret rfl))
  refine ev_loop (g := fun i k => cadastrelaw2_ValueOrder.l0 k l i) l.length ?_ ?_
  · refine Ev.step (fun k => by rw [cadastrelaw2_ValueOrder.l0]) ?_
    exact Ev.ifn (by omega) (tl _)
  · intro i hi ih
    have e1 : wrap64 ((i : Int) + 1) = (i : Int) + 1 := w64 (by omega) (by omega)
    have hx : ok47 (rd_T47 l i) := hok _ (rdOf_mem hi)
    refine Ev.step (fun k => by rw [cadastrelaw2_ValueOrder.l0]) ?_
    refine Ev.ifp (by omega) ?_
    by_cases h20 : (i : Int) < 30
    case neg => rw [decide_eq_false h20]; exact tl _
    rw [decide_eq_true h20]
    refine Ev.step (fun k => by rw [cadastrelaw2_ValueOrder.j1]) ?_
    refine Ev.ifp rfl (Ev.ifp (by omega) (Ev.ifp (by omega) ?_))
    obtain ⟨p, hp⟩ : ∃ p, rd_T47 l i = p := ⟨_, rfl⟩
    rw [hp] at hx ⊢
    rw [← e1] at ih
    obtain ⟨⟨_, _, ha⟩, ⟨_, _, hb⟩, ⟨_, _, hc⟩, _⟩ := hx
    refine Ev.bind (cmp_ev p.f0 p.f1 ha hb) (Ev.bind (cmp_ev p.f1 p.f0 hb ha) (Ev.bind (cmp_ev p.f1 p.f2 hb hc) (Ev.bind (cmp_ev p.f0 p.f2 ha hc) ?_)))
    refine Ev.const rfl (Ev.const rfl ?_)
    by_cases hab : good p.f0 = true ∧ good p.f1 = true
    case neg =>
      rw [cmpR_bad hab, cmpR_bad (fun h => hab ⟨h.2, h.1⟩)]
      refine Ev.ifp rfl ?_
      refine Ev.step (fun k => by rw [cadastrelaw2_ValueOrder.j2]) ?_
      refine Ev.ifn (by simp [wrap64]) (Ev.const (r := 1) rfl (Ev.ifn (by decide) ?_))
      exact skip_j3 l i _ _ _ _ p.f0 p.f1 p.f2 p.f3 ih
    rw [cmpR_good hab.1 hab.2, cmpR_good hab.2 hab.1]
    refine Ev.ifp rfl ?_
    refine Ev.step (fun k => by rw [cadastrelaw2_ValueOrder.j2]) ?_
    have hn := vcmp_neg p.f1 p.f0
    have hca := vcmp_cases p.f1 p.f0
    refine Ev.ifn (by rw [w64 (by omega) (by omega)]; simpa using hn) ?_
    refine Ev.const (r := 0) rfl (Ev.ifp rfl ?_)
    by_cases hcc : good p.f2 = true
    case neg =>
      rw [cmpR_bad (a := p.f1) (fun h => hcc h.2)]
      refine Ev.const (r := 1) rfl ?_
      exact skip_j3 l i _ _ _ _ p.f0 p.f1 p.f2 p.f3 ih
    rw [cmpR_good hab.2 hcc, cmpR_good hab.1 hcc]
    refine Ev.const (r := 0) rfl ?_
    refine Ev.step (fun k => by rw [cadastrelaw2_ValueOrder.j3]) ?_
    refine Ev.ifn (by decide) (Ev.const (r := 0) rfl (Ev.ifp rfl ?_))
    have h0 : (vcmp p.f0 p.f1 == 0) = (p.f0.f0 == p.f1.f0 && (p.f0.f1 == p.f1.f1 && (p.f0.f2.toList == p.f1.f2.toList))) := by
      rw [Bool.eq_iff_iff, same_iff, beq_iff_eq]
      exact ⟨fun h2 => vcmp_eq hab.1 hab.2 h2, fun h => by rw [h, vcmp_refl]⟩
    refine Ev.ifn (by rw [h0]; simp) ?_
    have t := vcmp_trans p.f0 p.f1 p.f2
    have c1 := vcmp_cases p.f0 p.f1; have c2 := vcmp_cases p.f1 p.f2; have c3 := vcmp_cases p.f0 p.f2
    generalize vcmp p.f0 p.f1 = x at t c1 ⊢
    generalize vcmp p.f1 p.f2 = y at t c2 ⊢
    generalize vcmp p.f0 p.f2 = z at t c3 ⊢
    clear h0 hn hca
    have t2 : x ≤ 0 → y ≤ 0 → z ≤ 0 := fun h1 h2 => (t h1 h2).1
    have t3 : x < 0 → y < 0 → z < 0 := fun h1 h2 => (t (by omega) (by omega)).2 (.inl h1)
    clear t
    by_cases x1 : x ≤ 0 <;> by_cases y1 : y ≤ 0 <;> by_cases x2 : x < 0 <;> by_cases y2 : y < 0 <;> (repeat' first | exact ih | (exfalso; omega) | (refine Ev.ifp (by omega) ?_) | (refine Ev.ifn (by omega) ?_))
end Go.Proofs.Ytaodnkhpiiepiaa.V
