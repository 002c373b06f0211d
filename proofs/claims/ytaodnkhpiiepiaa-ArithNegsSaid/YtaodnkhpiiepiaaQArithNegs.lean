/- ArithNegs: what its printed function answers is true, for every list. No condition beyond the numbers' own bounds. -/
import Derived.Test.YtaodnkhpiiepiaaALAri
import Derived.Test.YtaodnkhpiiepiaaAOk
import Derived.Test.YtaodnkhpiiepiaaAx10
namespace Go.Proofs.Ytaodnkhpiiepiaa.A
open Go Go.RowKit Go.Proofs.YtaodnkhpiiepiaaW.PrintWords Go.Proofs.YtaodnkhpiiepiaaW.PrintLast Go.Proofs.YtaodnkhpiiepiaaG

theorem ArithNegs_pure : ∀ l : List S58, (l.length * 72 ≤ 140737488351232 ∧ l.length ≤ 9223372036854775807 ∧ ∀ y ∈ l, (ok58 y)) → ∃ k, cadastrelaw4_ArithNegs.f k l = some true := by
  rintro l ⟨hby, hlen, hok⟩
  refine Ev.rounds (g := fun k => cadastrelaw4_ArithNegs.f k l) (Ev.congr (fun k => by rw [cadastrelaw4_ArithNegs.f]) ?_)
  have tl : ∀ i, Ev (fun k => cadastrelaw4_ArithNegs.j1 k l i false) true := fun i => by
    refine Ev.step (fun k => by rw [cadastrelaw4_ArithNegs.j1]) ?_
    refine Ev.ifn (by decide) (Ev.const rfl (Ev.const (neg_eq ⟨1, -9223372036854775808, ⟨#[]⟩⟩ (by decide)) (Ev.const rfl (Ev.ifp ?_ (Ev.bind wakes4_ev (Ev.ret rfl))))))
    rw [if_pos (show good (⟨1, -9223372036854775808, ⟨#[]⟩⟩ : S24) = true by decide)]
    rfl
  refine ev_loop (g := fun i k => cadastrelaw4_ArithNegs.l0 k l i) l.length ?_ ?_
  · refine Ev.step (fun k => by rw [cadastrelaw4_ArithNegs.l0]) ?_
    exact Ev.ifn (by omega) (tl _)
  · intro i hi ih
    have e1 : wrap64 ((i : Int) + 1) = (i : Int) + 1 := w64 (by omega) (by omega)
    have hx : ok58 (rd_T58 l i) := hok _ (rdOf_mem hi)
    refine Ev.step (fun k => by rw [cadastrelaw4_ArithNegs.l0]) ?_
    refine Ev.ifp (by omega) ?_
    by_cases h20 : (i : Int) < 30
    case neg => rw [decide_eq_false h20]; exact tl _
    rw [decide_eq_true h20]
    refine Ev.step (fun k => by rw [cadastrelaw4_ArithNegs.j1]) ?_
    refine Ev.ifp rfl (Ev.ifp (by omega) (Ev.ifp (by omega) ?_))
    obtain ⟨p, hp⟩ : ∃ p, rd_T58 l i = p := ⟨_, rfl⟩
    rw [hp] at hx ⊢
    rw [← e1] at ih

    obtain ⟨⟨_, ha, _⟩, ⟨_, hb, _⟩, _⟩ := hx
    have ha := inr_iff.mpr ha
    have ha' := inr_iff.mp ha
    have e : doA 13 ⟨1, 0, ⟨#[]⟩⟩ p.f0 = if good p.f0 = true then doR 13 ⟨1, 0, ⟨#[]⟩⟩ p.f0 else none4 1 := by
      unfold doA
      by_cases hg : good p.f0 = true
      · rw [if_pos ⟨by decide, by decide, by decide, hg⟩, if_pos hg]
      · rw [if_neg (fun h => hg h.2.2.2), if_neg hg]
    refine Ev.const (neg_eq p.f0 ha) (Ev.const rfl (Ev.bind (do_ev 13 ⟨1, 0, ⟨#[]⟩⟩ p.f0 (by decide) ha) (Ev.const rfl (Ev.const rfl ?_))))
    rw [e]
    have dull : ∀ q : Int × Int × ByteArray × Int, (¬ q.2.2.2 = 0 ∨ (p.f0.f0 == 1) = false) → Ev (fun k => cadastrelaw4_ArithNegs.j2 k l i q.2.2.2 (!(q.1 == q.1) || (!(q.2.1 == q.2.1) || (!(q.2.2.1.toList == q.2.2.1.toList)))) p.f0.f0 p.f0.f1 p.f0.f2 q.1 q.2.1 q.2.2.1) true := by
      intro q hq
      refine Ev.step (fun k => by rw [cadastrelaw4_ArithNegs.j2]) ?_
      refine Ev.ifn (by simp) (Ev.const rfl ?_)
      have tail : Ev (fun k => cadastrelaw4_ArithNegs.j3 k l i false p.f0.f0 p.f0.f1 p.f0.f2 q.1 q.2.1 q.2.2.1) true := by
        refine Ev.step (fun k => by rw [cadastrelaw4_ArithNegs.j3]) ?_
        exact Ev.ifn (by decide) ih
      by_cases h0 : q.2.2.2 = 0
      · refine Ev.ifp h0 ?_
        rw [(hq.resolve_left (fun h => h h0))]; exact tail
      · exact Ev.ifn h0 tail
    refine Ev.ifp rfl ?_
    by_cases hg : good p.f0 = true
    case neg => rw [if_neg hg]; exact dull (none4 1) (.inl (by decide))
    rw [if_pos hg]
    rcases good_says hg with ⟨k, n, z⟩ | ⟨k, z⟩ | ⟨k, n, z⟩
    · exact dull _ (.inr (by simp; omega))
    · have d : doR 13 ⟨1, 0, ⟨#[]⟩⟩ p.f0 = if inr (0 - p.f0.f1) = true then some4 (0 - p.f0.f1) else none4 5 := by
        unfold doR; dsimp only
        rw [if_neg (show ¬ ((1 : Int) = 0 ∨ p.f0.f0 = 0) by omega), if_pos (show (1 : Int) = 1 ∧ p.f0.f0 = 1 from ⟨rfl, k⟩), if_neg (show ¬ (((13 : Int) = 10 ∨ (13 : Int) = 11) ∧ p.f0.f1 = 0) by omega)]; rfl
      rw [d]
      by_cases hr : inr (0 - p.f0.f1) = true
      case neg => rw [if_neg hr]; exact dull (none4 5) (.inl (by decide))
      rw [if_pos hr]
      refine Ev.step (fun k => by rw [cadastrelaw4_ArithNegs.j2]) ?_
      refine Ev.ifn (by simp) (Ev.const rfl (Ev.ifp rfl ?_))
      rw [show (p.f0.f0 == 1) = true by simp; omega]
      refine Ev.step (fun k => by rw [cadastrelaw4_ArithNegs.j3]) ?_
      refine Ev.ifp rfl (Ev.const (neg_eq ⟨1, 0 - p.f0.f1, ⟨#[]⟩⟩ hr) ?_)
      have hg2 : good (⟨1, 0 - p.f0.f1, ⟨#[]⟩⟩ : S24) = true := by unfold good; simp; rfl
      have d2 : doR 13 ⟨1, 0, ⟨#[]⟩⟩ (⟨1, 0 - p.f0.f1, ⟨#[]⟩⟩ : S24) = some4 p.f0.f1 := by
        unfold doR; dsimp only
        rw [if_neg (show ¬ ((1 : Int) = 0 ∨ (1 : Int) = 0) by omega), if_pos (show (1 : Int) = 1 ∧ (1 : Int) = 1 from ⟨rfl, rfl⟩), if_neg (show ¬ (((13 : Int) = 10 ∨ (13 : Int) = 11) ∧ 0 - p.f0.f1 = 0) by omega)]
        rw [show opZ 13 0 (0 - p.f0.f1) = 0 - (0 - p.f0.f1) from rfl, show 0 - (0 - p.f0.f1) = p.f0.f1 by omega, if_pos ha]
      rw [if_pos hg2, d2]
      refine Ev.const rfl (Ev.ifp rfl (Ev.ifn ?_ ih))
      rw [k, bytes_none z]; simp [some4]
    · have d : doR 13 ⟨1, 0, ⟨#[]⟩⟩ p.f0 = none4 4 := by
        unfold doR; dsimp only
        rw [if_neg (show ¬ ((1 : Int) = 0 ∨ p.f0.f0 = 0) by omega), if_neg (show ¬ ((1 : Int) = 1 ∧ p.f0.f0 = 1) by omega)]
      rw [d]; exact dull (none4 4) (.inl (by decide))
end Go.Proofs.Ytaodnkhpiiepiaa.A
