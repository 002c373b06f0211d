/- KeysOrder: what its printed function answers is true, for every list. No condition beyond the numbers' own bounds. -/
import Derived.Test.YtaodnkhpiiepiaaKLKey
import Derived.Test.YtaodnkhpiiepiaaKOk
import Derived.Test.YtaodnkhpiiepiaaKx0
import Derived.Test.YtaodnkhpiiepiaaKx7
namespace Go.Proofs.Ytaodnkhpiiepiaa.K
open Go Go.RowKit Go.Proofs.YtaodnkhpiiepiaaW.PrintWords Go.Proofs.YtaodnkhpiiepiaaW.PrintLast Go.Proofs.YtaodnkhpiiepiaaG

theorem KeysOrder_pure : ∀ l : List S70, (l.length * 72 ≤ 140737488351232 ∧ l.length ≤ 9223372036854775807 ∧ ∀ y ∈ l, (ok70 y)) → ∃ k, cadastrelaw7_KeysOrder.f k l = some true := by
  rintro l ⟨hby, hlen, hok⟩
  refine Ev.rounds (g := fun k => cadastrelaw7_KeysOrder.f k l) (Ev.congr (fun k => by rw [cadastrelaw7_KeysOrder.f]) ?_)
  have tl : ∀ i, Ev (fun k => cadastrelaw7_KeysOrder.j1 k l i false) true := fun i => by
    refine Ev.step (fun k => by rw [cadastrelaw7_KeysOrder.j1]) ?_
    exact Ev.ifn (by decide) (Ev.bind wakes7_ev (Ev.ret rfl))
  refine ev_loop (g := fun i k => cadastrelaw7_KeysOrder.l0 k l i) l.length ?_ ?_
  · refine Ev.step (fun k => by rw [cadastrelaw7_KeysOrder.l0]) ?_
    exact Ev.ifn (by omega) (tl _)
  · intro i hi ih
    have e1 : wrap64 ((i : Int) + 1) = (i : Int) + 1 := w64 (by omega) (by omega)
    have hx : ok70 (rd_T70 l i) := hok _ (rdOf_mem hi)
    refine Ev.step (fun k => by rw [cadastrelaw7_KeysOrder.l0]) ?_
    refine Ev.ifp (by omega) ?_
    by_cases h20 : (i : Int) < 12
    case neg => rw [decide_eq_false h20]; exact tl _
    rw [decide_eq_true h20]
    refine Ev.step (fun k => by rw [cadastrelaw7_KeysOrder.j1]) ?_
    refine Ev.ifp rfl (Ev.ifp (by omega) (Ev.ifp (by omega) ?_))
    obtain ⟨p, hp⟩ : ∃ p, rd_T70 l i = p := ⟨_, rfl⟩
    rw [hp] at hx ⊢
    rw [← e1] at ih
    obtain ⟨⟨ha32, _, _⟩, ⟨hb32, _, _⟩, _⟩ := hx
    obtain ⟨t, ht⟩ := heavy_ev p.f0 p.f1 p.f2
    refine Ev.bind ht ?_
    have skip : Ev (fun k => cadastrelaw7_KeysOrder.j2 k l i true p.f0 p.f1 p.f2) true := by
      refine Ev.step (fun k => by rw [cadastrelaw7_KeysOrder.j2]) ?_
      exact Ev.ifp rfl ih
    cases t with
    | true => exact Ev.ifp rfl skip
    | false =>
    refine Ev.ifn (by decide) (Ev.bind (both_ev (by omega) (by omega)) ?_)
    by_cases h0 : bothR p.f0 p.f1 = 0
    case neg =>
      rw [show (bothR p.f0 p.f1 != 0) = true by simpa using h0]; exact skip
    rw [h0]
    have hg := bothR_ok.mp h0
    have hba : bothR p.f1 p.f0 = 0 := bothR_ok.mpr ⟨⟨hg.1.2, hg.1.1⟩, hg.2.2, hg.2.1⟩
    have haa : bothR p.f0 p.f0 = 0 := bothR_ok.mpr ⟨⟨hg.1.1, hg.1.1⟩, hg.2.1, hg.2.1⟩
    have han : bothR p.f0 [] = 0 := bothR_ok.mpr ⟨⟨hg.1.1, rfl⟩, hg.2.1, by decide⟩
    have nx5 : Ev (fun k => cadastrelaw7_KeysOrder.j5 k l i (kcmp p.f0 p.f1) true p.f0 p.f1 p.f2) true := by
      refine Ev.step (fun k => by rw [cadastrelaw7_KeysOrder.j5]) ?_
      exact Ev.ifp rfl ih
    have nx4 : Ev (fun k => cadastrelaw7_KeysOrder.j4 k l i (kcmp p.f0 p.f1) false p.f0 p.f1 p.f2) true := by
      refine Ev.step (fun k => by rw [cadastrelaw7_KeysOrder.j4]) ?_
      refine Ev.ifn (by decide) ?_
      by_cases l1 : (p.f0.length : Int) > 16
      · exact Ev.ifp l1 nx5
      refine Ev.ifn l1 ?_
      by_cases l2 : (p.f1.length : Int) > 16
      · rw [decide_eq_true l2]; exact nx5
      rw [decide_eq_false l2]
      refine Ev.step (fun k => by rw [cadastrelaw7_KeysOrder.j5]) ?_
      have one : good (⟨2, 0, ⟨#[120]⟩⟩ : S24) = true := by decide
      refine Ev.ifn (by decide) (Ev.const rfl (Ev.bind (copy_ev _ (by simp)) (Ev.ifp (by simp; omega) (Ev.bind (copy_ev _ (by simp)) (Ev.ifp (by simp; omega) (Ev.bind (kcmp_ev (by simp; omega) (by simp; omega)) ?_))))))
      have hxx : bothR ([(⟨2, 0, ⟨#[120]⟩⟩ : S24)] ++ p.f0) ([(⟨2, 0, ⟨#[120]⟩⟩ : S24)] ++ p.f1) = 0 := by
        refine bothR_ok.mpr ⟨⟨?_, ?_⟩, by simp; omega, by simp; omega⟩
        · rw [List.all_append, hg.1.1]; simp [one]
        · rw [List.all_append, hg.1.2]; simp [one]
      have hk : kcmp ([(⟨2, 0, ⟨#[120]⟩⟩ : S24)] ++ p.f0) ([(⟨2, 0, ⟨#[120]⟩⟩ : S24)] ++ p.f1) = kcmp p.f0 p.f1 := by
        show (if vcmp (⟨2, 0, ⟨#[120]⟩⟩ : S24) ⟨2, 0, ⟨#[120]⟩⟩ = 0 then kcmp p.f0 p.f1 else vcmp (⟨2, 0, ⟨#[120]⟩⟩ : S24) ⟨2, 0, ⟨#[120]⟩⟩) = _
        rw [if_pos (vcmp_refl _)]
      rw [if_pos (c := bothR ([(⟨2, 0, ⟨#[120]⟩⟩ : S24)] ++ p.f0) ([(⟨2, 0, ⟨#[120]⟩⟩ : S24)] ++ p.f1) = 0) hxx, hk]
      exact Ev.const rfl (Ev.ifp rfl (Ev.ifp rfl ih))
    have nx3 : Ev (fun k => cadastrelaw7_KeysOrder.j3 k l i (kcmp p.f0 p.f1) false p.f0 p.f1 p.f2) true := by
      refine Ev.step (fun k => by rw [cadastrelaw7_KeysOrder.j3]) ?_
      refine Ev.ifn (by decide) (Ev.bind (begins_ev (by omega) (by omega)) ?_)
      rw [if_pos (c := bothR p.f0 p.f1 = 0) h0]
      refine Ev.const rfl (Ev.ifp rfl ?_)
      cases hb : (decide (p.f1.length ≤ p.f0.length) && (kcmp (p.f0.take p.f1.length) p.f1 == 0)) with
      | false => exact Ev.ifn (by decide) nx4
      | true =>
        refine Ev.ifp rfl ?_
        rw [Bool.and_eq_true, beq_iff_eq] at hb
        have gt : (p.f0.take p.f1.length).all good = true := List.all_eq_true.mpr (fun x hx => List.all_eq_true.mp hg.1.1 x (List.mem_of_mem_take hx))
        have e := kcmp_eq _ _ gt hg.1.2 hb.2
        have e2 : p.f0 = p.f1 ++ p.f0.drop p.f1.length := by
          have := (List.take_append_drop p.f1.length p.f0).symm
          rw [e] at this; exact this
        have e3 : ¬ kcmp p.f0 p.f1 < 0 := by
          rw [e2, kcmp_behind]; split <;> decide
        rw [decide_eq_false e3]; exact nx4
    refine Ev.step (fun k => by rw [cadastrelaw7_KeysOrder.j2]) ?_
    refine Ev.ifn (by decide) (Ev.bind (kcmp_ev (by omega) (by omega)) (Ev.bind (kcmp_ev (by omega) (by omega)) (Ev.bind (begins_ev (by omega) (by omega)) (Ev.bind (begins_ev (by omega) (by simp)) ?_))))
    rw [if_pos (c := bothR p.f0 p.f1 = 0) h0, if_pos (c := bothR p.f1 p.f0 = 0) hba, if_pos (c := bothR p.f0 p.f0 = 0) haa, if_pos (c := bothR p.f0 [] = 0) han]
    obtain ⟨q, hq, hqe⟩ := eqv_ev p.f0 p.f1 (by omega)
    have hc := kcmp_cases p.f1 p.f0
    have hn := kcmp_neg p.f1 p.f0
    refine Ev.const rfl (Ev.ifp rfl (Ev.const rfl (Ev.ifp rfl (Ev.const rfl (Ev.ifp rfl (Ev.const rfl (Ev.ifp rfl (Ev.ifp ?_ (Ev.ifp ?_ (Ev.ifp ?_ (Ev.bind hqe ?_)))))))))))
    · rw [w64 (by omega) (by omega)]; exact hn
    · rw [List.take_of_length_le (Nat.le_refl _), kcmp_refl]; simp
    · rfl
    have e : ((kcmp p.f0 p.f1 == 0) != q) = false := by
      cases q with
      | true => rw [hq.mp rfl, kcmp_refl]; rfl
      | false =>
        have : ¬ kcmp p.f0 p.f1 = 0 := fun h => by have := hq.mpr (kcmp_eq _ _ hg.1.1 hg.1.2 h); contradiction
        simp [this]
    rw [e]; exact nx3
end Go.Proofs.Ytaodnkhpiiepiaa.K
