/- SumParts: what its printed function answers is true, for every list. No condition beyond the numbers' own bounds. -/
import Derived.Test.YtbamdjfonfmbbaaLSum2
namespace Go.Proofs.Ytbamdjfonfmbbaa.M
open Go Go.RowKit Go.Proofs.YtbamdjfonfmbbaaW.PrintWords Go.Proofs.YtbamdjfonfmbbaaW.PrintLast Go.Proofs.YtbamdjfonfmbbaaG


theorem pad_ev (L : List S26) (i : Nat) (l : List Int) (hl : IsB l) (hn : l.length ≤ 5000) (a b N : Int) (x6 x7 : Int) (hx : (x6, x7) = sumOf a b l) (ih : Ev (fun k => cadastrelaw8_SumParts.l0 k L (wrap64 ((i : Int) + 1))) true) :
    ∀ (d t : Nat), (l.length + t + d) % 8 = 0 → t + d < 8 → Ev (fun k => cadastrelaw8_SumParts.l1 k L i x6 x7 (l ++ List.replicate t 0) a b l N) true
  | 0, t, h, ht => by
    have hB : IsB (l ++ List.replicate t 0) := fun y hy => by
      rcases List.mem_append.1 hy with hy | hy
      · exact hl y hy
      · rw [List.mem_replicate] at hy; omega
    refine Ev.step (fun k => by rw [cadastrelaw8_SumParts.l1]) ?_
    refine Ev.ifp (by simp only [List.length_append, List.length_replicate]; omega) ?_
    refine Ev.bind (sum_ev hB (by simp only [List.length_append, List.length_replicate]; omega) a b) ?_
    rw [sum_zeros l t (by omega), ← hx]
    exact Ev.ifp rfl (Ev.ifp rfl ih)
  | d + 1, t, h, ht => by
    refine Ev.step (fun k => by rw [cadastrelaw8_SumParts.l1]) ?_
    refine Ev.ifn (by simp only [List.length_append, List.length_replicate]; omega) ?_
    refine Ev.ifp (by simp only [List.length_append, List.length_replicate]; omega) ?_
    have e : l ++ List.replicate t 0 ++ [0] = l ++ List.replicate (t + 1) 0 := by rw [List.append_assoc, List.replicate_succ']
    rw [e]
    exact pad_ev L i l hl hn a b N x6 x7 hx ih d (t + 1) (by omega) (by omega)
theorem SumParts_pure : ∀ l : List S26, (l.length * 40 ≤ 140737488351232 ∧ l.length ≤ 9223372036854775807 ∧ ∀ y ∈ l, (ok26 y)) → ∃ k, cadastrelaw8_SumParts.f k l = some true := by
  rintro l ⟨hby, hlen, hok⟩
  refine Ev.rounds (g := fun k => cadastrelaw8_SumParts.f k l) (Ev.congr (fun k => by rw [cadastrelaw8_SumParts.f]) ?_)
  have tl : ∀ i, Ev (fun k => cadastrelaw8_SumParts.j1 k l i false) true := fun i => by
    refine Ev.step (fun k => by rw [cadastrelaw8_SumParts.j1]) ?_
    exact Ev.ifn (by decide) (Ev.bind wakes_ev (Ev.ret rfl))
  refine ev_loop (g := fun i k => cadastrelaw8_SumParts.l0 k l i) l.length ?_ ?_
  · refine Ev.step (fun k => by rw [cadastrelaw8_SumParts.l0]) ?_
    exact Ev.ifn (by omega) (tl _)
  · intro i hi ih
    have e1 : wrap64 ((i : Int) + 1) = (i : Int) + 1 := w64 (by omega) (by omega)
    have hx : ok26 (rd_T26 l i) := hok _ (rdOf_mem hi)
    refine Ev.step (fun k => by rw [cadastrelaw8_SumParts.l0]) ?_
    refine Ev.ifp (by omega) ?_
    by_cases h20 : (i : Int) < 20
    case neg => rw [decide_eq_false h20]; exact tl _
    rw [decide_eq_true h20]
    refine Ev.step (fun k => by rw [cadastrelaw8_SumParts.j1]) ?_
    refine Ev.ifp rfl (Ev.ifp (by omega) (Ev.ifp (by omega) ?_))
    generalize rd_T26 l i = p at hx ⊢
    rw [← e1] at ih
    obtain ⟨ha, hb, ⟨_, _, hl⟩, hN⟩ := hx
    by_cases h5 : (p.f2.length : Int) > 5000
    · refine Ev.ifp h5 ?_
      refine Ev.step (fun k => by rw [cadastrelaw8_SumParts.j2]) ?_
      exact Ev.ifp rfl ih
    refine Ev.ifn h5 ?_
    refine Ev.step (fun k => by rw [cadastrelaw8_SumParts.j2]) ?_
    by_cases hz : (p.f2.length : Int) = 0
    · rw [hz]; exact Ev.ifp rfl ih
    refine Ev.ifn (by simpa using hz) ?_
    have e8 : wrap64 ((p.f2.length : Int) / 8) = (p.f2.length : Int) / 8 := w64 (by omega) (by omega)
    have e9 : wrap64 ((p.f2.length : Int) / 8 + 1) = (p.f2.length : Int) / 8 + 1 := w64 (by omega) (by omega)
    rw [e8, e9]
    obtain ⟨t, ht, ht0, ht1⟩ := within_some p.f3 ((p.f2.length : Int) / 8 + 1) (by omega) (by omega)
    refine Ev.const ht ?_
    refine Ev.bind (sum_ev hl (by omega) _ _) ?_
    have e10 : wrap64 (8 * t) = ((8 * t.toNat : Nat) : Int) := by rw [w64 (by omega) (by omega)]; omega
    rw [e10]
    refine Ev.ifp (by omega) (Ev.ifp (by omega) ?_)
    have e11 : ((8 * t.toNat : Nat) : Int).toNat = 8 * t.toNat := by omega
    rw [e11]
    refine Ev.bind (sum_ev (fun y hy => hl y (List.mem_of_mem_take hy)) (by rw [List.length_take]; omega) _ _) ?_
    refine Ev.bind (sum_ev (fun y hy => hl y (List.mem_of_mem_drop hy)) (by rw [List.length_drop]; omega) _ _) ?_
    rw [← sum_parts _ _ (by omega)]
    refine Ev.ifp rfl ?_
    refine Ev.step (fun k => by rw [cadastrelaw8_SumParts.j3]) ?_
    refine Ev.ifn (by simp) ?_
    refine Ev.bind (copy_ev (by omega)) ?_
    obtain ⟨c, hc, hc0, hc1⟩ := within_some p.f3 (p.f2.length : Int) (by omega) (by omega)
    refine Ev.const hc (Ev.ifp hc0 (Ev.ifp hc1 ?_))
    obtain ⟨v, hv, hv0, hv1⟩ := within_some p.f3 255 (by omega) (by omega)
    refine Ev.const hv ?_
    have e12 : wrap64 (1 + v) % 256 = 1 + v := by rw [w64 (by omega) (by omega)]; omega
    rw [e12]
    obtain ⟨hr, hne⟩ := xor_turns (rd_byte hl c) (y := 1 + v) (by omega)
    have hB : IsB (p.f2.set c.toNat (bits .xor .u8 (rd p.f2 c) (1 + v))) := fun y hy => by
      rcases List.mem_or_eq_of_mem_set hy with hy | rfl
      · exact hl y hy
      · exact hr
    refine Ev.bind (sum_ev hB (by rw [List.length_set]; omega) _ _) ?_
    have hcc : ((c.toNat : Nat) : Int) = c := by omega
    have ht := sum_turned p.f2 hl c.toNat _ (by omega) hr (by rw [hcc]; exact hne) p.f0 p.f1 ha hb
    have j4 : Ev (fun k => cadastrelaw8_SumParts.j4 k l i (sumOf p.f0 p.f1 p.f2).1 (sumOf p.f0 p.f1 p.f2).2 false p.f0 p.f1 p.f2 p.f3) true := by
      refine Ev.step (fun k => by rw [cadastrelaw8_SumParts.j4]) ?_
      refine Ev.ifn (by decide) ?_
      refine Ev.bind (copy_ev (by omega)) ?_
      have := pad_ev l i p.f2 hl (by omega) p.f0 p.f1 p.f3 (sumOf p.f0 p.f1 p.f2).1 (sumOf p.f0 p.f1 p.f2).2 rfl ih ((8 - p.f2.length % 8) % 8) 0 (by omega) (by omega)
      simpa using this
    by_cases h1 : (sumOf p.f0 p.f1 (p.f2.set c.toNat (bits .xor .u8 (rd p.f2 c) (1 + v)))).1 = (sumOf p.f0 p.f1 p.f2).1
    · refine Ev.ifp h1 ?_
      have h2 : ¬ (sumOf p.f0 p.f1 (p.f2.set c.toNat (bits .xor .u8 (rd p.f2 c) (1 + v)))).2 = (sumOf p.f0 p.f1 p.f2).2 := fun h2 => ht (Prod.ext h1 h2)
      rw [beq_eq_false_iff_ne.mpr h2]
      exact j4
    · exact Ev.ifn h1 j4
end Go.Proofs.Ytbamdjfonfmbbaa.M
