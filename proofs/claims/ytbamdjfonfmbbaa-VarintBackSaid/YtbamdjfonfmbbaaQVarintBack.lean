/- VarintBack: what its printed function answers is true, for every list. No condition beyond the numbers' own bounds. -/
import Derived.Test.YtbamdjfonfmbbaaBLVBack
import Derived.Test.YtbamdjfonfmbbaaBx3
namespace Go.Proofs.Ytbamdjfonfmbbaa.B
open Go Go.RowKit Go.Proofs.YtbamdjfonfmbbaaW.PrintWords Go.Proofs.YtbamdjfonfmbbaaW.PrintLast Go.Proofs.YtbamdjfonfmbbaaG


theorem last_ev (L : List S41) (i : Int) (n : Int) (h0 : 0 ≤ n) (h1 : n < 18446744073709551616) (f1 : List Int) (ih : Ev (fun k => cadastrelaw1_VarintBack.l0 k L (wrap64 (i + 1))) true) : Ev (fun k => cadastrelaw1_VarintBack.j4 k L i (put n) false n f1) true := by
  have hpl := put_length n
  refine Ev.step (fun k => by rw [cadastrelaw1_VarintBack.j4]) ?_
  refine Ev.ifn (by decide) (Ev.bind (spoil_ev _ (by omega)) (Ev.bind (put_ev n h0 h1) (Ev.bind (rput_ev n h0 h1) (Ev.bind (eq_ev _ _ (by omega)) (Ev.ifp (by simp) ih)))))
theorem begin_ev (L : List S41) (i : Int) (n : Int) (h0 : 0 ≤ n) (h1 : n < 18446744073709551616) (f1 : List Int) (ih : Ev (fun k => cadastrelaw1_VarintBack.l0 k L (wrap64 (i + 1))) true) :
    ∀ (d j : Nat), j + d = (put n).length → Ev (fun k => cadastrelaw1_VarintBack.l1 k L i (put n) ((put n).length : Int) j n f1) true
  | 0, j, h => by
    have last := last_ev L i n h0 h1 f1 ih
    obtain ⟨hs1, hs⟩ := put_size n h0 h1
    refine Ev.step (fun k => by rw [cadastrelaw1_VarintBack.l1]) ?_
    refine Ev.ifn (by omega) ?_
    generalize hm : (put n).length = m at *
    rcases hs with ⟨hm8, hlt, hge⟩ | ⟨hm9, hge⟩
    · have e1 : wrap64 (7 * (m : Int)) = ((7 * m : Nat) : Int) := by rw [w64 (by omega) (by omega)]; omega
      rw [e1, shl7 m hm8]
      refine Ev.ifp (by omega) (Ev.ifp (by omega) (Ev.ifn (by omega) ?_))
      by_cases hg : 1 < m
      · have e2 : wrap64 (((7 * m : Nat) : Int) - 7) = ((7 * (m - 1) : Nat) : Int) := by rw [w64 (by omega) (by omega)]; omega
        rw [e2, shl7 (m - 1) (by omega)]
        have := hge hg
        refine Ev.ifp (by omega) (Ev.ifp (by omega) (Ev.ifn (by omega) (Ev.ifn (by omega) last)))
      · refine Ev.ifn (by omega) (Ev.ifn (by omega) last)
    · refine Ev.ifn (by omega) (Ev.ifp (by omega) (Ev.ifp (by omega) ?_))
      rw [decide_eq_false (by omega)]
      exact last
  | d + 1, j, h => by
    have hpl := put_length n
    refine Ev.step (fun k => by rw [cadastrelaw1_VarintBack.l1]) ?_
    refine Ev.ifp (by omega) (Ev.ifp (by omega) (Ev.ifp (by omega) ?_))
    have e : ((j : Nat) : Int).toNat = j := by omega
    have e1 : wrap64 ((j : Int) + 1) = ((j + 1 : Nat) : Int) := by rw [w64 (by omega) (by omega)]; omega
    rw [e, e1]
    refine Ev.bind (get_ev (fun y hy => put_byte n y (List.mem_of_mem_take hy)) (by rw [List.length_take]; omega)) ?_
    rw [get_begin n h0 h1 j (by omega)]
    exact Ev.const rfl (Ev.ifp rfl (begin_ev L i n h0 h1 f1 ih d (j + 1) (by omega)))
theorem VarintBack_pure : ∀ l : List S41, (l.length * 32 ≤ 140737488351232 ∧ l.length ≤ 9223372036854775807 ∧ ∀ y ∈ l, (ok41 y)) → ∃ k, cadastrelaw1_VarintBack.f k l = some true := by
  rintro l ⟨hby, hlen, hok⟩
  refine Ev.rounds (g := fun k => cadastrelaw1_VarintBack.f k l) (Ev.congr (fun k => by rw [cadastrelaw1_VarintBack.f]) ?_)
  have tl : ∀ i, Ev (fun k => cadastrelaw1_VarintBack.j1 k l i false) true := fun i => by
    refine Ev.step (fun k => by rw [cadastrelaw1_VarintBack.j1]) ?_
    exact Ev.ifn (by decide) (Ev.bind vwakes_ev (Ev.ret rfl))
  refine ev_loop (g := fun i k => cadastrelaw1_VarintBack.l0 k l i) l.length ?_ ?_
  · refine Ev.step (fun k => by rw [cadastrelaw1_VarintBack.l0]) ?_
    exact Ev.ifn (by omega) (tl _)
  · intro i hi ih
    have e1 : wrap64 ((i : Int) + 1) = (i : Int) + 1 := w64 (by omega) (by omega)
    have hx : ok41 (rd_T41 l i) := hok _ (rdOf_mem hi)
    refine Ev.step (fun k => by rw [cadastrelaw1_VarintBack.l0]) ?_
    refine Ev.ifp (by omega) ?_
    by_cases h20 : (i : Int) < 40
    case neg => rw [decide_eq_false h20]; exact tl _
    rw [decide_eq_true h20]
    refine Ev.step (fun k => by rw [cadastrelaw1_VarintBack.j1]) ?_
    refine Ev.ifp rfl (Ev.ifp (by omega) (Ev.ifp (by omega) ?_))
    generalize rd_T41 l i = p at hx ⊢
    rw [← e1] at ih
    obtain ⟨hn, ⟨_, hll, hl⟩⟩ := hx
    have hpl := put_length p.f0
    have hB : IsB (put p.f0 ++ p.f1) := fun y hy => by
      rcases List.mem_append.1 hy with hy | hy
      · exact put_byte _ y hy
      · exact hl y hy
    refine Ev.bind (put_ev _ hn.1 hn.2) (Ev.bind (copy_ev (by omega)) (Ev.ifp (by omega) ?_))
    refine Ev.bind (get_ev hB (by rw [List.length_append]; omega)) ?_
    rw [get_put _ hn.1 hn.2]
    obtain ⟨hs1, hs⟩ := put_size p.f0 hn.1 hn.2
    refine Ev.const rfl (Ev.ifp rfl (Ev.ifp rfl (Ev.ifp rfl (Ev.ifn (by omega) ?_))))
    rw [decide_eq_false (by omega)]
    refine Ev.step (fun k => by rw [cadastrelaw1_VarintBack.j2]) ?_
    refine Ev.ifn (by decide) ?_
    exact begin_ev l i p.f0 hn.1 hn.2 p.f1 ih (put p.f0).length 0 (by omega)
end Go.Proofs.Ytbamdjfonfmbbaa.B
