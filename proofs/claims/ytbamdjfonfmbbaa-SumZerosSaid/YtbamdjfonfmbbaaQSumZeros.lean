/- SumZeros: what its printed function answers is true, for every list. No condition beyond the numbers' own bounds. -/
import Derived.Test.YtbamdjfonfmbbaaLSum
import Derived.Test.YtbamdjfonfmbbaaMx4
namespace Go.Proofs.Ytbamdjfonfmbbaa.M
open Go Go.RowKit Go.Proofs.YtbamdjfonfmbbaaW.PrintWords Go.Proofs.YtbamdjfonfmbbaaW.PrintLast Go.Proofs.YtbamdjfonfmbbaaG


theorem zeros_rd (n : Nat) (i : Int) : rd (List.replicate n 0) i = 0 := by
  unfold rd
  rw [List.getD_eq_getElem?_getD]
  by_cases h : i.toNat < n
  · simp [h]
  · rw [List.getElem?_eq_none (by simpa using h)]; rfl
theorem zeros_sums (m : Nat) : ∀ (n : Nat) (i : Int), sums (List.replicate m 0) n i (0, 0) = (0, 0)
  | 0, i => rfl
  | n + 1, i => by
    simp only [sums, wordAt, zeros_rd]
    split
    · simpa using zeros_sums m n (i + 8)
    · rfl
theorem two_words (a b : Int) (ha : 0 ≤ a ∧ a < 4294967296) (hb : 0 ≤ b ∧ b < 4294967296) :
    sumOf 0 0 [(a / 16777216) % 256, (a / 65536) % 256, (a / 256) % 256, a % 256, (b / 16777216) % 256, (b / 65536) % 256, (b / 256) % 256, b % 256] = (a, (b + a) % 4294967296) := by
  have w0 : wordAt [(a / 16777216) % 256, (a / 65536) % 256, (a / 256) % 256, a % 256, (b / 16777216) % 256, (b / 65536) % 256, (b / 256) % 256, b % 256] 0 = a := by
    simp only [wordAt, rd]; simp; omega
  have w4 : wordAt [(a / 16777216) % 256, (a / 65536) % 256, (a / 256) % 256, a % 256, (b / 16777216) % 256, (b / 65536) % 256, (b / 256) % 256, b % 256] 4 = b := by
    simp only [wordAt, rd]; simp; omega
  unfold sumOf
  generalize hL : [(a / 16777216) % 256, (a / 65536) % 256, (a / 256) % 256, a % 256, (b / 16777216) % 256, (b / 65536) % 256, (b / 256) % 256, b % 256] = L at w0 w4 ⊢
  have hl : L.length = 8 := by rw [← hL]; rfl
  rw [hl]
  simp only [sums, hl]
  simp [w0, w4]
  omega
theorem SumZeros_pure : ∀ l : List S26, (l.length * 40 ≤ 140737488351232 ∧ l.length ≤ 9223372036854775807 ∧ ∀ y ∈ l, (ok26 y)) → ∃ k, cadastrelaw8_SumZeros.f k l = some true := by
  rintro l ⟨hby, hlen, hok⟩
  refine Ev.rounds (g := fun k => cadastrelaw8_SumZeros.f k l) (Ev.congr (fun k => by rw [cadastrelaw8_SumZeros.f]) ?_)
  have tl : ∀ i, Ev (fun k => cadastrelaw8_SumZeros.j1 k l i false) true := fun i => by
    refine Ev.step (fun k => by rw [cadastrelaw8_SumZeros.j1]) ?_
    exact Ev.ifn (by decide) (Ev.bind wakes_ev (Ev.ret rfl))
  refine ev_loop (g := fun i k => cadastrelaw8_SumZeros.l0 k l i) l.length ?_ ?_
  · refine Ev.step (fun k => by rw [cadastrelaw8_SumZeros.l0]) ?_
    exact Ev.ifn (by omega) (tl _)
  · intro i hi ih
    have e1 : wrap64 ((i : Int) + 1) = (i : Int) + 1 := w64 (by omega) (by omega)
    have hx : ok26 (rd_T26 l i) := hok _ (rdOf_mem hi)
    refine Ev.step (fun k => by rw [cadastrelaw8_SumZeros.l0]) ?_
    refine Ev.ifp (by omega) ?_
    by_cases h20 : (i : Int) < 20
    case neg => rw [decide_eq_false h20]; exact tl _
    rw [decide_eq_true h20]
    refine Ev.step (fun k => by rw [cadastrelaw8_SumZeros.j1]) ?_
    refine Ev.ifp rfl (Ev.ifp (by omega) (Ev.ifp (by omega) ?_))
    generalize rd_T26 l i = p at hx ⊢
    rw [← e1] at ih
    obtain ⟨ha, hb, ⟨_, _, hl⟩, hN⟩ := hx
    have e2 : wrap64 (8 * ((i : Int) + 1)) = 8 * ((i : Int) + 1) := w64 (by omega) (by omega)
    rw [e1] at ih ⊢
    rw [e2]
    refine Ev.bind (sum_ev (l := []) (by unfold IsB; simp) (by simp) _ _) ?_
    refine Ev.ifp (by omega) (Ev.ifp (by omega) ?_)
    refine Ev.bind (sum_ev (l := List.replicate _ 0) (by intro y hy; rw [List.mem_replicate] at hy; omega) (by simp; omega) 0 0) ?_
    have ez : sumOf 0 0 (List.replicate (8 * ((i : Int) + 1)).toNat 0) = (0, 0) := zeros_sums _ _ _
    rw [ez]
    refine Ev.ifp rfl (Ev.ifp rfl (Ev.ifp rfl ?_))
    refine Ev.step (fun k => by rw [cadastrelaw8_SumZeros.j2]) ?_
    refine Ev.ifn (by decide) ?_
    refine Ev.const rfl ?_
    refine Ev.bind (sum_ev (by intro y hy; simp only [List.mem_cons, List.not_mem_nil, or_false] at hy; omega) (by simp) 0 0) ?_
    rw [two_words _ _ ha hb]
    refine Ev.ifp rfl (Ev.ifp rfl (Ev.ifp (by simp) (Ev.bind (eq_ev _ _ (by simp)) ?_)))
    refine Ev.ifp (by simp) ?_
    rw [e1]
    exact ih
end Go.Proofs.Ytbamdjfonfmbbaa.M
