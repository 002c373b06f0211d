/- VarintSmall: what its printed function answers is true, for every list. No condition beyond the numbers' own bounds. -/
import Derived.Test.YtbamdjfonfmbbaaLVar2
import Derived.Test.YtbamdjfonfmbbaaMx12
namespace Go.Proofs.Ytbamdjfonfmbbaa.M
open Go Go.RowKit Go.Proofs.YtbamdjfonfmbbaaW.PrintWords Go.Proofs.YtbamdjfonfmbbaaW.PrintLast Go.Proofs.YtbamdjfonfmbbaaG


theorem put_len (n : Int) (m : Nat) (hm : m < 7) (h0 : 128 ^ m ≤ n / 128) (h1 : n / 128 < 128 ^ (m + 1)) : (put n).length = m + 2 := by
  have h3 : (128 : Int) ^ (m + 1) ≤ 128 ^ 7 := by
    have : (128 : Nat) ^ (m + 1) ≤ 128 ^ 7 := Nat.pow_le_pow_right (by decide) (by omega)
    exact_mod_cast this
  have h4 : (128 : Int) ^ 7 = 562949953421312 := by decide
  unfold put
  rw [if_neg (by omega), List.length_append, hi_length 9 m _ (by omega) h0 h1]; rfl
theorem small_loop (L : List S41) (x3 : Int) (ih : Ev (fun k => cadastrelaw1_VarintSmall.l0 k L (wrap64 (x3 + 1))) true) : ∀ (d m : Nat), m + 1 + d = 8 → Ev (fun k => cadastrelaw1_VarintSmall.l1 k L x3 ((m + 1 : Nat) : Int)) true
  | 0, m, h => by
    refine Ev.step (fun k => by rw [cadastrelaw1_VarintSmall.l1]) ?_
    exact Ev.ifn (by omega) ih
  | d + 1, m, h => by
    refine Ev.step (fun k => by rw [cadastrelaw1_VarintSmall.l1]) ?_
    have e1 : wrap64 (7 * ((m + 1 : Nat) : Int)) = ((7 * (m + 1) : Nat) : Int) := by rw [w64 (by omega) (by omega)]; omega
    have e2 : wrap64 (((m + 1 : Nat) : Int) + 1) = ((m + 1 + 1 : Nat) : Int) := by rw [w64 (by omega) (by omega)]; omega
    rw [e1, e2, shl7 (m + 1) (by omega)]
    have hp := pow_pos' m
    have h3 : (128 : Int) ^ (m + 1) ≤ 128 ^ 8 := by
      have : (128 : Nat) ^ (m + 1) ≤ 128 ^ 8 := Nat.pow_le_pow_right (by decide) (by omega)
      exact_mod_cast this
    have h4 : (128 : Int) ^ 8 = 72057594037927936 := by decide
    have h5 : (128 : Int) ^ (m + 1) = 128 ^ m * 128 := Int.pow_succ _ _
    have d1 : (128 : Int) ^ (m + 1) / 128 = 128 ^ m := by omega
    refine Ev.ifp (by omega) ?_
    refine Ev.bind (put_ev _ (by omega) (by omega)) ?_
    rw [put_len _ m (by omega) (by omega) (by rw [d1]; omega)]
    refine Ev.ifp (by omega) ?_
    have e3 : IntKind.u64.wrap (128 ^ (m + 1) - 1) = 128 ^ (m + 1) - 1 := by rw [wrap_u64]; omega
    rw [e3]
    refine Ev.bind (put_ev _ (by omega) (by omega)) ?_
    have e4 : (put (128 ^ (m + 1) - 1)).length = m + 1 := by
      cases m with
      | zero => decide
      | succ q =>
        have h6 : (128 : Int) ^ (q + 1) = 128 ^ q * 128 := Int.pow_succ _ _
        have hq := pow_pos' q
        refine put_len _ q (by omega) (by omega) (by omega)
    rw [e4]
    refine Ev.ifp (by omega) ?_
    exact small_loop L x3 ih d (m + 1) (by omega)
theorem or_top (x : Int) (h0 : 0 ≤ x) (h1 : x < 18446744073709551616) : 9223372036854775808 ≤ bits .or .u64 x 9223372036854775808 ∧ bits .or .u64 x 9223372036854775808 < 18446744073709551616 := by
  rw [u64_or x _ h0 h1 (by omega) (by omega)]
  have h2 : x.toNat ||| (9223372036854775808 : Int).toNat < 2 ^ 64 := Nat.or_lt_two_pow (by omega) (by decide)
  have h3 : (9223372036854775808 : Int).toNat ≤ x.toNat ||| (9223372036854775808 : Int).toNat := Nat.right_le_or
  omega
theorem VarintSmall_pure : ∀ l : List S41, (l.length * 32 ≤ 140737488351232 ∧ l.length ≤ 9223372036854775807 ∧ ∀ y ∈ l, (ok41 y)) → ∃ k, cadastrelaw1_VarintSmall.f k l = some true := by
  rintro l ⟨hby, hlen, hok⟩
  refine Ev.rounds (g := fun k => cadastrelaw1_VarintSmall.f k l) (Ev.congr (fun k => by rw [cadastrelaw1_VarintSmall.f]) ?_)
  have tl : ∀ i, Ev (fun k => cadastrelaw1_VarintSmall.j1 k l i false) true := fun i => by
    refine Ev.step (fun k => by rw [cadastrelaw1_VarintSmall.j1]) ?_
    exact Ev.ifn (by decide) (Ev.bind vwakes_ev (Ev.ret rfl))
  refine ev_loop (g := fun i k => cadastrelaw1_VarintSmall.l0 k l i) l.length ?_ ?_
  · refine Ev.step (fun k => by rw [cadastrelaw1_VarintSmall.l0]) ?_
    exact Ev.ifn (by omega) (tl _)
  · intro i hi ih
    have e1 : wrap64 ((i : Int) + 1) = (i : Int) + 1 := w64 (by omega) (by omega)
    have hx : ok41 (rd_T41 l i) := hok _ (rdOf_mem hi)
    refine Ev.step (fun k => by rw [cadastrelaw1_VarintSmall.l0]) ?_
    refine Ev.ifp (by omega) ?_
    by_cases h20 : (i : Int) < 40
    case neg => rw [decide_eq_false h20]; exact tl _
    rw [decide_eq_true h20]
    refine Ev.step (fun k => by rw [cadastrelaw1_VarintSmall.j1]) ?_
    refine Ev.ifp rfl (Ev.ifp (by omega) (Ev.ifp (by omega) ?_))
    generalize rd_T41 l i = p at hx ⊢
    rw [← e1] at ih
    obtain ⟨hn, ⟨_, hll, hl⟩⟩ := hx
    have e2 : Int.tmod p.f0 128 = p.f0 % 128 := tmod_nn hn.1
    rw [e2]
    refine Ev.bind (put_ev _ (by omega) (by omega)) ?_
    have e3 : put (p.f0 % 128) = [p.f0 % 128 % 256] := by
      unfold put
      rw [if_neg (by omega), show p.f0 % 128 / 128 = 0 by omega, show p.f0 % 128 % 128 = p.f0 % 128 by omega, show p.f0 % 128 % 256 = p.f0 % 128 by omega]
      simp [Go.Proofs.Ytbamdjfonfmbbaa.M.hi]
    rw [e3]
    refine Ev.bind (eq_ev _ _ (by simp)) (Ev.ifp (by simp) ?_)
    obtain ⟨o1, o2⟩ := or_top p.f0 hn.1 hn.2
    refine Ev.bind (put_ev _ (by omega) o2) ?_
    have e4 : (put (bits .or .u64 p.f0 9223372036854775808)).length = 9 := by
      unfold put
      rw [if_pos (by omega)]; simp [grp_length]
    rw [e4]
    refine Ev.step (fun k => by rw [cadastrelaw1_VarintSmall.j2]) ?_
    refine Ev.ifn (by decide) ?_
    exact small_loop l i ih 7 0 rfl
end Go.Proofs.Ytbamdjfonfmbbaa.M
