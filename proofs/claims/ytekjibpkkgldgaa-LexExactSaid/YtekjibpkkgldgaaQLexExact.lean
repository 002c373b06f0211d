/-
  cadastre/cadastrelaw19.LexExact: what its printed function answers is true, for every list. No condition beyond the numbers' own bounds.
-/
import Derived.Test.YtekjibpkkgldgaaXOk
import Derived.Test.YtekjibpkkgldgaaXLx5
namespace Go.Proofs.Ytekjibpkkgldgaa.X
open Go Go.AX

theorem toks_small (b : By) : (toks b).1.length ≤ 8192 := by
  unfold toks
  split
  · exact Nat.zero_le _
  · rename_i h
    split
    · exact Nat.zero_le _
    · rename_i ts lg hs
      have h1 := scan_len _ _ _ _ hs
      have h2 := skipL_le b
      split
      · exact Nat.zero_le _
      · show ts.length ≤ 8192; omega
theorem spoil_l1 {ρ : Type} (k : Nat) (kexit : List S68 → Option ρ) (r : ρ) (N : Nat) (hN : N ≤ 1000000000) (he : ∀ l, l.length = N → kexit l = some r) : ∀ (d i n : Nat) (l : List S68), l.length = N → i + d = N → d < n → cadastrelaw0_Tokens_o0_l1 k kexit n l i = some r
  | 0, i, n + 1, l, hl, hi, _ => by
    simp only [cadastrelaw0_Tokens_o0_l1, cadastrelaw0_Tokens_o0_l1_b]
    rw [decide_eq_false (by omega), cond_false, he l hl]
  | d + 1, i, n + 1, l, hl, hi, hlt => by
    simp only [cadastrelaw0_Tokens_o0_l1, cadastrelaw0_Tokens_o0_l1_b]
    rw [decide_eq_true (by omega), cond_true, chk_pos (by omega), Int.toNat_natCast, chk_pos (by omega), w64n (by omega)]
    exact spoil_l1 k kexit r N hN he d (i + 1) n _ (by rw [List.length_set]; exact hl) (by omega) (by omega)
theorem spoil_eq (k : Nat) (l : List S68) (hl : l.length ≤ 1000000) (hk : l.length < k) : cadastrelaw0_Tokens_o0 k l = some () := by
  unfold cadastrelaw0_Tokens_o0
  exact spoil_l1 k _ () l.length (by omega) (fun q hq => by rw [chk_pos (by simp only [List.length_cons, List.length_nil]; omega)]) l.length 0 k l rfl (by omega) hk
theorem LexExact_pure : ∀ l : List ByteArray, (l.length * 16 ≤ 140737488351232 ∧ l.length ≤ 9223372036854775807 ∧ ∀ y ∈ l, (y.size ≤ 140737488351232)) → ∃ k, cadastrelaw19_LexExact k l = some true := by
  intro l ⟨h1, h2, h3⟩
  obtain ⟨K, hK⟩ : ∃ K, K = l.length + 20000 := ⟨_, rfl⟩
  refine ⟨K, ?_⟩
  unfold cadastrelaw19_LexExact
  refine law_run l.length (fun n i => cadastrelaw19_LexExact_l2 K (fun t => some t) ((cadastrelaw19_wakes K).bind fun r => some r) n l i) (fun n => ?_) (fun n i hi => ?_) l.length 0 K (by omega) (by omega)
  · simp only [cadastrelaw19_LexExact_l2, cadastrelaw19_LexExact_l2_b]
    rw [decide_eq_false (by omega), cond_false, wakes_eq _ (by omega)]; rfl
  · simp only [cadastrelaw19_LexExact_l2, cadastrelaw19_LexExact_l2_b]
    rw [decide_eq_true (show (i : Int) < (l.length : Int) by omega), cond_true]
    by_cases h12 : (i : Int) < 12
    case neg => right; rw [decide_eq_false h12, cond_false, wakes_eq _ (by omega)]; rfl
    rw [decide_eq_true h12, cond_true]
    unfold cadastrelaw19_LexExact_j4
    rw [chk_pos (by omega), Int.toNat_natCast]
    generalize l.getD i ByteArray.empty = s at *
    dsimp only
    rw [bigd]
    by_cases hz : (s.size : Int) > 10000
    · right; rw [decide_eq_true hz]; rfl
    · left
      have ht := toks_small (by' s)
      rw [decide_eq_false hz, cond_false, chk_pos (by omega), tokens_eq K s (by omega), some_bind, chk_pos (by omega), rtokens_eq K s (by omega), some_bind, cadastrelaw19_num, some_bind]
      rw [show ((toks (by' s)).2 != (toks (by' s)).2) = false by simp, cond_false, eqt_refl K _ (by omega) (by omega), some_bind, Bool.not_true, cond_false, spoil_eq K _ (by omega) (by omega), some_bind, w64n (by omega)]
end Go.Proofs.Ytekjibpkkgldgaa.X
