/-
  Layer 19: the laws' own helpers.
-/
import Derived.Test.YtekjibpkkgldgaaXLy3
import Derived.KernelRfl
namespace Go.Proofs.Ytekjibpkkgldgaa.X
open Go Go.AX

theorem by_app (a b : ByteArray) : by' (a ++ b) = by' a ++ by' b := by simp [by', ByteArray.data_append]
theorem by_cat (a b : ByteArray) : by' (cat a b) = by' a ++ by' b := by rw [cat_eq, by_app]
theorem fits {a b : ByteArray} (h : (by' a).length + (by' b).length ≤ 9000000000) : strFits a b := by
  rw [strFits_eq]; rw [by_len, by_len] at h; omega

/-! ### the laws' helpers -/
theorem tok_same (a : S68) : (!((a.f0 == a.f0) && ((a.f1 == a.f1) && (a.f2 == a.f2)))) = false := by simp
theorem eqt_l4 {ρ : Type} (k : Nat) (kret : Bool → Option ρ) (kexit : Option ρ) (l : List S68) (hl : l.length ≤ 1000000000000) : ∀ (d i n : Nat), i + d = l.length → d < n → cadastreref0_EqTokens_l4 k kret kexit n l l i = kexit
  | 0, i, n + 1, hi, _ => by
    simp only [cadastreref0_EqTokens_l4, cadastreref0_EqTokens_l4_b]
    rw [decide_eq_false (by omega), cond_false]
  | d + 1, i, n + 1, hi, hn => by
    simp only [cadastreref0_EqTokens_l4, cadastreref0_EqTokens_l4_b]
    rw [decide_eq_true (by omega), cond_true, chk_pos (by omega), chk_pos (by omega), tok_same, cond_false, w64n (by omega)]
    exact eqt_l4 k kret kexit l hl d (i + 1) n (by omega) (by omega)
theorem eqt_refl (k : Nat) (l : List S68) (hl : l.length ≤ 1000000000000) (hk : l.length < k) : cadastreref0_EqTokens k l l = some true := by
  unfold cadastreref0_EqTokens
  rw [show ((l.length : Int) != (l.length : Int)) = false by simp, cond_false]
  exact eqt_l4 k _ _ l hl l.length 0 k (by omega) hk
theorem wakes_eq (k : Nat) (hk : 8194 < k) : cadastrelaw19_wakes k = some true := by
  unfold cadastrelaw19_wakes
  rw [tokens_eq k _ hk, some_bind]
  have e : toks (by' (⟨#[65, 32, 39, 98, 39]⟩ : ByteArray)) = ([(⟨1, (⟨#[97]⟩ : ByteArray), 0⟩ : S68), (⟨3, (⟨#[98]⟩ : ByteArray), 0⟩ : S68)], 0) := by kernel_rfl
  rw [e]
  simp only [cadastrelaw19_num, some_bind]
  rw [eqt_refl k _ (by simp) (by simp; omega)]; rfl

/-! ### how far a scan goes -/
theorem scan_fuel : ∀ (n m : Nat) (l : By), l.length < n → l.length < m → scan n l = scan m l
  | n + 1, m + 1, [], _, _ => rfl
  | n + 1, m + 1, c :: r, hn, hm => by
    simp only [scan]
    cases h : tokL (c :: r) with
    | none => rfl
    | some p =>
      obtain ⟨t, r'⟩ := p
      have h1 := (tok_le h).1
      have h2 := skipL_le r'
      rw [some_bind, some_bind, scan_fuel n m (skipL r') (by omega) (by omega)]
theorem scan_len : ∀ (n : Nat) (l : By) (ts : List S68) (lg : Bool), scan n l = some (ts, lg) → ts.length ≤ l.length
  | n + 1, [], ts, lg, h => by cases h; simp
  | n + 1, c :: r, ts, lg, h => by
    simp only [scan] at h
    cases hq : tokL (c :: r) with
    | none => rw [hq] at h; cases h
    | some p =>
      obtain ⟨t, r'⟩ := p
      have h1 := (tok_le hq).1
      have h2 := skipL_le r'
      rw [hq, some_bind] at h
      cases hz : scan n (skipL r') with
      | none => simp only [hz] at h; cases h
      | some q =>
        simp only [hz] at h; cases h
        have := scan_len n _ q.1 q.2 hz
        simp only [List.length_cons] at h1 ⊢; omega
end Go.Proofs.Ytekjibpkkgldgaa.X
