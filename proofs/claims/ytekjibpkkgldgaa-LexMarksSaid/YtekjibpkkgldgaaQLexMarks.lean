/-
  cadastre/cadastrelaw19.LexMarks: what its printed function answers is true, for every list. No condition beyond the numbers' own bounds.
-/
import Derived.Test.YtekjibpkkgldgaaXOk
import Derived.Test.YtekjibpkkgldgaaXLx4
namespace Go.Proofs.Ytekjibpkkgldgaa.X
open Go Go.AX

/-- A mark alone, and in parentheses. -/
def MarkOk (m : ByteArray) : Prop := toks (by' m) = ([(⟨5, m, 0⟩ : S68)], 0) ∧ (∃ a b : S68, toks ([40] ++ by' m ++ [41]) = ([a, ⟨5, m, 0⟩, b], 0)) ∧ m.size ≤ 2
theorem lm_j8 {ρ : Type} (k : Nat) (hk : 9000 ≤ k) (kret : Bool → Option ρ) (knxt : List ByteArray → List ByteArray → Int → Option ρ) (l ms : List ByteArray) (i : Nat) (hi : i < ms.length) (hm : MarkOk (ms.getD i ByteArray.empty)) :
    cadastrelaw19_LexMarks_j8 k kret knxt l ms i = knxt l ms i := by
  unfold cadastrelaw19_LexMarks_j8
  dsimp only
  rw [Int.toNat_natCast]
  generalize ms.getD i ByteArray.empty = m at hm
  obtain ⟨h1, ⟨a, b, h2⟩, h3⟩ := hm
  have e1 := by_len m
  have e40 : by' (⟨#[40]⟩ : ByteArray) = [40] := rfl
  have e41 : by' (⟨#[41]⟩ : ByteArray) = [41] := rfl
  rw [chk_pos (by omega), chk_pos (fits (by rw [e40]; simp only [List.length_cons, List.length_nil]; omega)), chk_pos (fits (by rw [by_cat, e40, e41]; simp only [List.length_append, List.length_cons, List.length_nil]; omega)),
    tokens_eq k _ (by omega), some_bind, by_cat, by_cat, e40, e41, h2]
  simp only [cadastrelaw19_num, some_bind, bne_self_eq_false, cond_false]
  rw [show ((([a, ⟨5, m, 0⟩, b] : List S68).length : Int) != 3) = false from rfl, cond_false, chk_pos (by simp), chk_pos (by omega)]
  simp
theorem lm_l3 {ρ : Type} (k : Nat) (hk : 9000 ≤ k) (kret : Bool → Option ρ) (kexit : List ByteArray → Option ρ) (l ms : List ByteArray) (hn : ms.length ≤ 1000) (hm : ∀ m ∈ ms, MarkOk m) : ∀ (d i n : Nat), i + d = ms.length → d < n →
    cadastrelaw19_LexMarks_l3 k kret kexit n l ms i = kexit l
  | 0, i, n + 1, hi, _ => by
    simp only [cadastrelaw19_LexMarks_l3, cadastrelaw19_LexMarks_l3_b]
    rw [decide_eq_false (by omega), cond_false]
  | d + 1, i, n + 1, hi, hlt => by
    have hmi := hm _ (getD_mem (d := ByteArray.empty) (show i < ms.length by omega))
    simp only [cadastrelaw19_LexMarks_l3, cadastrelaw19_LexMarks_l3_b]
    rw [decide_eq_true (by omega), cond_true, chk_pos (by omega)]
    simp only [Int.toNat_natCast]
    rw [tokens_eq k _ (by omega), hmi.1]
    simp only [cadastrelaw19_num, some_bind, bne_self_eq_false, cond_false]
    rw [chk_pos (by omega), eqt_refl k _ (by simp) (by simp; omega), some_bind, Bool.not_true, cond_false, lm_j8 k hk kret _ l ms i (by omega) hmi, w64n (by omega)]
    exact lm_l3 k hk kret kexit l ms hn hm d (i + 1) n (by omega) (by omega)
theorem lm_j17 {ρ : Type} (k : Nat) (hk : 9000 ≤ k) (kret : Bool → Option ρ) (knxt : List ByteArray → Int → Option ρ) (l : List ByteArray) (i : Nat) (hi : i < 3) : cadastrelaw19_LexMarks_j17 k kret knxt l i = knxt l ((i + 1 : Nat) : Int) := by
  unfold cadastrelaw19_LexMarks_j17
  have e39 : by' (⟨#[39]⟩ : ByteArray) = [39] := rfl
  have e1 : by' (strOfNums [IntKind.u8.wrap (IntKind.i64.wrap ((i : Int) + 1))]) = [UInt8.ofNat (i + 1)] := by
    rw [w64n (by omega)]
    show [UInt8.ofNat (IntKind.u8.wrap ((i + 1 : Nat) : Int)).toNat] = _
    rw [IntKind.wrap_u8]
    congr 2
    omega
  have t1 : toks ([39] ++ [UInt8.ofNat (i + 1)]) = ([], 1) := by
    have h0 : toks ([39] ++ [UInt8.ofNat (0 + 1)]) = ([], 1) := by kernel_rfl
    have h1 : toks ([39] ++ [UInt8.ofNat (1 + 1)]) = ([], 1) := by kernel_rfl
    have h2 : toks ([39] ++ [UInt8.ofNat (2 + 1)]) = ([], 1) := by kernel_rfl
    have : i = 0 ∨ i = 1 ∨ i = 2 := by omega
    rcases this with h | h | h <;> subst h
    · exact h0
    · exact h1
    · exact h2
  have t2 : toks (by' (⟨#[97, 32, 124, 32, 98]⟩ : ByteArray)) = ([], 1) := by kernel_rfl
  have t3 : toks (by' (⟨#[33]⟩ : ByteArray)) = ([], 1) := by kernel_rfl
  rw [chk_pos (fits (by rw [e39, e1]; simp))]
  simp only [tokens_eq k _ (show 8194 < k by omega), some_bind, by_cat, e39, e1, t1, t2, t3, cadastrelaw19_num, bne_self_eq_false, cond_false]
  rw [w64n (by omega)]
theorem lm_l15 (k : Nat) (hk : 9000 ≤ k) (l : List ByteArray) (kexit : Option Bool) (hx : kexit = some true) : ∀ (d i n : Nat), i + d = 3 → d < n → cadastrelaw19_LexMarks_l15 k some kexit n l i = some true
  | d, i, n + 1, hi, hlt => by
    simp only [cadastrelaw19_LexMarks_l15, cadastrelaw19_LexMarks_l15_b]
    by_cases h1 : i < l.length
    · rw [decide_eq_true (by omega), cond_true]
      by_cases h3 : i < 3
      · rw [decide_eq_true (by omega), cond_true, lm_j17 k hk _ _ l i h3]
        cases d with
        | zero => omega
        | succ d => exact lm_l15 k hk l kexit hx d (i + 1) n (by omega) (by omega)
      · rw [decide_eq_false (by omega), cond_false, hx]
    · rw [decide_eq_false (by omega), cond_false, hx]
theorem LexMarks_pure : ∀ l : List ByteArray, (l.length * 16 ≤ 140737488351232 ∧ l.length ≤ 9223372036854775807 ∧ ∀ y ∈ l, (y.size ≤ 140737488351232)) → ∃ k, cadastrelaw19_LexMarks k l = some true := by
  rintro l ⟨-, hn, -⟩
  refine ⟨9000, ?_⟩
  unfold cadastrelaw19_LexMarks
  refine Eq.trans (lm_l3 9000 (by omega) _ _ l _ (by simp) ?_ _ 0 9000 (Nat.zero_add _) (by simp)) ?_
  · intro m hm
    simp only [List.mem_cons, List.not_mem_nil, or_false] at hm
    rcases hm with rfl | rfl | rfl | rfl | rfl | rfl | rfl | rfl | rfl | rfl | rfl | rfl | rfl | rfl <;>
      exact ⟨by kernel_rfl, ⟨⟨5, ⟨#[40]⟩, 0⟩, ⟨5, ⟨#[41]⟩, 0⟩, by kernel_rfl⟩, by decide⟩
  · simp only [tokens_eq 9000 _ (show 8194 < 9000 by omega), some_bind]
    have e : toks (by' (⟨#[97, 33, 61, 98, 60, 99, 62, 100, 45, 49]⟩ : ByteArray)) = ([(⟨1, ⟨#[97]⟩, 0⟩ : S68), ⟨5, ⟨#[60, 62]⟩, 0⟩, ⟨1, ⟨#[98]⟩, 0⟩, ⟨5, ⟨#[60]⟩, 0⟩, ⟨1, ⟨#[99]⟩, 0⟩, ⟨5, ⟨#[62]⟩, 0⟩, ⟨1, ⟨#[100]⟩, 0⟩, ⟨5, ⟨#[45]⟩, 0⟩, ⟨2, ByteArray.empty, 1⟩], 0) := by kernel_rfl
    rw [e]
    simp only [cadastrelaw19_num, some_bind, bne_self_eq_false, cond_false]
    rw [show ((([(⟨1, ⟨#[97]⟩, 0⟩ : S68), ⟨5, ⟨#[60, 62]⟩, 0⟩, ⟨1, ⟨#[98]⟩, 0⟩, ⟨5, ⟨#[60]⟩, 0⟩, ⟨1, ⟨#[99]⟩, 0⟩, ⟨5, ⟨#[62]⟩, 0⟩, ⟨1, ⟨#[100]⟩, 0⟩, ⟨5, ⟨#[45]⟩, 0⟩, ⟨2, ByteArray.empty, 1⟩] : List S68).length : Int) != 9) = false from rfl, cond_false, chk_pos (by simp), chk_pos (by simp), chk_pos (by simp)]
    simp only [List.getD_cons_succ, List.getD_cons_zero, beq_self_eq_true, Bool.not_true, cond_false]
    unfold cadastrelaw19_LexMarks_j14
    exact lm_l15 9000 (by omega) l _ (by rw [wakes_eq _ (by omega)]; rfl) 3 0 9000 rfl (by omega)
end Go.Proofs.Ytekjibpkkgldgaa.X
