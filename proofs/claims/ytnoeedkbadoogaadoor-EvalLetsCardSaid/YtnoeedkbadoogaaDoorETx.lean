/-
  Layer 4: texts put together, their lengths and kinds: what the printed functions come to.
-/
import Derived.Test.YtnoeedkbadoogaaDoorESt
namespace Go.Proofs.YtnoeedkbadoogaaDoor.E
open Go Go.AX

noncomputable def concatS (a b : S23) : S23 × Int :=
  if a.f0 = 0 ∨ b.f0 = 0 then (vnull, 0) else if a.f0 = 3 ∨ b.f0 = 3 then (vnull, 4) else if 4096 < (textS a).f2.size + (textS b).f2.size then (vnull, 7) else (vtxt (cat (textS a).f2 (textS b).f2), 0)
theorem cat_size (a b : ByteArray) : (cat a b).size = a.size + b.size := by rw [cat_eq]; exact ByteArray.size_append
theorem textS_size {v : S23} (hv : inr v.f1 = true) (h : good v = true) : (textS v).f2.size ≤ 4096 := by
  have := dtxt_size _ hv
  rcases gcases h with rfl | ⟨n, rfl⟩ | ⟨s, rfl, hs⟩ | ⟨s, rfl, hs⟩
  · decide
  · show (dtxt n).size ≤ 4096
    have : (dtxt n).size ≤ 21 := this
    omega
  · exact hs
  · exact hs
theorem textS_pos {v : S23} (h : good v = true) (h0 : v.f0 ≠ 0) : (textS v).f0 ≠ 0 := by
  unfold textS; split
  · exact (by decide : (2 : Int) ≠ 0)
  · exact h0
theorem concat_eq (k : Nat) (a b : S23) (hk : 3 ≤ k) (ha : inr a.f1 = true) (hb : inr b.f1 = true) : arith_Concat k a b = some (if good a = true ∧ good b = true then concatS a b else (vnull, 1)) := by
  unfold arith_Concat
  rw [all_eq k [a, b] (by simp) (by simp; omega), some_bind]
  simp only [List.all_cons, List.all_nil, Bool.and_true]
  cases ga : good a with
  | false => rfl
  | true =>
    cases gb : good b with
    | false => rfl
    | true =>
      rw [if_pos ⟨rfl, rfl⟩]
      unfold arith_Concat_j5 arith_Concat_j7 concatS
      dsimp only
      rw [text_eq k a ha, text_eq k b hb, ga, gb, if_pos rfl, if_pos rfl, some_bind, some_bind]
      simp only [Bool.and_self, Bool.not_true, bif_ite, Bool.false_eq_true, if_false, beq_iff_eq, big_eq, decide_eq_true_eq]
      have sa := textS_size ha ga
      have sb := textS_size hb gb
      by_cases h0 : a.f0 = 0
      · simp only [h0, if_true, true_or]; rfl
      by_cases h1 : b.f0 = 0
      · simp only [h0, h1, if_true, if_false, or_true]; rfl
      by_cases h2 : a.f0 = 3
      · simp only [h2, if_true, true_or, show ¬ ((3 : Int) = 0) by decide, h1, if_false, or_self]; rfl
      by_cases h3 : b.f0 = 3
      · simp only [h0, h2, h3, if_true, if_false, or_true, show ¬ ((3 : Int) = 0) by decide, or_self]; rfl
      simp only [h0, h1, h2, h3, if_false, or_self]
      rw [w64 (by omega) (by omega)]
      by_cases hz : 4096 < (textS a).f2.size + (textS b).f2.size
      · rw [if_pos (by omega), if_pos hz]; rfl
      · rw [if_neg (by omega), if_neg hz, chk_pos (by rw [strFits_eq]; omega)]; rfl
def lenS (v : S23) : S23 := if v.f0 = 0 then vnull else vint ((textS v).f2.size : Int)
theorem length_eq (k : Nat) (v : S23) (hv : inr v.f1 = true) : arith_Length k v = some (if good v = true then (lenS v, 0) else (vnull, 1)) := by
  unfold arith_Length
  rw [text_eq k v hv, some_bind]
  cases hg : good v with
  | false => rfl
  | true =>
    rw [if_pos rfl, if_pos rfl]
    unfold lenS
    by_cases h0 : v.f0 = 0
    · have e : textS v = v := by unfold textS; rw [if_neg (by omega)]
      rw [if_pos h0, e]
      show (bif v.f0 == 0 then some (vnull, 0) else _) = _
      rw [h0]; rfl
    · rw [if_neg h0]
      show (bif (textS v).f0 == 0 then some (vnull, 0) else _) = _
      rw [show ((textS v).f0 == 0) = false by rw [beq_eq_false_iff_ne]; exact textS_pos hg h0]; rfl
def kindS (v : S23) : S23 := vtxt (if v.f0 = 0 then ⟨#[110, 117, 108, 108]⟩ else if v.f0 = 1 then ⟨#[105, 110, 116, 101, 103, 101, 114]⟩ else if v.f0 = 2 then ⟨#[116, 101, 120, 116]⟩ else ⟨#[98, 108, 111, 98]⟩)
theorem typeof_eq (k : Nat) (v : S23) : arith_Typeof k v = some (if good v = true then (kindS v, 0) else (vnull, 1)) := by
  unfold arith_Typeof
  rw [good_eq, some_bind]
  cases hg : good v with
  | false => rfl
  | true => rcases gcases hg with rfl | ⟨n, rfl⟩ | ⟨s, rfl, hs⟩ | ⟨s, rfl, hs⟩ <;> rfl
end Go.Proofs.YtnoeedkbadoogaaDoor.E
