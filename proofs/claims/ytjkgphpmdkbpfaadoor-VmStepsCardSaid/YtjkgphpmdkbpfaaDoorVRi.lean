/-
  Layer 5: a text read as a number: what the page's own printed functions come to.
-/
import Derived.Test.YtjkgphpmdkbpfaaDoorVCi
namespace Go.Proofs.YtjkgphpmdkbpfaaDoor.V
open Go Go.AX

theorem rmul (k : Nat) (x y : Int) (hx : inr x = true) (hy : inr y = true) : ∃ p, cadastreref4_mul k x y = some (p, inr (x * y)) ∧ (inr (x * y) = true → p = x * y) := by
  have hx' := inr_iff.mp hx; have hy' := inr_iff.mp hy
  unfold cadastreref4_mul cadastreref4_mul_j3 cadastreref4_mul_j5
  simp only [big_eq, bif_ite, beq_iff_eq]
  by_cases h0 : x = 0
  · subst h0; exact ⟨0, by simp [inr], by simp⟩
  by_cases h1 : y = 0
  · subst h1; exact ⟨0, by simp [inr], by simp⟩
  have pf := prod_fits hx hy h1
  simp only [h0, h1, if_false]
  by_cases ha : x = -1 ∧ y = -9223372036854775808
  · obtain ⟨rfl, rfl⟩ := ha; exact ⟨0, rfl, by decide⟩
  by_cases hb : y = -1 ∧ x = -9223372036854775808
  · obtain ⟨rfl, rfl⟩ := hb; exact ⟨0, rfl, by decide⟩
  have pf := pf hb
  have e : ((IntKind.i64.wrap (Int.tdiv (IntKind.i64.wrap (x * y)) y)) == x) = inr (x * y) := by
    rw [Bool.eq_iff_iff, beq_iff_eq]; exact pf
  rw [e]
  refine ⟨IntKind.i64.wrap (x * y), ?_, fun h => w64i h⟩
  by_cases h2 : x = -1
  · have h3 : ¬ y = -9223372036854775808 := fun h => ha ⟨h2, h⟩
    simp only [h2, if_true, h3, if_false]
    by_cases h4 : y = -1
    · simp [h4]
    · simp only [h4, if_false]
  · simp only [h2, if_false]
    by_cases h4 : y = -1
    · have h5 : ¬ x = -9223372036854775808 := fun h => hb ⟨h4, h⟩
      simp only [h4, if_true, h5, if_false]
    · simp only [h4, if_false]
theorem rdo (k : Nat) (op x y : Int) (ho : op = 9 ∨ op = 12 ∨ op = 13) (hx : inr x = true) (hy : inr y = true) : cadastreref4_Do k op (vint x) (vint y) = some (if inr (opZ op x y) = true then (vint (opZ op x y), 0) else (vnull, 5)) := by
  have hx' := inr_iff.mp hx; have hy' := inr_iff.mp hy
  unfold cadastreref4_Do cadastreref4_Do_j3 cadastreref4_Do_j5 cadastreref4_Do_j28 vint
  simp only [bif_ite, beq_iff_eq, bne_iff_ne, ne_eq, show ¬ ((1 : Int) = 0) by decide, if_false, not_true]
  rcases ho with rfl | rfl | rfl
  · obtain ⟨p, hp, he⟩ := rmul k x y hx hy
    simp only [if_true, hp, some_bind, opZ]
    cases h : inr (x * y) with
    | true => rw [he h]; rfl
    | false => rfl
  · simp only [show ¬ ((12 : Int) = 9) by decide, if_false, if_true, opZ]
    have e : ((decide (y ≥ 0)) == (decide ((IntKind.i64.wrap (x + y)) ≥ x))) = inr (x + y) := by
      rw [Bool.eq_iff_iff, inr_iff, beq_iff_eq, Bool.eq_iff_iff, decide_eq_true_eq, decide_eq_true_eq, IntKind.wrap_i64]; omega
    rw [e]
    cases h : inr (x + y) with
    | true => rw [w64i h]; rfl
    | false => rfl
  · simp only [show ¬ ((13 : Int) = 9) by decide, show ¬ ((13 : Int) = 12) by decide, if_false, if_true, opZ]
    have e : ((decide (y ≥ 0)) == (decide ((IntKind.i64.wrap (x - y)) ≤ x))) = inr (x - y) := by
      rw [Bool.eq_iff_iff, inr_iff, beq_iff_eq, Bool.eq_iff_iff, decide_eq_true_eq, decide_eq_true_eq, IntKind.wrap_i64]; omega
    rw [e]
    cases h : inr (x - y) with
    | true => rw [w64i h]; rfl
    | false => rfl

section
variable {ρ : Type} (k : Nat) (kret : Int → Int → Option ρ)
end
end Go.Proofs.YtjkgphpmdkbpfaaDoor.V
