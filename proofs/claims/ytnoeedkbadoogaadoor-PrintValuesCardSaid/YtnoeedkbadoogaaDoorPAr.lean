/-
  Layer 2: values: what the printed functions come to.
  Layer 4: reckoning: what the printed functions come to.
-/
import Derived.Test.YtnoeedkbadoogaaDoorPF
import Derived.Test.YtnoeedkbadoogaaDoorAxLib
namespace Go.Proofs.YtnoeedkbadoogaaDoor.P
open Go Go.AX
/-- Is this a value? -/
def good (v : S23) : Bool :=
  if v.f0 = 0 then decide (v.f1 = 0) && decide (v.f2.size = 0) else if v.f0 = 1 then decide (v.f2.size = 0) else if v.f0 = 2 ∨ v.f0 = 3 then decide (v.f1 = 0) && decide (v.f2.size ≤ 4096) else false
theorem good_eq (k : Nat) (v : S23) : value_Good k v = some (good v) := by
  unfold value_Good value_Good_j8 good
  simp only [bif_ite, beq_bytes, size_empty_iff, beq_iff_eq, big_eq]
  by_cases h0 : v.f0 = 0
  · simp [h0]; rfl
  by_cases h1 : v.f0 = 1
  · simp [h1]
  by_cases h2 : v.f0 = 2
  · by_cases hn : v.f1 = 0 <;> simp [h2, hn]; omega
  by_cases h3 : v.f0 = 3
  · by_cases hn : v.f1 = 0 <;> simp [h3, hn]; omega
  · simp [h0, h1, h2, h3]
theorem may_eq (k : Nat) (v : S23) : cadastreref2_May k v = some (good v) := good_eq k v
def vnull : S23 := ⟨0, 0, ByteArray.empty⟩
def vint (n : Int) : S23 := ⟨1, n, ByteArray.empty⟩
theorem good1 {a : S23} (h : good a = true) (ha : a.f0 = 1) : a = vint a.f1 := by
  unfold good at h
  simp only [ha, show ¬ ((1 : Int) = 0) by decide, if_false, if_true, decide_eq_true_eq] at h
  cases a
  simp only at ha h
  subst ha
  rw [empty_of_size h]; rfl
theorem good_vint (n : Int) : good (vint n) = true := by simp [good, vint]
theorem same_false (a : S23) : (!((a.f0 == a.f0) && ((a.f1 == a.f1) && (a.f2 == a.f2)))) = false := by simp
theorem same_iff (a b : S23) : ((a.f0 == b.f0) && ((a.f1 == b.f1) && (a.f2 == b.f2))) = true ↔ a = b := by
  cases a; cases b; simp [beq_iff_eq]
theorem isnull_iff (a : S23) : ((a.f0 == 0) && ((a.f1 == 0) && (a.f2 == ByteArray.empty))) = true ↔ a = vnull := same_iff a vnull
end Go.Proofs.YtnoeedkbadoogaaDoor.P
namespace Go.Proofs.YtnoeedkbadoogaaDoor.P
open Go Go.AX
/-- Is it a number of 64 bits? -/
def inr (z : Int) : Bool := decide (-9223372036854775808 ≤ z) && decide (z < 9223372036854775808)
theorem inr_iff {z : Int} : inr z = true ↔ -9223372036854775808 ≤ z ∧ z < 9223372036854775808 := by simp [inr]
theorem inr_not {z : Int} : inr z = false ↔ ¬ (-9223372036854775808 ≤ z ∧ z < 9223372036854775808) := by
  rw [← inr_iff]; cases inr z <;> simp
theorem w64i {x : Int} (h : inr x = true) : IntKind.i64.wrap x = x := by have := inr_iff.mp h; exact w64 this.1 this.2
theorem quot_in {p y : Int} (hp : inr p = true) (y0 : y ≠ 0) (y1 : y ≠ -1) : inr (Int.tdiv p y) = true := by
  have hp := inr_iff.mp hp
  have e := Int.natAbs_tdiv p y
  have e2 : (p.natAbs.div y.natAbs) = p.natAbs / y.natAbs := rfl
  rw [e2] at e
  apply inr_iff.mpr
  by_cases h1 : y = 1
  · subst h1; simpa using hp
  have : p.natAbs / y.natAbs ≤ p.natAbs / 2 := Nat.div_le_div_left (by omega) (by omega)
  omega
theorem prod_fits {x y : Int} (hx : inr x = true) (hy : inr y = true) (y0 : y ≠ 0) (h1 : ¬ (y = -1 ∧ x = -9223372036854775808)) :
    (IntKind.i64.wrap (Int.tdiv (IntKind.i64.wrap (x * y)) y) = x) ↔ inr (x * y) = true := by
  have hx' := inr_iff.mp hx; have hy' := inr_iff.mp hy
  by_cases ym : y = -1
  · subst ym
    have e : x * -1 = -x := by omega
    have hr : inr (-x) = true := inr_iff.mpr (by omega)
    rw [e, w64i hr, Int.tdiv_neg, Int.tdiv_one, Int.neg_neg, w64i hx]
    simp [hr]
  have hp : inr (IntKind.i64.wrap (x * y)) = true := inr_iff.mpr (by rw [IntKind.wrap_i64]; omega)
  rw [w64i (quot_in hp y0 ym)]
  constructor
  · intro h
    have e := Int.tmod_add_mul_tdiv (IntKind.i64.wrap (x * y)) y
    rw [h] at e
    have b := Int.natAbs_tmod (IntKind.i64.wrap (x * y)) y
    have b2 : (IntKind.i64.wrap (x * y)).natAbs % y.natAbs < y.natAbs := Nat.mod_lt _ (by omega)
    rw [← b] at b2
    have e3 : y * x = x * y := Int.mul_comm _ _
    rw [e3] at e
    have hp' := inr_iff.mp hp
    rw [IntKind.wrap_i64] at *
    generalize (((x * y + 9223372036854775808) % 18446744073709551616 - 9223372036854775808)).tmod y = t at *
    generalize x * y = P at *
    apply inr_iff.mpr
    omega
  · intro h
    rw [w64i h, Int.mul_tdiv_cancel _ y0]
theorem tmod_in {x y : Int} (hx : inr x = true) : inr (Int.tmod x y) = true := by
  have hx' := inr_iff.mp hx
  have b := Int.natAbs_tmod x y
  have b2 : x.natAbs % y.natAbs ≤ x.natAbs := Nat.mod_le _ _
  apply inr_iff.mpr
  by_cases h : x = -9223372036854775808
  · subst h
    have s : Int.tmod (-9223372036854775808) y = - Int.tmod 9223372036854775808 y := Int.neg_tmod 9223372036854775808 y
    have t : 0 ≤ Int.tmod 9223372036854775808 y := Int.tmod_nonneg _ (by omega)
    omega
  · omega

/-- What an operation comes to, of two numbers. -/
def opZ (op x y : Int) : Int := if op = 9 then x * y else if op = 12 then x + y else if op = 13 then x - y else if op = 10 then Int.tdiv x y else Int.tmod x y
/-- An operation of two values. -/
def doS (op : Int) (a b : S23) : S23 × Int :=
  if a.f0 = 0 ∨ b.f0 = 0 then (vnull, 0) else if a.f0 = 1 ∧ b.f0 = 1 then (if (op = 10 ∨ op = 11) ∧ b.f1 = 0 then (vnull, 0) else if inr (opZ op a.f1 b.f1) = true then (vint (opZ op a.f1 b.f1), 0) else (vnull, 5)) else (vnull, 4)
def okop (op : Int) : Prop := op = 9 ∨ op = 10 ∨ op = 11 ∨ op = 12 ∨ op = 13

end Go.Proofs.YtnoeedkbadoogaaDoor.P
