/-
  Layer 2: values: what the printed functions come to.
  Layer 4: reckoning: what the printed functions come to.
-/
import Derived.Test.YtnoeedkbadoogaaDoorEF
import Derived.Test.YtnoeedkbadoogaaDoorAxLib
namespace Go.Proofs.YtnoeedkbadoogaaDoor.E
open Go Go.AX
/-- Is this a value? -/
def good (v : S23) : Bool :=
  if v.f0 = 0 then decide (v.f1 = 0) && decide (v.f2.size = 0) else if v.f0 = 1 then decide (v.f2.size = 0) else if v.f0 = 2 ∨ v.f0 = 3 then decide (v.f1 = 0) && decide (v.f2.size ≤ 4096) else false
theorem good_eq (k : Nat) (v : S23) : value_Good k v = some (good v) := by
  unfold value_Good value_Good_j8 good
  simp only [bif_ite, beq_bytes, size_empty_iff, beq_iff_eq, big_eq]
  by_cases h0 : v.f0 = 0
  · simp [h0]; rfl
  by_cases h1 : v.f0 = 1
  · simp [h1]
  by_cases h2 : v.f0 = 2
  · by_cases hn : v.f1 = 0 <;> simp [h2, hn]; omega
  by_cases h3 : v.f0 = 3
  · by_cases hn : v.f1 = 0 <;> simp [h3, hn]; omega
  · simp [h0, h1, h2, h3]
theorem all_j2 {ρ : Type} (k : Nat) (kret : Bool → Option ρ) (kg : List S23 → Int → Option ρ) (l : List S23) (i : Nat) (hi : i < l.length) (hn : l.length ≤ 9223372036854775807) :
    value_All_j2 k kret kg l i = if good (l.getD i default) = true then kg l ((i + 1 : Nat) : Int) else kret false := by
  unfold value_All_j2
  rw [show (((i : Int) == (l.length : Int)) = false) by simp; omega]
  rw [cond_false, chk_pos (by omega), good_eq, some_bind, bif_ite, w64n (by omega)]
  rfl
theorem all_j2_end {ρ : Type} (k : Nat) (kret : Bool → Option ρ) (kg : List S23 → Int → Option ρ) (l : List S23) : value_All_j2 k kret kg l l.length = kret true := by
  unfold value_All_j2
  simp
theorem all_loop {ρ : Type} (k : Nat) (kret : Bool → Option ρ) (l : List S23) (hn : l.length ≤ 9223372036854775807) : ∀ (d i n : Nat), i + d = l.length → d < n → value_All_g0 k kret n l i = kret ((l.drop i).all good)
  | 0, i, n + 1, hi, _ => by
    obtain rfl : i = l.length := by omega
    simp only [value_All_g0, value_All_g0_b, all_j2_end]
    simp
  | d + 1, i, n + 1, hi, hlt => by
    simp only [value_All_g0, value_All_g0_b]
    rw [all_j2 _ _ _ _ _ (by omega) hn, List.drop_eq_getElem_cons (by omega), List.all_cons, getD_get l i _ (by omega)]
    rw [all_loop k kret l hn d (i + 1) n (by omega) (by omega)]
    cases good l[i] <;> simp
theorem all_eq (k : Nat) (l : List S23) (hn : l.length ≤ 9223372036854775807) (hk : l.length < k) : value_All k l = some (l.all good) := by
  unfold value_All
  by_cases h0 : l.length = 0
  · have : l = [] := List.length_eq_zero_iff.mp h0
    subst this
    exact all_j2_end k _ _ []
  · have := all_j2 k (fun t => some t) (fun l i => value_All_g0 k (fun t => some t) k l i) l 0 (by omega) hn
    refine Eq.trans this ?_
    rw [all_loop k _ l hn (l.length - 1) 1 k (by omega) (by omega)]
    cases l with
    | nil => simp at h0
    | cons a r => cases h : good a <;> simp [h]
def vnull : S23 := ⟨0, 0, ByteArray.empty⟩
def vint (n : Int) : S23 := ⟨1, n, ByteArray.empty⟩
theorem good1 {a : S23} (h : good a = true) (ha : a.f0 = 1) : a = vint a.f1 := by
  unfold good at h
  simp only [ha, show ¬ ((1 : Int) = 0) by decide, if_false, if_true, decide_eq_true_eq] at h
  cases a
  simp only at ha h
  subst ha
  rw [empty_of_size h]; rfl
theorem good_vint (n : Int) : good (vint n) = true := by simp [good, vint]
theorem same_false (a : S23) : (!((a.f0 == a.f0) && ((a.f1 == a.f1) && (a.f2 == a.f2)))) = false := by simp
theorem same_iff (a b : S23) : ((a.f0 == b.f0) && ((a.f1 == b.f1) && (a.f2 == b.f2))) = true ↔ a = b := by
  cases a; cases b; simp [beq_iff_eq]
theorem isnull_iff (a : S23) : ((a.f0 == 0) && ((a.f1 == 0) && (a.f2 == ByteArray.empty))) = true ↔ a = vnull := same_iff a vnull
end Go.Proofs.YtnoeedkbadoogaaDoor.E
namespace Go.Proofs.YtnoeedkbadoogaaDoor.E
open Go Go.AX
/-- Is it a number of 64 bits? -/
def inr (z : Int) : Bool := decide (-9223372036854775808 ≤ z) && decide (z < 9223372036854775808)
theorem inr_iff {z : Int} : inr z = true ↔ -9223372036854775808 ≤ z ∧ z < 9223372036854775808 := by simp [inr]
theorem inr_not {z : Int} : inr z = false ↔ ¬ (-9223372036854775808 ≤ z ∧ z < 9223372036854775808) := by
  rw [← inr_iff]; cases inr z <;> simp
theorem w64i {x : Int} (h : inr x = true) : IntKind.i64.wrap x = x := by have := inr_iff.mp h; exact w64 this.1 this.2
theorem quot_in {p y : Int} (hp : inr p = true) (y0 : y ≠ 0) (y1 : y ≠ -1) : inr (Int.tdiv p y) = true := by
  have hp := inr_iff.mp hp
  have e := Int.natAbs_tdiv p y
  have e2 : (p.natAbs.div y.natAbs) = p.natAbs / y.natAbs := rfl
  rw [e2] at e
  apply inr_iff.mpr
  by_cases h1 : y = 1
  · subst h1; simpa using hp
  have : p.natAbs / y.natAbs ≤ p.natAbs / 2 := Nat.div_le_div_left (by omega) (by omega)
  omega
theorem prod_fits {x y : Int} (hx : inr x = true) (hy : inr y = true) (y0 : y ≠ 0) (h1 : ¬ (y = -1 ∧ x = -9223372036854775808)) :
    (IntKind.i64.wrap (Int.tdiv (IntKind.i64.wrap (x * y)) y) = x) ↔ inr (x * y) = true := by
  have hx' := inr_iff.mp hx; have hy' := inr_iff.mp hy
  by_cases ym : y = -1
  · subst ym
    have e : x * -1 = -x := by omega
    have hr : inr (-x) = true := inr_iff.mpr (by omega)
    rw [e, w64i hr, Int.tdiv_neg, Int.tdiv_one, Int.neg_neg, w64i hx]
    simp [hr]
  have hp : inr (IntKind.i64.wrap (x * y)) = true := inr_iff.mpr (by rw [IntKind.wrap_i64]; omega)
  rw [w64i (quot_in hp y0 ym)]
  constructor
  · intro h
    have e := Int.tmod_add_mul_tdiv (IntKind.i64.wrap (x * y)) y
    rw [h] at e
    have b := Int.natAbs_tmod (IntKind.i64.wrap (x * y)) y
    have b2 : (IntKind.i64.wrap (x * y)).natAbs % y.natAbs < y.natAbs := Nat.mod_lt _ (by omega)
    rw [← b] at b2
    have e3 : y * x = x * y := Int.mul_comm _ _
    rw [e3] at e
    have hp' := inr_iff.mp hp
    rw [IntKind.wrap_i64] at *
    generalize (((x * y + 9223372036854775808) % 18446744073709551616 - 9223372036854775808)).tmod y = t at *
    generalize x * y = P at *
    apply inr_iff.mpr
    omega
  · intro h
    rw [w64i h, Int.mul_tdiv_cancel _ y0]
theorem tmod_in {x y : Int} (hx : inr x = true) : inr (Int.tmod x y) = true := by
  have hx' := inr_iff.mp hx
  have b := Int.natAbs_tmod x y
  have b2 : x.natAbs % y.natAbs ≤ x.natAbs := Nat.mod_le _ _
  apply inr_iff.mpr
  by_cases h : x = -9223372036854775808
  · subst h
    have s : Int.tmod (-9223372036854775808) y = - Int.tmod 9223372036854775808 y := Int.neg_tmod 9223372036854775808 y
    have t : 0 ≤ Int.tmod 9223372036854775808 y := Int.tmod_nonneg _ (by omega)
    omega
  · omega

/-- What an operation comes to, of two numbers. -/
def opZ (op x y : Int) : Int := if op = 9 then x * y else if op = 12 then x + y else if op = 13 then x - y else if op = 10 then Int.tdiv x y else Int.tmod x y
/-- An operation of two values. -/
def doS (op : Int) (a b : S23) : S23 × Int :=
  if a.f0 = 0 ∨ b.f0 = 0 then (vnull, 0) else if a.f0 = 1 ∧ b.f0 = 1 then (if (op = 10 ∨ op = 11) ∧ b.f1 = 0 then (vnull, 0) else if inr (opZ op a.f1 b.f1) = true then (vint (opZ op a.f1 b.f1), 0) else (vnull, 5)) else (vnull, 4)
def okop (op : Int) : Prop := op = 9 ∨ op = 10 ∨ op = 11 ∨ op = 12 ∨ op = 13

theorem reckon_eq (k : Nat) (op x y : Int) (ho : okop op) (hx : inr x = true) (hy : inr y = true) (hz : op = 10 ∨ op = 11 → y ≠ 0) : arith_reckon k op x y = some (if inr (opZ op x y) = true then (opZ op x y, 0) else (0, 5)) := by
  have hx' := inr_iff.mp hx; have hy' := inr_iff.mp hy
  unfold arith_reckon arith_reckon_j18 arith_reckon_j13
  simp only [big_eq, bif_ite, beq_iff_eq, bne_iff_ne, decide_eq_true_eq]
  rcases ho with rfl | rfl | rfl | rfl | rfl
  · simp only [show ¬ ((9 : Int) = 12) by decide, show ¬ ((9 : Int) = 13) by decide, if_false, if_true, opZ]
    by_cases h0 : x = 0
    · subst h0; simp [inr]
    by_cases h1 : y = 0
    · subst h1; simp [inr]
    have pf := prod_fits hx hy h1
    simp only [h0, h1, if_false]
    by_cases hm : y = -1 ∧ x = -9223372036854775808
    · obtain ⟨rfl, rfl⟩ := hm; decide
    · have pf := pf hm
      by_cases hr : inr (x * y) = true
      · have e := pf.mpr hr
        rw [if_pos hr, w64i hr] at *
        simp only [e, ne_eq, not_true, if_false]
        by_cases h2 : x = -1
        · by_cases h3 : y = -9223372036854775808
          · subst h2; subst h3; simp [inr] at hr
          · simp only [h2, if_true, h3, if_false]
            by_cases h4 : y = -1 <;> simp [h4]
        · simp only [h2, if_false]
          by_cases h4 : y = -1
          · simp only [h4, if_true]
            rw [if_neg (fun h => hm ⟨h4, h⟩)]
          · simp only [h4, if_false]
      · have e : ¬ (IntKind.i64.wrap (Int.tdiv (IntKind.i64.wrap (x * y)) y) = x) := fun h => hr (pf.mp h)
        rw [if_neg hr]
        simp only [ne_eq, e, not_false_eq_true, if_true, ite_self]
  · have hy0 := hz (.inl rfl)
    simp only [show ¬ ((10 : Int) = 12) by decide, show ¬ ((10 : Int) = 13) by decide, show ¬ ((10 : Int) = 9) by decide, if_false, if_true, opZ, hy0]
    by_cases h1 : y = -1
    · subst h1
      by_cases h2 : x = -9223372036854775808
      · subst h2; decide
      · have hr : inr (-x) = true := inr_iff.mpr (by omega)
        simp only [h2, if_false, if_true, Int.tdiv_neg, Int.tdiv_one, hr, w64i hr]
    · simp only [h1, if_false, ite_self, quot_in hx hy0 h1, if_true, w64i (quot_in hx hy0 h1)]
  · have hy0 := hz (.inr rfl)
    simp only [show ¬ ((11 : Int) = 12) by decide, show ¬ ((11 : Int) = 13) by decide, show ¬ ((11 : Int) = 9) by decide, show ¬ ((11 : Int) = 10) by decide, if_false, opZ, hy0, tmod_in hx, if_true]
    by_cases h1 : y = -1
    · subst h1; simp
    · simp [h1]
  · simp only [if_true, opZ, show ¬ ((12 : Int) = 9) by decide, if_false]
    simp only [IntKind.wrap_i64]
    by_cases hr : inr (x + y) = true
    · have hr' := inr_iff.mp hr
      rw [if_pos hr]
      repeat' split
      all_goals (first | omega | (simp only [Option.some.injEq, Prod.mk.injEq, and_true]; omega))
    · have hr' : ¬ (-9223372036854775808 ≤ x + y ∧ x + y < 9223372036854775808) := fun h => hr (inr_iff.mpr h)
      rw [if_neg hr]
      repeat' split
      all_goals (first | rfl | (exfalso; omega))
  · simp only [if_true, opZ, show ¬ ((13 : Int) = 9) by decide, show ¬ ((13 : Int) = 12) by decide, if_false]
    simp only [IntKind.wrap_i64]
    by_cases hr : inr (x - y) = true
    · have hr' := inr_iff.mp hr
      rw [if_pos hr]
      repeat' split
      all_goals (first | omega | (simp only [Option.some.injEq, Prod.mk.injEq, and_true]; omega))
    · have hr' : ¬ (-9223372036854775808 ≤ x - y ∧ x - y < 9223372036854775808) := fun h => hr (inr_iff.mpr h)
      rw [if_neg hr]
      repeat' split
      all_goals (first | rfl | (exfalso; omega))

theorem do_eq (k : Nat) (op : Int) (a b : S23) (hk : 3 ≤ k) (ho : okop op) (ga : good a = true) (gb : good b = true) (ha : inr a.f1 = true) (hb : inr b.f1 = true) : arith_Do k op a b = some (doS op a b) := by
  unfold arith_Do
  have h9 : ¬ (op < 9) := by rcases ho with h | h | h | h | h <;> omega
  have h13 : ¬ (op > 13) := by rcases ho with h | h | h | h | h <;> omega
  rw [all_eq k [a, b] (by simp) (by simp; omega)]
  simp only [bif_ite, decide_eq_true_eq, h9, h13, if_false, some_bind, List.all_cons, List.all_nil, ga, gb, Bool.and_true, Bool.not_true, Bool.false_eq_true]
  unfold arith_Do_j3 doS
  simp only [bif_ite, beq_iff_eq]
  by_cases a0 : a.f0 = 0
  · simp only [a0, if_true, true_or]; rfl
  by_cases b0 : b.f0 = 0
  · simp only [a0, b0, if_true, if_false, or_true]; rfl
  simp only [a0, b0, if_false, or_self]
  unfold arith_Do_j5
  simp only [bif_ite, bne_iff_ne, ne_eq]
  by_cases a1 : a.f0 = 1
  case neg => simp only [a1, not_false_eq_true, if_true, false_and, if_false]; rfl
  by_cases b1 : b.f0 = 1
  case neg => simp only [a1, b1, not_true, not_false_eq_true, if_true, and_false, if_false]; rfl
  simp only [a1, b1, not_true, if_false, and_self, if_true]
  have last : ∀ t : S23, (op = 10 ∨ op = 11 → b.f1 ≠ 0) → arith_Do_j9 k (fun (t7 : Int) (t6 : S23) => some (t6, t7)) op a b t = some (if inr (opZ op a.f1 b.f1) = true then (vint (opZ op a.f1 b.f1), 0) else (vnull, 5)) := by
    intro t hz
    unfold arith_Do_j9
    rw [reckon_eq k op _ _ ho ha hb hz, some_bind]
    by_cases hr : inr (opZ op a.f1 b.f1) = true
    · simp only [hr, if_true, value_Int]; rfl
    · simp only [hr, if_false]; rfl
  unfold arith_Do_j7
  simp only [bif_ite, beq_iff_eq]
  by_cases h10 : op = 10
  · by_cases hb0 : b.f1 = 0
    · simp only [h10, hb0, if_true, true_or, and_self]; rfl
    · simp only [h10, if_true, hb0, if_false, and_false]
      have := last (⟨0, 0, ByteArray.empty⟩) (fun _ => hb0)
      rw [h10] at this; exact this
  by_cases h11 : op = 11
  · by_cases hb0 : b.f1 = 0
    · simp only [h11, hb0, if_true, or_true, and_self, show ¬ ((11 : Int) = 10) by decide, if_false]; rfl
    · simp only [h11, if_true, hb0, if_false, and_false, show ¬ ((11 : Int) = 10) by decide]
      have := last (⟨0, 0, ByteArray.empty⟩) (fun _ => hb0)
      rw [h11] at this; exact this
  simp only [h10, h11, if_false, or_self, false_and]
  exact last _ (fun h => by omega)
end Go.Proofs.YtnoeedkbadoogaaDoor.E
