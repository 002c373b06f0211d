/-
  Layer 2: values: what the printed functions come to.
-/
import Derived.Test.YtjkgphpmdkbpfaaDoorVF
import Derived.Test.YtjkgphpmdkbpfaaDoorAxLib
namespace Go.Proofs.YtjkgphpmdkbpfaaDoor.V
open Go Go.AX
/-- Is this a value? -/
def good (v : S29) : Bool :=
  if v.f0 = 0 then decide (v.f1 = 0) && decide (v.f2.size = 0) else if v.f0 = 1 then decide (v.f2.size = 0) else if v.f0 = 2 ∨ v.f0 = 3 then decide (v.f1 = 0) && decide (v.f2.size ≤ 4096) else false
theorem good_eq (k : Nat) (v : S29) : value_Good k v = some (good v) := by
  unfold value_Good value_Good_j8 good
  simp only [bif_ite, beq_bytes, size_empty_iff, beq_iff_eq, big_eq]
  by_cases h0 : v.f0 = 0
  · simp [h0]; rfl
  by_cases h1 : v.f0 = 1
  · simp [h1]
  by_cases h2 : v.f0 = 2
  · by_cases hn : v.f1 = 0 <;> simp [h2, hn]; omega
  by_cases h3 : v.f0 = 3
  · by_cases hn : v.f1 = 0 <;> simp [h3, hn]; omega
  · simp [h0, h1, h2, h3]
theorem may_eq (k : Nat) (v : S29) : cadastreref2_May k v = some (good v) := good_eq k v
theorem all_j2 {ρ : Type} (k : Nat) (kret : Bool → Option ρ) (kg : List S29 → Int → Option ρ) (l : List S29) (i : Nat) (hi : i < l.length) (hn : l.length ≤ 9223372036854775807) :
    value_All_j2 k kret kg l i = if good (l.getD i default) = true then kg l ((i + 1 : Nat) : Int) else kret false := by
  unfold value_All_j2
  rw [show (((i : Int) == (l.length : Int)) = false) by simp; omega]
  rw [cond_false, chk_pos (by omega), good_eq, some_bind, bif_ite, w64n (by omega)]
  rfl
theorem all_j2_end {ρ : Type} (k : Nat) (kret : Bool → Option ρ) (kg : List S29 → Int → Option ρ) (l : List S29) : value_All_j2 k kret kg l l.length = kret true := by
  unfold value_All_j2
  simp
theorem all_loop {ρ : Type} (k : Nat) (kret : Bool → Option ρ) (l : List S29) (hn : l.length ≤ 9223372036854775807) : ∀ (d i n : Nat), i + d = l.length → d < n → value_All_g0 k kret n l i = kret ((l.drop i).all good)
  | 0, i, n + 1, hi, _ => by
    obtain rfl : i = l.length := by omega
    simp only [value_All_g0, value_All_g0_b, all_j2_end]
    simp
  | d + 1, i, n + 1, hi, hlt => by
    simp only [value_All_g0, value_All_g0_b]
    rw [all_j2 _ _ _ _ _ (by omega) hn, List.drop_eq_getElem_cons (by omega), List.all_cons, getD_get l i _ (by omega)]
    rw [all_loop k kret l hn d (i + 1) n (by omega) (by omega)]
    cases good l[i] <;> simp
theorem all_eq (k : Nat) (l : List S29) (hn : l.length ≤ 9223372036854775807) (hk : l.length < k) : value_All k l = some (l.all good) := by
  unfold value_All
  by_cases h0 : l.length = 0
  · have : l = [] := List.length_eq_zero_iff.mp h0
    subst this
    exact all_j2_end k _ _ []
  · have := all_j2 k (fun t => some t) (fun l i => value_All_g0 k (fun t => some t) k l i) l 0 (by omega) hn
    refine Eq.trans this ?_
    rw [all_loop k _ l hn (l.length - 1) 1 k (by omega) (by omega)]
    cases l with
    | nil => simp at h0
    | cons a r => cases h : good a <;> simp [h]
def vnull : S29 := ⟨0, 0, ByteArray.empty⟩
def vint (n : Int) : S29 := ⟨1, n, ByteArray.empty⟩
theorem good1 {a : S29} (h : good a = true) (ha : a.f0 = 1) : a = vint a.f1 := by
  unfold good at h
  simp only [ha, show ¬ ((1 : Int) = 0) by decide, if_false, if_true, decide_eq_true_eq] at h
  cases a
  simp only at ha h
  subst ha
  rw [empty_of_size h]; rfl
theorem good_vint (n : Int) : good (vint n) = true := by simp [good, vint]
theorem same_false (a : S29) : (!((a.f0 == a.f0) && ((a.f1 == a.f1) && (a.f2 == a.f2)))) = false := by simp
theorem same_iff (a b : S29) : ((a.f0 == b.f0) && ((a.f1 == b.f1) && (a.f2 == b.f2))) = true ↔ a = b := by
  cases a; cases b; simp [beq_iff_eq]
theorem isnull_iff (a : S29) : ((a.f0 == 0) && ((a.f1 == 0) && (a.f2 == ByteArray.empty))) = true ↔ a = vnull := same_iff a vnull
end Go.Proofs.YtjkgphpmdkbpfaaDoor.V
