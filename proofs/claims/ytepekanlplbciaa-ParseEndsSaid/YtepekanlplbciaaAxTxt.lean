/-
  Rows of bytes: which one is the lesser one.
-/
import Derived.Test.YtepekanlplbciaaAxLib
namespace Go.AX
open Go
/-! ### texts -/
/-- Two rows of bytes: which one is the lesser one. -/
def tcmp : List UInt8 → List UInt8 → Int
  | [], [] => 0
  | [], _ :: _ => -1
  | _ :: _, [] => 1
  | a :: x, b :: y => if a < b then -1 else if b < a then 1 else tcmp x y
def sgn (a b : Int) : Int := if a < b then -1 else if b < a then 1 else 0

theorem tcmp_refl : ∀ x, tcmp x x = 0
  | [] => rfl
  | a :: x => by simp [tcmp, UInt8.lt_irrefl, tcmp_refl x]
theorem u8_tri (a b : UInt8) : a < b ∨ a = b ∨ b < a := by
  rcases Nat.lt_trichotomy a.toNat b.toNat with h | h | h
  · exact .inl (UInt8.lt_iff_toNat_lt.2 h)
  · exact .inr (.inl (UInt8.toNat_inj.1 h))
  · exact .inr (.inr (UInt8.lt_iff_toNat_lt.2 h))
theorem u8_asymm {a b : UInt8} (h : a < b) : ¬ b < a := fun h' => by
  have h1 := UInt8.lt_iff_toNat_lt.1 h; have h2 := UInt8.lt_iff_toNat_lt.1 h'; omega
theorem tcmp_cases : ∀ x y, tcmp x y = -1 ∨ tcmp x y = 0 ∨ tcmp x y = 1
  | [], [] => .inr (.inl rfl)
  | [], _ :: _ => .inl rfl
  | _ :: _, [] => .inr (.inr rfl)
  | a :: x, b :: y => by
    simp only [tcmp]
    split
    · exact .inl rfl
    · split
      · exact .inr (.inr rfl)
      · exact tcmp_cases x y
theorem tcmp_eq : ∀ x y, tcmp x y = 0 → x = y
  | [], [], _ => rfl
  | [], _ :: _, h => by simp [tcmp] at h
  | _ :: _, [], h => by simp [tcmp] at h
  | a :: x, b :: y, h => by
    simp only [tcmp] at h
    split at h
    · omega
    · split at h
      · omega
      · rw [tcmp_eq x y h]
        rcases u8_tri a b with h1 | h1 | h1
        · contradiction
        · rw [h1]
        · contradiction
theorem tcmp_neg : ∀ x y, tcmp y x = - tcmp x y
  | [], [] => rfl
  | [], _ :: _ => rfl
  | _ :: _, [] => rfl
  | a :: x, b :: y => by
    simp only [tcmp]
    by_cases h1 : a < b
    · rw [if_pos h1, if_neg (u8_asymm h1), if_pos h1]; rfl
    · by_cases h2 : b < a
      · rw [if_pos h2, if_neg h1, if_pos h2]
      · rw [if_neg h1, if_neg h2, if_neg h1, if_neg h2]; exact tcmp_neg x y
theorem u8_trans {a b c : UInt8} (h : a < b) (h' : b < c) : a < c := by
  have h1 := UInt8.lt_iff_toNat_lt.1 h; have h2 := UInt8.lt_iff_toNat_lt.1 h'; exact UInt8.lt_iff_toNat_lt.2 (by omega)
/-- What is below another one is below what that is below; and so where one of both is the same. -/
theorem tcmp_trans : ∀ x y z, tcmp x y ≤ 0 → tcmp y z ≤ 0 → tcmp x z ≤ 0 ∧ (tcmp x y < 0 ∨ tcmp y z < 0 → tcmp x z < 0)
  | [], [], [], _, _ => by simp [tcmp]
  | [], [], _ :: _, _, _ => by simp [tcmp]
  | [], _ :: _, [], _, h => by simp [tcmp] at h
  | [], _ :: _, _ :: _, _, _ => by simp [tcmp]
  | _ :: _, [], _, h, _ => by simp [tcmp] at h
  | _ :: _, _ :: _, [], _, h => by simp [tcmp] at h
  | a :: x, b :: y, c :: z, h1, h2 => by
    have ih := tcmp_trans x y z
    simp only [tcmp] at h1 h2 ⊢
    rcases u8_tri a b with hab | hab | hab
    · rcases u8_tri b c with hbc | hbc | hbc
      · rw [if_pos (u8_trans hab hbc)]; simp
      · subst hbc; rw [if_pos hab]; simp
      · rw [if_neg (u8_asymm hbc), if_pos hbc] at h2; omega
    · subst hab
      rw [if_neg (UInt8.lt_irrefl _), if_neg (UInt8.lt_irrefl _)] at h1
      rcases u8_tri a c with hbc | hbc | hbc
      · rw [if_pos hbc]; simp
      · subst hbc
        rw [if_neg (UInt8.lt_irrefl _), if_neg (UInt8.lt_irrefl _)] at h2
        simp only [UInt8.lt_irrefl, if_false]
        exact ih h1 h2
      · rw [if_neg (u8_asymm hbc), if_pos hbc] at h2; omega
    · rw [if_neg (u8_asymm hab), if_pos hab] at h1; omega
theorem less_tcmp : ∀ x y, Op.bytesLess x y = decide (tcmp x y = -1)
  | [], [] => by simp [Op.bytesLess, tcmp]
  | [], _ :: _ => by simp [Op.bytesLess, tcmp]
  | _ :: _, [] => by simp [Op.bytesLess, tcmp]
  | a :: x, b :: y => by
    simp only [Op.bytesLess, tcmp, less_tcmp x y]
    rcases u8_tri a b with h | h | h
    · simp [h]
    · subst h; simp [UInt8.lt_irrefl]
    · have h1 := u8_asymm h
      have h2 : ¬ a = b := fun e => by subst e; exact UInt8.lt_irrefl _ h
      simp [h, h1, h2]

/-- A text's bytes. -/
def by_ (s : ByteArray) : List UInt8 := s.data.toList
theorem by_length (s : ByteArray) : (by_ s).length = s.size := by simp [by_]
theorem by_toList (s : ByteArray) : s.toList = by_ s := ByteArray.toList_eq s
theorem by_inj {a b : ByteArray} (h : by_ a = by_ b) : a = b := by
  cases a; cases b; unfold by_ at h; congr; exact Array.toList_inj.1 h
theorem rd_by (s : ByteArray) (i : Nat) (h : i < (by_ s).length) : (s.data.toList.getD i 0) = (by_ s)[i] := getD_get (by_ s) i 0 h
theorem size_nil {s : ByteArray} (h : s.size = 0) : by_ s = [] := List.eq_nil_of_length_eq_zero (by rw [by_length]; exact h)
theorem sgn_neg (a b : Int) : sgn b a = - sgn a b := by unfold sgn; split <;> split <;> (try split) <;> omega
theorem sgn_trans (a b c : Int) (h1 : sgn a b ≤ 0) (h2 : sgn b c ≤ 0) : sgn a c ≤ 0 ∧ (sgn a b < 0 ∨ sgn b c < 0 → sgn a c < 0) := by
  unfold sgn at *
  repeat' split at h1
  all_goals repeat' split at h2
  all_goals repeat' split
  all_goals omega
end Go.AX
