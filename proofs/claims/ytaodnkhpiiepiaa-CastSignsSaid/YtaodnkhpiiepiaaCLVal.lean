/-
  Layer 2: values: what the printed functions come to.
-/
import Derived.Test.YtaodnkhpiiepiaaLib
import Derived.Laws.Strings
import Derived.Test.YtaodnkhpiiepiaaCx0
namespace Go.Proofs.Ytaodnkhpiiepiaa.C
open Go Go.RowKit Go.Proofs.YtaodnkhpiiepiaaW.PrintWords Go.Proofs.YtaodnkhpiiepiaaW.PrintLast Go.Proofs.YtaodnkhpiiepiaaG
set_option linter.unusedVariables false
set_option linter.unusedSimpArgs false

/-! ### texts -/
/-- Two rows of bytes: which one is the lesser one. -/
def tcmp : List UInt8 → List UInt8 → Int
  | [], [] => 0
  | [], _ :: _ => -1
  | _ :: _, [] => 1
  | a :: x, b :: y => if a < b then -1 else if b < a then 1 else tcmp x y
def sgn (a b : Int) : Int := if a < b then -1 else if b < a then 1 else 0

theorem tcmp_refl : ∀ x, tcmp x x = 0
  | [] => rfl
  | a :: x => by simp [tcmp, UInt8.lt_irrefl, tcmp_refl x]
theorem u8_tri (a b : UInt8) : a < b ∨ a = b ∨ b < a := by
  rcases Nat.lt_trichotomy a.toNat b.toNat with h | h | h
  · exact .inl (UInt8.lt_iff_toNat_lt.2 h)
  · exact .inr (.inl (UInt8.toNat_inj.1 h))
  · exact .inr (.inr (UInt8.lt_iff_toNat_lt.2 h))
theorem u8_asymm {a b : UInt8} (h : a < b) : ¬ b < a := fun h' => by
  have h1 := UInt8.lt_iff_toNat_lt.1 h; have h2 := UInt8.lt_iff_toNat_lt.1 h'; omega
theorem tcmp_cases : ∀ x y, tcmp x y = -1 ∨ tcmp x y = 0 ∨ tcmp x y = 1
  | [], [] => .inr (.inl rfl)
  | [], _ :: _ => .inl rfl
  | _ :: _, [] => .inr (.inr rfl)
  | a :: x, b :: y => by
    simp only [tcmp]
    split
    · exact .inl rfl
    · split
      · exact .inr (.inr rfl)
      · exact tcmp_cases x y
theorem tcmp_eq : ∀ x y, tcmp x y = 0 → x = y
  | [], [], _ => rfl
  | [], _ :: _, h => by simp [tcmp] at h
  | _ :: _, [], h => by simp [tcmp] at h
  | a :: x, b :: y, h => by
    simp only [tcmp] at h
    split at h
    · omega
    · split at h
      · omega
      · rw [tcmp_eq x y h]
        rcases u8_tri a b with h1 | h1 | h1
        · contradiction
        · rw [h1]
        · contradiction
theorem tcmp_neg : ∀ x y, tcmp y x = - tcmp x y
  | [], [] => rfl
  | [], _ :: _ => rfl
  | _ :: _, [] => rfl
  | a :: x, b :: y => by
    simp only [tcmp]
    by_cases h1 : a < b
    · rw [if_pos h1, if_neg (u8_asymm h1), if_pos h1]; rfl
    · by_cases h2 : b < a
      · rw [if_pos h2, if_neg h1, if_pos h2]
      · rw [if_neg h1, if_neg h2, if_neg h1, if_neg h2]; exact tcmp_neg x y
theorem u8_trans {a b c : UInt8} (h : a < b) (h' : b < c) : a < c := by
  have h1 := UInt8.lt_iff_toNat_lt.1 h; have h2 := UInt8.lt_iff_toNat_lt.1 h'; exact UInt8.lt_iff_toNat_lt.2 (by omega)
/-- What is below another one is below what that is below; and so where one of both is the same. -/
theorem tcmp_trans : ∀ x y z, tcmp x y ≤ 0 → tcmp y z ≤ 0 → tcmp x z ≤ 0 ∧ (tcmp x y < 0 ∨ tcmp y z < 0 → tcmp x z < 0)
  | [], [], [], _, _ => by simp [tcmp]
  | [], [], _ :: _, _, _ => by simp [tcmp]
  | [], _ :: _, [], _, h => by simp [tcmp] at h
  | [], _ :: _, _ :: _, _, _ => by simp [tcmp]
  | _ :: _, [], _, h, _ => by simp [tcmp] at h
  | _ :: _, _ :: _, [], _, h => by simp [tcmp] at h
  | a :: x, b :: y, c :: z, h1, h2 => by
    have ih := tcmp_trans x y z
    simp only [tcmp] at h1 h2 ⊢
    rcases u8_tri a b with hab | hab | hab
    · rcases u8_tri b c with hbc | hbc | hbc
      · rw [if_pos (u8_trans hab hbc)]; simp
      · subst hbc; rw [if_pos hab]; simp
      · rw [if_neg (u8_asymm hbc), if_pos hbc] at h2; omega
    · subst hab
      rw [if_neg (UInt8.lt_irrefl _), if_neg (UInt8.lt_irrefl _)] at h1
      rcases u8_tri a c with hbc | hbc | hbc
      · rw [if_pos hbc]; simp
      · subst hbc
        rw [if_neg (UInt8.lt_irrefl _), if_neg (UInt8.lt_irrefl _)] at h2
        simp only [UInt8.lt_irrefl, if_false]
        exact ih h1 h2
      · rw [if_neg (u8_asymm hbc), if_pos hbc] at h2; omega
    · rw [if_neg (u8_asymm hab), if_pos hab] at h1; omega
theorem less_tcmp : ∀ x y, Op.bytesLess x y = decide (tcmp x y = -1)
  | [], [] => by simp [Op.bytesLess, tcmp]
  | [], _ :: _ => by simp [Op.bytesLess, tcmp]
  | _ :: _, [] => by simp [Op.bytesLess, tcmp]
  | a :: x, b :: y => by
    simp only [Op.bytesLess, tcmp, less_tcmp x y]
    rcases u8_tri a b with h | h | h
    · simp [h]
    · subst h; simp [UInt8.lt_irrefl]
    · have h1 := u8_asymm h
      have h2 : ¬ a = b := fun e => by subst e; exact UInt8.lt_irrefl _ h
      simp [h, h1, h2]

/-- A text's bytes. -/
def by_ (s : ByteArray) : List UInt8 := s.data.toList
theorem by_length (s : ByteArray) : (by_ s).length = s.size := by simp [by_]
theorem by_toList (s : ByteArray) : s.toList = by_ s := ByteArray.toList_eq s
theorem by_inj {a b : ByteArray} (h : by_ a = by_ b) : a = b := by
  cases a; cases b; unfold by_ at h; congr; exact Array.toList_inj.1 h
theorem bt_get (s : ByteArray) (i : Nat) (h : i < (by_ s).length) : bt s i = ((by_ s)[i].toNat : Int) := by
  have hs : i < s.size := by rw [← by_length]; exact h
  unfold bt
  have : ((i : Nat) : Int).toNat = i := by omega
  simp only [this, hs, dif_pos]
  rfl
theorem empty_iff (s : ByteArray) : (s.toList == ([] : List UInt8)) = decide (s.size = 0) := by
  rw [by_toList]
  have := by_length s
  cases h : by_ s with
  | nil => rw [h, List.length_nil] at this; rw [decide_eq_true this.symm]; rfl
  | cons a l => rw [h, List.length_cons] at this; rw [decide_eq_false (by omega)]; rfl

/-! ### the printed ones -/
/-- Is this a value? -/
def good (v : S24) : Bool :=
  if v.f0 = 0 then decide (v.f1 = 0) && decide (v.f2.size = 0) else if v.f0 = 1 then decide (v.f2.size = 0) else if v.f0 = 2 ∨ v.f0 = 3 then decide (v.f1 = 0) && decide (v.f2.size ≤ 4096) else false
theorem good_says {v : S24} (h : good v = true) : (v.f0 = 0 ∧ v.f1 = 0 ∧ v.f2.size = 0) ∨ (v.f0 = 1 ∧ v.f2.size = 0) ∨ ((v.f0 = 2 ∨ v.f0 = 3) ∧ v.f1 = 0 ∧ v.f2.size ≤ 4096) := by
  unfold good at h
  split at h
  · simp only [Bool.and_eq_true, decide_eq_true_eq] at h; exact .inl ⟨by assumption, h.1, h.2⟩
  · split at h
    · simp only [decide_eq_true_eq] at h; exact .inr (.inl ⟨by assumption, h⟩)
    · split at h
      · simp only [Bool.and_eq_true, decide_eq_true_eq] at h; exact .inr (.inr ⟨by assumption, h.1, h.2⟩)
      · cases h

/-- Two values: which one is the lesser one. -/
def vcmp (a b : S24) : Int := if a.f0 = b.f0 then (if a.f0 = 1 then sgn a.f1 b.f1 else tcmp (by_ a.f2) (by_ b.f2)) else sgn a.f0 b.f0
theorem size_nil {s : ByteArray} (h : s.size = 0) : by_ s = [] := List.eq_nil_of_length_eq_zero (by rw [by_length]; exact h)
theorem sgn_neg (a b : Int) : sgn b a = - sgn a b := by unfold sgn; split <;> split <;> (try split) <;> omega
theorem vcmp_neg (a b : S24) : vcmp b a = - vcmp a b := by
  unfold vcmp
  by_cases h : a.f0 = b.f0
  · rw [if_pos h, if_pos h.symm]
    by_cases h1 : a.f0 = 1
    · rw [if_pos h1, if_pos (by omega), sgn_neg]
    · rw [if_neg h1, if_neg (by omega), tcmp_neg]
  · rw [if_neg h, if_neg (fun e => h e.symm), sgn_neg]
theorem vcmp_refl (a : S24) : vcmp a a = 0 := by unfold vcmp sgn; simp [tcmp_refl]
theorem vcmp_cases (a b : S24) : vcmp a b = -1 ∨ vcmp a b = 0 ∨ vcmp a b = 1 := by
  unfold vcmp sgn
  have := tcmp_cases (by_ a.f2) (by_ b.f2)
  repeat' split
  all_goals first | exact this | simp
theorem S24_ext {a b : S24} (h0 : a.f0 = b.f0) (h1 : a.f1 = b.f1) (h2 : a.f2 = b.f2) : a = b := by cases a; cases b; simp_all
theorem vcmp_eq {a b : S24} (ha : good a = true) (hb : good b = true) (h : vcmp a b = 0) : a = b := by
  have ga := good_says ha; have gb := good_says hb
  unfold vcmp sgn at h
  by_cases h0 : a.f0 = b.f0
  · rw [if_pos h0] at h
    by_cases h1 : a.f0 = 1
    · rw [if_pos h1] at h
      have hn : a.f1 = b.f1 := by
        split at h
        · omega
        · split at h <;> omega
      refine S24_ext h0 hn (by_inj ?_)
      rw [size_nil (s := a.f2) (by omega), size_nil (s := b.f2) (by omega)]
    · rw [if_neg h1] at h
      exact S24_ext h0 (by omega) (by_inj (tcmp_eq _ _ h))
  · rw [if_neg h0] at h
    split at h
    · omega
    · split at h <;> omega
theorem sgn_trans (a b c : Int) (h1 : sgn a b ≤ 0) (h2 : sgn b c ≤ 0) : sgn a c ≤ 0 ∧ (sgn a b < 0 ∨ sgn b c < 0 → sgn a c < 0) := by
  unfold sgn at *
  repeat' split at h1
  all_goals repeat' split at h2
  all_goals repeat' split
  all_goals omega
theorem vcmp_trans (a b c : S24) (h1 : vcmp a b ≤ 0) (h2 : vcmp b c ≤ 0) : vcmp a c ≤ 0 ∧ (vcmp a b < 0 ∨ vcmp b c < 0 → vcmp a c < 0) := by
  unfold vcmp at *
  by_cases hab : a.f0 = b.f0
  · rw [if_pos hab] at h1
    by_cases hbc : b.f0 = c.f0
    · rw [if_pos hbc] at h2
      rw [if_pos hab, if_pos hbc, if_pos (hab.trans hbc)]
      by_cases ha1 : a.f0 = 1
      · have hb1 : b.f0 = 1 := by omega
        simp only [if_pos ha1, if_pos hb1] at h1 h2 ⊢
        exact sgn_trans _ _ _ h1 h2
      · have hb1 : ¬ b.f0 = 1 := by omega
        simp only [if_neg ha1, if_neg hb1] at h1 h2 ⊢
        exact tcmp_trans _ _ _ h1 h2
    · rw [if_neg hbc] at h2
      rw [if_pos hab, if_neg hbc, if_neg (by omega), hab]
      have : sgn b.f0 c.f0 < 0 := by unfold sgn at h2 ⊢; split at h2 <;> (try split at h2) <;> (repeat' split) <;> omega
      exact ⟨h2, fun _ => this⟩
  · rw [if_neg hab] at h1
    have hl : a.f0 < b.f0 := by unfold sgn at h1; split at h1 <;> (try split at h1) <;> omega
    have hle : b.f0 ≤ c.f0 := by
      by_cases hbc : b.f0 = c.f0
      · omega
      · rw [if_neg hbc] at h2; unfold sgn at h2; split at h2 <;> (try split at h2) <;> omega
    rw [if_neg hab, if_neg (show ¬ a.f0 = c.f0 by omega)]
    have e : sgn a.f0 c.f0 = -1 := by unfold sgn; rw [if_pos (by omega)]
    rw [e]; exact ⟨by decide, fun _ => by decide⟩

theorem rd_T24_two (a b : S24) : rd_T24 [a, b] 0 = a ∧ rd_T24 [a, b] 1 = b := ⟨rfl, rfl⟩
/-- What Cmp tells. -/
def cmpR (a b : S24) : Int × Int := if good a && good b then (vcmp a b, 0) else (0, 1)
theorem cmpR_good {a b : S24} (ha : good a = true) (hb : good b = true) : cmpR a b = (vcmp a b, 0) := by unfold cmpR; rw [ha, hb]; rfl
theorem cmpR_bad {a b : S24} (h : ¬ (good a = true ∧ good b = true)) : cmpR a b = (0, 1) := by
  unfold cmpR
  rw [if_neg (by simpa using h)]
end Go.Proofs.Ytaodnkhpiiepiaa.C
