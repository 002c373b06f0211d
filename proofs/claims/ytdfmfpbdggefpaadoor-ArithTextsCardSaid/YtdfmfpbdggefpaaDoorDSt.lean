/-
  Layer 5: a value as a column of a type takes it: what the printed functions come to.
-/
import Derived.Test.YtdfmfpbdggefpaaDoorDDg
namespace Go.Proofs.YtdfmfpbdggefpaaDoor.D
open Go Go.AX

def vblob (s : ByteArray) : S23 := ⟨3, 0, s⟩
theorem gcases {v : S23} (h : good v = true) : (v = vnull) ∨ (∃ n, v = vint n) ∨ (∃ s, v = vtxt s ∧ s.size ≤ 4096) ∨ (∃ s, v = vblob s ∧ s.size ≤ 4096) := by
  rcases good_cases h with h | h | h | h
  · exact .inl h
  · exact .inr (.inl ⟨_, h.1⟩)
  · exact .inr (.inr (.inl ⟨_, h.2⟩))
  · exact .inr (.inr (.inr ⟨_, h.2⟩))
def typeOk (t : Int) : Bool := decide (1 ≤ t) && decide (t ≤ 4)
theorem typeOk_cases {t : Int} (h : typeOk t = true) : t = 1 ∨ t = 2 ∨ t = 3 ∨ t = 4 := by
  unfold typeOk at h; simp only [Bool.and_eq_true, decide_eq_true_eq] at h; omega
theorem type_eq (k : Nat) (t : Int) : value_Type k t = some (typeOk t) := by
  unfold value_Type typeOk
  by_cases h : 1 ≤ t
  · rw [decide_eq_true (show t ≥ 1 from h), cond_true, Bool.true_and]
  · rw [decide_eq_false (show ¬ t ≥ 1 from h), cond_false, Bool.false_and]
theorem rtype_eq (k : Nat) (t : Int) : cadastreref2_Type k t = some (typeOk t) := type_eq k t
/-- The number of a text, as a value. -/
def numS (s : ByteArray) : S23 × Int := if (castR (by_ s)).2 = 0 then (vint (castR (by_ s)).1, 0) else (vnull, (castR (by_ s)).2)
def fitsB (v : S23) (t : Int) : Bool := v.f0 == 0 || t == 1 || (t == 2 && v.f0 == 1) || (t == 3 && v.f0 == 2) || (t == 4 && v.f0 == 3)
def storeS (v : S23) (t : Int) : S23 × Int :=
  if fitsB v t = true then (v, 0) else if t = 2 ∧ v.f0 = 2 then numS v.f2 else if t = 3 ∧ v.f0 = 1 then (textS v, 0) else if t = 4 ∧ v.f0 = 2 then (vblob v.f2, 0) else (vnull, 4)
theorem number_txt (k : Nat) {s : ByteArray} (hs : s.size ≤ 4096) (hk : 5000 < k) : cast_number k (vtxt s) = some (numS s) := by
  unfold cast_number numS
  rw [show ((vtxt s).f0 == 1) = false from rfl, cond_false, show ((vtxt s).f0 == 2) = true from rfl, cond_true, show (vtxt s).f2 = s from rfl, cast_eq k (by omega) (by omega), some_bind]
  by_cases h : (castR (by_ s)).2 = 0
  · rw [show ((castR (by_ s)).2 != 0) = false by simp [h], cond_false, if_pos h]; rfl
  · rw [show ((castR (by_ s)).2 != 0) = true by simp [h], cond_true, if_neg h]; rfl
theorem store_eq (k : Nat) (v : S23) (t : Int) (hk : 5000 < k) (hv : inr v.f1 = true) : cast_Store k v t = some (if good v = true ∧ typeOk t = true then storeS v t else (vnull, 1)) := by
  unfold cast_Store
  rw [good_eq, some_bind, type_eq, some_bind]
  cases hg : good v with
  | false => rfl
  | true =>
    cases ht : typeOk t with
    | false => rfl
    | true =>
      rw [if_pos ⟨rfl, rfl⟩, Bool.not_true, cond_false, cond_false]
      rcases typeOk_cases ht with rfl | rfl | rfl | rfl <;> rcases gcases hg with rfl | ⟨n, rfl⟩ | ⟨s, rfl, hs⟩ | ⟨s, rfl, hs⟩
      all_goals first
        | rfl
        | exact (congrArg (fun o : Option (S23 × Int) => o.bind fun r => some (r.1, r.2)) (number_txt k hs hk))
        | (refine (congrArg (fun o : Option (S23 × Int) => o.bind fun r => some (r.1, r.2)) (text_eq k _ hv)).trans ?_; rw [hg]; rfl)
theorem rfits_eq (k : Nat) {v : S23} {t : Int} (hg : good v = true) (ht : typeOk t = true) : cadastreref2_Fits k v t = some (fitsB v t) := by
  rcases typeOk_cases ht with rfl | rfl | rfl | rfl <;> rcases gcases hg with rfl | ⟨n, rfl⟩ | ⟨s, rfl, hs⟩ | ⟨s, rfl, hs⟩ <;> rfl
theorem rstore_eq (k : Nat) {v : S23} {t : Int} (hk : 5000 < k) (hv : inr v.f1 = true) (hg : good v = true) (ht : typeOk t = true) : cadastreref4_Store k v t = some (storeS v t) := by
  unfold cadastreref4_Store
  rw [rfits_eq k hg ht, some_bind]
  rcases typeOk_cases ht with rfl | rfl | rfl | rfl <;> rcases gcases hg with rfl | ⟨n, rfl⟩ | ⟨s, rfl, hs⟩ | ⟨s, rfl, hs⟩
  all_goals first
    | rfl
    | (refine (congrArg (fun o : Option (Int × Int) => o.bind fun r => bif (r.2 != 0) then some (vnull, r.2) else some (vint r.1, 0)) (rint_eq k (show s.size ≤ 9000000000 by omega) (by omega))).trans ?_
       show (bif ((castR (by_ s)).2 != 0) then some (vnull, (castR (by_ s)).2) else some (vint (castR (by_ s)).1, 0)) = some (numS s)
       unfold numS
       by_cases h : (castR (by_ s)).2 = 0
       · rw [show ((castR (by_ s)).2 != 0) = false by simp [h], cond_false, if_pos h]
       · rw [show ((castR (by_ s)).2 != 0) = true by simp [h], cond_true, if_neg h])
    | exact (congrArg (fun o : Option S23 => o.bind fun r => some (r, 0)) (rtext_eq k _ (by omega) hv))
theorem fits_eq (k : Nat) (v : S23) (t : Int) : value_Fits k v t = some (if good v = true ∧ typeOk t = true then (fitsB v t, 0) else (false, 1)) := by
  unfold value_Fits
  rw [good_eq, some_bind, type_eq, some_bind]
  cases hg : good v with
  | false => rfl
  | true =>
    cases ht : typeOk t with
    | false => rfl
    | true =>
      rw [if_pos ⟨rfl, rfl⟩, Bool.not_true, cond_false, cond_false]
      rcases typeOk_cases ht with rfl | rfl | rfl | rfl <;> rcases gcases hg with rfl | ⟨n, rfl⟩ | ⟨s, rfl, hs⟩ | ⟨s, rfl, hs⟩ <;> rfl
theorem wakes5 (k : Nat) (hk : 5000 < k) : cadastrelaw5_wakes k = some true := by
  unfold cadastrelaw5_wakes
  rw [cast_eq k (by decide) (by show 4 + 1 < k; omega), some_bind]
  rfl
/-- A law's loop over its list. -/
theorem law_loop {α : Type} (len : Nat) (F : Nat → Int → Option Bool) (hl : len ≤ 9223372036854775807) (h0 : ∀ n, F (n + 1) (len : Int) = some true) (h1 : ∀ n i, i < len → (F (n + 1) (i : Int) = F n ((i + 1 : Nat) : Int) ∨ F (n + 1) (i : Int) = some true)) :
    ∀ (d i n : Nat), i + d = len → d < n → F n (i : Int) = some true
  | 0, i, n + 1, hi, _ => by obtain rfl : i = len := by omega
                             exact h0 n
  | d + 1, i, n + 1, hi, hn => by
    rcases h1 n i (by omega) with h | h
    · rw [h]; exact law_loop (α := α) len F hl h0 h1 d (i + 1) n (by omega) (by omega)
    · exact h
end Go.Proofs.YtdfmfpbdggefpaaDoor.D
