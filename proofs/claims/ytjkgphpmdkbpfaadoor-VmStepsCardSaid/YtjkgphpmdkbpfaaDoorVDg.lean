/-
  A number's text, by the library's own words, by the page's own function, and read again.
-/
import Derived.Test.YtjkgphpmdkbpfaaDoorVRi
import Derived.Lib.ItoaLen
import Derived.Laws.BytesArg
namespace Go.Proofs.YtjkgphpmdkbpfaaDoor.V
open Go Go.AX

def dtxt (n : Int) : ByteArray := ⟨(Lib.itoa n).toArray⟩
theorem cat_txt (a b : List UInt8) : cat ⟨a.toArray⟩ ⟨b.toArray⟩ = ⟨(a ++ b).toArray⟩ := by
  rw [cat_eq]; apply ByteArray.ext; simp
theorem fits_txt {a b : List UInt8} (h : a.length + b.length ≤ 1000000) : strFits ⟨a.toArray⟩ ⟨b.toArray⟩ := by
  rw [strFits_eq]
  show (((a.toArray.size + b.toArray.size : Nat) : Int) ≤ 9223372036854775807)
  simp only [List.size_toArray]; omega
theorem dd_len (u : Nat) (h : u < 18446744073709551616) : (Lib.decDigits u).length ≤ 20 := by rw [Lib.decDigits_length]; exact Lib.nDigits_le20 u h
theorem dd_big {u : Nat} (h : ¬ u < 10) : Lib.decDigits u = Lib.decDigits (u / 10) ++ [UInt8.ofNat (48 + u % 10)] := by rw [Lib.decDigits, dif_neg h]
theorem one_digit {n : Nat} (h : n < 10) : strOfNums [(IntKind.u8.wrap (IntKind.i64.wrap (48 + (n : Int))))] = ⟨(Lib.decDigits n).toArray⟩ := by
  rw [Lib.decDigits_one h, w64 (by omega) (by omega), IntKind.wrap_u8]
  unfold strOfNums
  simp only [List.map_cons, List.map_nil]
  congr 3
  have : ((48 + (n : Int)) % 256).toNat = 48 + n := by omega
  rw [this]
theorem it_small (k d n : Nat) (h : n < 10) : (cadastreref4_Digits_R_it k (d + 1)).cadastreref4_Digits (n : Int) = some ⟨(Lib.decDigits n).toArray⟩ := by
  show cadastreref4_Digits_r k (cadastreref4_Digits_R_it k d) n = _
  unfold cadastreref4_Digits_r
  rw [big_eq, show ((n : Int) == (-9223372036854775808)) = false by rw [beq_eq_false_iff_ne]; omega, cond_false, decide_eq_false (by omega), cond_false, decide_eq_true (by omega), cond_true, one_digit h]
theorem it_nat (k : Nat) : ∀ (d n : Nat), n < 10 ^ d → n < 9223372036854775808 → (cadastreref4_Digits_R_it k (d + 1)).cadastreref4_Digits (n : Int) = some ⟨(Lib.decDigits n).toArray⟩
  | 0, n, h, _ => it_small k 0 n (by simp at h; omega)
  | d + 1, n, h, hn => by
    by_cases hs : n < 10
    · exact it_small k (d + 1) n hs
    have h1 : n / 10 < 10 ^ d := by rw [Nat.pow_succ] at h; omega
    have e1 := it_nat k d (n / 10) h1 (by omega)
    have e2 := it_small k d (n % 10) (by omega)
    show cadastreref4_Digits_r k (cadastreref4_Digits_R_it k (d + 1)) n = _
    unfold cadastreref4_Digits_r
    rw [big_eq, show ((n : Int) == (-9223372036854775808)) = false by rw [beq_eq_false_iff_ne]; omega, cond_false, decide_eq_false (by omega), cond_false, decide_eq_false (by omega), cond_false]
    rw [show Int.tdiv (n : Int) 10 = ((n / 10 : Nat) : Int) by rw [Int.tdiv_eq_ediv_of_nonneg (by omega)]; omega, show Int.tmod (n : Int) 10 = ((n % 10 : Nat) : Int) by rw [Int.tmod_eq_emod_of_nonneg (by omega)]; omega, w64 (by omega) (by omega), e1, some_bind, e2, some_bind]
    have l1 := dd_len (n / 10) (by omega)
    have l2 := dd_len (n % 10) (by omega)
    rw [chk_pos (fits_txt (by omega)), cat_txt, dd_big hs, Lib.decDigits_one (i := n % 10) (by omega)]
theorem least_txt : Lib.itoa (-9223372036854775808) = [45, 57, 50, 50, 51, 51, 55, 50, 48, 51, 54, 56, 53, 52, 55, 55, 53, 56, 48, 56] := by
  have : Lib.itoa (-((9223372036854775808 : Nat) : Int)) = 45 :: Lib.decDigits 9223372036854775808 := Lib.itoa_neg _ (by decide)
  rw [show (-9223372036854775808 : Int) = -((9223372036854775808 : Nat) : Int) by rfl, this]
  simp [Lib.decDigits]
theorem digits_eq (k : Nat) (n : Int) (hk : 22 ≤ k) (hn : inr n = true) : cadastreref4_Digits k n = some (dtxt n) := by
  have hn' := inr_iff.mp hn
  obtain ⟨k', rfl⟩ : ∃ q, k = q + 2 := ⟨k - 2, by omega⟩
  unfold cadastreref4_Digits dtxt
  have pw : (9223372036854775808 : Nat) ≤ 10 ^ (k' : Nat) := Nat.le_trans (by decide) (Nat.pow_le_pow_right (n := 10) (by decide) (show 20 ≤ k' by omega))
  by_cases h0 : 0 ≤ n
  · obtain ⟨u, rfl⟩ : ∃ u : Nat, n = u := ⟨n.toNat, by omega⟩
    rw [Lib.itoa_nonneg]
    exact it_nat (k' + 2) (k' + 1) u (by rw [Nat.pow_succ]; omega) (by omega)
  · show cadastreref4_Digits_r (k' + 2) (cadastreref4_Digits_R_it (k' + 2) (k' + 1)) n = _
    unfold cadastreref4_Digits_r
    by_cases hl : n = -9223372036854775808
    · subst hl
      rw [big_eq, show ((-9223372036854775808 : Int) == (-9223372036854775808)) = true by rfl, cond_true, least_txt]
    · rw [big_eq, show (n == (-9223372036854775808)) = false by rw [beq_eq_false_iff_ne]; exact hl, cond_false, decide_eq_true (by omega), cond_true, w64 (by omega) (by omega)]
      obtain ⟨u, rfl⟩ : ∃ u : Nat, n = -(u : Int) := ⟨n.natAbs, by omega⟩
      rw [show (0 : Int) - -(u : Int) = (u : Int) by omega, it_nat (k' + 2) k' u (by omega) (by omega), some_bind]
      have l1 := dd_len u (by omega)
      have e : (⟨#[45]⟩ : ByteArray) = ⟨([45] : List UInt8).toArray⟩ := rfl
      rw [e, chk_pos (fits_txt (by simp; omega)), cat_txt, Lib.itoa_neg u (by omega)]
      rfl

/-! A number's text, read again. -/
theorem valF_app (c : UInt8) : ∀ (l : List UInt8) (v : Nat), valF v (l ++ [c]) = 10 * valF v l + (c.toNat - 48)
  | [], v => rfl
  | x :: l, v => valF_app c l _
theorem dd_val : ∀ u : Nat, (Lib.decDigits u).all isD = true ∧ valF 0 (Lib.decDigits u) = u ∧ Lib.decDigits u ≠ [] := by
  intro u
  induction u using Nat.strongRecOn with
  | ind u ih =>
    have dig : ∀ m : Nat, m < 10 → isD (UInt8.ofNat (48 + m)) = true ∧ (UInt8.ofNat (48 + m)).toNat - 48 = m := by decide
    by_cases h : u < 10
    · rw [Lib.decDigits_one h]
      have := dig u h
      refine ⟨?_, ?_, List.cons_ne_nil _ _⟩
      · rw [List.all_cons, this.1]; rfl
      · show 10 * 0 + ((UInt8.ofNat (48 + u)).toNat - 48) = u
        rw [this.2]; omega
    · obtain ⟨h1, h2, h3⟩ := ih (u / 10) (by omega)
      have := dig (u % 10) (by omega)
      rw [dd_big h]
      refine ⟨?_, ?_, by simp⟩
      · rw [List.all_append, h1, List.all_cons, this.1]; rfl
      · rw [valF_app, h2, this.2]; omega
theorem isD_mark {c : UInt8} (h : isD c = true) : c.toNat ≠ 45 ∧ c.toNat ≠ 43 := by
  unfold isD at h; simp only [Bool.and_eq_true, decide_eq_true_eq] at h; omega
theorem cast_itoa (n : Int) (hn : inr n = true) : castR (by_ (dtxt n)) = (n, 0) := by
  have hn' := inr_iff.mp hn
  show castR (Lib.itoa n) = (n, 0)
  by_cases h0 : 0 ≤ n
  · obtain ⟨u, rfl⟩ : ∃ u : Nat, n = u := ⟨n.toNat, by omega⟩
    obtain ⟨h1, h2, h3⟩ := dd_val u
    rw [Lib.itoa_nonneg]
    have e : castR (Lib.decDigits u) = digs false (Lib.decDigits u) := by
      cases hb : Lib.decDigits u with
      | nil => exact absurd hb h3
      | cons c t =>
        rw [hb, List.all_cons, Bool.and_eq_true] at h1
        have := isD_mark h1.1
        show (if c.toNat = 45 then _ else if c.toNat = 43 then _ else _) = _
        rw [if_neg this.1, if_neg this.2]
    rw [e]
    unfold digs fin_
    rw [if_neg h3, if_pos h1, h2, if_pos (show u ≤ lim false by show u ≤ 9223372036854775807; omega)]; rfl
  · obtain ⟨u, rfl⟩ : ∃ u : Nat, n = -(u : Int) := ⟨n.natAbs, by omega⟩
    obtain ⟨h1, h2, h3⟩ := dd_val u
    rw [Lib.itoa_neg u (by omega)]
    show digs true (Lib.decDigits u) = _
    unfold digs fin_
    rw [if_neg h3, if_pos h1, h2, if_pos (show u ≤ lim true by show u ≤ 9223372036854775808; omega)]; rfl
theorem dtxt_size (n : Int) (hn : inr n = true) : (dtxt n).size ≤ 21 := by
  have := Lib.itoa_length_le n (inr_iff.mp hn).1 (by have := (inr_iff.mp hn).2; omega)
  show (Lib.itoa n).toArray.size ≤ 21
  simpa using this

/-! Texts of values. -/
theorem format_eq (k : Nat) (n : Int) (hn : inr n = true) : strconv_FormatInt k n 10 = some (dtxt n) := by
  have := inr_iff.mp hn
  unfold strconv_FormatInt
  rw [chk_pos ⟨rfl, by rw [big_eq, decide_eq_true_eq]; omega⟩]; rfl
def vtxt (s : ByteArray) : S29 := ⟨2, 0, s⟩
def textS (v : S29) : S29 := if v.f0 = 1 then vtxt (dtxt v.f1) else v
theorem text_eq (k : Nat) (v : S29) (hv : inr v.f1 = true) : arith_Text k v = some (if good v = true then (textS v, 0) else (vnull, 1)) := by
  unfold arith_Text textS
  rw [good_eq, some_bind]
  cases good v with
  | false => rfl
  | true =>
    simp only [Bool.not_true, cond_false, if_true, bif_ite, beq_iff_eq]
    by_cases h : v.f0 = 1
    · simp only [h, if_true]
      rw [format_eq k _ hv]; rfl
    · simp only [h, if_false]; rfl
theorem rtext_eq (k : Nat) (v : S29) (hk : 22 ≤ k) (hv : inr v.f1 = true) : cadastreref4_Text k v = some (textS v) := by
  unfold cadastreref4_Text textS
  simp only [bif_ite, beq_iff_eq]
  by_cases h : v.f0 = 1
  · simp only [h, if_true]
    rw [digits_eq k _ hk hv]; rfl
  · simp only [h, if_false]
theorem good_cases {v : S29} (h : good v = true) : (v = vnull) ∨ (v = vint v.f1 ∧ v.f0 = 1) ∨ (v.f0 = 2 ∧ v = vtxt v.f2 ∧ v.f2.size ≤ 4096) ∨ (v.f0 = 3 ∧ v = ⟨3, 0, v.f2⟩ ∧ v.f2.size ≤ 4096) := by
  by_cases h0 : v.f0 = 0
  · left
    unfold good at h
    simp only [h0, if_true, Bool.and_eq_true, decide_eq_true_eq] at h
    obtain ⟨a, b, c⟩ := v
    simp only at h0 h
    rw [h0, h.1, empty_of_size h.2]; rfl
  by_cases h1 : v.f0 = 1
  · exact .inr (.inl ⟨good1 h h1, h1⟩)
  by_cases h2 : v.f0 = 2
  · refine .inr (.inr (.inl ⟨h2, ?_⟩))
    unfold good at h
    simp only [h2, show ¬ ((2 : Int) = 0) by decide, show ¬ ((2 : Int) = 1) by decide, if_false, true_or, if_true, Bool.and_eq_true, decide_eq_true_eq] at h
    obtain ⟨a, b, c⟩ := v
    simp only at h2 h
    rw [h2, h.1]; exact ⟨rfl, h.2⟩
  by_cases h3 : v.f0 = 3
  · refine .inr (.inr (.inr ⟨h3, ?_⟩))
    unfold good at h
    simp only [h3, show ¬ ((3 : Int) = 0) by decide, show ¬ ((3 : Int) = 1) by decide, if_false, or_true, if_true, Bool.and_eq_true, decide_eq_true_eq] at h
    obtain ⟨a, b, c⟩ := v
    simp only at h3 h
    rw [h3, h.1]; exact ⟨rfl, h.2⟩
  · unfold good at h; simp [h0, h1, h2, h3] at h
theorem good_vtxt {s : ByteArray} (h : s.size ≤ 4096) : good (vtxt s) = true := by simp [good, vtxt, h]
theorem good_textS {v : S29} (hv : inr v.f1 = true) (h : good v = true) : good (textS v) = true := by
  unfold textS
  split
  · exact good_vtxt (by have := dtxt_size v.f1 hv; omega)
  · exact h
theorem textS_kind {v : S29} (h : good v = true) (h0 : v.f0 ≠ 0) (h3 : v.f0 ≠ 3) : (textS v) = vtxt (textS v).f2 := by
  unfold textS
  rcases good_cases h with rfl | ⟨_, h1⟩ | ⟨h2, e, _⟩ | ⟨q, _⟩
  · exact absurd rfl h0
  · rw [if_pos h1]; rfl
  · rw [if_neg (by omega)]; exact e
  · exact absurd q h3
end Go.Proofs.YtjkgphpmdkbpfaaDoor.V
