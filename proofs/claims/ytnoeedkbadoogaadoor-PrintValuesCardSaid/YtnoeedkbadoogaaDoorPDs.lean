/-
  A number's text, by the library's own words, by the page's own function, and read again.
  Layer 5: a value as a column of a type takes it: what the printed functions come to.
-/
import Derived.Test.YtnoeedkbadoogaaDoorPCr
import Derived.Lib.ItoaLen
import Derived.Laws.BytesArg
namespace Go.Proofs.YtnoeedkbadoogaaDoor.P
open Go Go.AX

def dtxt (n : Int) : ByteArray := ⟨(Lib.itoa n).toArray⟩
theorem cat_txt (a b : List UInt8) : cat ⟨a.toArray⟩ ⟨b.toArray⟩ = ⟨(a ++ b).toArray⟩ := by
  rw [cat_eq]; apply ByteArray.ext; simp
theorem fits_txt {a b : List UInt8} (h : a.length + b.length ≤ 1000000) : strFits ⟨a.toArray⟩ ⟨b.toArray⟩ := by
  rw [strFits_eq]
  show (((a.toArray.size + b.toArray.size : Nat) : Int) ≤ 9223372036854775807)
  simp only [List.size_toArray]; omega
theorem dd_len (u : Nat) (h : u < 18446744073709551616) : (Lib.decDigits u).length ≤ 20 := by rw [Lib.decDigits_length]; exact Lib.nDigits_le20 u h
theorem dd_big {u : Nat} (h : ¬ u < 10) : Lib.decDigits u = Lib.decDigits (u / 10) ++ [UInt8.ofNat (48 + u % 10)] := by rw [Lib.decDigits, dif_neg h]
theorem one_digit {n : Nat} (h : n < 10) : strOfNums [(IntKind.u8.wrap (IntKind.i64.wrap (48 + (n : Int))))] = ⟨(Lib.decDigits n).toArray⟩ := by
  rw [Lib.decDigits_one h, w64 (by omega) (by omega), IntKind.wrap_u8]
  unfold strOfNums
  simp only [List.map_cons, List.map_nil]
  congr 3
  have : ((48 + (n : Int)) % 256).toNat = 48 + n := by omega
  rw [this]
theorem least_txt : Lib.itoa (-9223372036854775808) = [45, 57, 50, 50, 51, 51, 55, 50, 48, 51, 54, 56, 53, 52, 55, 55, 53, 56, 48, 56] := by
  have : Lib.itoa (-((9223372036854775808 : Nat) : Int)) = 45 :: Lib.decDigits 9223372036854775808 := Lib.itoa_neg _ (by decide)
  rw [show (-9223372036854775808 : Int) = -((9223372036854775808 : Nat) : Int) by rfl, this]
  simp [Lib.decDigits]
theorem valF_app (c : UInt8) : ∀ (l : List UInt8) (v : Nat), valF v (l ++ [c]) = 10 * valF v l + (c.toNat - 48)
  | [], v => rfl
  | x :: l, v => valF_app c l _
theorem dd_val : ∀ u : Nat, (Lib.decDigits u).all isD = true ∧ valF 0 (Lib.decDigits u) = u ∧ Lib.decDigits u ≠ [] := by
  intro u
  induction u using Nat.strongRecOn with
  | ind u ih =>
    have dig : ∀ m : Nat, m < 10 → isD (UInt8.ofNat (48 + m)) = true ∧ (UInt8.ofNat (48 + m)).toNat - 48 = m := by decide
    by_cases h : u < 10
    · rw [Lib.decDigits_one h]
      have := dig u h
      refine ⟨?_, ?_, List.cons_ne_nil _ _⟩
      · rw [List.all_cons, this.1]; rfl
      · show 10 * 0 + ((UInt8.ofNat (48 + u)).toNat - 48) = u
        rw [this.2]; omega
    · obtain ⟨h1, h2, h3⟩ := ih (u / 10) (by omega)
      have := dig (u % 10) (by omega)
      rw [dd_big h]
      refine ⟨?_, ?_, by simp⟩
      · rw [List.all_append, h1, List.all_cons, this.1]; rfl
      · rw [valF_app, h2, this.2]; omega
theorem isD_mark {c : UInt8} (h : isD c = true) : c.toNat ≠ 45 ∧ c.toNat ≠ 43 := by
  unfold isD at h; simp only [Bool.and_eq_true, decide_eq_true_eq] at h; omega
theorem cast_itoa (n : Int) (hn : inr n = true) : castR (by_ (dtxt n)) = (n, 0) := by
  have hn' := inr_iff.mp hn
  show castR (Lib.itoa n) = (n, 0)
  by_cases h0 : 0 ≤ n
  · obtain ⟨u, rfl⟩ : ∃ u : Nat, n = u := ⟨n.toNat, by omega⟩
    obtain ⟨h1, h2, h3⟩ := dd_val u
    rw [Lib.itoa_nonneg]
    have e : castR (Lib.decDigits u) = digs false (Lib.decDigits u) := by
      cases hb : Lib.decDigits u with
      | nil => exact absurd hb h3
      | cons c t =>
        rw [hb, List.all_cons, Bool.and_eq_true] at h1
        have := isD_mark h1.1
        show (if c.toNat = 45 then _ else if c.toNat = 43 then _ else _) = _
        rw [if_neg this.1, if_neg this.2]
    rw [e]
    unfold digs fin_
    rw [if_neg h3, if_pos h1, h2, if_pos (show u ≤ lim false by show u ≤ 9223372036854775807; omega)]; rfl
  · obtain ⟨u, rfl⟩ : ∃ u : Nat, n = -(u : Int) := ⟨n.natAbs, by omega⟩
    obtain ⟨h1, h2, h3⟩ := dd_val u
    rw [Lib.itoa_neg u (by omega)]
    show digs true (Lib.decDigits u) = _
    unfold digs fin_
    rw [if_neg h3, if_pos h1, h2, if_pos (show u ≤ lim true by show u ≤ 9223372036854775808; omega)]; rfl
theorem dtxt_size (n : Int) (hn : inr n = true) : (dtxt n).size ≤ 21 := by
  have := Lib.itoa_length_le n (inr_iff.mp hn).1 (by have := (inr_iff.mp hn).2; omega)
  show (Lib.itoa n).toArray.size ≤ 21
  simpa using this

/-! Texts of values. -/
theorem format_eq (k : Nat) (n : Int) (hn : inr n = true) : strconv_FormatInt k n 10 = some (dtxt n) := by
  have := inr_iff.mp hn
  unfold strconv_FormatInt
  rw [chk_pos ⟨rfl, by rw [big_eq, decide_eq_true_eq]; omega⟩]; rfl
def vtxt (s : ByteArray) : S23 := ⟨2, 0, s⟩
def textS (v : S23) : S23 := if v.f0 = 1 then vtxt (dtxt v.f1) else v
theorem good_cases {v : S23} (h : good v = true) : (v = vnull) ∨ (v = vint v.f1 ∧ v.f0 = 1) ∨ (v.f0 = 2 ∧ v = vtxt v.f2 ∧ v.f2.size ≤ 4096) ∨ (v.f0 = 3 ∧ v = ⟨3, 0, v.f2⟩ ∧ v.f2.size ≤ 4096) := by
  by_cases h0 : v.f0 = 0
  · left
    unfold good at h
    simp only [h0, if_true, Bool.and_eq_true, decide_eq_true_eq] at h
    obtain ⟨a, b, c⟩ := v
    simp only at h0 h
    rw [h0, h.1, empty_of_size h.2]; rfl
  by_cases h1 : v.f0 = 1
  · exact .inr (.inl ⟨good1 h h1, h1⟩)
  by_cases h2 : v.f0 = 2
  · refine .inr (.inr (.inl ⟨h2, ?_⟩))
    unfold good at h
    simp only [h2, show ¬ ((2 : Int) = 0) by decide, show ¬ ((2 : Int) = 1) by decide, if_false, true_or, if_true, Bool.and_eq_true, decide_eq_true_eq] at h
    obtain ⟨a, b, c⟩ := v
    simp only at h2 h
    rw [h2, h.1]; exact ⟨rfl, h.2⟩
  by_cases h3 : v.f0 = 3
  · refine .inr (.inr (.inr ⟨h3, ?_⟩))
    unfold good at h
    simp only [h3, show ¬ ((3 : Int) = 0) by decide, show ¬ ((3 : Int) = 1) by decide, if_false, or_true, if_true, Bool.and_eq_true, decide_eq_true_eq] at h
    obtain ⟨a, b, c⟩ := v
    simp only at h3 h
    rw [h3, h.1]; exact ⟨rfl, h.2⟩
  · unfold good at h; simp [h0, h1, h2, h3] at h
theorem good_vtxt {s : ByteArray} (h : s.size ≤ 4096) : good (vtxt s) = true := by simp [good, vtxt, h]
theorem good_textS {v : S23} (hv : inr v.f1 = true) (h : good v = true) : good (textS v) = true := by
  unfold textS
  split
  · exact good_vtxt (by have := dtxt_size v.f1 hv; omega)
  · exact h
theorem textS_kind {v : S23} (h : good v = true) (h0 : v.f0 ≠ 0) (h3 : v.f0 ≠ 3) : (textS v) = vtxt (textS v).f2 := by
  unfold textS
  rcases good_cases h with rfl | ⟨_, h1⟩ | ⟨h2, e, _⟩ | ⟨q, _⟩
  · exact absurd rfl h0
  · rw [if_pos h1]; rfl
  · rw [if_neg (by omega)]; exact e
  · exact absurd q h3
end Go.Proofs.YtnoeedkbadoogaaDoor.P
namespace Go.Proofs.YtnoeedkbadoogaaDoor.P
open Go Go.AX

def vblob (s : ByteArray) : S23 := ⟨3, 0, s⟩
theorem gcases {v : S23} (h : good v = true) : (v = vnull) ∨ (∃ n, v = vint n) ∨ (∃ s, v = vtxt s ∧ s.size ≤ 4096) ∨ (∃ s, v = vblob s ∧ s.size ≤ 4096) := by
  rcases good_cases h with h | h | h | h
  · exact .inl h
  · exact .inr (.inl ⟨_, h.1⟩)
  · exact .inr (.inr (.inl ⟨_, h.2⟩))
  · exact .inr (.inr (.inr ⟨_, h.2⟩))
def typeOk (t : Int) : Bool := decide (1 ≤ t) && decide (t ≤ 4)
theorem typeOk_cases {t : Int} (h : typeOk t = true) : t = 1 ∨ t = 2 ∨ t = 3 ∨ t = 4 := by
  unfold typeOk at h; simp only [Bool.and_eq_true, decide_eq_true_eq] at h; omega
theorem type_eq (k : Nat) (t : Int) : value_Type k t = some (typeOk t) := by
  unfold value_Type typeOk
  by_cases h : 1 ≤ t
  · rw [decide_eq_true (show t ≥ 1 from h), cond_true, Bool.true_and]
  · rw [decide_eq_false (show ¬ t ≥ 1 from h), cond_false, Bool.false_and]
/-- The number of a text, as a value. -/
def numS (s : ByteArray) : S23 × Int := if (castR (by_ s)).2 = 0 then (vint (castR (by_ s)).1, 0) else (vnull, (castR (by_ s)).2)
def fitsB (v : S23) (t : Int) : Bool := v.f0 == 0 || t == 1 || (t == 2 && v.f0 == 1) || (t == 3 && v.f0 == 2) || (t == 4 && v.f0 == 3)
def storeS (v : S23) (t : Int) : S23 × Int :=
  if fitsB v t = true then (v, 0) else if t = 2 ∧ v.f0 = 2 then numS v.f2 else if t = 3 ∧ v.f0 = 1 then (textS v, 0) else if t = 4 ∧ v.f0 = 2 then (vblob v.f2, 0) else (vnull, 4)
/-- A law's loop over its list. -/
theorem law_loop {α : Type} (len : Nat) (F : Nat → Int → Option Bool) (hl : len ≤ 9223372036854775807) (h0 : ∀ n, F (n + 1) (len : Int) = some true) (h1 : ∀ n i, i < len → (F (n + 1) (i : Int) = F n ((i + 1 : Nat) : Int) ∨ F (n + 1) (i : Int) = some true)) :
    ∀ (d i n : Nat), i + d = len → d < n → F n (i : Int) = some true
  | 0, i, n + 1, hi, _ => by obtain rfl : i = len := by omega
                             exact h0 n
  | d + 1, i, n + 1, hi, hn => by
    rcases h1 n i (by omega) with h | h
    · rw [h]; exact law_loop (α := α) len F hl h0 h1 d (i + 1) n (by omega) (by omega)
    · exact h
end Go.Proofs.YtnoeedkbadoogaaDoor.P
