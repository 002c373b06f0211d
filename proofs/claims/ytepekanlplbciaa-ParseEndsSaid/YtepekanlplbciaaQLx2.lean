/-
  Layer 19: a text's pieces as plain lists of bytes: numbers, texts, blobs, marks.
-/
import Derived.Test.YtepekanlplbciaaQLx1
namespace Go.Proofs.Ytepekanlplbciaa.Q
open Go Go.AX

def nums (l : By) : List Int := l.map fun c => (c.toNat : Int)
theorem nums_txt (l : By) : strOfNums (nums l) = txt l := by
  unfold strOfNums nums txt
  rw [List.map_map]
  congr 2
  conv => rhs; rw [← List.map_id l]
  apply List.map_congr_left
  intro c _
  simp
theorem nums_append (a b : By) : nums (a ++ b) = nums a ++ nums b := by simp [nums]
theorem nums_len (a : By) : (nums a).length = a.length := by simp [nums]
theorem dropc {l : By} {i : Nat} (h : i < l.length) : l.drop i = l.getD i 0 :: l.drop (i + 1) := by rw [List.drop_eq_getElem_cons h, getD_get l i 0 h]

/-! ### numbers -/
def intF : Int → By → Option Int
  | n, [] => some n
  | n, c :: r => if n > (9223372036854775807 - ((c.toNat : Int) - 48)) / 10 then none else intF (10 * n + ((c.toNat : Int) - 48)) r
theorem int_l2 {ρ : Type} (k : Nat) (kret : Int → Bool → Option ρ) (kexit : Int → Option ρ) {s : ByteArray} (hs : s.size ≤ 9000000000) (hd : ∀ c ∈ by' s, digit c = true) : ∀ (d i n : Nat) (x : Int), i + d = s.size → d < n → 0 ≤ x → x ≤ 9223372036854775807 →
    lex_integer_l2 k kret kexit n s x (s.size : Int) (i : Int) = match intF x ((by' s).drop i) with | some v => kexit v | none => kret 0 false
  | 0, i, n + 1, x, hi, _, _, _ => by
    simp only [lex_integer_l2, lex_integer_l2_b]
    rw [decide_eq_false (by omega), cond_false, List.drop_eq_nil_of_le (by rw [by_len]; omega)]; rfl
  | d + 1, i, n + 1, x, hi, hn, h0, h1 => by
    have hlt : i < (by' s).length := by rw [by_len]; omega
    have hc := hd _ (getD_mem (d := 0) hlt)
    rw [dig_iff, Bool.and_eq_true, decide_eq_true_eq, decide_eq_true_eq] at hc
    simp only [lex_integer_l2, lex_integer_l2_b]
    rw [decide_eq_true (by omega), cond_true, chk_pos (by omega), Int.toNat_natCast, dropc hlt]
    simp only [intF]
    generalize (by' s).getD i 0 = c at hc
    have e1 : IntKind.u8.wrap ((c.toNat : Int) - 48) = (c.toNat : Int) - 48 := by rw [IntKind.wrap_u8]; omega
    simp only [e1]
    have e2 : IntKind.i64.wrap (Int.tdiv (IntKind.i64.wrap (9223372036854775807 - IntKind.i64.wrap ((c.toNat : Int) - 48))) 10) = (9223372036854775807 - ((c.toNat : Int) - 48)) / 10 := by
      rw [w64 (x := (c.toNat : Int) - 48) (by omega) (by omega), w64 (x := 9223372036854775807 - ((c.toNat : Int) - 48)) (by omega) (by omega), Int.tdiv_eq_ediv_of_nonneg (by omega), w64 (by omega) (by omega)]
    rw [e2]
    by_cases hx : x > (9223372036854775807 - ((c.toNat : Int) - 48)) / 10
    · rw [decide_eq_true hx, cond_true, if_pos hx]
    · rw [decide_eq_false hx, cond_false, if_neg hx, w64 (x := 10 * x) (by omega) (by omega), w64 (x := (c.toNat : Int) - 48) (by omega) (by omega), w64 (by omega) (by omega), w64n (by omega)]
      exact int_l2 k kret kexit hs hd d (i + 1) n _ (by omega) (by omega) (by omega) (by omega)
theorem integer_eq (k : Nat) {s : ByteArray} (hs : s.size ≤ 9000000000) (hk : s.size < k) (hd : ∀ c ∈ by' s, digit c = true) : lex_integer k s = some (match intF 0 (by' s) with | some v => (v, true) | none => (0, false)) := by
  unfold lex_integer
  refine Eq.trans (int_l2 k _ _ hs hd s.size 0 k 0 (by omega) hk (by omega) (by omega)) ?_
  rw [List.drop_zero]
  cases intF 0 (by' s) <;> rfl

/-! ### words in small letters -/
def smallc (c : UInt8) : UInt8 := if 65 ≤ c ∧ c ≤ 90 then c + 32 else c
def smalln (n : Int) : Int := if 65 ≤ n ∧ n ≤ 90 then n + 32 else n
theorem small_iff (c : UInt8) : smalln (c.toNat : Int) = ((smallc c).toNat : Int) := by
  revert c
  refine all_bytes ?_
  decide +kernel
theorem small_l3 {ρ : Type} (k : Nat) (kexit : List Int → Option ρ) : ∀ (d i n : Nat) (b : List Int), i + d = b.length → d < n → b.length ≤ 9000000000 → (∀ y ∈ b, 0 ≤ y ∧ y < 256) →
    lex_Small_l3 k kexit n b (b.length : Int) (i : Int) = kexit (b.take i ++ (b.drop i).map smalln)
  | 0, i, n + 1, b, hi, _, _, _ => by
    simp only [lex_Small_l3, lex_Small_l3_b]
    rw [decide_eq_false (by omega), cond_false, List.drop_eq_nil_of_le (by omega), List.take_of_length_le (by omega)]; simp
  | d + 1, i, n + 1, b, hi, hn, hl, hb => by
    have hlt : i < b.length := by omega
    have hc := hb _ (getD_mem (d := 0) hlt)
    simp only [lex_Small_l3, lex_Small_l3_b]
    rw [decide_eq_true (by omega), cond_true, chk_pos (by omega), Int.toNat_natCast, w64n (by omega)]
    have key : ∀ x : Int, 0 ≤ x ∧ x < 256 → x = smalln (b.getD i 0) → lex_Small_l3 k kexit n (b.set i x) (b.length : Int) ((i + 1 : Nat) : Int) = kexit (b.take i ++ (b.drop i).map smalln) := by
      intro x hx he
      have := small_l3 k kexit d (i + 1) n (b.set i x) (by simp; omega) (by omega) (by simpa using hl) (fun y hy => by
        rcases List.mem_or_eq_of_mem_set hy with h | h
        · exact hb y h
        · rw [h]; exact hx)
      rw [List.length_set] at this
      rw [this]
      congr 1
      rw [List.drop_set_of_lt (by omega), List.drop_eq_getElem_cons hlt, List.map_cons, ← getD_get b i 0 hlt, ← he, List.take_succ_eq_append_getElem (by simpa using hlt), List.take_set_of_le (Nat.le_refl _), List.getElem_set_self, List.append_assoc]
      rfl
    by_cases h1 : b.getD i 0 ≥ 65
    · rw [decide_eq_true h1, cond_true]
      by_cases h2 : b.getD i 0 ≤ 90
      · rw [decide_eq_true h2, cond_true, chk_pos (by omega), chk_pos (by omega)]
        have e : IntKind.u8.wrap (IntKind.u8.wrap (b.getD i 0 + 97) - 65) = b.getD i 0 + 32 := by
          rw [IntKind.wrap_u8, IntKind.wrap_u8]; omega
        rw [e]
        exact key _ ⟨by omega, by omega⟩ (by unfold smalln; rw [if_pos ⟨h1, h2⟩])
      · rw [decide_eq_false h2, cond_false]
        have := key (b.getD i 0) hc (by unfold smalln; rw [if_neg (fun c => h2 c.2)])
        rw [getD_get b i 0 hlt, List.set_getElem_self] at this
        exact this
    · rw [decide_eq_false h1, cond_false]
      have := key (b.getD i 0) hc (by unfold smalln; rw [if_neg (fun c => h1 c.1)])
      rw [getD_get b i 0 hlt, List.set_getElem_self] at this
      exact this
theorem small_eq (k : Nat) (s : ByteArray) (hs : s.size ≤ 9000000000) (hk : s.size < k) : lex_Small k s = some (txt ((by' s).map smallc)) := by
  unfold lex_Small
  have hl : (bytesOf s).length = s.size := by unfold bytesOf; rw [List.length_map]; rfl
  have hb : ∀ y ∈ bytesOf s, 0 ≤ y ∧ y < 256 := by
    intro y hy
    obtain ⟨c, _, rfl⟩ := List.mem_map.1 hy
    have := c.toNat_lt
    omega
  refine Eq.trans (small_l3 k _ (bytesOf s).length 0 k (bytesOf s) (by omega) (by omega) (by omega) hb) ?_
  rw [List.take_zero, List.drop_zero, List.nil_append]
  congr 1
  rw [← nums_txt]
  congr 1
  unfold bytesOf nums
  rw [List.map_map, List.map_map]
  apply List.map_congr_left
  intro c _
  exact small_iff c

/-! ### texts -/
def quotF : By → Option (By × By)
  | [] => none
  | c :: r => if c = 39 then (match r with
      | [] => some ([], [])
      | d :: r' => if d = 39 then (quotF r').map fun p => (39 :: p.1, p.2) else some ([], d :: r'))
    else (quotF r).map fun p => (c :: p.1, p.2)
theorem quotF_le : ∀ (n : Nat) (l t r : By), l.length ≤ n → quotF l = some (t, r) → r.length < l.length ∧ l.drop (l.length - r.length) = r ∧ t.length ≤ l.length
  | 0, l, t, r, hn, h => by
    have : l = [] := List.eq_nil_of_length_eq_zero (by omega)
    subst this; cases h
  | n + 1, l, t, r, hn, h => by
    match l, h with
    | c :: l, h =>
      unfold quotF at h
      simp only [List.length_cons] at hn ⊢
      split at h
      · match l, h with
        | [], h => cases h; simp
        | d :: l', h =>
          simp only at h
          simp only [List.length_cons] at hn ⊢
          split at h
          · cases hq : quotF l' with
            | none => rw [hq] at h; cases h
            | some p =>
              rw [hq] at h; cases h
              obtain ⟨h1, h2, h3⟩ := quotF_le n l' p.1 p.2 (by omega) hq
              refine ⟨by omega, ?_, by simp; omega⟩
              rw [show l'.length + 1 + 1 - p.2.length = (l'.length - p.2.length) + 1 + 1 by omega, List.drop_succ_cons, List.drop_succ_cons, h2]
          · cases h
            refine ⟨by simp, ?_, by simp⟩
            rw [show l'.length + 1 + 1 - (d :: l').length = 1 by simp]; rfl
      · cases hq : quotF l with
        | none => rw [hq] at h; cases h
        | some p =>
          rw [hq] at h; cases h
          obtain ⟨h1, h2, h3⟩ := quotF_le n l p.1 p.2 (by omega) hq
          refine ⟨by omega, ?_, by simp; omega⟩
          rw [show l.length + 1 - p.2.length = (l.length - p.2.length) + 1 by omega, List.drop_succ_cons, h2]
theorem quoted_g {ρ : Type} (k : Nat) (kret : ByteArray → Int → Bool → Option ρ) {s : ByteArray} (hs : s.size ≤ 9000000000) : ∀ (d i n : Nat) (acc : By), i ≤ s.size → s.size - i ≤ d → d < n → acc.length ≤ i →
    lex_quoted_g0 k kret n s (i : Int) (nums acc) = match quotF ((by' s).drop i) with | none => kret ByteArray.empty 0 false | some (t, r) => kret (txt (acc ++ t)) ((s.size - r.length : Nat) : Int) true
  | d, i, n + 1, acc, hi, hd, hn, ha => by
    simp only [lex_quoted_g0, lex_quoted_g0_b, lex_quoted_j2]
    by_cases he : i = s.size
    · rw [show ((i : Int) == (s.size : Int)) = true by simp [he], cond_true, List.drop_eq_nil_of_le (by rw [by_len]; omega)]; rfl
    rw [show ((i : Int) == (s.size : Int)) = false by rw [beq_eq_false_iff_ne]; omega, cond_false, chk_pos (by omega)]
    have hlt : i < (by' s).length := by rw [by_len]; omega
    cases d with
    | zero => omega
    | succ d =>
    rw [dropc hlt, Int.toNat_natCast]
    unfold quotF
    have hl1 : ((by' s).drop (i + 1)).length = s.size - (i + 1) := by rw [List.length_drop, by_len]
    by_cases hq : (by' s).getD i 0 = 39
    · rw [hq, show ((((39 : UInt8).toNat : Nat) : Int) != 39) = false from rfl, cond_false, if_pos rfl, w64n (by omega)]
      by_cases h2 : i + 1 < s.size
      · have hlt2 : i + 1 < (by' s).length := by rw [by_len]; omega
        rw [decide_eq_true (by omega), cond_true, chk_pos (by omega), dropc hlt2]
        simp only [Int.toNat_natCast]
        by_cases hq2 : (by' s).getD (i + 1) 0 = 39
        · rw [hq2, show ((((39 : UInt8).toNat : Nat) : Int) == 39) = true from rfl, cond_true, if_pos rfl, chk_pos (by simp only [nums_len, List.length_cons, List.length_nil]; omega),
            show IntKind.i64.wrap ((i : Int) + 2) = ((i + 2 : Nat) : Int) by rw [w64 (by omega) (by omega)]; rfl,
            show nums acc ++ [39] = nums (acc ++ [39]) by rw [nums_append]; rfl,
            quoted_g k kret hs d (i + 2) n (acc ++ [39]) (by omega) (by omega) (by omega) (by simp; omega)]
          cases quotF ((by' s).drop (i + 1 + 1)) with
          | none => rfl
          | some p => simp
        · rw [show ((((by' s).getD (i + 1) 0).toNat : Int) == 39) = false by
            rw [beq_eq_false_iff_ne]; intro e; exact hq2 (UInt8.toNat_inj.1 (by rw [show (39 : UInt8).toNat = 39 from rfl]; omega)), cond_false, if_neg hq2, nums_txt]
          rw [← dropc hlt2]
          simp only [List.append_nil, hl1]
          rw [show s.size - (s.size - (i + 1)) = i + 1 by omega]
      · rw [decide_eq_false (by omega), cond_false, nums_txt, List.drop_eq_nil_of_le (by rw [by_len]; omega)]
        simp only [List.append_nil, List.length_nil, Nat.sub_zero]
        rw [show i + 1 = s.size by omega]
    · rw [show ((((by' s).getD i 0).toNat : Int) != 39) = true by
        rw [bne_iff_ne]; intro e; exact hq (UInt8.toNat_inj.1 (by rw [show (39 : UInt8).toNat = 39 from rfl]; omega)), cond_true, if_neg hq, chk_pos (by omega),
        chk_pos (by simp only [nums_len, List.length_cons, List.length_nil]; omega), w64n (by omega),
        show nums acc ++ [(((by' s).getD i 0).toNat : Int)] = nums (acc ++ [(by' s).getD i 0]) by rw [nums_append]; rfl,
        quoted_g k kret hs d (i + 1) n (acc ++ [(by' s).getD i 0]) (by omega) (by omega) (by omega) (by simp; omega)]
      cases quotF ((by' s).drop (i + 1)) with
      | none => rfl
      | some p => simp
theorem quoted_eq (k : Nat) {s : ByteArray} (hs : s.size ≤ 9000000000) (hk : s.size < k) (i : Nat) (hi : i ≤ s.size) :
    lex_quoted k s (i : Int) = some (match quotF ((by' s).drop i) with | none => (ByteArray.empty, 0, false) | some (t, r) => (txt t, ((s.size - r.length : Nat) : Int), true)) := by
  have e : lex_quoted k s i = lex_quoted_g0 k (fun a b c => some (a, b, c)) (k + 1) s i (nums []) := rfl
  rw [e, quoted_g k _ hs (s.size - i) i (k + 1) [] hi (Nat.le_refl _) (by omega) (Nat.zero_le _)]
  cases quotF ((by' s).drop i) with
  | none => rfl
  | some p => rfl

/-! ### marks -/
def marks2 : List By := [[124, 124], [60, 62], [33, 61], [60, 61], [62, 61]]
def marks1 : By := [40, 41, 44, 46, 59, 42, 43, 45, 47, 37, 61, 60, 62]
def markN (l : By) : Nat := if marks2.contains (l.take 2) = true then 2 else if marks1.contains (l.getD 0 0) = true then 1 else 0
theorem mark1_eq (c : UInt8) : decide (Lib.indexByte marks1 (((c.toNat : Int)).toNat.toUInt8) ≥ 0) = marks1.contains c := by
  revert c
  refine all_bytes ?_
  decide +kernel
theorem ext2_eq (s : ByteArray) (a b : UInt8) : ((s.extract (0 : Int).toNat (2 : Int).toNat).toList == (⟨#[a, b]⟩ : ByteArray).toList) = ((by' s).take 2 == [a, b]) := by
  rw [Lib.toList_data, Lib.extract_data, Lib.toList_data]; rfl
theorem mark_j9 {ρ : Type} (k : Nat) (kret : Int → Option ρ) {s : ByteArray} (hs : 0 < s.size) (h2 : marks2.contains ((by' s).take 2) = false) : lex_mark_j9 k kret s = kret (markN (by' s) : Int) := by
  unfold lex_mark_j9 strings_IndexByte stringslite_IndexByte
  rw [chk_pos (by omega)]
  simp only [some_bind]
  have := mark1_eq ((by' s).getD 0 0)
  rw [show Lib.indexByte (⟨#[40, 41, 44, 46, 59, 42, 43, 45, 47, 37, 61, 60, 62]⟩ : ByteArray).data.toList = Lib.indexByte marks1 from rfl, this]
  unfold markN
  rw [h2, if_neg (by decide)]
  cases marks1.contains ((by' s).getD 0 0) <;> rfl
theorem mark_eq (k : Nat) {s : ByteArray} (hs : 0 < s.size) : lex_mark k s = some (markN (by' s) : Int) := by
  unfold lex_mark
  by_cases h : (s.size : Int) ≥ 2
  · rw [decide_eq_true h, cond_true, chk_pos (by omega)]
    simp only [ext2_eq]
    by_cases hm : marks2.contains ((by' s).take 2) = true
    · have e : markN (by' s) = 2 := by unfold markN; rw [if_pos hm]
      rw [e]
      simp only [marks2, List.contains_cons, List.contains_nil, Bool.or_false, Bool.or_eq_true] at hm
      rcases hm with hm | hm | hm | hm | hm <;> rw [hm]
      · rfl
      · cases (by' s).take 2 == [124, 124] <;> rfl
      · cases (by' s).take 2 == [124, 124] <;> cases (by' s).take 2 == [60, 62] <;> rfl
      · cases (by' s).take 2 == [124, 124] <;> cases (by' s).take 2 == [60, 62] <;> cases (by' s).take 2 == [33, 61] <;> rfl
      · cases (by' s).take 2 == [124, 124] <;> cases (by' s).take 2 == [60, 62] <;> cases (by' s).take 2 == [33, 61] <;> cases (by' s).take 2 == [60, 61] <;> rfl
    · rw [Bool.not_eq_true] at hm
      have hm' := hm
      simp only [marks2, List.contains_cons, List.contains_nil, Bool.or_false, Bool.or_eq_false_iff] at hm'
      obtain ⟨h1, h2, h3, h4, h5⟩ := hm'
      rw [h1, h2, h3, h4, h5]
      exact mark_j9 k _ hs hm
  · rw [decide_eq_false h, cond_false]
    refine mark_j9 k _ hs ?_
    have hl : ((by' s).take 2).length = 1 := by rw [List.length_take, by_len]; omega
    match hq : (by' s).take 2, hl with
    | [c], _ => simp [marks2]
end Go.Proofs.Ytepekanlplbciaa.Q
