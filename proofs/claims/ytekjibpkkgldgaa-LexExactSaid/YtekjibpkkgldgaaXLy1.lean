/-
  Layer 19: a text's pieces by the page's own printed functions.
-/
import Derived.Test.YtekjibpkkgldgaaXLx3
import Derived.Test.YtekjibpkkgldgaaXRj
namespace Go.Proofs.Ytekjibpkkgldgaa.X
open Go Go.AX

theorem rblank_eq (k : Nat) (c : UInt8) : cadastreref19_Blank k (c.toNat : Int) = some (blank c) := skip1_eq k c
theorem rdigit_eq (k : Nat) (c : UInt8) : cadastreref19_Digit k (c.toNat : Int) = some (digit c) := digit_eq k c
theorem rletter_eq (k : Nat) (c : UInt8) : cadastreref19_Letter k (c.toNat : Int) = some (letter c) := letter_eq k c
def nibI : Option Nat → Int
  | some x => (x : Int)
  | none => -1
theorem hex_eq (k : Nat) (c : UInt8) : cadastreref19_hex k (c.toNat : Int) = some (nibI (nib c)) := by
  have e : cadastreref19_hex k (c.toNat : Int) = cadastreref19_hex 0 (c.toNat : Int) := rfl
  rw [e]
  clear e
  revert c
  refine all_bytes ?_
  decide +kernel

/-! ### words in small letters -/
theorem lower_l3 {ρ : Type} (k : Nat) (kexit : List Int → Option ρ) : ∀ (d i n : Nat) (b : List Int), i + d = b.length → d < n → b.length ≤ 9000000000 → (∀ y ∈ b, 0 ≤ y ∧ y < 256) →
    cadastreref19_lower_l3 k kexit n b (i : Int) = kexit (b.take i ++ (b.drop i).map smalln)
  | 0, i, n + 1, b, hi, _, _, _ => by
    simp only [cadastreref19_lower_l3, cadastreref19_lower_l3_b]
    rw [decide_eq_false (by omega), cond_false, List.drop_eq_nil_of_le (by omega), List.take_of_length_le (by omega)]; simp
  | d + 1, i, n + 1, b, hi, hn, hl, hb => by
    have hlt : i < b.length := by omega
    have hc := hb _ (getD_mem (d := 0) hlt)
    simp only [cadastreref19_lower_l3, cadastreref19_lower_l3_b]
    rw [decide_eq_true (by omega), cond_true, chk_pos (by omega), Int.toNat_natCast, w64n (by omega)]
    have key : ∀ x : Int, 0 ≤ x ∧ x < 256 → x = smalln (b.getD i 0) → cadastreref19_lower_l3 k kexit n (b.set i x) ((i + 1 : Nat) : Int) = kexit (b.take i ++ (b.drop i).map smalln) := by
      intro x hx he
      have := lower_l3 k kexit d (i + 1) n (b.set i x) (by simp; omega) (by omega) (by simpa using hl) (fun y hy => by
        rcases List.mem_or_eq_of_mem_set hy with h | h
        · exact hb y h
        · rw [h]; exact hx)
      rw [this]
      congr 1
      rw [List.drop_set_of_lt (by omega), List.drop_eq_getElem_cons hlt, List.map_cons, ← getD_get b i 0 hlt, ← he, List.take_succ_eq_append_getElem (by simpa using hlt), List.take_set_of_le (Nat.le_refl _), List.getElem_set_self, List.append_assoc]
      rfl
    by_cases h1 : b.getD i 0 ≥ 65
    · rw [decide_eq_true h1, cond_true, chk_pos (by omega)]
      by_cases h2 : b.getD i 0 ≤ 90
      · rw [decide_eq_true h2, cond_true, chk_pos (by omega), chk_pos (by omega), chk_pos (by omega)]
        have e : IntKind.u8.wrap (b.getD i 0 + 32) = b.getD i 0 + 32 := by rw [IntKind.wrap_u8]; omega
        rw [e]
        exact key _ ⟨by omega, by omega⟩ (by unfold smalln; rw [if_pos ⟨h1, h2⟩])
      · rw [decide_eq_false h2, cond_false]
        have := key (b.getD i 0) hc (by unfold smalln; rw [if_neg (fun c => h2 c.2)])
        rw [getD_get b i 0 hlt, List.set_getElem_self] at this
        exact this
    · rw [decide_eq_false h1, cond_false]
      have := key (b.getD i 0) hc (by unfold smalln; rw [if_neg (fun c => h1 c.1)])
      rw [getD_get b i 0 hlt, List.set_getElem_self] at this
      exact this
theorem lower_eq (k : Nat) (s : ByteArray) (hs : s.size ≤ 9000000000) (hk : s.size < k) : cadastreref19_lower k s = some (txt ((by' s).map smallc)) := by
  have hb : bytesOf s = nums (by' s) := rfl
  have hl : (bytesOf s).length = s.size := by rw [hb, nums_len, by_len]
  unfold cadastreref19_lower
  refine Eq.trans (lower_l3 k _ s.size 0 k (bytesOf s) (by omega) hk (by omega) (fun y hy => by
    rw [hb] at hy
    obtain ⟨c, _, rfl⟩ := List.mem_map.1 hy
    have := c.toNat_lt
    omega)) ?_
  rw [List.take_zero, List.drop_zero, List.nil_append, hb, ← nums_txt]
  congr 2
  unfold nums
  rw [List.map_map, List.map_map]
  exact List.map_congr_left fun c _ => small_iff c

/-! ### blobs -/
theorem rblob_l5 {ρ : Type} (k : Nat) (kret : ByteArray → Bool → Option ρ) (kexit : List Int → Option ρ) {s : ByteArray} (hs : s.size ≤ 9000000000) : ∀ (d i n : Nat) (acc : By), i + 2 * d = s.size → d < n → acc.length ≤ i →
    cadastreref19_blob_l5 k kret kexit n s (nums acc) (i : Int) = match hexF ((by' s).drop i) with | none => kret ByteArray.empty false | some t => kexit (nums (acc ++ t))
  | 0, i, n + 1, acc, hi, _, _ => by
    simp only [cadastreref19_blob_l5, cadastreref19_blob_l5_b]
    rw [decide_eq_false (by omega), cond_false, List.drop_eq_nil_of_le (by rw [by_len]; omega)]; simp [hexF]
  | d + 1, i, n + 1, acc, hi, hn, ha => by
    have hlt : i < (by' s).length := by rw [by_len]; omega
    have hlt2 : i + 1 < (by' s).length := by rw [by_len]; omega
    simp only [cadastreref19_blob_l5, cadastreref19_blob_l5_b]
    rw [decide_eq_true (by omega), cond_true, chk_pos (by omega), Int.toNat_natCast, hex_eq, some_bind, w64n (by omega), chk_pos (by omega)]
    simp only [Int.toNat_natCast, hex_eq, some_bind]
    rw [dropc hlt, dropc hlt2]
    simp only [hexF]
    show (bif decide (nibI (nib ((by' s).getD i 0)) < 0) then _ else bif decide (nibI (nib ((by' s).getD (i + 1) 0)) < 0) then _ else _) = _
    generalize hn0 : nib ((by' s).getD i 0) = n0
    generalize hn1 : nib ((by' s).getD (i + 1) 0) = n1
    cases n0 with
    | none => rfl
    | some x =>
      rw [show decide (nibI (some x) < 0) = false from decide_eq_false (by simp [nibI]), cond_false]
      cases n1 with
      | none => rfl
      | some y =>
        have hx := nib_lt hn0
        have hy := nib_lt hn1
        rw [show decide (nibI (some y) < 0) = false from decide_eq_false (by simp [nibI]), cond_false, chk_pos (by simp only [nums_len, List.length_cons, List.length_nil]; omega)]
        have e : IntKind.u8.wrap (IntKind.i64.wrap (IntKind.i64.wrap (16 * nibI (some x)) + nibI (some y))) = ((UInt8.ofNat (x * 16 + y)).toNat : Int) := by
          show IntKind.u8.wrap (IntKind.i64.wrap (IntKind.i64.wrap (16 * (x : Int)) + (y : Int))) = _
          rw [w64 (x := 16 * (x : Int)) (by omega) (by omega), w64 (by omega) (by omega), IntKind.wrap_u8]
          simp; omega
        rw [e, show nums acc ++ [((UInt8.ofNat (x * 16 + y)).toNat : Int)] = nums (acc ++ [UInt8.ofNat (x * 16 + y)]) by rw [nums_append]; rfl,
          show IntKind.i64.wrap ((i : Int) + 2) = ((i + 2 : Nat) : Int) by rw [w64 (by omega) (by omega)]; rfl,
          rblob_l5 k kret kexit hs d (i + 2) n (acc ++ [UInt8.ofNat (x * 16 + y)]) (by omega) (by omega) (by simp; omega)]
        cases hexF ((by' s).drop (i + 1 + 1)) with
        | none => rfl
        | some t => simp
theorem rblob_eq (k : Nat) {s : ByteArray} (hs : s.size ≤ 9000000000) (hk : s.size < k) :
    cadastreref19_blob k s = some (match (if s.size % 2 ≠ 0 then none else hexF (by' s)) with | none => (ByteArray.empty, false) | some t => (txt t, true)) := by
  unfold cadastreref19_blob
  rw [Int.tmod_eq_emod_of_nonneg (by omega)]
  by_cases h : s.size % 2 ≠ 0
  · rw [if_pos h, show (((s.size : Int) % 2) == 1) = true by rw [beq_iff_eq]; omega, cond_true]
  · rw [if_neg h, show (((s.size : Int) % 2) == 1) = false by rw [beq_eq_false_iff_ne]; omega, cond_false]
    refine Eq.trans (rblob_l5 k _ _ hs (s.size / 2) 0 k [] (by omega) (by omega) (Nat.zero_le _)) ?_
    rw [List.drop_zero]
    cases hexF (by' s) with
    | none => rfl
    | some t => simp only [List.nil_append, nums_txt]

/-! ### what stands between quotes -/
theorem rquoted_l3 {ρ : Type} (k : Nat) (kret : ByteArray → Int → Option ρ) (kexit : Option ρ) {s : ByteArray} (hs : s.size ≤ 9000000000) : ∀ (d i n : Nat) (acc : By), i ≤ s.size → s.size - i ≤ d → d < n → acc.length ≤ i →
    cadastreref19_quoted_l3 k kret kexit n s (nums acc) (i : Int) = match quotF ((by' s).drop i) with | none => kexit | some (t, r) => kret (txt (acc ++ t)) ((s.size - r.length : Nat) : Int)
  | d, i, n + 1, acc, hi, hd, hn, ha => by
    simp only [cadastreref19_quoted_l3, cadastreref19_quoted_l3_b]
    by_cases he : i = s.size
    · rw [decide_eq_false (by omega), cond_false, List.drop_eq_nil_of_le (by rw [by_len]; omega)]; rfl
    rw [decide_eq_true (by omega), cond_true, chk_pos (by omega)]
    have hlt : i < (by' s).length := by rw [by_len]; omega
    cases d with
    | zero => omega
    | succ d =>
    rw [dropc hlt, Int.toNat_natCast]
    unfold quotF
    have hl1 : ((by' s).drop (i + 1)).length = s.size - (i + 1) := by rw [List.length_drop, by_len]
    by_cases hq : (by' s).getD i 0 = 39
    · rw [hq, show ((((39 : UInt8).toNat : Nat) : Int) != 39) = false from rfl, cond_false, if_pos rfl, w64n (by omega)]
      by_cases h2 : i + 1 < s.size
      · have hlt2 : i + 1 < (by' s).length := by rw [by_len]; omega
        rw [decide_eq_true (by omega), cond_true, chk_pos (by omega), dropc hlt2]
        simp only [Int.toNat_natCast]
        by_cases hq2 : (by' s).getD (i + 1) 0 = 39
        · rw [hq2, show ((((39 : UInt8).toNat : Nat) : Int) == 39) = true from rfl, cond_true, if_pos rfl, chk_pos (by simp only [nums_len, List.length_cons, List.length_nil]; omega),
            w64n (by omega),
            show nums acc ++ [39] = nums (acc ++ [39]) by rw [nums_append]; rfl,
            rquoted_l3 k kret kexit hs d (i + 1 + 1) n (acc ++ [39]) (by omega) (by omega) (by omega) (by simp; omega)]
          cases quotF ((by' s).drop (i + 1 + 1)) with
          | none => rfl
          | some p => simp
        · rw [show ((((by' s).getD (i + 1) 0).toNat : Int) == 39) = false by
            rw [beq_eq_false_iff_ne]; intro e; exact hq2 (UInt8.toNat_inj.1 (by rw [show (39 : UInt8).toNat = 39 from rfl]; omega)), cond_false, if_neg hq2, nums_txt]
          rw [← dropc hlt2]
          simp only [List.append_nil, hl1]
          rw [show s.size - (s.size - (i + 1)) = i + 1 by omega]
      · rw [decide_eq_false (by omega), cond_false, nums_txt, List.drop_eq_nil_of_le (by rw [by_len]; omega)]
        simp only [List.append_nil, List.length_nil, Nat.sub_zero]
        rw [show i + 1 = s.size by omega]
    · rw [show ((((by' s).getD i 0).toNat : Int) != 39) = true by
        rw [bne_iff_ne]; intro e; exact hq (UInt8.toNat_inj.1 (by rw [show (39 : UInt8).toNat = 39 from rfl]; omega)), cond_true, if_neg hq, chk_pos (by omega),
        chk_pos (by simp only [nums_len, List.length_cons, List.length_nil]; omega), w64n (by omega),
        show nums acc ++ [(((by' s).getD i 0).toNat : Int)] = nums (acc ++ [(by' s).getD i 0]) by rw [nums_append]; rfl,
        rquoted_l3 k kret kexit hs d (i + 1) n (acc ++ [(by' s).getD i 0]) (by omega) (by omega) (by omega) (by simp; omega)]
      cases quotF ((by' s).drop (i + 1)) with
      | none => rfl
      | some p => simp
theorem rquoted_eq (k : Nat) {s : ByteArray} (hs : s.size ≤ 9000000000) (hk : s.size < k) (i : Nat) (hi : i < s.size) :
    cadastreref19_quoted k s (i : Int) = some (match quotF ((by' s).drop (i + 1)) with | none => (ByteArray.empty, -1) | some (t, r) => (txt t, ((s.size - r.length : Nat) : Int))) := by
  unfold cadastreref19_quoted
  rw [w64n (by omega)]
  refine Eq.trans (rquoted_l3 k _ _ hs (s.size - (i + 1)) (i + 1) k [] (by omega) (Nat.le_refl _) (by omega) (Nat.zero_le _)) ?_
  cases quotF ((by' s).drop (i + 1)) with
  | none => rfl
  | some p => rfl

/-! ### numbers -/
theorem valF_int : ∀ (l : By) (v : Nat), (∀ c ∈ l, isD c = true) → v ≤ 9223372036854775807 → intF (v : Int) l = if valF v l ≤ 9223372036854775807 then some (valF v l : Int) else none
  | [], v, _, hv => by unfold intF valF; rw [if_pos hv]
  | c :: r, v, hd, hv => by
    have hc := hd c List.mem_cons_self
    unfold isD at hc
    simp only [Bool.and_eq_true, decide_eq_true_eq] at hc
    unfold intF valF
    have hge := valF_ge r (10 * v + (c.toNat - 48))
    by_cases h : (v : Int) > (9223372036854775807 - ((c.toNat : Int) - 48)) / 10
    · rw [if_pos h, if_neg (by omega)]
    · rw [if_neg h, show 10 * (v : Int) + ((c.toNat : Int) - 48) = ((10 * v + (c.toNat - 48) : Nat) : Int) by omega]
      exact valF_int r _ (fun c h => hd c (List.mem_cons_of_mem _ h)) (by omega)
theorem digit_isD (c : UInt8) : digit c = isD c := by
  rw [dig_iff]
  unfold isD
  rw [Bool.eq_iff_iff]
  simp only [Bool.and_eq_true, decide_eq_true_eq]
  omega
theorem rint_digits (k : Nat) {s : ByteArray} (hs : s.size ≤ 9000000000) (hk : s.size < k) (hne : by' s ≠ []) (hd : ∀ c ∈ by' s, digit c = true) :
    cadastreref4_Int k s = some (match intF 0 (by' s) with | some v => (v, 0) | none => (0, 5)) := by
  rw [rint_eq k hs hk]
  have hb : by_ s = by' s := rfl
  rw [hb]
  have hall : (by' s).all isD = true := List.all_eq_true.2 fun c hc => by rw [← digit_isD]; exact hd c hc
  have e : castR (by' s) = digs false (by' s) := by
    cases hq : by' s with
    | nil => exact absurd hq hne
    | cons c t =>
      have hc : isD c = true := by rw [← digit_isD]; exact hd c (by rw [hq]; exact List.mem_cons_self)
      unfold isD at hc
      simp only [Bool.and_eq_true, decide_eq_true_eq] at hc
      show (if c.toNat = 45 then digs true t else if c.toNat = 43 then digs false t else digs false (c :: t)) = _
      rw [if_neg (by omega), if_neg (by omega)]
  rw [e]
  have := valF_int (by' s) 0 (fun c hc => by rw [← digit_isD]; exact hd c hc) (by omega)
  rw [show ((0 : Nat) : Int) = 0 from rfl] at this
  rw [this]
  unfold digs fin_
  rw [if_neg hne, if_pos hall]
  by_cases h : valF 0 (by' s) ≤ 9223372036854775807
  · rw [if_pos h, if_pos (show valF 0 (by' s) ≤ lim false from h)]; rfl
  · rw [if_neg h, if_neg (show ¬ valF 0 (by' s) ≤ lim false from h)]

/-! ### marks -/
theorem rone_eq (k : Nat) (c : UInt8) : cadastreref19_one k (c.toNat : Int) = some (marks1.contains c) := by
  have e : cadastreref19_one k (c.toNat : Int) = cadastreref19_one 0 (c.toNat : Int) := rfl
  rw [e]
  clear e
  revert c
  refine all_bytes ?_
  decide +kernel
theorem rtwo_eq (k : Nat) (s : ByteArray) : cadastreref19_two k s = some (marks2.contains (by' s)) := by
  unfold cadastreref19_two
  simp only [Lib.toList_data]
  show (bif by' s == [124, 124] then some true else bif by' s == [60, 62] then some true else bif by' s == [33, 61] then some true else bif by' s == [60, 61] then some true else some (by' s == [62, 61])) = _
  unfold marks2
  simp only [List.contains_cons, List.contains_nil, Bool.or_false]
  cases by' s == [124, 124] <;> cases by' s == [60, 62] <;> cases by' s == [33, 61] <;> cases by' s == [60, 61] <;> rfl
end Go.Proofs.Ytekjibpkkgldgaa.X
