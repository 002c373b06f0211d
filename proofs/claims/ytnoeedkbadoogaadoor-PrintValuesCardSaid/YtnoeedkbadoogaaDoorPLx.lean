/-
  Layer 19: a text's pieces as plain lists of bytes: blanks, words, numbers.
  Layer 19: a text's pieces as plain lists of bytes: numbers, texts, blobs, marks.
  Layer 19: a text's tokens as a plain function of its bytes; what the printed functions come to.
-/
import Derived.Test.YtnoeedkbadoogaaDoorPF
import Derived.Test.YtnoeedkbadoogaaDoorAxLib
import Derived.Lib.Strings
import Derived.Lib.Bytealg
namespace Go.Proofs.YtnoeedkbadoogaaDoor.P
open Go Go.AX

abbrev By := List UInt8
abbrev by' (s : ByteArray) : By := s.data.toList
theorem by_len (s : ByteArray) : (by' s).length = s.size := rfl
def txt (l : By) : ByteArray := ⟨l.toArray⟩
theorem txt_by (l : By) : by' (txt l) = l := rfl
theorem by_txt (s : ByteArray) : txt (by' s) = s := by obtain ⟨⟨l⟩⟩ := s; rfl
theorem txt_size (l : By) : (txt l).size = l.length := rfl

def blank (c : UInt8) : Bool := c == 9 || c == 10 || c == 13 || c == 32
def line (c : UInt8) : Bool := c != 10
def letter (c : UInt8) : Bool := (decide (97 ≤ c) && decide (c ≤ 122)) || (decide (65 ≤ c) && decide (c ≤ 90)) || c == 95
def digit (c : UInt8) : Bool := decide (48 ≤ c) && decide (c ≤ 57)
def wordc (c : UInt8) : Bool := letter c || digit c
theorem all_bytes {p : UInt8 → Prop} (h : ∀ n : Fin 256, p (UInt8.ofNat n.val)) (c : UInt8) : p c := by
  have := h ⟨c.toNat, c.toNat_lt⟩
  simpa using this
theorem skip1_eq (k : Nat) (c : UInt8) : lex_skip_1 k (c.toNat : Int) = some (blank c) := by
  revert c
  refine all_bytes ?_
  intro n
  have h : ∀ n : Fin 256, (bif ((((UInt8.ofNat n.val).toNat : Nat) : Int) == 9) then some true else bif ((((UInt8.ofNat n.val).toNat : Nat) : Int) == 10) then some true else bif ((((UInt8.ofNat n.val).toNat : Nat) : Int) == 13) then some true else some ((((UInt8.ofNat n.val).toNat : Nat) : Int) == 32)) = some (blank (UInt8.ofNat n.val)) := by decide +kernel
  exact h n
theorem skip2_eq (k : Nat) (c : UInt8) : lex_skip_2 k (c.toNat : Int) = some (line c) := by
  revert c
  refine all_bytes ?_
  intro n
  have h : ∀ n : Fin 256, (some ((((UInt8.ofNat n.val).toNat : Nat) : Int) != 10)) = some (line (UInt8.ofNat n.val)) := by decide +kernel
  exact h n
theorem dig_iff (c : UInt8) : digit c = (decide ((c.toNat : Int) ≥ 48) && decide ((c.toNat : Int) ≤ 57)) := by
  revert c
  refine all_bytes ?_
  decide +kernel
theorem let_iff (c : UInt8) : letter c = ((decide ((c.toNat : Int) ≥ 97) && decide ((c.toNat : Int) ≤ 122)) || (decide ((c.toNat : Int) ≥ 65) && decide ((c.toNat : Int) ≤ 90)) || ((c.toNat : Int) == 95)) := by
  revert c
  refine all_bytes ?_
  decide +kernel
theorem digit_eq (k : Nat) (c : UInt8) : lex_digit k (c.toNat : Int) = some (digit c) := by
  rw [dig_iff]
  unfold lex_digit
  cases decide ((c.toNat : Int) ≥ 48) <;> rfl
theorem letter_eq (k : Nat) (c : UInt8) : lex_letter k (c.toNat : Int) = some (letter c) := by
  rw [let_iff]
  unfold lex_letter
  cases decide ((c.toNat : Int) ≥ 97) <;> cases decide ((c.toNat : Int) ≤ 122) <;> cases decide ((c.toNat : Int) ≥ 65) <;> cases decide ((c.toNat : Int) ≤ 90) <;> rfl
theorem wordc_eq (k : Nat) (c : UInt8) : lex_token_1 k (c.toNat : Int) = some (wordc c) := by
  unfold lex_token_1 wordc
  rw [letter_eq, some_bind, digit_eq]
  cases letter c <;> rfl

/-! ### a run of bytes of a kind -/
theorem drop_run (q : UInt8 → Bool) : ∀ l : By, l.drop (l.takeWhile q).length = l.dropWhile q
  | [] => rfl
  | c :: r => by
    by_cases h : q c = true
    · rw [List.takeWhile_cons_of_pos h, List.dropWhile_cons_of_pos h, List.length_cons, List.drop_succ_cons]; exact drop_run q r
    · rw [List.takeWhile_cons_of_neg h, List.dropWhile_cons_of_neg h]; rfl
theorem run_len (q : UInt8 → Bool) (l : By) : (l.takeWhile q).length + (l.dropWhile q).length = l.length := by
  rw [← List.length_append, List.takeWhile_append_dropWhile]
theorem span_gen {ρ : Type} (kexit : Int → Option ρ) (F : Nat → ByteArray → Int → Option ρ) (p : Int → Option Bool) (q : UInt8 → Bool) (hp : ∀ c : UInt8, p (c.toNat : Int) = some (q c))
    (hF : ∀ (n : Nat) (s : ByteArray) (at' : Int), F (n + 1) s at' = bif (decide (at' < (s.size : Int))) then chk (0 ≤ at' ∧ at' < (s.size : Int)) ((p ((s.data.toList.getD at'.toNat 0).toNat : Int)).bind fun r => bif r then F n s (IntKind.i64.wrap (at' + 1)) else kexit at') else kexit at')
    (s : ByteArray) (hs : s.size ≤ 9000000000) : ∀ (d i n : Nat), i + d = s.size → d < n → F n s (i : Int) = kexit ((i + (((by' s).drop i).takeWhile q).length : Nat) : Int)
  | 0, i, n + 1, hi, _ => by
    rw [hF, decide_eq_false (by omega), cond_false, List.drop_eq_nil_of_le (by rw [by_len]; omega)]
    simp
  | d + 1, i, n + 1, hi, hn => by
    rw [hF, decide_eq_true (by omega), cond_true, chk_pos (by omega), Int.toNat_natCast, hp, some_bind, List.drop_eq_getElem_cons (show i < (by' s).length by rw [by_len]; omega), ← getD_get (by' s) i 0 (by rw [by_len]; omega)]
    by_cases h : q ((by' s).getD i 0) = true
    · rw [h, cond_true, List.takeWhile_cons_of_pos h, w64n (by omega), span_gen kexit F p q hp hF s hs d (i + 1) n (by omega) (by omega), List.length_cons]
      congr 2
      omega
    · rw [show q ((by' s).getD i 0) = false by simpa using h, cond_false, List.takeWhile_cons_of_neg h]
      rfl
section
variable (k : Nat) (s : ByteArray) (hs : s.size ≤ 9000000000) (hk : s.size < k) (i : Nat) (hi : i ≤ s.size)
include hs hk hi
theorem span80 : lex_span_f124 k s i = some ((i + (((by' s).drop i).takeWhile blank).length : Nat) : Int) :=
  span_gen (fun a => some a) (lex_span_f124_l1 k fun a => some a) (lex_skip_1 k) blank (skip1_eq k) (fun _ _ _ => rfl) s hs (s.size - i) i k (by omega) (by omega)
theorem span82 : lex_span_f126 k s i = some ((i + (((by' s).drop i).takeWhile line).length : Nat) : Int) :=
  span_gen (fun a => some a) (lex_span_f126_l1 k fun a => some a) (lex_skip_2 k) line (skip2_eq k) (fun _ _ _ => rfl) s hs (s.size - i) i k (by omega) (by omega)
theorem span84 : lex_span_f128 k s i = some ((i + (((by' s).drop i).takeWhile digit).length : Nat) : Int) :=
  span_gen (fun a => some a) (lex_span_f128_l1 k fun a => some a) (lex_digit k) digit (digit_eq k) (fun _ _ _ => rfl) s hs (s.size - i) i k (by omega) (by omega)
theorem span87 : lex_span_f131 k s i = some ((i + (((by' s).drop i).takeWhile wordc).length : Nat) : Int) :=
  span_gen (fun a => some a) (lex_span_f131_l1 k fun a => some a) (lex_token_1 k) wordc (wordc_eq k) (fun _ _ _ => rfl) s hs (s.size - i) i k (by omega) (by omega)
end

/-! ### blanks and remarks -/
def skipF : Nat → By → By
  | 0, l => l
  | n + 1, l => if (l.dropWhile blank).take 2 = [45, 45] then skipF n ((l.dropWhile blank).dropWhile line) else l.dropWhile blank
def skipL (l : By) : By := skipF (l.length + 1) l
theorem run_le (q : UInt8 → Bool) (l : By) : (l.dropWhile q).length ≤ l.length := by have := run_len q l; omega
theorem remark_lt {l : By} (h : l.take 2 = [45, 45]) : (l.dropWhile line).length < l.length := by
  match l, h with
  | c :: r, h =>
    have hc : c = 45 := by simp at h; exact h.1
    rw [List.dropWhile_cons_of_pos (by rw [hc]; rfl)]
    have := run_le line r
    simp only [List.length_cons]; omega
theorem skipF_fuel : ∀ (n m : Nat) (l : By), l.length < n → l.length < m → skipF n l = skipF m l
  | n + 1, m + 1, l, hn, hm => by
    simp only [skipF]
    split
    · rename_i h
      have h1 := remark_lt h
      have h2 := run_le blank l
      exact skipF_fuel n m _ (by omega) (by omega)
    · rfl
theorem skipL_eq (l : By) : skipL l = if (l.dropWhile blank).take 2 = [45, 45] then skipL ((l.dropWhile blank).dropWhile line) else l.dropWhile blank := by
  unfold skipL
  conv => lhs; unfold skipF
  split
  · rename_i h
    have h1 := remark_lt h
    have h2 := run_le blank l
    exact skipF_fuel _ _ _ (by omega) (by omega)
  · rfl
theorem skipL_le (l : By) : (skipL l).length ≤ l.length := by
  have : ∀ (n : Nat) (l : By), (skipF n l).length ≤ l.length := by
    intro n
    induction n with
    | zero => intro l; exact Nat.le_refl _
    | succ n ih =>
      intro l
      simp only [skipF]
      have h1 := run_le blank l
      split
      · have h2 := run_le line (l.dropWhile blank)
        have := ih ((l.dropWhile blank).dropWhile line)
        omega
      · exact h1
  exact this _ l
theorem hasPrefix_eq (k : Nat) (s : ByteArray) (p : ByteArray) : strings_HasPrefix k s p = some (decide ((by' s).take p.size = by' p)) := by
  unfold strings_HasPrefix stringslite_HasPrefix
  by_cases h : p.size ≤ s.size
  · rw [decide_eq_true (by omega), cond_true, chk_pos (by omega)]
    simp only [some_bind]
    congr 1
    rw [beq_bytes, Bool.eq_iff_iff, beq_iff_eq, decide_eq_true_eq, Int.toNat_natCast]
    constructor
    · intro e
      have := congrArg by' e
      simp only [Lib.extract_data] at this
      simpa using this
    · intro e
      apply ByteArray.ext
      apply Array.ext'
      rw [Lib.extract_data]
      simpa using e
  · rw [decide_eq_false (by omega), cond_false, some_bind]
    rw [decide_eq_false]
    intro e
    have := congrArg List.length e
    rw [List.length_take, by_len, by_len] at this
    omega
theorem skip_eq {s : ByteArray} (k : Nat) (hs : s.size ≤ 9000000000) (hk : s.size < k) : ∀ (d i n : Nat), i ≤ s.size → s.size - i ≤ d → d < n →
    ∃ j : Nat, i ≤ j ∧ j ≤ s.size ∧ (by' s).drop j = skipL ((by' s).drop i) ∧ lex_skip_g0 k (fun a => some a) n s i = some (j : Int)
  | d, i, n + 1, hi, hd, hn => by
    simp only [lex_skip_g0, lex_skip_g0_b, lex_skip_j1]
    have hl : ((by' s).drop i).length = s.size - i := by rw [List.length_drop, by_len]
    have h1 := run_len blank ((by' s).drop i)
    have e1 : (by' s).drop (i + (((by' s).drop i).takeWhile blank).length) = ((by' s).drop i).dropWhile blank := by rw [← List.drop_drop, drop_run]
    rw [span80 k s hs hk i hi, some_bind, chk_pos (by omega), hasPrefix_eq, some_bind, skipL_eq]
    have e2 : by' (s.extract ((i + (((by' s).drop i).takeWhile blank).length : Nat) : Int).toNat ((s.size : Int)).toNat) = ((by' s).drop i).dropWhile blank := by
      simp only [by', Lib.extract_data, Int.toNat_natCast]
      rw [← e1, List.take_of_length_le (by rw [List.length_drop]; exact Nat.le_refl _)]
    rw [e2]
    by_cases h : (((by' s).drop i).dropWhile blank).take 2 = [45, 45]
    · rw [if_pos h, decide_eq_true (show (((by' s).drop i).dropWhile blank).take (⟨#[45, 45]⟩ : ByteArray).size = by' ⟨#[45, 45]⟩ from h), cond_true]
      have hlt := remark_lt h
      have h2 := run_len line (((by' s).drop i).dropWhile blank)
      rw [span82 k s hs hk _ (by omega), some_bind, e1]
      have e3 : (by' s).drop (i + (((by' s).drop i).takeWhile blank).length + ((((by' s).drop i).dropWhile blank).takeWhile line).length) = (((by' s).drop i).dropWhile blank).dropWhile line := by
        rw [← List.drop_drop, e1, drop_run]
      cases d with
      | zero => omega
      | succ d =>
        obtain ⟨j, g1, g2, g3, g4⟩ := skip_eq k hs hk d (i + (((by' s).drop i).takeWhile blank).length + ((((by' s).drop i).dropWhile blank).takeWhile line).length) n (by omega) (by omega) (by omega)
        exact ⟨j, by omega, g2, by rw [g3, e3], g4⟩
    · rw [if_neg h, decide_eq_false (show ¬ (((by' s).drop i).dropWhile blank).take (⟨#[45, 45]⟩ : ByteArray).size = by' ⟨#[45, 45]⟩ from h), cond_false]
      exact ⟨_, by omega, by omega, e1, rfl⟩
theorem skipp {s : ByteArray} (k : Nat) (hs : s.size ≤ 9000000000) (hk : s.size + 1 < k) (i : Nat) (hi : i ≤ s.size) :
    ∃ j : Nat, i ≤ j ∧ j ≤ s.size ∧ (by' s).drop j = skipL ((by' s).drop i) ∧ lex_skip k s i = some (j : Int) := by
  have e : lex_skip k s i = lex_skip_g0 k (fun a => some a) (k + 1) s i := rfl
  rw [e]
  exact skip_eq k hs (by omega) (s.size - i) i (k + 1) hi (Nat.le_refl _) (by omega)
end Go.Proofs.YtnoeedkbadoogaaDoor.P
namespace Go.Proofs.YtnoeedkbadoogaaDoor.P
open Go Go.AX

def nums (l : By) : List Int := l.map fun c => (c.toNat : Int)
theorem nums_txt (l : By) : strOfNums (nums l) = txt l := by
  unfold strOfNums nums txt
  rw [List.map_map]
  congr 2
  conv => rhs; rw [← List.map_id l]
  apply List.map_congr_left
  intro c _
  simp
theorem nums_append (a b : By) : nums (a ++ b) = nums a ++ nums b := by simp [nums]
theorem nums_len (a : By) : (nums a).length = a.length := by simp [nums]
theorem dropc {l : By} {i : Nat} (h : i < l.length) : l.drop i = l.getD i 0 :: l.drop (i + 1) := by rw [List.drop_eq_getElem_cons h, getD_get l i 0 h]

/-! ### numbers -/
def intF : Int → By → Option Int
  | n, [] => some n
  | n, c :: r => if n > (9223372036854775807 - ((c.toNat : Int) - 48)) / 10 then none else intF (10 * n + ((c.toNat : Int) - 48)) r
theorem int_l2 {ρ : Type} (k : Nat) (kret : Int → Bool → Option ρ) (kexit : Int → Option ρ) {s : ByteArray} (hs : s.size ≤ 9000000000) (hd : ∀ c ∈ by' s, digit c = true) : ∀ (d i n : Nat) (x : Int), i + d = s.size → d < n → 0 ≤ x → x ≤ 9223372036854775807 →
    lex_integer_l2 k kret kexit n s x (s.size : Int) (i : Int) = match intF x ((by' s).drop i) with | some v => kexit v | none => kret 0 false
  | 0, i, n + 1, x, hi, _, _, _ => by
    simp only [lex_integer_l2, lex_integer_l2_b]
    rw [decide_eq_false (by omega), cond_false, List.drop_eq_nil_of_le (by rw [by_len]; omega)]; rfl
  | d + 1, i, n + 1, x, hi, hn, h0, h1 => by
    have hlt : i < (by' s).length := by rw [by_len]; omega
    have hc := hd _ (getD_mem (d := 0) hlt)
    rw [dig_iff, Bool.and_eq_true, decide_eq_true_eq, decide_eq_true_eq] at hc
    simp only [lex_integer_l2, lex_integer_l2_b]
    rw [decide_eq_true (by omega), cond_true, chk_pos (by omega), Int.toNat_natCast, dropc hlt]
    simp only [intF]
    generalize (by' s).getD i 0 = c at hc
    have e1 : IntKind.u8.wrap ((c.toNat : Int) - 48) = (c.toNat : Int) - 48 := by rw [IntKind.wrap_u8]; omega
    simp only [e1]
    have e2 : IntKind.i64.wrap (Int.tdiv (IntKind.i64.wrap (9223372036854775807 - IntKind.i64.wrap ((c.toNat : Int) - 48))) 10) = (9223372036854775807 - ((c.toNat : Int) - 48)) / 10 := by
      rw [w64 (x := (c.toNat : Int) - 48) (by omega) (by omega), w64 (x := 9223372036854775807 - ((c.toNat : Int) - 48)) (by omega) (by omega), Int.tdiv_eq_ediv_of_nonneg (by omega), w64 (by omega) (by omega)]
    rw [e2]
    by_cases hx : x > (9223372036854775807 - ((c.toNat : Int) - 48)) / 10
    · rw [decide_eq_true hx, cond_true, if_pos hx]
    · rw [decide_eq_false hx, cond_false, if_neg hx, w64 (x := 10 * x) (by omega) (by omega), w64 (x := (c.toNat : Int) - 48) (by omega) (by omega), w64 (by omega) (by omega), w64n (by omega)]
      exact int_l2 k kret kexit hs hd d (i + 1) n _ (by omega) (by omega) (by omega) (by omega)
theorem integer_eq (k : Nat) {s : ByteArray} (hs : s.size ≤ 9000000000) (hk : s.size < k) (hd : ∀ c ∈ by' s, digit c = true) : lex_integer k s = some (match intF 0 (by' s) with | some v => (v, true) | none => (0, false)) := by
  unfold lex_integer
  refine Eq.trans (int_l2 k _ _ hs hd s.size 0 k 0 (by omega) hk (by omega) (by omega)) ?_
  rw [List.drop_zero]
  cases intF 0 (by' s) <;> rfl

/-! ### words in small letters -/
def smallc (c : UInt8) : UInt8 := if 65 ≤ c ∧ c ≤ 90 then c + 32 else c
def smalln (n : Int) : Int := if 65 ≤ n ∧ n ≤ 90 then n + 32 else n
theorem small_iff (c : UInt8) : smalln (c.toNat : Int) = ((smallc c).toNat : Int) := by
  revert c
  refine all_bytes ?_
  decide +kernel
theorem small_l3 {ρ : Type} (k : Nat) (kexit : List Int → Option ρ) : ∀ (d i n : Nat) (b : List Int), i + d = b.length → d < n → b.length ≤ 9000000000 → (∀ y ∈ b, 0 ≤ y ∧ y < 256) →
    lex_Small_l3 k kexit n b (b.length : Int) (i : Int) = kexit (b.take i ++ (b.drop i).map smalln)
  | 0, i, n + 1, b, hi, _, _, _ => by
    simp only [lex_Small_l3, lex_Small_l3_b]
    rw [decide_eq_false (by omega), cond_false, List.drop_eq_nil_of_le (by omega), List.take_of_length_le (by omega)]; simp
  | d + 1, i, n + 1, b, hi, hn, hl, hb => by
    have hlt : i < b.length := by omega
    have hc := hb _ (getD_mem (d := 0) hlt)
    simp only [lex_Small_l3, lex_Small_l3_b]
    rw [decide_eq_true (by omega), cond_true, chk_pos (by omega), Int.toNat_natCast, w64n (by omega)]
    have key : ∀ x : Int, 0 ≤ x ∧ x < 256 → x = smalln (b.getD i 0) → lex_Small_l3 k kexit n (b.set i x) (b.length : Int) ((i + 1 : Nat) : Int) = kexit (b.take i ++ (b.drop i).map smalln) := by
      intro x hx he
      have := small_l3 k kexit d (i + 1) n (b.set i x) (by simp; omega) (by omega) (by simpa using hl) (fun y hy => by
        rcases List.mem_or_eq_of_mem_set hy with h | h
        · exact hb y h
        · rw [h]; exact hx)
      rw [List.length_set] at this
      rw [this]
      congr 1
      rw [List.drop_set_of_lt (by omega), List.drop_eq_getElem_cons hlt, List.map_cons, ← getD_get b i 0 hlt, ← he, List.take_succ_eq_append_getElem (by simpa using hlt), List.take_set_of_le (Nat.le_refl _), List.getElem_set_self, List.append_assoc]
      rfl
    by_cases h1 : b.getD i 0 ≥ 65
    · rw [decide_eq_true h1, cond_true]
      by_cases h2 : b.getD i 0 ≤ 90
      · rw [decide_eq_true h2, cond_true, chk_pos (by omega), chk_pos (by omega)]
        have e : IntKind.u8.wrap (IntKind.u8.wrap (b.getD i 0 + 97) - 65) = b.getD i 0 + 32 := by
          rw [IntKind.wrap_u8, IntKind.wrap_u8]; omega
        rw [e]
        exact key _ ⟨by omega, by omega⟩ (by unfold smalln; rw [if_pos ⟨h1, h2⟩])
      · rw [decide_eq_false h2, cond_false]
        have := key (b.getD i 0) hc (by unfold smalln; rw [if_neg (fun c => h2 c.2)])
        rw [getD_get b i 0 hlt, List.set_getElem_self] at this
        exact this
    · rw [decide_eq_false h1, cond_false]
      have := key (b.getD i 0) hc (by unfold smalln; rw [if_neg (fun c => h1 c.1)])
      rw [getD_get b i 0 hlt, List.set_getElem_self] at this
      exact this
theorem small_eq (k : Nat) (s : ByteArray) (hs : s.size ≤ 9000000000) (hk : s.size < k) : lex_Small k s = some (txt ((by' s).map smallc)) := by
  unfold lex_Small
  have hl : (bytesOf s).length = s.size := by unfold bytesOf; rw [List.length_map]; rfl
  have hb : ∀ y ∈ bytesOf s, 0 ≤ y ∧ y < 256 := by
    intro y hy
    obtain ⟨c, _, rfl⟩ := List.mem_map.1 hy
    have := c.toNat_lt
    omega
  refine Eq.trans (small_l3 k _ (bytesOf s).length 0 k (bytesOf s) (by omega) (by omega) (by omega) hb) ?_
  rw [List.take_zero, List.drop_zero, List.nil_append]
  congr 1
  rw [← nums_txt]
  congr 1
  unfold bytesOf nums
  rw [List.map_map, List.map_map]
  apply List.map_congr_left
  intro c _
  exact small_iff c

/-! ### texts -/
def quotF : By → Option (By × By)
  | [] => none
  | c :: r => if c = 39 then (match r with
      | [] => some ([], [])
      | d :: r' => if d = 39 then (quotF r').map fun p => (39 :: p.1, p.2) else some ([], d :: r'))
    else (quotF r).map fun p => (c :: p.1, p.2)
theorem quotF_le : ∀ (n : Nat) (l t r : By), l.length ≤ n → quotF l = some (t, r) → r.length < l.length ∧ l.drop (l.length - r.length) = r ∧ t.length ≤ l.length
  | 0, l, t, r, hn, h => by
    have : l = [] := List.eq_nil_of_length_eq_zero (by omega)
    subst this; cases h
  | n + 1, l, t, r, hn, h => by
    match l, h with
    | c :: l, h =>
      unfold quotF at h
      simp only [List.length_cons] at hn ⊢
      split at h
      · match l, h with
        | [], h => cases h; simp
        | d :: l', h =>
          simp only at h
          simp only [List.length_cons] at hn ⊢
          split at h
          · cases hq : quotF l' with
            | none => rw [hq] at h; cases h
            | some p =>
              rw [hq] at h; cases h
              obtain ⟨h1, h2, h3⟩ := quotF_le n l' p.1 p.2 (by omega) hq
              refine ⟨by omega, ?_, by simp; omega⟩
              rw [show l'.length + 1 + 1 - p.2.length = (l'.length - p.2.length) + 1 + 1 by omega, List.drop_succ_cons, List.drop_succ_cons, h2]
          · cases h
            refine ⟨by simp, ?_, by simp⟩
            rw [show l'.length + 1 + 1 - (d :: l').length = 1 by simp]; rfl
      · cases hq : quotF l with
        | none => rw [hq] at h; cases h
        | some p =>
          rw [hq] at h; cases h
          obtain ⟨h1, h2, h3⟩ := quotF_le n l p.1 p.2 (by omega) hq
          refine ⟨by omega, ?_, by simp; omega⟩
          rw [show l.length + 1 - p.2.length = (l.length - p.2.length) + 1 by omega, List.drop_succ_cons, h2]
theorem quoted_g {ρ : Type} (k : Nat) (kret : ByteArray → Int → Bool → Option ρ) {s : ByteArray} (hs : s.size ≤ 9000000000) : ∀ (d i n : Nat) (acc : By), i ≤ s.size → s.size - i ≤ d → d < n → acc.length ≤ i →
    lex_quoted_g0 k kret n s (i : Int) (nums acc) = match quotF ((by' s).drop i) with | none => kret ByteArray.empty 0 false | some (t, r) => kret (txt (acc ++ t)) ((s.size - r.length : Nat) : Int) true
  | d, i, n + 1, acc, hi, hd, hn, ha => by
    simp only [lex_quoted_g0, lex_quoted_g0_b, lex_quoted_j2]
    by_cases he : i = s.size
    · rw [show ((i : Int) == (s.size : Int)) = true by simp [he], cond_true, List.drop_eq_nil_of_le (by rw [by_len]; omega)]; rfl
    rw [show ((i : Int) == (s.size : Int)) = false by rw [beq_eq_false_iff_ne]; omega, cond_false, chk_pos (by omega)]
    have hlt : i < (by' s).length := by rw [by_len]; omega
    cases d with
    | zero => omega
    | succ d =>
    rw [dropc hlt, Int.toNat_natCast]
    unfold quotF
    have hl1 : ((by' s).drop (i + 1)).length = s.size - (i + 1) := by rw [List.length_drop, by_len]
    by_cases hq : (by' s).getD i 0 = 39
    · rw [hq, show ((((39 : UInt8).toNat : Nat) : Int) != 39) = false from rfl, cond_false, if_pos rfl, w64n (by omega)]
      by_cases h2 : i + 1 < s.size
      · have hlt2 : i + 1 < (by' s).length := by rw [by_len]; omega
        rw [decide_eq_true (by omega), cond_true, chk_pos (by omega), dropc hlt2]
        simp only [Int.toNat_natCast]
        by_cases hq2 : (by' s).getD (i + 1) 0 = 39
        · rw [hq2, show ((((39 : UInt8).toNat : Nat) : Int) == 39) = true from rfl, cond_true, if_pos rfl, chk_pos (by simp only [nums_len, List.length_cons, List.length_nil]; omega),
            show IntKind.i64.wrap ((i : Int) + 2) = ((i + 2 : Nat) : Int) by rw [w64 (by omega) (by omega)]; rfl,
            show nums acc ++ [39] = nums (acc ++ [39]) by rw [nums_append]; rfl,
            quoted_g k kret hs d (i + 2) n (acc ++ [39]) (by omega) (by omega) (by omega) (by simp; omega)]
          cases quotF ((by' s).drop (i + 1 + 1)) with
          | none => rfl
          | some p => simp
        · rw [show ((((by' s).getD (i + 1) 0).toNat : Int) == 39) = false by
            rw [beq_eq_false_iff_ne]; intro e; exact hq2 (UInt8.toNat_inj.1 (by rw [show (39 : UInt8).toNat = 39 from rfl]; omega)), cond_false, if_neg hq2, nums_txt]
          rw [← dropc hlt2]
          simp only [List.append_nil, hl1]
          rw [show s.size - (s.size - (i + 1)) = i + 1 by omega]
      · rw [decide_eq_false (by omega), cond_false, nums_txt, List.drop_eq_nil_of_le (by rw [by_len]; omega)]
        simp only [List.append_nil, List.length_nil, Nat.sub_zero]
        rw [show i + 1 = s.size by omega]
    · rw [show ((((by' s).getD i 0).toNat : Int) != 39) = true by
        rw [bne_iff_ne]; intro e; exact hq (UInt8.toNat_inj.1 (by rw [show (39 : UInt8).toNat = 39 from rfl]; omega)), cond_true, if_neg hq, chk_pos (by omega),
        chk_pos (by simp only [nums_len, List.length_cons, List.length_nil]; omega), w64n (by omega),
        show nums acc ++ [(((by' s).getD i 0).toNat : Int)] = nums (acc ++ [(by' s).getD i 0]) by rw [nums_append]; rfl,
        quoted_g k kret hs d (i + 1) n (acc ++ [(by' s).getD i 0]) (by omega) (by omega) (by omega) (by simp; omega)]
      cases quotF ((by' s).drop (i + 1)) with
      | none => rfl
      | some p => simp
theorem quoted_eq (k : Nat) {s : ByteArray} (hs : s.size ≤ 9000000000) (hk : s.size < k) (i : Nat) (hi : i ≤ s.size) :
    lex_quoted k s (i : Int) = some (match quotF ((by' s).drop i) with | none => (ByteArray.empty, 0, false) | some (t, r) => (txt t, ((s.size - r.length : Nat) : Int), true)) := by
  have e : lex_quoted k s i = lex_quoted_g0 k (fun a b c => some (a, b, c)) (k + 1) s i (nums []) := rfl
  rw [e, quoted_g k _ hs (s.size - i) i (k + 1) [] hi (Nat.le_refl _) (by omega) (Nat.zero_le _)]
  cases quotF ((by' s).drop i) with
  | none => rfl
  | some p => rfl

/-! ### marks -/
def marks2 : List By := [[124, 124], [60, 62], [33, 61], [60, 61], [62, 61]]
def marks1 : By := [40, 41, 44, 46, 59, 42, 43, 45, 47, 37, 61, 60, 62]
def markN (l : By) : Nat := if marks2.contains (l.take 2) = true then 2 else if marks1.contains (l.getD 0 0) = true then 1 else 0
theorem mark1_eq (c : UInt8) : decide (Lib.indexByte marks1 (((c.toNat : Int)).toNat.toUInt8) ≥ 0) = marks1.contains c := by
  revert c
  refine all_bytes ?_
  decide +kernel
theorem ext2_eq (s : ByteArray) (a b : UInt8) : ((s.extract (0 : Int).toNat (2 : Int).toNat).toList == (⟨#[a, b]⟩ : ByteArray).toList) = ((by' s).take 2 == [a, b]) := by
  rw [Lib.toList_data, Lib.extract_data, Lib.toList_data]; rfl
theorem mark_j9 {ρ : Type} (k : Nat) (kret : Int → Option ρ) {s : ByteArray} (hs : 0 < s.size) (h2 : marks2.contains ((by' s).take 2) = false) : lex_mark_j9 k kret s = kret (markN (by' s) : Int) := by
  unfold lex_mark_j9 strings_IndexByte stringslite_IndexByte
  rw [chk_pos (by omega)]
  simp only [some_bind]
  have := mark1_eq ((by' s).getD 0 0)
  rw [show Lib.indexByte (⟨#[40, 41, 44, 46, 59, 42, 43, 45, 47, 37, 61, 60, 62]⟩ : ByteArray).data.toList = Lib.indexByte marks1 from rfl, this]
  unfold markN
  rw [h2, if_neg (by decide)]
  cases marks1.contains ((by' s).getD 0 0) <;> rfl
theorem mark_eq (k : Nat) {s : ByteArray} (hs : 0 < s.size) : lex_mark k s = some (markN (by' s) : Int) := by
  unfold lex_mark
  by_cases h : (s.size : Int) ≥ 2
  · rw [decide_eq_true h, cond_true, chk_pos (by omega)]
    simp only [ext2_eq]
    by_cases hm : marks2.contains ((by' s).take 2) = true
    · have e : markN (by' s) = 2 := by unfold markN; rw [if_pos hm]
      rw [e]
      simp only [marks2, List.contains_cons, List.contains_nil, Bool.or_false, Bool.or_eq_true] at hm
      rcases hm with hm | hm | hm | hm | hm <;> rw [hm]
      · rfl
      · cases (by' s).take 2 == [124, 124] <;> rfl
      · cases (by' s).take 2 == [124, 124] <;> cases (by' s).take 2 == [60, 62] <;> rfl
      · cases (by' s).take 2 == [124, 124] <;> cases (by' s).take 2 == [60, 62] <;> cases (by' s).take 2 == [33, 61] <;> rfl
      · cases (by' s).take 2 == [124, 124] <;> cases (by' s).take 2 == [60, 62] <;> cases (by' s).take 2 == [33, 61] <;> cases (by' s).take 2 == [60, 61] <;> rfl
    · rw [Bool.not_eq_true] at hm
      have hm' := hm
      simp only [marks2, List.contains_cons, List.contains_nil, Bool.or_false, Bool.or_eq_false_iff] at hm'
      obtain ⟨h1, h2, h3, h4, h5⟩ := hm'
      rw [h1, h2, h3, h4, h5]
      exact mark_j9 k _ hs hm
  · rw [decide_eq_false h, cond_false]
    refine mark_j9 k _ hs ?_
    have hl : ((by' s).take 2).length = 1 := by rw [List.length_take, by_len]; omega
    match hq : (by' s).take 2, hl with
    | [c], _ => simp [marks2]
end Go.Proofs.YtnoeedkbadoogaaDoor.P
namespace Go.Proofs.YtnoeedkbadoogaaDoor.P
open Go Go.AX
theorem bigd (p : Prop) [Decidable p] : big (decide p) = decide p := big_eq _

/-! ### blobs -/
def nib (c : UInt8) : Option Nat :=
  if 48 ≤ c ∧ c ≤ 57 then some (c.toNat - 48) else if 97 ≤ c ∧ c ≤ 102 then some (c.toNat - 87) else if 65 ≤ c ∧ c ≤ 70 then some (c.toNat - 55) else none
def nibR : Option Nat → Int × Bool
  | some x => ((x : Int), true)
  | none => (0, false)
theorem nib_eq (k : Nat) (c : UInt8) : lex_nibble k (c.toNat : Int) = some (nibR (nib c)) := by
  have e : lex_nibble k (c.toNat : Int) = lex_nibble 0 (c.toNat : Int) := rfl
  rw [e]
  clear e
  revert c
  refine all_bytes ?_
  decide +kernel
theorem nib_lt {c : UInt8} {x : Nat} (h : nib c = some x) : x < 16 := by
  have key : ∀ c : UInt8, (match nib c with | some x => decide (x < 16) | none => true) = true := all_bytes (by decide +kernel)
  have := key c
  rw [h] at this
  simpa using this
def hexF : By → Option By
  | [] => some []
  | [_] => none
  | a :: b :: r => match nib a, nib b with | some x, some y => (hexF r).map (UInt8.ofNat (x * 16 + y) :: ·) | _, _ => none
def notq (c : UInt8) : Bool := c != 39
def blobL (l : By) : Option (By × By) :=
  if (l.takeWhile notq).length = l.length then none else if (l.takeWhile notq).length % 2 ≠ 0 then none else (hexF (l.takeWhile notq)).map fun t => (t, l.drop ((l.takeWhile notq).length + 1))
theorem idx39 : ∀ l : By, Lib.indexByte l 39 = if (l.takeWhile notq).length = l.length then -1 else ((l.takeWhile notq).length : Int)
  | [] => rfl
  | c :: r => by
    unfold Lib.indexByte
    by_cases h : c = 39
    · rw [if_pos (by simp [h]), List.takeWhile_cons_of_neg (by simp [notq, h])]; simp
    · rw [if_neg (by simpa using h), List.takeWhile_cons_of_pos (by simp [notq, h]), idx39 r]
      by_cases h2 : (r.takeWhile notq).length = r.length
      · rw [if_pos h2, if_pos (by decide), if_pos (by simp [h2])]
      · rw [if_neg h2, if_neg (by rw [beq_iff_eq]; omega), if_neg (by simp [h2])]; simp
theorem hexor (x y : Nat) (hx : x < 16) (hy : y < 16) : IntKind.u8.wrap ((BitVec.ofInt (IntKind.u8).bits (IntKind.u8.wrap ((x : Int) * 2 ^ (min (4 : Int).toNat (IntKind.u8).bits))) ||| BitVec.ofInt (IntKind.u8).bits (y : Int)).toNat : Int) = ((UInt8.ofNat (x * 16 + y)).toNat : Int) := by
  have h : ∀ a b : Fin 16, IntKind.u8.wrap ((BitVec.ofInt (IntKind.u8).bits (IntKind.u8.wrap ((a.val : Int) * 2 ^ (min (4 : Int).toNat (IntKind.u8).bits))) ||| BitVec.ofInt (IntKind.u8).bits (b.val : Int)).toNat : Int) = ((UInt8.ofNat (a.val * 16 + b.val)).toNat : Int) := by decide +kernel
  exact h ⟨x, hx⟩ ⟨y, hy⟩
theorem blob_l6 {ρ : Type} (k : Nat) (kret : ByteArray → Int → Bool → Option ρ) (kexit : Int → Int → List Int → Option ρ) {s : ByteArray} (hs : s.size ≤ 9000000000) (a m : Nat) (he : a + m < s.size) : ∀ (d i n : Nat) (acc : By), i + 2 * d = a + m → d < n → acc.length ≤ i →
    lex_blob_l6 k kret kexit n s (a : Int) (m : Int) (nums acc) (i : Int) = match hexF (((by' s).drop i).take (2 * d)) with | none => kret ByteArray.empty 0 false | some t => kexit a m (nums (acc ++ t))
  | 0, i, n + 1, acc, hi, _, _ => by
    simp only [lex_blob_l6, lex_blob_l6_b]
    rw [w64 (by omega) (by omega), decide_eq_false (by omega), cond_false]; simp [hexF]
  | d + 1, i, n + 1, acc, hi, hn, ha => by
    have hlt : i < (by' s).length := by rw [by_len]; omega
    have hlt2 : i + 1 < (by' s).length := by rw [by_len]; omega
    simp only [lex_blob_l6, lex_blob_l6_b]
    rw [w64 (by omega) (by omega), decide_eq_true (by omega), cond_true, chk_pos (by omega), Int.toNat_natCast, nib_eq, some_bind, w64n (by omega), chk_pos (by omega)]
    simp only [Int.toNat_natCast, nib_eq, some_bind]
    rw [dropc hlt, dropc hlt2, show 2 * (d + 1) = 2 * d + 1 + 1 by omega, List.take_succ_cons, List.take_succ_cons]
    simp only [hexF]
    generalize (by' s).getD i 0 = c0
    generalize (by' s).getD (i + 1) 0 = c1
    cases h0 : nib c0 with
    | none => rfl
    | some x =>
      cases h1 : nib c1 with
      | none => rfl
      | some y =>
        simp only [nibR, Bool.not_true, cond_false]
        rw [hexor x y (nib_lt h0) (nib_lt h1), chk_pos (by simp only [nums_len, List.length_cons, List.length_nil]; omega),
          show IntKind.i64.wrap ((i : Int) + 2) = ((i + 2 : Nat) : Int) by rw [w64 (by omega) (by omega)]; rfl,
          show nums acc ++ [((UInt8.ofNat (x * 16 + y)).toNat : Int)] = nums (acc ++ [UInt8.ofNat (x * 16 + y)]) by rw [nums_append]; rfl,
          blob_l6 k kret kexit hs a m he d (i + 2) n _ (by omega) (by omega) (by simp; omega)]
        cases hexF (((by' s).drop (i + 1 + 1)).take (2 * d)) with
        | none => rfl
        | some t => simp
theorem mem_takeW {q : UInt8 → Bool} {c : UInt8} : ∀ {l : By}, c ∈ l.takeWhile q → q c = true
  | [], h => by cases h
  | d :: r, h => by
    by_cases hd : q d = true
    · rw [List.takeWhile_cons_of_pos hd] at h
      rcases List.mem_cons.1 h with e | h
      · rw [e]; exact hd
      · exact mem_takeW h
    · rw [List.takeWhile_cons_of_neg hd] at h; cases h
theorem takeW_take (q : UInt8 → Bool) : ∀ l : By, l.take (l.takeWhile q).length = l.takeWhile q
  | [] => rfl
  | c :: r => by
    by_cases h : q c = true
    · rw [List.takeWhile_cons_of_pos h, List.length_cons, List.take_succ_cons, takeW_take q r]
    · rw [List.takeWhile_cons_of_neg h]; rfl
theorem blob_eq (k : Nat) {s : ByteArray} (hs : s.size ≤ 9000000000) (hk : s.size < k) (i : Nat) (hi : i ≤ s.size) :
    lex_blob k s (i : Int) = some (match blobL ((by' s).drop i) with | none => (ByteArray.empty, 0, false) | some (t, r) => (txt t, ((s.size - r.length : Nat) : Int), true)) := by
  unfold lex_blob strings_IndexByte stringslite_IndexByte
  rw [chk_pos (by omega)]
  simp only [some_bind, Int.toNat_natCast]
  rw [Lib.extract_data, List.take_of_length_le (by rw [List.length_drop]; exact Nat.le_refl _), show ((39 : Int).toNat.toUInt8) = 39 from rfl, idx39]
  have hl : ((by' s).drop i).length = s.size - i := by rw [List.length_drop, by_len]
  have hr := run_len notq ((by' s).drop i)
  unfold blobL
  by_cases h1 : (((by' s).drop i).takeWhile notq).length = ((by' s).drop i).length
  · rw [if_pos h1, if_pos h1]; rfl
  rw [if_neg h1, if_neg h1, decide_eq_false (by omega), cond_false, Int.tmod_eq_emod_of_nonneg (by omega)]
  have ht := takeW_take notq ((by' s).drop i)
  generalize hm : (((by' s).drop i).takeWhile notq).length = m at *
  by_cases h2 : m % 2 ≠ 0
  · rw [if_pos h2, show (((m : Int) % 2) != 0) = true by rw [bne_iff_ne]; omega, cond_true]
  · rw [if_neg h2, show (((m : Int) % 2) != 0) = false by rw [bne_eq_false_iff_eq]; omega, cond_false]
    unfold lex_blob_j4
    refine Eq.trans (blob_l6 k _ _ hs i m (by omega) (m / 2) i k [] (by omega) (by omega) (Nat.zero_le _)) ?_
    rw [show 2 * (m / 2) = m by omega, ht]
    cases hexF (((by' s).drop i).takeWhile notq) with
    | none => rfl
    | some t =>
      simp only [List.nil_append, nums_txt, Option.map_some]
      rw [w64 (x := (i : Int) + m) (by omega) (by omega), w64 (by omega) (by omega), List.drop_drop, List.length_drop, by_len]
      congr 3
      omega
theorem blobL_le {l t r : By} (h : blobL l = some (t, r)) : r.length < l.length ∧ l.drop (l.length - r.length) = r := by
  unfold blobL at h
  have hr := run_len notq l
  split at h
  · cases h
  split at h
  · cases h
  cases hq : hexF (l.takeWhile notq) with
  | none => rw [hq] at h; cases h
  | some z =>
    rw [hq] at h; cases h
    rw [List.length_drop]
    exact ⟨by omega, by congr 1; omega⟩

/-! ### tokens -/
def tokL : By → Option (S126 × By)
  | [] => none
  | c :: r =>
    if (c = 120 ∨ c = 88) ∧ r.head? = some 39 then (blobL r.tail).map fun p => (⟨4, txt p.1, 0⟩, p.2)
    else if letter c = true then some (⟨1, txt (((c :: r).takeWhile wordc).map smallc), 0⟩, (c :: r).dropWhile wordc)
    else if digit c = true then (intF 0 ((c :: r).takeWhile digit)).map fun v => (⟨2, ByteArray.empty, v⟩, (c :: r).dropWhile digit)
    else if c = 39 then (quotF r).map fun p => (⟨3, txt p.1, 0⟩, p.2)
    else if markN (c :: r) = 0 then none else some (⟨5, txt (if (c :: r).take (markN (c :: r)) = [33, 61] then [60, 62] else (c :: r).take (markN (c :: r))), 0⟩, (c :: r).drop (markN (c :: r)))
theorem tok_cons (c : UInt8) (r : By) : tokL (c :: r) =
    if (c = 120 ∨ c = 88) ∧ r.head? = some 39 then (blobL r.tail).map fun p => (⟨4, txt p.1, 0⟩, p.2)
    else if letter c = true then some (⟨1, txt (((c :: r).takeWhile wordc).map smallc), 0⟩, (c :: r).dropWhile wordc)
    else if digit c = true then (intF 0 ((c :: r).takeWhile digit)).map fun v => (⟨2, ByteArray.empty, v⟩, (c :: r).dropWhile digit)
    else if c = 39 then (quotF r).map fun p => (⟨3, txt p.1, 0⟩, p.2)
    else if markN (c :: r) = 0 then none else some (⟨5, txt (if (c :: r).take (markN (c :: r)) = [33, 61] then [60, 62] else (c :: r).take (markN (c :: r))), 0⟩, (c :: r).drop (markN (c :: r))) := rfl
theorem markN_le (l : By) (h : l ≠ []) : markN l ≤ l.length := by
  unfold markN
  split
  · rename_i hm
    match l, h, hm with
    | [c], _, hm => simp [marks2] at hm
    | a :: b :: r, _, _ => simp
  · split
    · match l, h with
      | c :: r, _ => simp
    · exact Nat.zero_le _
theorem suffix_drop {l : By} {n : Nat} (h : n ≤ l.length) : l.drop (l.length - (l.drop n).length) = l.drop n := by rw [List.length_drop]; congr 1; omega
theorem tok_le {l r : By} {t : S126} (h : tokL l = some (t, r)) : r.length < l.length ∧ l.drop (l.length - r.length) = r := by
  match l, h with
  | c :: l, h =>
    rw [tok_cons] at h
    split at h
    · rename_i hx
      cases hq : blobL l.tail with
      | none => rw [hq] at h; cases h
      | some p =>
        rw [hq] at h; cases h
        obtain ⟨h1, h2⟩ := blobL_le (t := p.1) (r := p.2) hq
        match l, hx, h1, h2 with
        | d :: l', _, h1, h2 =>
          simp only [List.tail_cons] at h1 h2
          simp only [List.length_cons]
          refine ⟨by omega, ?_⟩
          rw [show l'.length + 1 + 1 - p.2.length = (l'.length - p.2.length) + 1 + 1 by omega, List.drop_succ_cons, List.drop_succ_cons, h2]
        | [], hx, _, _ => simp at hx
    split at h
    · rename_i hl
      cases h
      have e := drop_run wordc (c :: l)
      have hr := run_len wordc (c :: l)
      have : 0 < ((c :: l).takeWhile wordc).length := by rw [List.takeWhile_cons_of_pos (by simp [wordc, hl])]; simp
      rw [← e, suffix_drop (by omega)]
      exact ⟨by rw [List.length_drop]; omega, rfl⟩
    split at h
    · rename_i hd
      cases hq : intF 0 ((c :: l).takeWhile digit) with
      | none => rw [hq] at h; cases h
      | some v =>
        rw [hq] at h; cases h
        have e := drop_run digit (c :: l)
        have hr := run_len digit (c :: l)
        have : 0 < ((c :: l).takeWhile digit).length := by rw [List.takeWhile_cons_of_pos hd]; simp
        rw [← e, suffix_drop (by omega)]
        exact ⟨by rw [List.length_drop]; omega, rfl⟩
    split at h
    · cases hq : quotF l with
      | none => rw [hq] at h; cases h
      | some p =>
        rw [hq] at h; cases h
        obtain ⟨h1, h2, _⟩ := quotF_le l.length l p.1 p.2 (Nat.le_refl _) hq
        simp only [List.length_cons]
        refine ⟨by omega, ?_⟩
        rw [show l.length + 1 - p.2.length = (l.length - p.2.length) + 1 by omega, List.drop_succ_cons, h2]
    split at h
    · cases h
    · rename_i hm
      cases h
      have := markN_le (c :: l) (by simp)
      rw [suffix_drop this]
      exact ⟨by rw [List.length_drop]; omega, rfl⟩
noncomputable def tokTail (k : Nat) (s : ByteArray) (i : Int) : Option (S126 × Int × Bool) :=
  lex_token_j3 k (fun s0 at1 _ => (lex_span_f131 k s0 at1).bind fun r => chk (0 ≤ at1 ∧ at1 ≤ r ∧ r ≤ (s0.size : Int)) <| (lex_Small k (s0.extract at1.toNat r.toNat)).bind fun r2 => some ((⟨1, r2, 0⟩ : S126), r, true))
    (fun s0 at1 t4 => (lex_span_f128 k s0 at1).bind fun r => chk (0 ≤ at1 ∧ at1 ≤ r ∧ r ≤ (s0.size : Int)) <| (lex_integer k (s0.extract at1.toNat r.toNat)).bind fun r2 => some ((⟨2, t4.f1, r2.1⟩ : S126), r, r2.2))
    (fun s0 at1 t4 => (lex_quoted k s0 (IntKind.i64.wrap (at1 + 1))).bind fun r => some ((⟨3, r.1, t4.f2⟩ : S126), r.2.1, r.2.2))
    (fun e ok t4 => some (t4, e, ok)) s i ((s.data.toList.getD i.toNat 0).toNat : Int) (⟨0, ByteArray.empty, 0⟩ : S126)
theorem token_unf (k : Nat) (s : ByteArray) (i : Int) : lex_token k s i = chk (0 ≤ i ∧ i < (s.size : Int))
    (bif (((s.data.toList.getD i.toNat 0).toNat : Int) == 120) then
      (bif (decide ((IntKind.i64.wrap (i + 1)) < (s.size : Int))) then chk (0 ≤ (IntKind.i64.wrap (i + 1)) ∧ (IntKind.i64.wrap (i + 1)) < (s.size : Int)) (bif (((s.data.toList.getD (IntKind.i64.wrap (i + 1)).toNat 0).toNat : Int) == 39) then (lex_blob k s (IntKind.i64.wrap (i + 2))).bind fun r_2 => some ((⟨4, r_2.1, 0⟩ : S126), r_2.2.1, r_2.2.2) else tokTail k s i) else tokTail k s i)
     else bif (((s.data.toList.getD i.toNat 0).toNat : Int) == 88) then
      (bif (decide ((IntKind.i64.wrap (i + 1)) < (s.size : Int))) then chk (0 ≤ (IntKind.i64.wrap (i + 1)) ∧ (IntKind.i64.wrap (i + 1)) < (s.size : Int)) (bif (((s.data.toList.getD (IntKind.i64.wrap (i + 1)).toNat 0).toNat : Int) == 39) then (lex_blob k s (IntKind.i64.wrap (i + 2))).bind fun r_2 => some ((⟨4, r_2.1, 0⟩ : S126), r_2.2.1, r_2.2.2) else tokTail k s i) else tokTail k s i)
     else tokTail k s i) := rfl
theorem u8eq (c : UInt8) (n : Nat) (h : n < 256) : (((c.toNat : Nat) : Int) == (n : Int)) = decide (c = UInt8.ofNat n) := by
  rw [Bool.eq_iff_iff, beq_iff_eq, decide_eq_true_eq]
  constructor
  · intro e; apply UInt8.toNat_inj.1; simp; omega
  · intro e; rw [e]; simp; omega
section
variable (k : Nat) {s : ByteArray} (hs : s.size ≤ 9000000000) (hk : s.size < k)
include hs hk
theorem tail_eq (i : Nat) (hi : i < s.size) (hx : ¬ (((by' s).getD i 0 = 120 ∨ (by' s).getD i 0 = 88) ∧ ((by' s).drop (i + 1)).head? = some 39)) :
    (tokL ((by' s).drop i) = none ∧ ∃ x, tokTail k s (i : Int) = some x ∧ x.2.2 = false) ∨ ∃ t r, tokL ((by' s).drop i) = some (t, r) ∧ tokTail k s (i : Int) = some (t, ((s.size - r.length : Nat) : Int), true) := by
  have hlt : i < (by' s).length := by rw [by_len]; omega
  have hl : ((by' s).drop i).length = s.size - i := by rw [List.length_drop, by_len]
  unfold tokTail lex_token_j3
  simp only [Int.toNat_natCast, letter_eq, digit_eq, some_bind]
  have hcons := dropc hlt
  have htok : tokL ((by' s).drop i) = (if letter ((by' s).getD i 0) = true then some (⟨1, txt ((((by' s).drop i).takeWhile wordc).map smallc), 0⟩, ((by' s).drop i).dropWhile wordc)
    else if digit ((by' s).getD i 0) = true then (intF 0 (((by' s).drop i).takeWhile digit)).map fun v => (⟨2, ByteArray.empty, v⟩, ((by' s).drop i).dropWhile digit)
    else if (by' s).getD i 0 = 39 then (quotF ((by' s).drop (i + 1))).map fun p => (⟨3, txt p.1, 0⟩, p.2)
    else if markN ((by' s).drop i) = 0 then none else some (⟨5, txt (if ((by' s).drop i).take (markN ((by' s).drop i)) = [33, 61] then [60, 62] else ((by' s).drop i).take (markN ((by' s).drop i))), 0⟩, ((by' s).drop i).drop (markN ((by' s).drop i)))) := by
    rw [hcons, tok_cons, if_neg hx]
  rw [htok]
  have hsub : ∀ q : UInt8 → Bool, by' (s.extract i (i + (((by' s).drop i).takeWhile q).length)) = ((by' s).drop i).takeWhile q := fun q => by
    simp only [by', Lib.extract_data]
    rw [Nat.add_sub_cancel_left]; exact takeW_take q _
  have hend : ∀ q : UInt8 → Bool, i + (((by' s).drop i).takeWhile q).length = s.size - (((by' s).drop i).dropWhile q).length := fun q => by
    have := run_len q ((by' s).drop i); omega
  by_cases h1 : letter ((by' s).getD i 0) = true
  · have hr := run_len wordc ((by' s).drop i)
    rw [if_pos h1]
    refine .inr ⟨_, _, rfl, ?_⟩
    rw [show letter (s.data.toList.getD i 0) = true from h1, cond_true, span87 k s hs hk i (by omega), some_bind, chk_pos (by omega)]
    simp only [Int.toNat_natCast]
    have hsz : (s.extract i (i + (((by' s).drop i).takeWhile wordc).length)).size ≤ s.size := by
      rw [← by_len, hsub]; omega
    rw [small_eq k _ (by omega) (by omega), some_bind, hsub, ← hend]
  rw [if_neg h1, show letter (s.data.toList.getD i 0) = false by simpa using h1, cond_false]
  by_cases h2 : digit ((by' s).getD i 0) = true
  · have hr := run_len digit ((by' s).drop i)
    rw [if_pos h2, show digit (s.data.toList.getD i 0) = true from h2, cond_true, span84 k s hs hk i (by omega), some_bind, chk_pos (by omega)]
    simp only [Int.toNat_natCast]
    have hsz : (s.extract i (i + (((by' s).drop i).takeWhile digit).length)).size ≤ s.size := by
      rw [← by_len, hsub]; omega
    rw [integer_eq k (by omega) (by omega) (fun c hc => by rw [hsub] at hc; exact mem_takeW hc), some_bind, hsub]
    cases intF 0 (((by' s).drop i).takeWhile digit) with
    | none => exact .inl ⟨rfl, _, rfl, rfl⟩
    | some v => exact .inr ⟨_, _, rfl, by rw [← hend]⟩
  rw [if_neg h2, show digit (s.data.toList.getD i 0) = false by simpa using h2, cond_false]
  have e39 := u8eq ((by' s).getD i 0) 39 (by omega)
  by_cases h3 : (by' s).getD i 0 = 39
  · rw [if_pos h3, show ((((s.data.toList.getD i 0).toNat : Nat) : Int) == 39) = true from e39.trans (decide_eq_true h3), cond_true, w64n (by omega), quoted_eq k hs hk (i + 1) (by omega), some_bind]
    cases quotF ((by' s).drop (i + 1)) with
    | none => exact .inl ⟨rfl, _, rfl, rfl⟩
    | some p => exact .inr ⟨_, _, rfl, rfl⟩
  rw [if_neg h3, show ((((s.data.toList.getD i 0).toNat : Nat) : Int) == 39) = false from e39.trans (decide_eq_false h3), cond_false, chk_pos (by omega)]
  have hrest : by' (s.extract i s.size) = (by' s).drop i := by
    simp only [by', Lib.extract_data]
    exact List.take_of_length_le (by rw [List.length_drop]; exact Nat.le_refl _)
  have hm : lex_mark k (s.extract i s.size) = some (markN ((by' s).drop i) : Int) := by
    rw [mark_eq k (by rw [← by_len, hrest]; omega), hrest]
  rw [hm, some_bind]
  have hle := markN_le ((by' s).drop i) (by rw [hcons]; simp)
  generalize markN ((by' s).drop i) = m at hle
  by_cases h4 : m = 0
  · rw [if_pos h4, decide_eq_false (by omega), cond_false]
    exact .inl ⟨rfl, _, rfl, rfl⟩
  · rw [if_neg h4, decide_eq_true (by omega), cond_true, w64 (by omega) (by omega), chk_pos (by omega)]
    refine .inr ⟨_, _, rfl, ?_⟩
    have hcut : by' (s.extract i (i + m)) = ((by' s).drop i).take m := by
      simp only [by', Lib.extract_data]
      rw [Nat.add_sub_cancel_left]
    have e : ((i : Int) + (m : Int)).toNat = i + m := by omega
    simp only [e]
    have hb : ((s.extract i (i + m)).toList == (⟨#[33, 61]⟩ : ByteArray).toList) = decide (((by' s).drop i).take m = [33, 61]) := by
      rw [Lib.toList_data, show (s.extract i (i + m)).data.toList = ((by' s).drop i).take m from hcut, Lib.toList_data]
      rw [Bool.eq_iff_iff, beq_iff_eq, decide_eq_true_eq]
    rw [hb, List.length_drop, hl]
    have hpos : (i : Int) + (m : Int) = ((s.size - (s.size - i - m) : Nat) : Int) := by omega
    rw [← hpos]
    by_cases h5 : ((by' s).drop i).take m = [33, 61]
    · rw [decide_eq_true h5, cond_true, if_pos h5]; rfl
    · rw [decide_eq_false h5, cond_false, if_neg h5, ← hcut, by_txt]
theorem token_eq (i : Nat) (hi : i < s.size) :
    (tokL ((by' s).drop i) = none ∧ ∃ x, lex_token k s (i : Int) = some x ∧ x.2.2 = false) ∨ ∃ t r, tokL ((by' s).drop i) = some (t, r) ∧ lex_token k s (i : Int) = some (t, ((s.size - r.length : Nat) : Int), true) := by
  have hlt : i < (by' s).length := by rw [by_len]; omega
  rw [token_unf, chk_pos (by omega)]
  simp only [Int.toNat_natCast, w64n (show i < 9223372036854775807 by omega)]
  have e120 : ((((s.data.toList.getD i 0).toNat : Nat) : Int) == 120) = decide ((by' s).getD i 0 = 120) := u8eq _ 120 (by omega)
  have e88 : ((((s.data.toList.getD i 0).toNat : Nat) : Int) == 88) = decide ((by' s).getD i 0 = 88) := u8eq _ 88 (by omega)
  have e39 : ((((s.data.toList.getD (i + 1) 0).toNat : Nat) : Int) == 39) = decide ((by' s).getD (i + 1) 0 = 39) := u8eq _ 39 (by omega)
  rw [e120, e88, e39]
  have inner : ((by' s).getD i 0 = 120 ∨ (by' s).getD i 0 = 88) → ∀ Y : Option (S126 × Int × Bool), Y = (bif (decide (((i + 1 : Nat) : Int) < (s.size : Int))) then chk (0 ≤ ((i + 1 : Nat) : Int) ∧ ((i + 1 : Nat) : Int) < (s.size : Int)) (bif (decide ((by' s).getD (i + 1) 0 = 39)) then (lex_blob k s (IntKind.i64.wrap ((i : Int) + 2))).bind fun r_2 => some ((⟨4, r_2.1, 0⟩ : S126), r_2.2.1, r_2.2.2) else tokTail k s i) else tokTail k s i) →
      (tokL ((by' s).drop i) = none ∧ ∃ x, Y = some x ∧ x.2.2 = false) ∨ ∃ t r, tokL ((by' s).drop i) = some (t, r) ∧ Y = some (t, ((s.size - r.length : Nat) : Int), true) := by
    intro hc Y hY
    by_cases h1 : i + 1 < s.size
    · have hlt2 : i + 1 < (by' s).length := by rw [by_len]; omega
      rw [decide_eq_true (by omega), cond_true, chk_pos (by omega)] at hY
      by_cases h2 : (by' s).getD (i + 1) 0 = 39
      · rw [decide_eq_true h2, cond_true, w64 (by omega) (by omega), show (i : Int) + 2 = ((i + 2 : Nat) : Int) from rfl, blob_eq k hs hk (i + 2) (by omega), some_bind] at hY
        have ht : tokL ((by' s).drop i) = (blobL ((by' s).drop (i + 2))).map fun p => (⟨4, txt p.1, 0⟩, p.2) := by
          rw [dropc hlt, dropc hlt2]
          rw [tok_cons, if_pos ⟨hc, by rw [h2]; rfl⟩]; rfl
        rw [ht, hY]
        cases blobL ((by' s).drop (i + 2)) with
        | none => exact .inl ⟨rfl, _, rfl, rfl⟩
        | some p => exact .inr ⟨_, _, rfl, rfl⟩
      · rw [decide_eq_false h2, cond_false] at hY
        rw [hY]
        exact tail_eq k hs hk i hi (fun c => h2 (by have := c.2; rw [dropc hlt2] at this; simpa using this))
    · rw [decide_eq_false (by omega), cond_false] at hY
      rw [hY]
      exact tail_eq k hs hk i hi (fun c => by have := c.2; rw [List.drop_eq_nil_of_le (by rw [by_len]; omega)] at this; simp at this)
  by_cases c1 : (by' s).getD i 0 = 120
  · rw [decide_eq_true c1, cond_true]
    exact inner (.inl c1) _ rfl
  rw [decide_eq_false c1, cond_false]
  by_cases c2 : (by' s).getD i 0 = 88
  · rw [decide_eq_true c2, cond_true]
    exact inner (.inr c2) _ rfl
  rw [decide_eq_false c2, cond_false]
  exact tail_eq k hs hk i hi (fun c => by rcases c.1 with h | h; exact c1 h; exact c2 h)
end

/-! ### a text's tokens -/
def longT (t : S126) : Bool := if t.f0 = 1 then decide (32 < t.f1.size) else decide (4096 < t.f1.size)
theorem long_eq (k : Nat) (t : S126) : lex_long k t = some (longT t) := by
  unfold lex_long longT
  by_cases h : t.f0 = 1
  · rw [show (t.f0 == 1) = true by simp [h], cond_true, if_pos h]
    congr 1
    rw [Bool.eq_iff_iff, decide_eq_true_eq, decide_eq_true_eq]; omega
  · rw [show (t.f0 == 1) = false by simp [h], cond_false, if_neg h, bigd]
    congr 1
    rw [Bool.eq_iff_iff, decide_eq_true_eq, decide_eq_true_eq]; omega
def scan : Nat → By → Option (List S126 × Bool)
  | 0, _ => none
  | _ + 1, [] => some ([], false)
  | n + 1, c :: r => (tokL (c :: r)).bind fun p => (scan n (skipL p.2)).map fun q => (p.1 :: q.1, longT p.1 || q.2)
def toks (b : By) : List S126 × Int :=
  if 8192 < b.length then ([], 7) else match scan (b.length + 1) (skipL b) with | none => ([], 1) | some (ts, lg) => if lg = true then ([], 7) else (ts, 0)
theorem toks_l6 {ρ : Type} (k : Nat) {s : ByteArray} (hs : s.size ≤ 9000000000) (hk : s.size + 1 < k) (kret kexit : List S126 → Int → Option ρ) : ∀ (d i n : Nat) (l4 : List S126) (e : Int), i ≤ s.size → s.size - i ≤ d → d < n → l4.length ≤ i →
    lex_Tokens_l6 k kret kexit n s l4 e (i : Int) = match scan (d + 1) ((by' s).drop i) with | none => kret [] 1 | some (ts, lg) => kexit (l4 ++ ts) (if lg = true then 7 else e)
  | d, i, n + 1, l4, e, hi, hd, hn, ha => by
    simp only [lex_Tokens_l6, lex_Tokens_l6_b]
    by_cases he : i = s.size
    · rw [decide_eq_false (by omega), cond_false, List.drop_eq_nil_of_le (by rw [by_len]; omega)]
      simp [scan]
    have hlt : i < (by' s).length := by rw [by_len]; omega
    have hlen : ((by' s).drop i).length = s.size - i := by rw [List.length_drop, by_len]
    rw [decide_eq_true (by omega), cond_true]
    have hsc : scan (d + 1) ((by' s).drop i) = (tokL ((by' s).drop i)).bind fun p => (scan d (skipL p.2)).map fun q => (p.1 :: q.1, longT p.1 || q.2) := by
      rw [dropc hlt]; rfl
    rw [hsc]
    rcases token_eq k hs (by omega) i (by omega) with ⟨h1, x, h2, h3⟩ | ⟨t, r, h1, h2⟩
    · rw [h1, h2, some_bind, h3]; rfl
    · obtain ⟨h3, h4⟩ := tok_le h1
      rw [h1, h2, some_bind, some_bind]
      simp only [Bool.not_true, cond_false]
      rw [long_eq, some_bind]
      have hr : (by' s).drop (s.size - r.length) = r := by
        rw [List.drop_drop, hlen] at h4
        rw [← h4, List.length_drop, by_len]
        congr 1
        omega
      obtain ⟨j, g1, g2, g3, g4⟩ := skipp k hs hk (s.size - r.length) (by omega)
      rw [hr] at g3
      cases d with
      | zero => omega
      | succ d =>
        have rec' : ∀ e' : Int, lex_Tokens_l6 k kret kexit n s (l4 ++ [t]) e' (j : Int) = match scan (d + 1) (skipL r) with | none => kret [] 1 | some (ts, lg) => kexit ((l4 ++ [t]) ++ ts) (if lg = true then 7 else e') := fun e' => by
          rw [← g3]
          exact toks_l6 k hs hk kret kexit d j n (l4 ++ [t]) e' g2 (by omega) (by omega) (by simp; omega)
        rw [chk_pos (by simp only [List.length_cons, List.length_nil]; omega), chk_pos (by simp only [List.length_cons, List.length_nil]; omega), g4, some_bind, some_bind, rec', rec']
        cases scan (d + 1) (skipL r) with
        | none => cases longT t <;> rfl
        | some q =>
          obtain ⟨ts, lg⟩ := q
          simp only [Option.map_some, List.append_assoc, List.singleton_append]
          cases longT t <;> cases lg <;> rfl
theorem tokens_eq (k : Nat) (s : ByteArray) (hk : 8194 < k) : lex_Tokens k s = some (toks (by' s)) := by
  unfold lex_Tokens toks
  rw [bigd, by_len]
  by_cases h : 8192 < s.size
  · rw [decide_eq_true (by omega), cond_true, if_pos h]
  · rw [decide_eq_false (by omega), cond_false, if_neg h]
    obtain ⟨j, g1, g2, g3, g4⟩ := skipp k (s := s) (by omega) (by omega) 0 (by omega)
    rw [List.drop_zero] at g3
    have g4' : lex_skip k s 0 = some (j : Int) := g4
    rw [g4', some_bind]
    refine Eq.trans (toks_l6 k (by omega) (by omega) _ _ s.size j k [] 0 g2 (by omega) (by omega) (Nat.zero_le _)) ?_
    rw [g3]
    cases scan (s.size + 1) (skipL (by' s)) with
    | none => rfl
    | some q =>
      obtain ⟨ts, lg⟩ := q
      cases lg <;> rfl
end Go.Proofs.YtnoeedkbadoogaaDoor.P
