/-
  Layer 19: a text's pieces as plain lists of bytes: blanks, words, numbers.
-/
import Derived.Test.YtepekanlplbciaaQF
import Derived.Test.YtepekanlplbciaaAxLib
import Derived.Lib.Strings
import Derived.Lib.Bytealg
namespace Go.Proofs.Ytepekanlplbciaa.Q
open Go Go.AX

abbrev By := List UInt8
abbrev by' (s : ByteArray) : By := s.data.toList
theorem by_len (s : ByteArray) : (by' s).length = s.size := rfl
def txt (l : By) : ByteArray := ⟨l.toArray⟩
theorem txt_by (l : By) : by' (txt l) = l := rfl
theorem by_txt (s : ByteArray) : txt (by' s) = s := by obtain ⟨⟨l⟩⟩ := s; rfl
theorem txt_size (l : By) : (txt l).size = l.length := rfl

def blank (c : UInt8) : Bool := c == 9 || c == 10 || c == 13 || c == 32
def line (c : UInt8) : Bool := c != 10
def letter (c : UInt8) : Bool := (decide (97 ≤ c) && decide (c ≤ 122)) || (decide (65 ≤ c) && decide (c ≤ 90)) || c == 95
def digit (c : UInt8) : Bool := decide (48 ≤ c) && decide (c ≤ 57)
def wordc (c : UInt8) : Bool := letter c || digit c
theorem all_bytes {p : UInt8 → Prop} (h : ∀ n : Fin 256, p (UInt8.ofNat n.val)) (c : UInt8) : p c := by
  have := h ⟨c.toNat, c.toNat_lt⟩
  simpa using this
theorem skip1_eq (k : Nat) (c : UInt8) : lex_skip_1 k (c.toNat : Int) = some (blank c) := by
  revert c
  refine all_bytes ?_
  intro n
  have h : ∀ n : Fin 256, (bif ((((UInt8.ofNat n.val).toNat : Nat) : Int) == 9) then some true else bif ((((UInt8.ofNat n.val).toNat : Nat) : Int) == 10) then some true else bif ((((UInt8.ofNat n.val).toNat : Nat) : Int) == 13) then some true else some ((((UInt8.ofNat n.val).toNat : Nat) : Int) == 32)) = some (blank (UInt8.ofNat n.val)) := by decide +kernel
  exact h n
theorem skip2_eq (k : Nat) (c : UInt8) : lex_skip_2 k (c.toNat : Int) = some (line c) := by
  revert c
  refine all_bytes ?_
  intro n
  have h : ∀ n : Fin 256, (some ((((UInt8.ofNat n.val).toNat : Nat) : Int) != 10)) = some (line (UInt8.ofNat n.val)) := by decide +kernel
  exact h n
theorem dig_iff (c : UInt8) : digit c = (decide ((c.toNat : Int) ≥ 48) && decide ((c.toNat : Int) ≤ 57)) := by
  revert c
  refine all_bytes ?_
  decide +kernel
theorem let_iff (c : UInt8) : letter c = ((decide ((c.toNat : Int) ≥ 97) && decide ((c.toNat : Int) ≤ 122)) || (decide ((c.toNat : Int) ≥ 65) && decide ((c.toNat : Int) ≤ 90)) || ((c.toNat : Int) == 95)) := by
  revert c
  refine all_bytes ?_
  decide +kernel
theorem digit_eq (k : Nat) (c : UInt8) : lex_digit k (c.toNat : Int) = some (digit c) := by
  rw [dig_iff]
  unfold lex_digit
  cases decide ((c.toNat : Int) ≥ 48) <;> rfl
theorem letter_eq (k : Nat) (c : UInt8) : lex_letter k (c.toNat : Int) = some (letter c) := by
  rw [let_iff]
  unfold lex_letter
  cases decide ((c.toNat : Int) ≥ 97) <;> cases decide ((c.toNat : Int) ≤ 122) <;> cases decide ((c.toNat : Int) ≥ 65) <;> cases decide ((c.toNat : Int) ≤ 90) <;> rfl
theorem wordc_eq (k : Nat) (c : UInt8) : lex_token_1 k (c.toNat : Int) = some (wordc c) := by
  unfold lex_token_1 wordc
  rw [letter_eq, some_bind, digit_eq]
  cases letter c <;> rfl

/-! ### a run of bytes of a kind -/
theorem drop_run (q : UInt8 → Bool) : ∀ l : By, l.drop (l.takeWhile q).length = l.dropWhile q
  | [] => rfl
  | c :: r => by
    by_cases h : q c = true
    · rw [List.takeWhile_cons_of_pos h, List.dropWhile_cons_of_pos h, List.length_cons, List.drop_succ_cons]; exact drop_run q r
    · rw [List.takeWhile_cons_of_neg h, List.dropWhile_cons_of_neg h]; rfl
theorem run_len (q : UInt8 → Bool) (l : By) : (l.takeWhile q).length + (l.dropWhile q).length = l.length := by
  rw [← List.length_append, List.takeWhile_append_dropWhile]
theorem span_gen {ρ : Type} (kexit : Int → Option ρ) (F : Nat → ByteArray → Int → Option ρ) (p : Int → Option Bool) (q : UInt8 → Bool) (hp : ∀ c : UInt8, p (c.toNat : Int) = some (q c))
    (hF : ∀ (n : Nat) (s : ByteArray) (at' : Int), F (n + 1) s at' = bif (decide (at' < (s.size : Int))) then chk (0 ≤ at' ∧ at' < (s.size : Int)) ((p ((s.data.toList.getD at'.toNat 0).toNat : Int)).bind fun r => bif r then F n s (IntKind.i64.wrap (at' + 1)) else kexit at') else kexit at')
    (s : ByteArray) (hs : s.size ≤ 9000000000) : ∀ (d i n : Nat), i + d = s.size → d < n → F n s (i : Int) = kexit ((i + (((by' s).drop i).takeWhile q).length : Nat) : Int)
  | 0, i, n + 1, hi, _ => by
    rw [hF, decide_eq_false (by omega), cond_false, List.drop_eq_nil_of_le (by rw [by_len]; omega)]
    simp
  | d + 1, i, n + 1, hi, hn => by
    rw [hF, decide_eq_true (by omega), cond_true, chk_pos (by omega), Int.toNat_natCast, hp, some_bind, List.drop_eq_getElem_cons (show i < (by' s).length by rw [by_len]; omega), ← getD_get (by' s) i 0 (by rw [by_len]; omega)]
    by_cases h : q ((by' s).getD i 0) = true
    · rw [h, cond_true, List.takeWhile_cons_of_pos h, w64n (by omega), span_gen kexit F p q hp hF s hs d (i + 1) n (by omega) (by omega), List.length_cons]
      congr 2
      omega
    · rw [show q ((by' s).getD i 0) = false by simpa using h, cond_false, List.takeWhile_cons_of_neg h]
      rfl
section
variable (k : Nat) (s : ByteArray) (hs : s.size ≤ 9000000000) (hk : s.size < k) (i : Nat) (hi : i ≤ s.size)
include hs hk hi
theorem span80 : lex_span_fskip_1 k s i = some ((i + (((by' s).drop i).takeWhile blank).length : Nat) : Int) :=
  span_gen (fun a => some a) (lex_span_fskip_1_l1 k fun a => some a) (lex_skip_1 k) blank (skip1_eq k) (fun _ _ _ => rfl) s hs (s.size - i) i k (by omega) (by omega)
theorem span82 : lex_span_fskip_2 k s i = some ((i + (((by' s).drop i).takeWhile line).length : Nat) : Int) :=
  span_gen (fun a => some a) (lex_span_fskip_2_l1 k fun a => some a) (lex_skip_2 k) line (skip2_eq k) (fun _ _ _ => rfl) s hs (s.size - i) i k (by omega) (by omega)
theorem span84 : lex_span_fdigit k s i = some ((i + (((by' s).drop i).takeWhile digit).length : Nat) : Int) :=
  span_gen (fun a => some a) (lex_span_fdigit_l1 k fun a => some a) (lex_digit k) digit (digit_eq k) (fun _ _ _ => rfl) s hs (s.size - i) i k (by omega) (by omega)
theorem span87 : lex_span_ftoken_1 k s i = some ((i + (((by' s).drop i).takeWhile wordc).length : Nat) : Int) :=
  span_gen (fun a => some a) (lex_span_ftoken_1_l1 k fun a => some a) (lex_token_1 k) wordc (wordc_eq k) (fun _ _ _ => rfl) s hs (s.size - i) i k (by omega) (by omega)
end

/-! ### blanks and remarks -/
def skipF : Nat → By → By
  | 0, l => l
  | n + 1, l => if (l.dropWhile blank).take 2 = [45, 45] then skipF n ((l.dropWhile blank).dropWhile line) else l.dropWhile blank
def skipL (l : By) : By := skipF (l.length + 1) l
theorem run_le (q : UInt8 → Bool) (l : By) : (l.dropWhile q).length ≤ l.length := by have := run_len q l; omega
theorem remark_lt {l : By} (h : l.take 2 = [45, 45]) : (l.dropWhile line).length < l.length := by
  match l, h with
  | c :: r, h =>
    have hc : c = 45 := by simp at h; exact h.1
    rw [List.dropWhile_cons_of_pos (by rw [hc]; rfl)]
    have := run_le line r
    simp only [List.length_cons]; omega
theorem skipF_fuel : ∀ (n m : Nat) (l : By), l.length < n → l.length < m → skipF n l = skipF m l
  | n + 1, m + 1, l, hn, hm => by
    simp only [skipF]
    split
    · rename_i h
      have h1 := remark_lt h
      have h2 := run_le blank l
      exact skipF_fuel n m _ (by omega) (by omega)
    · rfl
theorem skipL_eq (l : By) : skipL l = if (l.dropWhile blank).take 2 = [45, 45] then skipL ((l.dropWhile blank).dropWhile line) else l.dropWhile blank := by
  unfold skipL
  conv => lhs; unfold skipF
  split
  · rename_i h
    have h1 := remark_lt h
    have h2 := run_le blank l
    exact skipF_fuel _ _ _ (by omega) (by omega)
  · rfl
theorem skipL_le (l : By) : (skipL l).length ≤ l.length := by
  have : ∀ (n : Nat) (l : By), (skipF n l).length ≤ l.length := by
    intro n
    induction n with
    | zero => intro l; exact Nat.le_refl _
    | succ n ih =>
      intro l
      simp only [skipF]
      have h1 := run_le blank l
      split
      · have h2 := run_le line (l.dropWhile blank)
        have := ih ((l.dropWhile blank).dropWhile line)
        omega
      · exact h1
  exact this _ l
theorem hasPrefix_eq (k : Nat) (s : ByteArray) (p : ByteArray) : strings_HasPrefix k s p = some (decide ((by' s).take p.size = by' p)) := by
  unfold strings_HasPrefix stringslite_HasPrefix
  by_cases h : p.size ≤ s.size
  · rw [decide_eq_true (by omega), cond_true, chk_pos (by omega)]
    simp only [some_bind]
    congr 1
    rw [beq_bytes, Bool.eq_iff_iff, beq_iff_eq, decide_eq_true_eq, Int.toNat_natCast]
    constructor
    · intro e
      have := congrArg by' e
      simp only [Lib.extract_data] at this
      simpa using this
    · intro e
      apply ByteArray.ext
      apply Array.ext'
      rw [Lib.extract_data]
      simpa using e
  · rw [decide_eq_false (by omega), cond_false, some_bind]
    rw [decide_eq_false]
    intro e
    have := congrArg List.length e
    rw [List.length_take, by_len, by_len] at this
    omega
theorem skip_eq {s : ByteArray} (k : Nat) (hs : s.size ≤ 9000000000) (hk : s.size < k) : ∀ (d i n : Nat), i ≤ s.size → s.size - i ≤ d → d < n →
    ∃ j : Nat, i ≤ j ∧ j ≤ s.size ∧ (by' s).drop j = skipL ((by' s).drop i) ∧ lex_skip_g0 k (fun a => some a) n s i = some (j : Int)
  | d, i, n + 1, hi, hd, hn => by
    simp only [lex_skip_g0, lex_skip_g0_b, lex_skip_j1]
    have hl : ((by' s).drop i).length = s.size - i := by rw [List.length_drop, by_len]
    have h1 := run_len blank ((by' s).drop i)
    have e1 : (by' s).drop (i + (((by' s).drop i).takeWhile blank).length) = ((by' s).drop i).dropWhile blank := by rw [← List.drop_drop, drop_run]
    rw [span80 k s hs hk i hi, some_bind, chk_pos (by omega), hasPrefix_eq, some_bind, skipL_eq]
    have e2 : by' (s.extract ((i + (((by' s).drop i).takeWhile blank).length : Nat) : Int).toNat ((s.size : Int)).toNat) = ((by' s).drop i).dropWhile blank := by
      simp only [by', Lib.extract_data, Int.toNat_natCast]
      rw [← e1, List.take_of_length_le (by rw [List.length_drop]; exact Nat.le_refl _)]
    rw [e2]
    by_cases h : (((by' s).drop i).dropWhile blank).take 2 = [45, 45]
    · rw [if_pos h, decide_eq_true (show (((by' s).drop i).dropWhile blank).take (⟨#[45, 45]⟩ : ByteArray).size = by' ⟨#[45, 45]⟩ from h), cond_true]
      have hlt := remark_lt h
      have h2 := run_len line (((by' s).drop i).dropWhile blank)
      rw [span82 k s hs hk _ (by omega), some_bind, e1]
      have e3 : (by' s).drop (i + (((by' s).drop i).takeWhile blank).length + ((((by' s).drop i).dropWhile blank).takeWhile line).length) = (((by' s).drop i).dropWhile blank).dropWhile line := by
        rw [← List.drop_drop, e1, drop_run]
      cases d with
      | zero => omega
      | succ d =>
        obtain ⟨j, g1, g2, g3, g4⟩ := skip_eq k hs hk d (i + (((by' s).drop i).takeWhile blank).length + ((((by' s).drop i).dropWhile blank).takeWhile line).length) n (by omega) (by omega) (by omega)
        exact ⟨j, by omega, g2, by rw [g3, e3], g4⟩
    · rw [if_neg h, decide_eq_false (show ¬ (((by' s).drop i).dropWhile blank).take (⟨#[45, 45]⟩ : ByteArray).size = by' ⟨#[45, 45]⟩ from h), cond_false]
      exact ⟨_, by omega, by omega, e1, rfl⟩
theorem skipp {s : ByteArray} (k : Nat) (hs : s.size ≤ 9000000000) (hk : s.size + 1 < k) (i : Nat) (hi : i ≤ s.size) :
    ∃ j : Nat, i ≤ j ∧ j ≤ s.size ∧ (by' s).drop j = skipL ((by' s).drop i) ∧ lex_skip k s i = some (j : Int) := by
  have e : lex_skip k s i = lex_skip_g0 k (fun a => some a) (k + 1) s i := rfl
  rw [e]
  exact skip_eq k hs (by omega) (s.size - i) i (k + 1) hi (Nat.le_refl _) (by omega)
end Go.Proofs.Ytepekanlplbciaa.Q
