/-
  cadastre/cadastrelaw19.LexBlanks: what its printed function answers is true, for every list. No condition beyond the numbers' own bounds.
-/
import Derived.Test.YtekjibpkkgldgaaXOk
import Derived.Test.YtekjibpkkgldgaaXLx4
namespace Go.Proofs.Ytekjibpkkgldgaa.X
open Go Go.AX

def remk : By := [45, 45, 32, 97, 32, 39, 114, 101, 109, 97, 114, 107, 10]
theorem remk_full : full remk = some ([], false) := by kernel_rfl
theorem toks_around {a : By} (h : (toks a).2 = 0) (hl : a.length ≤ 4000) : toks ([32, 10, 9] ++ a ++ 10 :: remk) = toks a := by
  obtain ⟨h1, h2, h3⟩ := toks_ok h
  have e : toks a = ((toks a).1, 0) := by rw [← h]
  rw [e]
  refine toks_of (by simp [remk]; omega) ?_
  have : [32, 10, 9] ++ a ++ 10 :: remk = 32 :: 10 :: 9 :: (a ++ 10 :: remk) := by simp
  rw [this, full_blank (by rfl), full_blank (by rfl), full_blank (by rfl), full_app remk remk_full h2, List.append_nil]; rfl
theorem toks_both {a b : By} (ha : (toks a).2 = 0) (hb : (toks b).2 = 0) (hl : a.length + b.length ≤ 4000) : toks (a ++ 10 :: b) = ((toks a).1 ++ (toks b).1, 0) := by
  obtain ⟨_, h2, _⟩ := toks_ok ha
  obtain ⟨_, h3, _⟩ := toks_ok hb
  exact toks_of (by simp; omega) (full_app b h3 h2)
theorem lb_j12 {ρ : Type} (k : Nat) (hk : 9000 ≤ k) (l : List ByteArray) (i : Nat) (hi : i + 1 < l.length) (hn : l.length ≤ 9223372036854775807) (kret : Bool → Option ρ) (knxt : List ByteArray → Int → Option ρ)
    (hs : (l.getD i ByteArray.empty).size + (l.getD (i + 1) ByteArray.empty).size ≤ 4000) (ha : (toks (by' (l.getD i ByteArray.empty))).2 = 0) (hb : (toks (by' (l.getD (i + 1) ByteArray.empty))).2 = 0) :
    cadastrelaw19_LexBlanks_j12 k kret knxt l i (toks (by' (l.getD i ByteArray.empty))).1 (toks (by' (l.getD (i + 1) ByteArray.empty))).1 = knxt l i := by
  unfold cadastrelaw19_LexBlanks_j12
  dsimp only
  rw [w64n (by omega), Int.toNat_natCast, Int.toNat_natCast]
  generalize l.getD i ByteArray.empty = a at *
  generalize l.getD (i + 1) ByteArray.empty = b at *
  have la := (toks_ok ha).2.2
  have lb := (toks_ok hb).2.2
  have e1 := by_len a
  have e2 := by_len b
  have e10 : by' (⟨#[10]⟩ : ByteArray) = [10] := rfl
  rw [chk_pos (by omega), chk_pos (fits (by rw [e10]; simp only [List.length_cons, List.length_nil]; omega)), chk_pos (by omega), chk_pos (fits (by rw [by_cat, e10]; simp only [List.length_append, List.length_cons, List.length_nil]; omega)),
    tokens_eq k _ (by omega), some_bind, by_cat, by_cat, e10, List.append_assoc, List.singleton_append, toks_both ha hb (by omega)]
  simp only [cadastrelaw19_num, some_bind, bne_self_eq_false, cond_false]
  rw [copyt_eq k _ (by omega) (by omega), some_bind, chk_pos (by omega), eqt_refl k _ (by rw [List.length_append]; omega) (by rw [List.length_append]; omega), some_bind]
  rfl
theorem lb_j11 {ρ : Type} (k : Nat) (hk : 9000 ≤ k) (l : List ByteArray) (i : Nat) (hi : i + 1 < l.length) (hn : l.length ≤ 9223372036854775807) (kret : Bool → Option ρ) (knxt : List ByteArray → Int → Option ρ)
    (hs : (l.getD i ByteArray.empty).size + (l.getD (i + 1) ByteArray.empty).size ≤ 4000) :
    cadastrelaw19_LexBlanks_j11 k kret knxt l i (toks (by' (l.getD i ByteArray.empty))).1 (toks (by' (l.getD i ByteArray.empty))).2 (toks (by' (l.getD (i + 1) ByteArray.empty))).1 (toks (by' (l.getD (i + 1) ByteArray.empty))).2 = knxt l i := by
  unfold cadastrelaw19_LexBlanks_j11
  simp only [cadastrelaw19_num, some_bind]
  by_cases ha : (toks (by' (l.getD i ByteArray.empty))).2 = 0
  · rw [show ((toks (by' (l.getD i ByteArray.empty))).2 == 0) = true by rw [ha]; rfl, cond_true]
    by_cases hb : (toks (by' (l.getD (i + 1) ByteArray.empty))).2 = 0
    · rw [show ((toks (by' (l.getD (i + 1) ByteArray.empty))).2 == 0) = true by rw [hb]; rfl, cond_true]
      exact lb_j12 k hk l i hi hn kret knxt hs ha hb
    · rw [show ((toks (by' (l.getD (i + 1) ByteArray.empty))).2 == 0) = false by simpa using hb, cond_false]
  · rw [show ((toks (by' (l.getD i ByteArray.empty))).2 == 0) = false by simpa using ha, cond_false]
theorem lb_j4 {ρ : Type} (k : Nat) (hk : 9000 ≤ k) (l : List ByteArray) (i : Nat) (hi : i + 1 < l.length) (hn : l.length ≤ 9223372036854775807) (hsz : ∀ y ∈ l, y.size ≤ 140737488351232) (kret : Bool → Option ρ) (knxt : List ByteArray → Int → Option ρ) :
    cadastrelaw19_LexBlanks_j4 k kret knxt l i = kret true ∨ cadastrelaw19_LexBlanks_j4 k kret knxt l i = knxt l ((i + 1 : Nat) : Int) := by
  unfold cadastrelaw19_LexBlanks_j4
  dsimp only
  rw [w64n (show i < 9223372036854775807 by omega), Int.toNat_natCast, Int.toNat_natCast, chk_pos (by omega), chk_pos (by omega)]
  have s1 := hsz _ (getD_mem (d := ByteArray.empty) (show i < l.length by omega))
  have s2 := hsz _ (getD_mem (d := ByteArray.empty) (show i + 1 < l.length by omega))
  have e1 := by_len (l.getD i ByteArray.empty)
  have j11 := lb_j11 k hk l i hi hn kret (fun l0 i3 => knxt l0 (IntKind.i64.wrap (i3 + 1)))
  rw [w64 (by omega) (by omega), bigd]
  by_cases h : ((l.getD i ByteArray.empty).size : Int) + ((l.getD (i + 1) ByteArray.empty).size : Int) > 4000
  · left; rw [decide_eq_true h, cond_true]
  · right
    rw [decide_eq_false h, cond_false, chk_pos (by omega), tokens_eq k _ (by omega), some_bind, chk_pos (by omega), tokens_eq k _ (by omega), some_bind, chk_pos (by omega)]
    have e3 : by' (⟨#[32, 10, 9]⟩ : ByteArray) = [32, 10, 9] := rfl
    have e4 : by' (⟨#[10, 45, 45, 32, 97, 32, 39, 114, 101, 109, 97, 114, 107, 10]⟩ : ByteArray) = 10 :: remk := rfl
    rw [chk_pos (fits (by rw [e3]; simp only [List.length_cons, List.length_nil]; omega)), chk_pos (fits (by rw [by_cat, e3, e4]; simp only [List.length_append, List.length_cons, List.length_nil, remk]; omega)),
      tokens_eq k _ (by omega), some_bind, by_cat, by_cat, e3, e4]
    simp only [cadastrelaw19_num, some_bind]
    by_cases ha : (toks (by' (l.getD i ByteArray.empty))).2 = 0
    · have la := (toks_ok ha).2.2
      rw [show ((toks (by' (l.getD i ByteArray.empty))).2 == 0) = true by rw [ha]; rfl, cond_true, toks_around ha (by omega), show ((toks (by' (l.getD i ByteArray.empty))).2 != 0) = false by rw [ha]; rfl, cond_false,
        eqt_refl k _ (by omega) (by omega), some_bind, Bool.not_true, cond_false, j11 (by omega), w64n (by omega)]
    · rw [show ((toks (by' (l.getD i ByteArray.empty))).2 == 0) = false by simpa using ha, cond_false, j11 (by omega), w64n (by omega)]
theorem lb_l2 (k : Nat) (hk : 9000 ≤ k) (l : List ByteArray) (hn : l.length ≤ 9223372036854775807) (hsz : ∀ y ∈ l, y.size ≤ 140737488351232) (kexit : Option Bool) (hx : kexit = some true) :
    ∀ (d i n : Nat), i + d = l.length → d < n → cadastrelaw19_LexBlanks_l2 k some kexit n l i = some true
  | 0, i, n + 1, hi, _ => by
    simp only [cadastrelaw19_LexBlanks_l2, cadastrelaw19_LexBlanks_l2_b]
    have : ¬ IntKind.i64.wrap ((i : Int) + 1) < (l.length : Int) ∨ (i = 9223372036854775807) := by
      by_cases h : i = 9223372036854775807
      · exact .inr h
      · left; rw [w64n (by omega)]; omega
    by_cases h12 : (i : Int) < 12
    · rw [w64n (by omega), decide_eq_false (by omega), cond_false, hx]
    · rw [decide_eq_false h12]
      cases decide (IntKind.i64.wrap ((i : Int) + 1) < (l.length : Int)) <;> exact hx
  | d + 1, i, n + 1, hi, hlt => by
    simp only [cadastrelaw19_LexBlanks_l2, cadastrelaw19_LexBlanks_l2_b]
    by_cases h12 : (i : Int) < 12
    · rw [w64n (by omega)]
      by_cases h1 : i + 1 < l.length
      · rw [decide_eq_true (by omega), cond_true, decide_eq_true h12, cond_true]
        rcases lb_j4 k hk l i h1 hn hsz some (cadastrelaw19_LexBlanks_l2 k some kexit n) with e | e
        · exact e
        · rw [e]; exact lb_l2 k hk l hn hsz kexit hx d (i + 1) n (by omega) (by omega)
      · rw [decide_eq_false (by omega), cond_false, hx]
    · rw [decide_eq_false h12]
      cases decide (IntKind.i64.wrap ((i : Int) + 1) < (l.length : Int)) <;> exact hx

theorem LexBlanks_pure : ∀ l : List ByteArray, (l.length * 16 ≤ 140737488351232 ∧ l.length ≤ 9223372036854775807 ∧ ∀ y ∈ l, (y.size ≤ 140737488351232)) → ∃ k, cadastrelaw19_LexBlanks k l = some true := by
  rintro l ⟨-, hn, hs⟩
  refine ⟨l.length + 9000, ?_⟩
  unfold cadastrelaw19_LexBlanks
  refine lb_l2 _ (by omega) l hn hs _ ?_ l.length 0 _ (by omega) (by omega)
  rw [tokens_eq _ _ (by omega), some_bind]
  have e : toks (by' (⟨#[83, 101, 108, 101, 99, 116, 32, 65, 98, 67, 95, 57]⟩ : ByteArray)) = ([(⟨1, (⟨#[115, 101, 108, 101, 99, 116]⟩ : ByteArray), 0⟩ : S68), (⟨1, (⟨#[97, 98, 99, 95, 57]⟩ : ByteArray), 0⟩ : S68)], 0) := by kernel_rfl
  rw [e]
  simp only [cadastrelaw19_num, some_bind, beq_self_eq_true, cond_true]
  rw [eqt_refl _ _ (by simp) (by simp), some_bind, wakes_eq _ (by omega), cond_true]; rfl
end Go.Proofs.Ytekjibpkkgldgaa.X
