/-
  cadastre/cadastrelaw19.LexTexts: what its printed function answers is true, for every list. No condition beyond the numbers' own bounds.
-/
import Derived.Test.YtekjibpkkgldgaaXOk
import Derived.Test.YtekjibpkkgldgaaXLx4
namespace Go.Proofs.Ytekjibpkkgldgaa.X
open Go Go.AX

def dbl (l : By) : By := l.flatMap fun c => if c = 39 then [39, 39] else [c]
theorem dbl_len : ∀ l : By, (dbl l).length ≤ 2 * l.length
  | [] => by simp [dbl]
  | c :: r => by
    have := dbl_len r
    simp only [dbl, List.flatMap_cons, List.length_append, List.length_cons] at *
    split
    · simp only [List.length_cons, List.length_nil]; omega
    · simp only [List.length_cons, List.length_nil]; omega
theorem quot_dbl : ∀ l : By, quotF (dbl l ++ [39]) = some (l, [])
  | [] => rfl
  | c :: r => by
    have ih := quot_dbl r
    by_cases h : c = 39
    · have e : dbl (c :: r) ++ [39] = 39 :: 39 :: (dbl r ++ [39]) := by
        simp only [dbl, List.flatMap_cons]
        rw [if_pos h]; rfl
      rw [e]
      unfold quotF
      rw [if_pos rfl]
      simp only [if_true]
      rw [ih, h]; rfl
    · have e : dbl (c :: r) ++ [39] = c :: (dbl r ++ [39]) := by
        simp only [dbl, List.flatMap_cons]
        rw [if_neg h]; rfl
      rw [e]
      unfold quotF
      rw [if_neg h, ih]; rfl
theorem toks_dbl {b : By} (h : b.length ≤ 3000) : toks (39 :: dbl b ++ [39]) = ([(⟨3, txt b, 0⟩ : S68)], 0) := by
  have hl := dbl_len b
  refine toks_of (by simp; omega) ?_
  unfold full
  have hs : skipL (39 :: dbl b ++ [39]) = 39 :: (dbl b ++ [39]) := by
    rw [List.cons_append, skipL_eq, List.dropWhile_cons_of_neg (by decide), if_neg]
    intro e
    rw [List.take_succ_cons] at e
    have := congrArg (fun l : By => l.getD 0 0) e
    simp at this
  rw [hs]
  have ht : tokL (39 :: (dbl b ++ [39])) = some (⟨3, txt b, 0⟩, []) := by
    rw [tok_cons, if_neg (fun e => by rcases e.1 with h | h <;> exact absurd h (by decide)), if_neg (by decide), if_neg (by decide), if_pos rfl, quot_dbl]; rfl
  simp only [scan]
  rw [ht, some_bind]
  have hn : (39 :: dbl b ++ [39]).length = ((dbl b).length + 1) + 1 := by simp
  rw [hn]
  have hlg : longT (⟨3, txt b, 0⟩ : S68) = false := by
    unfold longT
    rw [if_neg (show ¬ (3 : Int) = 1 by decide), decide_eq_false]
    show ¬ 4096 < b.length
    omega
  show some ([(⟨3, txt b, 0⟩ : S68)], longT (⟨3, txt b, 0⟩ : S68) || false) = _
  rw [hlg]; rfl
theorem lt_l8 {ρ : Type} (k : Nat) (kexit : List ByteArray → Int → List Int → Option ρ) (l : List ByteArray) (i : Nat) (hi : i < l.length) (hn : l.length ≤ 9223372036854775807) (hb : (l.getD i ByteArray.empty).size ≤ 3000) : ∀ (d j n : Nat), j + d = (l.getD i ByteArray.empty).size → d < n →
    cadastrelaw19_LexTexts_l8 k kexit n l i (nums (39 :: dbl ((by' (l.getD i ByteArray.empty)).take j))) j = kexit l i (nums (39 :: dbl (by' (l.getD i ByteArray.empty))))
  | 0, j, n + 1, hj, _ => by
    simp only [cadastrelaw19_LexTexts_l8, cadastrelaw19_LexTexts_l8_b]
    rw [chk_pos (by omega), Int.toNat_natCast, decide_eq_false (by omega), cond_false, List.take_of_length_le (by rw [by_len]; omega)]
  | d + 1, j, n + 1, hj, hlt => by
    have hjl : j < (by' (l.getD i ByteArray.empty)).length := by rw [by_len]; omega
    have ih := lt_l8 k kexit l i hi hn hb d (j + 1) n (by omega) (by omega)
    have hd := dbl_len ((by' (l.getD i ByteArray.empty)).take j)
    have ht : ((by' (l.getD i ByteArray.empty)).take j).length ≤ j := List.length_take_le _ _
    have hs : (by' (l.getD i ByteArray.empty)).take (j + 1) = (by' (l.getD i ByteArray.empty)).take j ++ [(by' (l.getD i ByteArray.empty)).getD j 0] := by
      rw [List.take_succ_eq_append_getElem hjl, getD_get _ j 0 hjl]
    simp only [cadastrelaw19_LexTexts_l8, cadastrelaw19_LexTexts_l8_b]
    rw [chk_pos (by omega), Int.toNat_natCast, decide_eq_true (by omega), cond_true, chk_pos (by omega), chk_pos (by omega)]
    simp only [Int.toNat_natCast]
    have hgen : ∀ c : UInt8, c = (l.getD i ByteArray.empty).data.toList.getD j 0 → dbl ((by' (l.getD i ByteArray.empty)).take (j + 1)) = dbl ((by' (l.getD i ByteArray.empty)).take j) ++ (if c = 39 then [39, 39] else [c]) := by
      intro c hc
      rw [hs, hc]
      unfold dbl
      rw [List.flatMap_append]
      simp
    have hg := hgen _ rfl
    generalize (l.getD i ByteArray.empty).data.toList.getD j 0 = c at hg
    have e39 := u8eq c 39 (by omega)
    generalize hq : dbl ((by' (l.getD i ByteArray.empty)).take j) = q at hd hg
    by_cases h : c = 39
    · rw [show ((((c.toNat : Nat) : Int)) == 39) = true from e39.trans (decide_eq_true h), cond_true]
      rw [if_pos h] at hg
      rw [chk_pos (by simp only [nums_len, List.length_cons, List.length_nil]; omega), chk_pos (by omega), chk_pos (by omega), chk_pos (by simp only [nums_len, List.length_cons, List.length_nil, List.length_append]; omega), w64n (by omega)]
      rw [hg] at ih
      rw [← ih]
      congr 1
      rw [h]
      simp [nums]
    · rw [show ((((c.toNat : Nat) : Int)) == 39) = false from e39.trans (decide_eq_false h), cond_false]
      rw [if_neg h] at hg
      rw [chk_pos (by omega), chk_pos (by omega), chk_pos (by simp only [nums_len, List.length_cons, List.length_nil]; omega), w64n (by omega)]
      rw [hg] at ih
      rw [← ih]
      congr 1
      simp [nums]
theorem lt_j4 {ρ : Type} (k : Nat) (hk : 9000 ≤ k) (l : List ByteArray) (i : Nat) (hi : i < l.length) (hn : l.length ≤ 9223372036854775807) (kret : Bool → Option ρ) (knxt : List ByteArray → Int → Option ρ) :
    cadastrelaw19_LexTexts_j4 k kret knxt l i = kret true ∨ cadastrelaw19_LexTexts_j4 k kret knxt l i = knxt l ((i + 1 : Nat) : Int) := by
  unfold cadastrelaw19_LexTexts_j4
  rw [chk_pos (by omega)]
  simp only [Int.toNat_natCast, bigd]
  by_cases h : ((l.getD i ByteArray.empty).size : Int) > 3000
  · left; rw [decide_eq_true h]; rfl
  · right
    rw [decide_eq_false h, cond_false]
    have hd := dbl_len (by' (l.getD i ByteArray.empty))
    rw [by_len] at hd
    refine Eq.trans (lt_l8 k _ l i hi hn (by omega) (l.getD i ByteArray.empty).size 0 k (by omega) (by omega)) ?_
    rw [chk_pos (by simp only [nums_len, List.length_cons, List.length_nil]; omega), show nums (39 :: dbl (by' (l.getD i ByteArray.empty))) ++ [39] = nums (39 :: dbl (by' (l.getD i ByteArray.empty)) ++ [39]) by rw [nums_append]; rfl,
      nums_txt, tokens_eq k _ (by omega), txt_by, toks_dbl (by rw [by_len]; omega), some_bind]
    simp only [cadastrelaw19_num, some_bind, by_txt, bne_self_eq_false, cond_false]
    rw [chk_pos (by omega)]
    simp only [Int.toNat_natCast]
    rw [eqt_refl k _ (by simp) (by simp; omega), some_bind, w64n (by omega)]
    rfl
theorem lt_l2 (k : Nat) (hk : 9000 ≤ k) (l : List ByteArray) (hn : l.length ≤ 9223372036854775807) (kexit : Option Bool) (hx : kexit = some true) :
    ∀ (d i n : Nat), i + d = l.length → d < n → cadastrelaw19_LexTexts_l2 k some kexit n l i = some true
  | 0, i, n + 1, hi, _ => by
    simp only [cadastrelaw19_LexTexts_l2, cadastrelaw19_LexTexts_l2_b]
    rw [decide_eq_false (by omega), cond_false, hx]
  | d + 1, i, n + 1, hi, hlt => by
    simp only [cadastrelaw19_LexTexts_l2, cadastrelaw19_LexTexts_l2_b]
    rw [decide_eq_true (by omega), cond_true]
    by_cases h12 : (i : Int) < 12
    · rw [decide_eq_true h12, cond_true]
      rcases lt_j4 k hk l i (by omega) hn some (cadastrelaw19_LexTexts_l2 k some kexit n) with e | e
      · exact e
      · rw [e]; exact lt_l2 k hk l hn kexit hx d (i + 1) n (by omega) (by omega)
    · rw [decide_eq_false h12, cond_false, hx]

theorem LexTexts_pure : ∀ l : List ByteArray, (l.length * 16 ≤ 140737488351232 ∧ l.length ≤ 9223372036854775807 ∧ ∀ y ∈ l, (y.size ≤ 140737488351232)) → ∃ k, cadastrelaw19_LexTexts k l = some true := by
  rintro l ⟨-, hn, -⟩
  refine ⟨l.length + 9000, ?_⟩
  unfold cadastrelaw19_LexTexts
  exact lt_l2 _ (by omega) l hn _ (by rw [wakes_eq _ (by omega)]; rfl) l.length 0 _ (by omega) (by omega)
end Go.Proofs.Ytekjibpkkgldgaa.X
