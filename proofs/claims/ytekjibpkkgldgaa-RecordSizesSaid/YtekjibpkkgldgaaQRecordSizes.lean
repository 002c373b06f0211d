/-
  cadastre/cadastrelaw6.RecordSizes: what its printed function answers is true, for every list. No condition beyond the numbers' own bounds.
-/
import Derived.Test.YtekjibpkkgldgaaROk
import Derived.Test.YtekjibpkkgldgaaREnc
namespace Go.Proofs.Ytekjibpkkgldgaa.R
open Go Go.AX

theorem vok_of' {v : S44} (h : ok44 v) : vok v := ⟨h.2.1.1, h.2.1.2, h.2.2⟩
theorem put_one {n : Int} (h0 : 0 ≤ n) (h1 : n < 128) : (put n).length = 1 := by
  unfold put
  rw [if_neg (by omega), show n / 128 = 0 by omega]; rfl
theorem put_two {n : Int} (h0 : 128 ≤ n) (h1 : n < 16384) : (put n).length = 2 := by
  unfold put
  rw [if_neg (by omega)]
  have e : n / 128 / 128 = 0 := by omega
  have hn : ¬ n / 128 = 0 := by omega
  rw [hi, if_neg hn, e]
  rfl
/-- How many bytes an integer has. -/
def ints (x : Int) : Int := if -128 ≤ x ∧ x < 128 then 1 else if -32768 ≤ x ∧ x < 32768 then 2 else if -2147483648 ≤ x ∧ x < 2147483648 then 4 else 8
theorem rs_l14 {ρ : Type} (k q : Nat) (kexit : List S34 → Int → Int → List Int → Int → Int → S44 → Option ρ) (l : List S34) (i j : Int) (b : List Int) (e : Int) (v : S44) :
    cadastrelaw6_RecordSizes_l14 k kexit (q + 1 + 1 + 1 + 1) l i j b e 8 4 v = kexit l i j b e (ints v.f1) v := by
  have step : ∀ (f : Nat) (n m m' p : Int), 0 < m → ¬ IntKind.i64.wrap (IntKind.i64.wrap (8 * m) - 1) < 0 → (2 : Int) ^ (min (IntKind.i64.wrap ((IntKind.i64.wrap (8 * m)) - 1)).toNat (IntKind.i64).bits) = p → 0 < p → IntKind.i64.wrap (Int.tdiv m 2) = m' →
      cadastrelaw6_RecordSizes_l14 k kexit (f + 1) l i j b e n m v = cadastrelaw6_RecordSizes_l14 k kexit f l i j b e (if -p ≤ v.f1 ∧ v.f1 < p then m else n) m' v := by
    intro f n m m' p h1 h2 h3 h4 h5
    rw [cadastrelaw6_RecordSizes_l14, cadastrelaw6_RecordSizes_l14_b, decide_eq_true (show m > 0 from h1), cond_true, if_neg h2, if_neg h2, h3, h5, Int.fdiv_eq_ediv_of_nonneg _ (by omega)]
    by_cases c1 : 0 ≤ v.f1 ∧ v.f1 < p
    · rw [show v.f1 / p = 0 from Int.ediv_eq_zero_of_lt c1.1 c1.2, if_pos (by omega)]; rfl
    · by_cases c2 : -p ≤ v.f1 ∧ v.f1 < 0
      · have e1 : v.f1 / p = -1 := by
          have : v.f1 = (v.f1 + p) + p * (-1) := by omega
          rw [this, Int.add_mul_ediv_left _ _ (by omega), Int.ediv_eq_zero_of_lt (by omega) (by omega)]; rfl
        rw [e1, if_pos (by omega)]; rfl
      · have hm := Int.mul_ediv_add_emod v.f1 p
        have hr := Int.emod_nonneg v.f1 (show p ≠ 0 by omega)
        have hr2 := Int.emod_lt_of_pos v.f1 h4
        have n0 : ¬ v.f1 / p = 0 := fun h => by rw [h, Int.mul_zero] at hm; exact c1 ⟨by omega, by omega⟩
        have n1 : ¬ v.f1 / p = -1 := fun h => by rw [h] at hm; exact c2 ⟨by omega, by omega⟩
        rw [if_neg (by omega)]
        have q0 : (v.f1 / p == 0) = false := by simp [n0]
        have q1 : (v.f1 / p == -1) = false := by simp [n1]
        simp only [q0, q1, cond_false]
  rw [step _ 8 4 2 2147483648 (by decide) (by decide) (by decide) (by decide) (by decide), step _ _ 2 1 32768 (by decide) (by decide) (by decide) (by decide) (by decide), step _ _ 1 0 128 (by decide) (by decide) (by decide) (by decide) (by decide)]
  rw [cadastrelaw6_RecordSizes_l14, cadastrelaw6_RecordSizes_l14_b, decide_eq_false (by decide), cond_false]
  rfl
theorem enc_one {v : S44} (hg : good v = true) : encR [v] = (encv [v], 0) ∧ (encv [v]).length = 1 + (put (kindv v)).length + (bodyv v).length := by
  have hb := body_length hg
  have hp := put_length (kindv v)
  have hl : (encv [v]).length = 1 + (put (kindv v)).length + (bodyv v).length := by
    unfold encv heads bodies
    rw [List.length_append, List.length_append, put_one (n := ([v].length : Int)) (by simp) (by simp)]
    simp; omega
  refine ⟨?_, hl⟩
  unfold encR
  rw [if_pos (by simp [hg]), if_neg (by simp), if_neg (by omega)]
/-- The length that the law asks for. -/
theorem enc_len {v : S44} (hg : good v = true) : ((encv [v]).length : Int) = (if (v.f2.size : Int) > 57 then 3 else 2) + (if v.f0 = 1 ∧ v.f1 ≠ 0 ∧ v.f1 ≠ 1 then ints v.f1 else (v.f2.size : Int)) := by
  rw [(enc_one hg).2]
  rcases good_says hg with ⟨a0, b0, hs⟩ | ⟨a1, hs⟩ | ⟨a23, b0, hs⟩
  · have hk : kindv v = 0 := by unfold kindv; rw [if_pos a0]
    have hb : (bodyv v).length = v.f2.size := by unfold bodyv; rw [if_neg (by omega), bytesOf_length]
    rw [hk, put_one (by omega) (by omega), hb, if_neg (by omega), if_neg (by omega)]; omega
  · have hb : (bodyv v).length = wid (kindv v) := by unfold bodyv; rw [if_pos a1, bl_length]
    have hk : 1 ≤ kindv v ∧ kindv v ≤ 6 := by
      rcases kindv_cases hg with ⟨_, h⟩ | ⟨h, _⟩ | ⟨h, _⟩ <;> omega
    rw [put_one (by omega) (by omega), hb, if_neg (by omega)]
    unfold kindv ints wid
    rw [if_neg (show ¬ v.f0 = 0 by omega), if_neg (show ¬ v.f0 = 3 by omega), if_neg (show ¬ v.f0 = 2 by omega)]
    by_cases c0 : v.f1 = 0
    · rw [if_pos c0, if_neg (show ¬ (v.f0 = 1 ∧ v.f1 ≠ 0 ∧ v.f1 ≠ 1) by omega), hs]; rfl
    rw [if_neg c0]
    by_cases c1 : v.f1 = 1
    · rw [if_pos c1, if_neg (show ¬ (v.f0 = 1 ∧ v.f1 ≠ 0 ∧ v.f1 ≠ 1) by omega), hs]; rfl
    rw [if_neg c1, if_pos (show v.f0 = 1 ∧ v.f1 ≠ 0 ∧ v.f1 ≠ 1 from ⟨a1, c0, c1⟩)]
    by_cases d1 : -128 ≤ v.f1 ∧ v.f1 < 128
    · simp only [if_pos d1]; rfl
    simp only [if_neg d1]
    by_cases d2 : -32768 ≤ v.f1 ∧ v.f1 < 32768
    · simp only [if_pos d2]; rfl
    simp only [if_neg d2]
    by_cases d3 : -2147483648 ≤ v.f1 ∧ v.f1 < 2147483648
    · simp only [if_pos d3]; rfl
    · simp only [if_neg d3]; rfl
  · have hb : (bodyv v).length = v.f2.size := by unfold bodyv; rw [if_neg (by omega), bytesOf_length]
    have hk : kindv v = 12 + 2 * (v.f2.size : Int) ∨ kindv v = 13 + 2 * (v.f2.size : Int) := by
      unfold kindv
      rw [if_neg (by omega)]
      by_cases a3 : v.f0 = 3
      · rw [if_pos a3]; exact .inl rfl
      · rw [if_neg a3, if_pos (by omega)]; exact .inr rfl
    rw [hb, if_neg (show ¬ (v.f0 = 1 ∧ v.f1 ≠ 0 ∧ v.f1 ≠ 1) by omega)]
    by_cases h57 : (v.f2.size : Int) > 57
    · rw [put_two (by omega) (by omega), if_pos h57]; omega
    · rw [put_one (by omega) (by omega), if_neg h57]; omega
section
variable {ρ : Type} (k : Nat) (kret : Bool → Option ρ)
theorem rs_j18 (knxt : List S34 → Int → Int → Option ρ) (l : List S34) (i j n : Int) (v : S44) (hg : good v = true) (h : ((encv [v]).length : Int) = (if (v.f2.size : Int) > 57 then 3 else 2) + n) :
    cadastrelaw6_RecordSizes_j18 k kret knxt l i j (encv [v]) 0 n v = knxt l i j := by
  have hb := body_length hg
  have hp := put_length (kindv v)
  have hl := (enc_one hg).2
  unfold cadastrelaw6_RecordSizes_j18 cadastrelaw6_RecordSizes_j21
  simp only [cadastrelaw6_num, some_bind]
  by_cases h57 : (v.f2.size : Int) > 57
  · rw [if_pos h57] at h
    rw [decide_eq_true h57, cond_true, show ((0 : Int) != 0) = false from rfl, cond_false, w64 (by omega) (by omega), show (((encv [v]).length : Int) != 3 + n) = false by simp [h], cond_false]
  · rw [if_neg h57] at h
    rw [decide_eq_false h57, cond_false, show ((0 : Int) != 0) = false from rfl, cond_false, w64 (by omega) (by omega), show (((encv [v]).length : Int) != 2 + n) = false by simp [h], cond_false]
theorem rs_j7 (hk : 40 ≤ k) (knxt : List S34 → Int → Int → Option ρ) (l : List S34) (i j : Nat) (hi : i < l.length) (hn : l.length ≤ 9223372036854775807) (hj : j < (l.getD i default).f0.length) (hj2 : j < 20) (ho : ok34 (l.getD i default)) :
    cadastrelaw6_RecordSizes_j7 k knxt kret l i j = knxt l i ((j + 1 : Nat) : Int) := by
  unfold cadastrelaw6_RecordSizes_j7
  rw [chk_pos (by omega), Int.toNat_natCast, chk_pos (by omega), Int.toNat_natCast]
  have hv := vok_of' (ho.1.2.2 _ (getD_mem (d := default) hj))
  generalize (l.getD i default).f0.getD j default = v at hv
  rw [may_eq, some_bind]
  cases hg : good v with
  | false => rw [Bool.not_false, cond_true, w64n (by omega)]
  | true =>
    have hel := enc_len hg
    rw [Bool.not_true, cond_false, enc_eq k hk [v] (by intro x hx; rw [List.mem_singleton] at hx; rw [hx]; exact hv) (by simp; omega) (by simp), some_bind, (enc_one hg).1]
    by_cases a1 : v.f0 = 1
    · rw [show (v.f0 == 1) = true by simp [a1], cond_true]
      by_cases c0 : v.f1 = 0
      · rw [show (v.f1 != 0) = false by simp [c0], cond_false, rs_j18 k kret _ _ _ _ _ v hg (by rw [hel, if_neg (show ¬ (v.f0 = 1 ∧ v.f1 ≠ 0 ∧ v.f1 ≠ 1) by omega)]), w64n (by omega)]
      rw [show (v.f1 != 0) = true by simp [c0], cond_true]
      by_cases c1 : v.f1 = 1
      · rw [show (v.f1 != 1) = false by simp [c1], cond_false, rs_j18 k kret _ _ _ _ _ v hg (by rw [hel, if_neg (show ¬ (v.f0 = 1 ∧ v.f1 ≠ 0 ∧ v.f1 ≠ 1) by omega)]), w64n (by omega)]
      rw [show (v.f1 != 1) = true by simp [c1], cond_true]
      unfold cadastrelaw6_RecordSizes_j12
      obtain ⟨q, hq⟩ : ∃ q, k = q + 1 + 1 + 1 + 1 := ⟨k - 4, by omega⟩
      have := rs_l14 k q (fun l0 i3 k4 b6 e7 n8 v5 => cadastrelaw6_RecordSizes_j18 k kret (fun l0 i3 k4 => knxt l0 i3 (IntKind.i64.wrap (k4 + 1))) l0 i3 k4 b6 e7 n8 v5) l i j (encv [v]) 0 v
      rw [← hq] at this
      refine Eq.trans this ?_
      rw [rs_j18 k kret _ _ _ _ _ v hg (by rw [hel, if_pos (show v.f0 = 1 ∧ v.f1 ≠ 0 ∧ v.f1 ≠ 1 from ⟨a1, c0, c1⟩)]), w64n (by omega)]
    · rw [show (v.f0 == 1) = false by simp [a1], cond_false, rs_j18 k kret _ _ _ _ _ v hg (by rw [hel, if_neg (show ¬ (v.f0 = 1 ∧ v.f1 ≠ 0 ∧ v.f1 ≠ 1) by omega)]), w64n (by omega)]
theorem rs_l5 (hk : 40 ≤ k) (kexit : List S34 → Int → Option ρ) (l : List S34) (i : Nat) (hi : i < l.length) (hn : l.length ≤ 9223372036854775807) (ho : ok34 (l.getD i default)) : ∀ (d j n : Nat), j + d = 20 → d < n → cadastrelaw6_RecordSizes_l5 k kret kexit n l i j = kexit l i
  | 0, j, n + 1, hj, _ => by
    simp only [cadastrelaw6_RecordSizes_l5, cadastrelaw6_RecordSizes_l5_b]
    rw [chk_pos (by omega), decide_eq_false (show ¬ (j : Int) < 20 by omega), cond_false]
    cases decide ((j : Int) < ((l.getD (i : Int).toNat default).f0.length : Int)) <;> rfl
  | d + 1, j, n + 1, hj, hlt => by
    simp only [cadastrelaw6_RecordSizes_l5, cadastrelaw6_RecordSizes_l5_b]
    rw [chk_pos (by omega), decide_eq_true (show (j : Int) < 20 by omega), cond_true, Int.toNat_natCast]
    by_cases h : (j : Int) < ((l.getD i default).f0.length : Int)
    · rw [decide_eq_true h, cond_true, rs_j7 k kret hk _ l i j hi hn (by omega) (by omega) ho]
      exact rs_l5 hk kexit l i hi hn ho d (j + 1) n (by omega) (by omega)
    · rw [decide_eq_false h, cond_false]
theorem rs_l2 (hk : 40 ≤ k) (l : List S34) (hn : l.length ≤ 9223372036854775807) (ho : ∀ y ∈ l, ok34 y) (kexit : Option ρ) :
    ∀ (d i n : Nat), i + d = l.length → d < n → cadastrelaw6_RecordSizes_l2 k kret kexit n l i = kexit
  | 0, i, n + 1, hi, _ => by
    simp only [cadastrelaw6_RecordSizes_l2, cadastrelaw6_RecordSizes_l2_b]
    rw [decide_eq_false (by omega), cond_false]
  | d + 1, i, n + 1, hi, hlt => by
    simp only [cadastrelaw6_RecordSizes_l2, cadastrelaw6_RecordSizes_l2_b]
    rw [decide_eq_true (by omega), cond_true]
    by_cases h12 : (i : Int) < 12
    · rw [decide_eq_true h12, cond_true]
      unfold cadastrelaw6_RecordSizes_j4
      have := rs_l5 k kret hk (fun l0 i3 => cadastrelaw6_RecordSizes_l2 k kret kexit n l0 (IntKind.i64.wrap (i3 + 1))) l i (by omega) hn (ho _ (getD_mem (by omega))) 20 0 k (by omega) (by omega)
      refine Eq.trans this ?_
      rw [w64n (by omega)]
      exact rs_l2 hk l hn ho kexit d (i + 1) n (by omega) (by omega)
    · rw [decide_eq_false h12, cond_false]
end
theorem RecordSizes_pure : ∀ l : List S34, (l.length * 48 ≤ 140737488351232 ∧ l.length ≤ 9223372036854775807 ∧ ∀ y ∈ l, (ok34 y)) → ∃ k, cadastrelaw6_RecordSizes k l = some true := by
  rintro l ⟨-, hn, ho⟩
  refine ⟨l.length + 40, ?_⟩
  unfold cadastrelaw6_RecordSizes
  refine Eq.trans (rs_l2 _ _ (by omega) l hn ho _ l.length 0 _ (by omega) (by omega)) ?_
  rw [wakes_eq _ (by omega)]; rfl
end Go.Proofs.Ytekjibpkkgldgaa.R
