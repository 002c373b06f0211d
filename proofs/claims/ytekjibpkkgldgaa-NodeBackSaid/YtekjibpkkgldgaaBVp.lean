/-
  The bytes of a number, by the program and by the page; bytes held against bytes.
-/
import Derived.Test.YtekjibpkkgldgaaBVi
namespace Go.Proofs.Ytekjibpkkgldgaa.B
open Go Go.AX

theorem bigd (p : Prop) [Decidable p] : big (decide p) = decide p := big_eq _
theorem or8r (x : Int) : IntKind.u8.wrap ((BitVec.ofInt (IntKind.u8).bits (IntKind.u8.wrap x) ||| BitVec.ofInt (IntKind.u8).bits 128).toNat : Int) = x % 128 + 128 := by
  have h := or8_128 x
  rw [IntKind.wrap_u8 x]; exact h
theorem and8r (x : Int) (h0 : 0 ≤ x) (h1 : x < 256) : IntKind.u8.wrap ((BitVec.ofInt (IntKind.u8).bits x &&& BitVec.ofInt (IntKind.u8).bits 127).toNat : Int) = x % 128 := and8_127 x h0 h1
theorem or8r0 (x : Int) (h0 : 0 ≤ x) (h1 : x < 128) : IntKind.u8.wrap ((BitVec.ofInt (IntKind.u8).bits x ||| BitVec.ofInt (IntKind.u8).bits 0).toNat : Int) = x := or8_0 x h0 h1
theorem or8r1 (x : Int) (h0 : 0 ≤ x) (h1 : x < 128) : IntKind.u8.wrap ((BitVec.ofInt (IntKind.u8).bits x ||| BitVec.ofInt (IntKind.u8).bits 128).toNat : Int) = x + 128 := or8_128' x h0 h1
theorem fd7 (n : Int) : Int.fdiv n (2 ^ (min (7 : Int).toNat (IntKind.u64).bits)) = n / 128 := by
  rw [show (2 : Int) ^ (min (7 : Int).toNat (IntKind.u64).bits) = 128 from by decide, Int.fdiv_eq_ediv_of_nonneg _ (by decide)]
theorem fd8 (n : Int) : Int.fdiv n (2 ^ (min (8 : Int).toNat (IntKind.u64).bits)) = n / 256 := by
  rw [show (2 : Int) ^ (min (8 : Int).toNat (IntKind.u64).bits) = 256 from by decide, Int.fdiv_eq_ediv_of_nonneg _ (by decide)]

theorem turn_loop (k : Nat) (o : List Int) (hn : o.length ≤ 140737488351232) : ∀ (d i n : Nat) (L : List Int), d < n → o.length ≤ 2 * i + d + 1 → 2 * i ≤ o.length → L.length = o.length →
    (∀ j, j < o.length → L[j]? = if j < i ∨ o.length - i ≤ j then o[o.length - 1 - j]? else o[j]?) → varint_turned_o0_g0 k some n L i ((o.length : Int) - 1 - i) = some o.reverse
  | d, i, 0, L, hd, _, _, _, _ => by omega
  | d, i, n + 1, L, hd, h1, h2, hL, hj => by
    have hstop : ¬ ((i : Int) < (o.length : Int) - 1 - i) → varint_turned_o0_g0 k some (n + 1) L i ((o.length : Int) - 1 - i) = some o.reverse := fun hlt => by
      simp only [varint_turned_o0_g0, varint_turned_o0_g0_b, varint_turned_o0_j2]
      rw [decide_eq_false hlt, cond_false]
      congr 1
      apply List.ext_getElem?
      intro j
      by_cases hlt2 : j < o.length
      · rw [hj j hlt2, List.getElem?_reverse hlt2]
        split
        · rfl
        · have : j = o.length - 1 - j := by omega
          rw [← this]
      · rw [List.getElem?_eq_none (by omega), List.getElem?_eq_none (by simp; omega)]
    by_cases hlt : (i : Int) < (o.length : Int) - 1 - i
    case neg => exact hstop hlt
    cases d with
    | zero => omega
    | succ d =>
      simp only [varint_turned_o0_g0, varint_turned_o0_g0_b, varint_turned_o0_j2]
      rw [decide_eq_true hlt, cond_true, chk_pos (by omega), chk_pos (by omega), chk_pos (by omega), chk_pos (by omega), chk_pos (by rw [List.length_set]; omega), chk_pos (by rw [List.length_set]; omega)]
      have e1 : IntKind.i64.wrap ((i : Int) + 1) = ((i + 1 : Nat) : Int) := by rw [w64 (by omega) (by omega)]; omega
      have e2 : IntKind.i64.wrap ((o.length : Int) - 1 - i - 1) = (o.length : Int) - 1 - ((i + 1 : Nat) : Int) := by rw [w64 (by omega) (by omega)]; omega
      rw [e1, e2]
      have e3 : ((o.length : Int) - 1 - i).toNat = o.length - 1 - i := by omega
      have e4 : ((i : Nat) : Int).toNat = i := by omega
      rw [e3, e4]
      refine turn_loop k o hn d (i + 1) n _ (by omega) (by omega) (by omega) (by simp [hL]) (fun j hjl => ?_)
      have g1 : L.getD (o.length - 1 - i) 0 = o[o.length - 1 - i]'(by omega) := by
        have := hj (o.length - 1 - i) (by omega)
        rw [if_neg (by omega)] at this
        rw [List.getD_eq_getElem?_getD, this, List.getElem?_eq_getElem (by omega)]; rfl
      have g2 : L.getD i 0 = o[i]'(by omega) := by
        have := hj i (by omega)
        rw [if_neg (by omega)] at this
        rw [List.getD_eq_getElem?_getD, this, List.getElem?_eq_getElem (by omega)]; rfl
      rw [g1, g2, List.getElem?_set, List.getElem?_set]
      by_cases ha : o.length - 1 - i = j
      · rw [if_pos ha, if_pos (by simp; omega), if_pos (by omega), List.getElem?_eq_getElem (by omega)]
        congr 2; omega
      · rw [if_neg ha]
        by_cases hb : i = j
        · rw [if_pos hb, if_pos (by omega), if_pos (by omega), List.getElem?_eq_getElem (by omega)]
          congr 2; omega
        · rw [if_neg hb, hj j hjl]
          by_cases hc : j < i ∨ o.length - i ≤ j
          · rw [if_pos hc, if_pos (by omega)]
          · rw [if_neg hc, if_neg (by omega)]
theorem turn_eq (k : Nat) (o : List Int) (hn : o.length ≤ 140737488351232) (hk : o.length ≤ k) : varint_turned_o0 k o = some o.reverse := by
  have h := turn_loop k o hn o.length 0 (k + 1) o (by omega) (by omega) (by omega) rfl (fun j hj => by rw [if_neg (by omega)])
  simp only [Int.natCast_zero, Int.sub_zero] at h
  unfold varint_turned_o0
  rw [w64 (by omega) (by omega)]
  exact h

section
variable {ρ : Type} (k : Nat)
theorem put_l6 (kexit : List Int → Option ρ) : ∀ (f n : Nat) (x : Int) (acc : List Int), f < n → 0 ≤ x → f ≤ 8 → acc.length + f ≤ 20 → varint_Put_l6 k kexit n x acc ((8 - f : Nat) : Int) = kexit (acc ++ (grp f x).reverse)
  | 0, n + 1, x, acc, hn, h0, hf, hl => by
    simp only [varint_Put_l6, varint_Put_l6_b]
    rw [decide_eq_false (by omega), cond_false]; simp [grp]
  | f + 1, n + 1, x, acc, hn, h0, hf, hl => by
    simp only [varint_Put_l6, varint_Put_l6_b]
    rw [decide_eq_true (by omega), cond_true, or8r, chk_pos (by simp; omega), fd7]
    have e : IntKind.i64.wrap (((8 - (f + 1) : Nat) : Int) + 1) = ((8 - f : Nat) : Int) := by rw [w64 (by omega) (by omega)]; omega
    rw [e, put_l6 kexit f n (x / 128) (acc ++ [x % 128 + 128]) (by omega) (by omega) (by omega) (by simp; omega)]
    simp [grp]
theorem put_g0 (hk : 40 ≤ k) : ∀ (f n : Nat) (x : Int) (acc : List Int), f < n → 0 < x → x < 128 ^ f → acc.length + f ≤ 20 → varint_Put_g0 k some n x acc 128 = some (hi f x ++ acc.reverse)
  | 0, n + 1, x, acc, hn, h0, h1, _ => by simp at h1; omega
  | f + 1, n + 1, x, acc, hn, h0, h1, hl => by
    simp only [varint_Put_g0, varint_Put_g0_b, varint_Put_j11]
    rw [IntKind.wrap_u8 x, and8r _ (by omega) (by omega), show x % 256 % 128 = x % 128 by omega, or8r1 _ (by omega) (by omega), chk_pos (by simp; omega), fd7]
    rw [Int.pow_succ] at h1
    have hx : ¬ x = 0 := by omega
    by_cases h : x / 128 > 0
    · rw [decide_eq_true h, cond_true, put_g0 hk f n (x / 128) (acc ++ [x % 128 + 128]) (by omega) h (by omega) (by simp; omega)]
      simp [hi, hx]
    · rw [decide_eq_false h, cond_false, turn_eq k _ (by simp; omega) (by simp; omega), some_bind]
      have hz : x / 128 = 0 := by omega
      have : hi f 0 = [] := by cases f <;> simp [hi]
      simp [hi, hx, hz, this]
theorem put_eq (hk : 40 ≤ k) (n : Int) (h0 : 0 ≤ n) (h1 : n < 18446744073709551616) : varint_Put k n = some (put n) := by
  unfold varint_Put put
  rw [bigd, fd8]
  by_cases h : 72057594037927936 ≤ n
  · rw [decide_eq_true (show n ≥ 72057594037927936 from h), cond_true, if_pos h, chk_pos (by simp)]
    have := put_l6 k (fun b2 => (varint_turned_o0 k b2).bind fun r => some r) 8 k (n / 256) ([] ++ [IntKind.u8.wrap n]) (by omega) (by omega) (by omega) (by simp)
    rw [show ((8 - 8 : Nat) : Int) = 0 from rfl] at this
    rw [this, turn_eq k _ (by simp [grp_length]) (by simp [grp_length]; omega), some_bind, IntKind.wrap_u8]
    simp
  · rw [decide_eq_false (show ¬ n ≥ 72057594037927936 from h), cond_false, if_neg h]
    simp only [varint_Put_j11]
    rw [IntKind.wrap_u8 n, and8r _ (by omega) (by omega), show n % 256 % 128 = n % 128 by omega, or8r0 _ (by omega) (by omega), chk_pos (by simp), fd7]
    have h9 : (128 : Int) ^ 9 = 9223372036854775808 := by decide
    by_cases hp : n / 128 > 0
    · rw [decide_eq_true hp, cond_true]
      have := put_g0 k hk 9 k (n / 128) ([] ++ [n % 128]) (by omega) hp (by rw [h9]; omega) (by simp)
      exact this.trans (by simp)
    · rw [decide_eq_false hp, cond_false, turn_eq k _ (by simp) (by simp; omega), some_bind]
      have hz : n / 128 = 0 := by omega
      simp [hz, hi]

end
end Go.Proofs.Ytekjibpkkgldgaa.B
