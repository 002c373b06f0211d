/-
  The reading of a number, by the program and by the page.
-/
import Derived.Test.YtekjibpkkgldgaaBVp
namespace Go.Proofs.Ytekjibpkkgldgaa.B
open Go Go.AX

theorem join7r {x y : Int} (hx : 0 ≤ x) (hx1 : x < 562949953421312) (hy : 0 ≤ y) (hy1 : y < 128) :
    IntKind.u64.wrap ((BitVec.ofInt (IntKind.u64).bits (IntKind.u64.wrap (x * 2 ^ (min (7 : Int).toNat (IntKind.u64).bits))) ||| BitVec.ofInt (IntKind.u64).bits (IntKind.u64.wrap y)).toNat : Int) = x * 128 + y := join7 hx hx1 hy hy1
theorem join8r {x y : Int} (hx : 0 ≤ x) (hx1 : x < 72057594037927936) (hy : 0 ≤ y) (hy1 : y < 256) :
    IntKind.u64.wrap ((BitVec.ofInt (IntKind.u64).bits (IntKind.u64.wrap (x * 2 ^ (min (8 : Int).toNat (IntKind.u64).bits))) ||| BitVec.ofInt (IntKind.u64).bits (IntKind.u64.wrap y)).toNat : Int) = x * 256 + y := join8 hx hx1 hy hy1

theorem get_loop (k : Nat) {l : List Int} (hl : IsB l) (hn : l.length ≤ 9223372036854000000) : ∀ (f i n : Nat), f ≤ n → i + f = 9 → 1 ≤ f → i ≤ l.length → varint_Get_g0 k (fun a b c => some (a, b, c)) n l (V l i) i = some (gs l f i)
  | 0, i, n, _, _, h, _ => by omega
  | f + 1, i, 0, h, _, _, _ => by omega
  | f + 1, i, n + 1, hfn, hf, _, hi_ => by
    have hr := V_small l i (by omega)
    have hd := rd_byte hl (i : Int)
    have hrd : l.getD (i : Int).toNat 0 = rd l i := rfl
    simp only [varint_Get_g0, varint_Get_g0_b, varint_Get_j1]
    rw [hrd]
    by_cases h1 : i = l.length
    · rw [show ((i : Int) == (l.length : Int)) = true by simp [h1], cond_true]
      simp only [gs, if_pos h1]
    rw [show ((i : Int) == (l.length : Int)) = false by simp; omega, cond_false, chk_pos (by omega)]
    have e1 : IntKind.i64.wrap ((i : Int) + 1) = ((i + 1 : Nat) : Int) := by rw [w64 (by omega) (by omega)]; omega
    rw [e1]
    by_cases h8 : i = 8
    · subst h8
      rw [join8r hr.1 hr.2 hd.1 hd.2, show (((8 + 1 : Nat) : Int) == 9) = true from rfl, cond_true, bigd]
      by_cases h9 : V l 8 * 256 + rd l ((8 : Nat) : Int) < 72057594037927936
      · rw [decide_eq_true h9, cond_true]; simp only [gs]; rw [if_neg h1, if_pos trivial, if_pos (by simpa using h9)]
      · rw [decide_eq_false h9, cond_false]; simp only [gs]; rw [if_neg h1, if_pos trivial, if_neg (by simpa using h9)]; rfl
    rw [show (((i + 1 : Nat) : Int) == 9) = false by simp; omega, cond_false]
    have hr7 : V l i < 562949953421312 := by
      have := V_range l i
      have h2 : (128 : Int) ^ i ≤ 128 ^ 7 := by
        have : (128 : Nat) ^ i ≤ 128 ^ 7 := Nat.pow_le_pow_right (by decide) (by omega)
        exact_mod_cast this
      have h3 : (128 : Int) ^ 7 = 562949953421312 := by decide
      omega
    rw [and8r _ hd.1 hd.2, join7r hr.1 hr7 (by omega) (by omega)]
    have ev : V l i * 128 + rd l i % 128 = V l (i + 1) := rfl
    rw [ev]
    by_cases hb : 128 ≤ rd l i
    · rw [decide_eq_true (show rd l i ≥ 128 from hb), cond_true, get_loop k hl hn f (i + 1) n (by omega) (by omega) (by omega) (by omega)]
      simp only [gs]; rw [if_neg h1, if_neg h8, if_pos hb]
    rw [decide_eq_false (show ¬ rd l i ≥ 128 from hb), cond_false]
    by_cases hz : 1 ≤ i
    · have e2 : IntKind.i64.wrap (((i + 1 : Nat) : Int) - 1) = (i : Int) := by rw [w64 (by omega) (by omega)]; omega
      have e3 : IntKind.i64.wrap (7 * (i : Int)) = ((7 * i : Nat) : Int) := by rw [w64 (by omega) (by omega)]; omega
      rw [decide_eq_true (show ((i + 1 : Nat) : Int) > 1 by omega), cond_true, e2, e3, shl7 i (by omega)]
      rw [if_neg (show ¬ ((7 * i : Nat) : Int) < 0 by omega)]
      by_cases hm : V l (i + 1) < 128 ^ i
      · simp only [gs]; rw [decide_eq_true hm, cond_true, if_neg h1, if_neg h8, if_neg hb, if_pos ⟨hz, hm⟩]
      · simp only [gs]; rw [decide_eq_false hm, cond_false, if_neg h1, if_neg h8, if_neg hb, if_neg (fun h => hm h.2)]; simp
    · rw [decide_eq_false (show ¬ ((i + 1 : Nat) : Int) > 1 by omega), cond_false]
      simp only [gs]; rw [if_neg h1, if_neg h8, if_neg hb, if_neg (fun h => hz h.1)]; simp
theorem get_eq (k : Nat) (hk : 9 ≤ k) {l : List Int} (hl : IsB l) (hn : l.length ≤ 9223372036854000000) : varint_Get k l = some (gs l 9 0) :=
  get_loop k hl hn 9 0 (k + 1) (by omega) rfl (by omega) (by omega)

end Go.Proofs.Ytekjibpkkgldgaa.B
