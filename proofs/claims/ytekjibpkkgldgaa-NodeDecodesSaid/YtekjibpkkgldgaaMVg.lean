/-
  The reading of a number, by the program and by the page.
-/
import Derived.Test.YtekjibpkkgldgaaMVp
namespace Go.Proofs.Ytekjibpkkgldgaa.M
open Go Go.AX

theorem join7r {x y : Int} (hx : 0 ≤ x) (hx1 : x < 562949953421312) (hy : 0 ≤ y) (hy1 : y < 128) :
    IntKind.u64.wrap ((BitVec.ofInt (IntKind.u64).bits (IntKind.u64.wrap (x * 2 ^ (min (7 : Int).toNat (IntKind.u64).bits))) ||| BitVec.ofInt (IntKind.u64).bits (IntKind.u64.wrap y)).toNat : Int) = x * 128 + y := join7 hx hx1 hy hy1
theorem join8r {x y : Int} (hx : 0 ≤ x) (hx1 : x < 72057594037927936) (hy : 0 ≤ y) (hy1 : y < 256) :
    IntKind.u64.wrap ((BitVec.ofInt (IntKind.u64).bits (IntKind.u64.wrap (x * 2 ^ (min (8 : Int).toNat (IntKind.u64).bits))) ||| BitVec.ofInt (IntKind.u64).bits (IntKind.u64.wrap y)).toNat : Int) = x * 256 + y := join8 hx hx1 hy hy1

theorem get_loop (k : Nat) {l : List Int} (hl : IsB l) (hn : l.length ≤ 9223372036854000000) : ∀ (f i n : Nat), f ≤ n → i + f = 9 → 1 ≤ f → i ≤ l.length → varint_Get_g0 k (fun a b c => some (a, b, c)) n l (V l i) i = some (gs l f i)
  | 0, i, n, _, _, h, _ => by omega
  | f + 1, i, 0, h, _, _, _ => by omega
  | f + 1, i, n + 1, hfn, hf, _, hi_ => by
    have hr := V_small l i (by omega)
    have hd := rd_byte hl (i : Int)
    have hrd : l.getD (i : Int).toNat 0 = rd l i := rfl
    simp only [varint_Get_g0, varint_Get_g0_b, varint_Get_j1]
    rw [hrd]
    by_cases h1 : i = l.length
    · rw [show ((i : Int) == (l.length : Int)) = true by simp [h1], cond_true]
      simp only [gs, if_pos h1]
    rw [show ((i : Int) == (l.length : Int)) = false by simp; omega, cond_false, chk_pos (by omega)]
    have e1 : IntKind.i64.wrap ((i : Int) + 1) = ((i + 1 : Nat) : Int) := by rw [w64 (by omega) (by omega)]; omega
    rw [e1]
    by_cases h8 : i = 8
    · subst h8
      rw [join8r hr.1 hr.2 hd.1 hd.2, show (((8 + 1 : Nat) : Int) == 9) = true from rfl, cond_true, bigd]
      by_cases h9 : V l 8 * 256 + rd l ((8 : Nat) : Int) < 72057594037927936
      · rw [decide_eq_true h9, cond_true]; simp only [gs]; rw [if_neg h1, if_pos trivial, if_pos (by simpa using h9)]
      · rw [decide_eq_false h9, cond_false]; simp only [gs]; rw [if_neg h1, if_pos trivial, if_neg (by simpa using h9)]; rfl
    rw [show (((i + 1 : Nat) : Int) == 9) = false by simp; omega, cond_false]
    have hr7 : V l i < 562949953421312 := by
      have := V_range l i
      have h2 : (128 : Int) ^ i ≤ 128 ^ 7 := by
        have : (128 : Nat) ^ i ≤ 128 ^ 7 := Nat.pow_le_pow_right (by decide) (by omega)
        exact_mod_cast this
      have h3 : (128 : Int) ^ 7 = 562949953421312 := by decide
      omega
    rw [and8r _ hd.1 hd.2, join7r hr.1 hr7 (by omega) (by omega)]
    have ev : V l i * 128 + rd l i % 128 = V l (i + 1) := rfl
    rw [ev]
    by_cases hb : 128 ≤ rd l i
    · rw [decide_eq_true (show rd l i ≥ 128 from hb), cond_true, get_loop k hl hn f (i + 1) n (by omega) (by omega) (by omega) (by omega)]
      simp only [gs]; rw [if_neg h1, if_neg h8, if_pos hb]
    rw [decide_eq_false (show ¬ rd l i ≥ 128 from hb), cond_false]
    by_cases hz : 1 ≤ i
    · have e2 : IntKind.i64.wrap (((i + 1 : Nat) : Int) - 1) = (i : Int) := by rw [w64 (by omega) (by omega)]; omega
      have e3 : IntKind.i64.wrap (7 * (i : Int)) = ((7 * i : Nat) : Int) := by rw [w64 (by omega) (by omega)]; omega
      rw [decide_eq_true (show ((i + 1 : Nat) : Int) > 1 by omega), cond_true, e2, e3, shl7 i (by omega)]
      rw [if_neg (show ¬ ((7 * i : Nat) : Int) < 0 by omega)]
      by_cases hm : V l (i + 1) < 128 ^ i
      · simp only [gs]; rw [decide_eq_true hm, cond_true, if_neg h1, if_neg h8, if_neg hb, if_pos ⟨hz, hm⟩]
      · simp only [gs]; rw [decide_eq_false hm, cond_false, if_neg h1, if_neg h8, if_neg hb, if_neg (fun h => hm h.2)]; simp
    · rw [decide_eq_false (show ¬ ((i + 1 : Nat) : Int) > 1 by omega), cond_false]
      simp only [gs]; rw [if_neg h1, if_neg h8, if_neg hb, if_neg (fun h => hz h.1)]; simp
theorem get_eq (k : Nat) (hk : 9 ≤ k) {l : List Int} (hl : IsB l) (hn : l.length ≤ 9223372036854000000) : varint_Get k l = some (gs l 9 0) :=
  get_loop k hl hn 9 0 (k + 1) (by omega) rfl (by omega) (by omega)

theorem same_l4 {ρ : Type} (k : Nat) (kret : Bool → Option ρ) (kexit : Option ρ) {a b : List Int} (hab : a.length = b.length) (hn : a.length ≤ 9223372036854775807) : ∀ (d i n : Nat), i + d = a.length → d < n → cadastreref1_same_l4 k kret kexit n a b i = if a.drop i = b.drop i then kexit else kret false
  | 0, i, n + 1, hi, _ => by
    simp only [cadastreref1_same_l4, cadastreref1_same_l4_b]
    rw [decide_eq_false (by omega), cond_false, List.drop_eq_nil_of_le (by omega), List.drop_eq_nil_of_le (by omega), if_pos rfl]
  | d + 1, i, n + 1, hi, hlt => by
    have h1 : i < a.length := by omega
    have h2 : i < b.length := by omega
    simp only [cadastreref1_same_l4, cadastreref1_same_l4_b]
    rw [decide_eq_true (by omega), cond_true, chk_pos (by omega), chk_pos (by omega), Int.toNat_natCast, getD_get a i 0 h1, getD_get b i 0 h2, w64n (by omega), List.drop_eq_getElem_cons h1, List.drop_eq_getElem_cons h2]
    by_cases h : a[i] = b[i]
    · rw [show (a[i] != b[i]) = false by simp [h], cond_false, same_l4 k kret kexit hab hn d (i + 1) n (by omega) (by omega)]
      simp only [h, List.cons.injEq, true_and]
    · rw [show (a[i] != b[i]) = true by simp [h], cond_true, if_neg (fun e => h (List.cons.inj e).1)]
theorem same_eq (k : Nat) (a b : List Int) (hn : a.length ≤ 9223372036854775807) (hk : a.length < k) : cadastreref1_same k a b = some (decide (a = b)) := by
  unfold cadastreref1_same
  by_cases h : a.length = b.length
  · rw [show ((a.length : Int) != (b.length : Int)) = false by simp [h], cond_false]
    have := same_l4 k (some : Bool → Option Bool) (some true) h hn a.length 0 k (by omega) hk
    simp only [List.drop_zero] at this
    refine Eq.trans this ?_
    by_cases e : a = b <;> simp [e]
  · rw [show ((a.length : Int) != (b.length : Int)) = true by simp; omega, cond_true]
    have : ¬ a = b := fun e => h (by rw [e])
    simp [this]
/-- The page's test: are the number's bytes those that were read? -/
theorem rget_j9 {ρ : Type} (k : Nat) (hk : 40 ≤ k) (kret : Int → Int → Option ρ) (l : List Int) (hn : l.length ≤ 140737488351232) (n : Int) (h0 : 0 ≤ n) (h1 : n < 18446744073709551616) (i : Nat) (hi : i < l.length) :
    cadastreref1_Get_j9 k kret l n i = if put n = l.take (i + 1) then kret n ((i + 1 : Nat) : Int) else kret 0 0 := by
  have hp := put_length n
  unfold cadastreref1_Get_j9
  rw [rput_eq k hk n h0 h1, some_bind, w64n (by omega), chk_pos (by omega), show ((0 : Int).toNat) = 0 from rfl, List.drop_zero, Nat.sub_zero, Int.toNat_natCast, same_eq k _ _ (by omega) (by omega), some_bind]
  by_cases h : put n = l.take (i + 1)
  · rw [decide_eq_true h, cond_true, if_pos h]
  · rw [decide_eq_false h, cond_false, if_neg h]
theorem rget_loop (k : Nat) (hk : 40 ≤ k) {l : List Int} (hl : IsB l) (hn : l.length ≤ 140737488351232) : ∀ (f i n : Nat), f < n → i + f = 9 → (∀ j : Nat, j < i → 128 ≤ rd l j) → i ≤ l.length → i < 9 → cadastreref1_Get_l3 k (fun a b => some (a, b)) (some (0, 0)) n l (V l i) i = some (two (gs l f i))
  | 0, i, n, _, h, _, _, h9 => by omega
  | f + 1, i, 0, h, _, _, _, _ => by omega
  | f + 1, i, n + 1, hfn, hf, hb, hi_, h9 => by
    have hr := V_small l i (by omega)
    have hd := rd_byte hl (i : Int)
    have hrd : l.getD (i : Int).toNat 0 = rd l i := rfl
    simp only [cadastreref1_Get_l3, cadastreref1_Get_l3_b]
    by_cases h1 : i = l.length
    · rw [decide_eq_false (by omega), cond_false]; simp only [gs, if_pos h1, two]
    rw [decide_eq_true (by omega), cond_true, decide_eq_true (by omega), cond_true]
    unfold cadastreref1_Get_j5
    rw [hrd]
    have e1 : IntKind.i64.wrap ((i : Int) + 1) = ((i + 1 : Nat) : Int) := by rw [w64 (by omega) (by omega)]; omega
    by_cases h8 : i = 8
    · subst h8
      rw [show (((8 : Nat) : Int) == 8) = true from rfl, cond_true, chk_pos (by omega), join8r hr.1 hr.2 hd.1 hd.2]
      unfold cadastreref1_Get_j8
      rw [show (((8 : Nat) : Int) == 8) = true from rfl, cond_true]
      have hd' : 0 ≤ rd l ((8 : Nat) : Int) ∧ rd l ((8 : Nat) : Int) < 256 := hd
      rw [rget_j9 k hk _ l hn _ (by omega) (by omega) 8 (by omega)]
      have hp := put_nine l hl (by omega) hb
      by_cases h9' : V l 8 * 256 + rd l ((8 : Nat) : Int) < 72057594037927936
      · have hne : ¬ put (V l 8 * 256 + rd l ((8 : Nat) : Int)) = l.take 9 := fun h => hp.mp h h9'
        rw [if_neg hne]
        simp only [gs]; rw [if_neg h1, if_pos trivial, if_pos (by simpa using h9')]; rfl
      · have he : put (V l 8 * 256 + rd l ((8 : Nat) : Int)) = l.take 9 := hp.mpr h9'
        rw [if_pos he]
        simp only [gs]; rw [if_neg h1, if_pos trivial, if_neg (by simpa using h9')]; rfl
    rw [show ((i : Int) == 8) = false by simp; omega, cond_false, chk_pos (by omega)]
    have hr7 : V l i < 562949953421312 := by
      have := V_range l i
      have h2 : (128 : Int) ^ i ≤ 128 ^ 7 := by
        have : (128 : Nat) ^ i ≤ 128 ^ 7 := Nat.pow_le_pow_right (by decide) (by omega)
        exact_mod_cast this
      have h3 : (128 : Int) ^ 7 = 562949953421312 := by decide
      omega
    rw [tmod_nn hd.1, join7r hr.1 hr7 (by omega) (by omega)]
    have ev : V l i * 128 + rd l i % 128 = V l (i + 1) := rfl
    rw [ev]
    unfold cadastreref1_Get_j8
    rw [show ((i : Int) == 8) = false by simp; omega, cond_false, chk_pos (by omega), hrd]
    by_cases hb' : 128 ≤ rd l i
    · rw [decide_eq_false (by omega), cond_false]
      show cadastreref1_Get_l3 k (fun a b => some (a, b)) (some (0, 0)) n l (V l (i + 1)) (IntKind.i64.wrap ((i : Int) + 1)) = _
      rw [e1, rget_loop k hk hl hn f (i + 1) n (by omega) (by omega) (fun j hj => by
        by_cases hji : j = i
        · rw [hji]; exact hb'
        · exact hb j (by omega)) (by omega) (by omega)]
      simp only [gs]; rw [if_neg h1, if_neg h8, if_pos hb']
    have hs := V_small l (i + 1) (by omega)
    rw [decide_eq_true (by omega), cond_true, rget_j9 k hk _ l hn _ (by omega) (by omega) i (by omega)]
    have hp := put_short l hl i (by omega) (by omega) hb (by omega)
    by_cases hm : 1 ≤ i ∧ V l (i + 1) < 128 ^ i
    · have hne : ¬ put (V l (i + 1)) = l.take (i + 1) := fun h => hp.mp h hm
      rw [if_neg hne]
      simp only [gs]; rw [if_neg h1, if_neg h8, if_neg hb', if_pos hm]; rfl
    · have he : put (V l (i + 1)) = l.take (i + 1) := hp.mpr hm
      rw [if_pos he]
      simp only [gs]; rw [if_neg h1, if_neg h8, if_neg hb', if_neg hm]; simp [two]
theorem rget_eq (k : Nat) (hk : 40 ≤ k) {l : List Int} (hl : IsB l) (hn : l.length ≤ 140737488351232) : cadastreref1_Get k l = some (two (gs l 9 0)) :=
  rget_loop k hk hl hn 9 0 k (by omega) rfl (fun j hj => by omega) (by omega) (by omega)
end Go.Proofs.Ytekjibpkkgldgaa.M
