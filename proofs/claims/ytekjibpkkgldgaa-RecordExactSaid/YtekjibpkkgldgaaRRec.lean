/-
  Layer 6: a record's types, bodies, bytes: what the printed functions come to.
-/
import Derived.Test.YtekjibpkkgldgaaRVal
import Derived.Test.YtekjibpkkgldgaaRVp
namespace Go.Proofs.Ytekjibpkkgldgaa.R
open Go Go.AX

/-- A value's type. -/
def kindv (v : S44) : Int :=
  if v.f0 = 0 then 0 else if v.f0 = 3 then 12 + 2 * (v.f2.size : Int) else if v.f0 = 2 then 13 + 2 * (v.f2.size : Int) else if v.f1 = 0 then 5 else if v.f1 = 1 then 6 else
  if -128 ≤ v.f1 ∧ v.f1 < 128 then 1 else if -32768 ≤ v.f1 ∧ v.f1 < 32768 then 2 else if -2147483648 ≤ v.f1 ∧ v.f1 < 2147483648 then 3 else 4
theorem wrap_i8 (n : Int) : IntKind.i8.wrap n = (n + 128) % 256 - 128 := by simp [IntKind.wrap, IntKind.bits, IntKind.signed]; omega
theorem wrap_i16 (n : Int) : IntKind.i16.wrap n = (n + 32768) % 65536 - 32768 := by simp [IntKind.wrap, IntKind.bits, IntKind.signed]; omega
theorem kind_eq (k : Nat) (v : S44) (hs : v.f2.size ≤ 140737488351232) (h1 : -9223372036854775808 ≤ v.f1) (h2 : v.f1 < 9223372036854775808) : record_kind k v = some (kindv v) := by
  unfold record_kind kindv
  have e1 : IntKind.u64.wrap (12 + (IntKind.u64.wrap (2 * (IntKind.u64.wrap (v.f2.size : Int))))) = 12 + 2 * (v.f2.size : Int) := by simp only [wrap_u64]; omega
  have e2 : IntKind.u64.wrap (13 + (IntKind.u64.wrap (2 * (IntKind.u64.wrap (v.f2.size : Int))))) = 13 + 2 * (v.f2.size : Int) := by simp only [wrap_u64]; omega
  simp only [e1, e2, bif_ite, beq_iff_eq, IntKind.wrap_i64, wrap_i8, wrap_i16, IntKind.wrap_i32]
  by_cases a0 : v.f0 = 0
  · simp [a0]
  by_cases a3 : v.f0 = 3
  · simp [a3]
  by_cases a2 : v.f0 = 2
  · simp [a2]
  rw [if_neg a0, if_neg a3, if_neg a2, if_neg a0, if_neg a3, if_neg a2]
  by_cases b0 : v.f1 = 0
  · simp [b0]
  by_cases b1 : v.f1 = 1
  · simp [b1]
  rw [if_neg b0, if_neg b1, if_neg b0, if_neg b1]
  by_cases c1 : -128 ≤ v.f1 ∧ v.f1 < 128
  · rw [if_pos (by omega), if_pos c1]
  rw [if_neg (by omega), if_neg c1]
  by_cases c2 : -32768 ≤ v.f1 ∧ v.f1 < 32768
  · rw [if_pos (by omega), if_pos c2]
  rw [if_neg (by omega), if_neg c2]
  by_cases c3 : -2147483648 ≤ v.f1 ∧ v.f1 < 2147483648
  · rw [if_pos (by omega), if_pos c3]
  · rw [if_neg (by omega), if_neg c3]
theorem holds1 (k : Nat) (n : Int) : cadastreref6_holds k n 1 = some (decide (-128 ≤ n) && decide (n < 128)) := by
  unfold cadastreref6_holds
  rw [show ((1 : Int) == 8) = false from rfl, cond_false, if_neg (by decide), show IntKind.i64.wrap ((-1) * 2 ^ (min (IntKind.i64.wrap ((IntKind.i64.wrap (8 * 1)) - 1)).toNat (IntKind.i64).bits)) = -128 by decide,
    show IntKind.i64.wrap ((1 : Int) * 2 ^ (min (IntKind.i64.wrap ((IntKind.i64.wrap (8 * 1)) - 1)).toNat (IntKind.i64).bits)) = 128 by decide, if_neg (by decide)]
  show (bif decide (-128 ≤ n) then some (decide (n < 128)) else some false) = _
  cases decide (-128 ≤ n) <;> rfl
theorem holds2 (k : Nat) (n : Int) : cadastreref6_holds k n 2 = some (decide (-32768 ≤ n) && decide (n < 32768)) := by
  unfold cadastreref6_holds
  rw [show ((2 : Int) == 8) = false from rfl, cond_false, if_neg (by decide), show IntKind.i64.wrap ((-1) * 2 ^ (min (IntKind.i64.wrap ((IntKind.i64.wrap (8 * 2)) - 1)).toNat (IntKind.i64).bits)) = -32768 by decide,
    show IntKind.i64.wrap ((1 : Int) * 2 ^ (min (IntKind.i64.wrap ((IntKind.i64.wrap (8 * 2)) - 1)).toNat (IntKind.i64).bits)) = 32768 by decide, if_neg (by decide)]
  show (bif decide (-32768 ≤ n) then some (decide (n < 32768)) else some false) = _
  cases decide (-32768 ≤ n) <;> rfl
theorem holds4 (k : Nat) (n : Int) : cadastreref6_holds k n 4 = some (decide (-2147483648 ≤ n) && decide (n < 2147483648)) := by
  unfold cadastreref6_holds
  rw [show ((4 : Int) == 8) = false from rfl, cond_false, if_neg (by decide), show IntKind.i64.wrap ((-1) * 2 ^ (min (IntKind.i64.wrap ((IntKind.i64.wrap (8 * 4)) - 1)).toNat (IntKind.i64).bits)) = -2147483648 by decide,
    show IntKind.i64.wrap ((1 : Int) * 2 ^ (min (IntKind.i64.wrap ((IntKind.i64.wrap (8 * 4)) - 1)).toNat (IntKind.i64).bits)) = 2147483648 by decide, if_neg (by decide)]
  show (bif decide (-2147483648 ≤ n) then some (decide (n < 2147483648)) else some false) = _
  cases decide (-2147483648 ≤ n) <;> rfl
theorem kind_l13 (k q : Nat) (v : S44) : cadastreref6_kind_l13 k (fun t => some t) (some 4) (q + 1 + 1 + 1 + 1) 1 v =
    some (if -128 ≤ v.f1 ∧ v.f1 < 128 then 1 else if -32768 ≤ v.f1 ∧ v.f1 < 32768 then 2 else if -2147483648 ≤ v.f1 ∧ v.f1 < 2147483648 then 3 else 4) := by
  simp only [cadastreref6_kind_l13, cadastreref6_kind_l13_b]
  rw [show decide ((1 : Int) < 4) = true from rfl, cond_true, show cadastreref6_size k 1 = some 1 from rfl, some_bind, holds1, some_bind, show IntKind.u64.wrap (1 + 1) = 2 by decide, show decide ((2 : Int) < 4) = true from rfl, cond_true,
    show cadastreref6_size k 2 = some 2 from rfl, some_bind, holds2, some_bind, show IntKind.u64.wrap (2 + 1) = 3 by decide, show decide ((3 : Int) < 4) = true from rfl, cond_true, show cadastreref6_size k 3 = some 4 from rfl, some_bind, holds4, some_bind,
    show IntKind.u64.wrap (3 + 1) = 4 by decide, show decide ((4 : Int) < 4) = false from rfl, cond_false]
  by_cases c1 : -128 ≤ v.f1 ∧ v.f1 < 128
  · rw [if_pos c1, decide_eq_true c1.1, decide_eq_true c1.2]; rfl
  rw [if_neg c1, show (decide (-128 ≤ v.f1) && decide (v.f1 < 128)) = false by simp; omega, cond_false]
  by_cases c2 : -32768 ≤ v.f1 ∧ v.f1 < 32768
  · rw [if_pos c2, decide_eq_true c2.1, decide_eq_true c2.2]; rfl
  rw [if_neg c2, show (decide (-32768 ≤ v.f1) && decide (v.f1 < 32768)) = false by simp; omega, cond_false]
  by_cases c3 : -2147483648 ≤ v.f1 ∧ v.f1 < 2147483648
  · rw [if_pos c3, decide_eq_true c3.1, decide_eq_true c3.2]; rfl
  · rw [if_neg c3, show (decide (-2147483648 ≤ v.f1) && decide (v.f1 < 2147483648)) = false by simp; omega, cond_false]

theorem rkind_eq (k : Nat) (hk : 10 ≤ k) (v : S44) (hs : v.f2.size ≤ 140737488351232) : cadastreref6_kind k v = some (kindv v) := by
  unfold cadastreref6_kind kindv
  have e1 : IntKind.u64.wrap (IntKind.i64.wrap (12 + (IntKind.i64.wrap (2 * (v.f2.size : Int))))) = 12 + 2 * (v.f2.size : Int) := by simp only [wrap_u64, IntKind.wrap_i64]; omega
  have e2 : IntKind.u64.wrap (IntKind.i64.wrap (13 + (IntKind.i64.wrap (2 * (v.f2.size : Int))))) = 13 + 2 * (v.f2.size : Int) := by simp only [wrap_u64, IntKind.wrap_i64]; omega
  simp only [e1, e2, bif_ite, beq_iff_eq]
  by_cases a0 : v.f0 = 0
  · simp [a0]
  by_cases a3 : v.f0 = 3
  · simp [a3]
  by_cases a2 : v.f0 = 2
  · simp [a2]
  rw [if_neg a0, if_neg a2, if_neg a3, if_neg a0, if_neg a3, if_neg a2]
  by_cases b0 : v.f1 = 0
  · simp [b0]
  by_cases b1 : v.f1 = 1
  · simp [b1]
  rw [if_neg b0, if_neg b1, if_neg b0, if_neg b1]
  obtain ⟨q, hq⟩ : ∃ q, k = q + 1 + 1 + 1 + 1 := ⟨k - 4, by omega⟩
  have := kind_l13 k q v
  rw [← hq] at this
  exact this

/-- How many bytes an integer of a type has. -/
def wid (t : Int) : Nat := if t = 1 then 1 else if t = 2 then 2 else if t = 3 then 4 else if t = 4 then 8 else 0
theorem wid_le (t : Int) : wid t ≤ 8 := by unfold wid; repeat' split
                                           all_goals omega
theorem size_eq (k : Nat) (t : Int) : cadastreref6_size k t = some (wid t : Int) := by
  unfold cadastreref6_size wid
  simp only [bif_ite, beq_iff_eq]
  repeat' split
  all_goals rfl
/-- An integer's bytes, the highest first. -/
def bl : Nat → Int → List Int
  | 0, _ => []
  | m + 1, x => IntKind.u8.wrap (Int.fdiv x (2 ^ (min (8 * (m : Int)).toNat 64))) :: bl m x
theorem bl_length : ∀ (m : Nat) (x : Int), (bl m x).length = m
  | 0, _ => rfl
  | m + 1, x => by simp [bl, bl_length m x]
def bodyv (v : S44) : List Int := if v.f0 = 1 then bl (wid (kindv v)) v.f1 else bytesOf v.f2
theorem bytesOf_length (s : ByteArray) : (bytesOf s).length = s.size := by unfold bytesOf; rw [List.length_map]; rfl
theorem good_says {v : S44} (h : good v = true) : (v.f0 = 0 ∧ v.f1 = 0 ∧ v.f2.size = 0) ∨ (v.f0 = 1 ∧ v.f2.size = 0) ∨ ((v.f0 = 2 ∨ v.f0 = 3) ∧ v.f1 = 0 ∧ v.f2.size ≤ 4096) := by
  unfold good at h
  split at h
  · simp only [Bool.and_eq_true, decide_eq_true_eq] at h; exact .inl ⟨by assumption, h.1, h.2⟩
  · split at h
    · simp only [decide_eq_true_eq] at h; exact .inr (.inl ⟨by assumption, h⟩)
    · split at h
      · simp only [Bool.and_eq_true, decide_eq_true_eq] at h; exact .inr (.inr ⟨by assumption, h.1, h.2⟩)
      · cases h
theorem body_length {v : S44} (h : good v = true) : (bodyv v).length ≤ 4096 := by
  unfold bodyv
  by_cases a1 : v.f0 = 1
  · rw [if_pos a1, bl_length]; have := wid_le (kindv v); omega
  · rw [if_neg a1, bytesOf_length]
    rcases good_says h with ⟨_, _, e⟩ | ⟨_, e⟩ | ⟨_, _, e⟩ <;> omega
section
variable {ρ : Type} (k : Nat)
theorem put_l7 (kexit : List Int → Option ρ) (v : S44) : ∀ (m n : Nat) (b : List Int), m < n → m ≤ 8 → b.length + m ≤ 140737488000000 → record_put_o0_l7 k kexit n b ((m : Int) - 1) v = kexit (b ++ bl m v.f1)
  | 0, n + 1, b, hn, _, hb => by
    simp only [record_put_o0_l7, record_put_o0_l7_b]
    rw [decide_eq_false (by omega), cond_false]; simp [bl]
  | m + 1, n + 1, b, hn, hm, hb => by
    simp only [record_put_o0_l7, record_put_o0_l7_b]
    have e : ((m + 1 : Nat) : Int) - 1 = (m : Int) := by omega
    have e2 : IntKind.i64.wrap (8 * (m : Int)) = 8 * (m : Int) := w64 (by omega) (by omega)
    rw [e, decide_eq_true (by omega), cond_true, e2, if_neg (by omega), chk_pos (by simp; omega), w64 (by omega) (by omega), put_l7 kexit v m n _ (by omega) (by omega) (by simp; omega)]
    simp only [bl, List.append_assoc, List.singleton_append]
    rfl
theorem body_l5 (kexit : List Int → Option ρ) (v : S44) : ∀ (m n : Nat) (b : List Int), m < n → m ≤ 8 → b.length + m ≤ 140737488000000 → cadastreref6_body_l5 k kexit n b ((m : Int) - 1) v = kexit (b ++ bl m v.f1)
  | 0, n + 1, b, hn, _, hb => by
    simp only [cadastreref6_body_l5, cadastreref6_body_l5_b]
    rw [decide_eq_false (by omega), cond_false]; simp [bl]
  | m + 1, n + 1, b, hn, hm, hb => by
    simp only [cadastreref6_body_l5, cadastreref6_body_l5_b]
    have e : ((m + 1 : Nat) : Int) - 1 = (m : Int) := by omega
    have e2 : IntKind.i64.wrap (8 * (m : Int)) = 8 * (m : Int) := w64 (by omega) (by omega)
    rw [e, decide_eq_true (by omega), cond_true, e2, if_neg (by omega), chk_pos (by simp; omega), w64 (by omega) (by omega), body_l5 kexit v m n _ (by omega) (by omega) (by simp; omega)]
    simp only [bl, List.append_assoc, List.singleton_append]
    rfl
end
theorem rbody_eq (k : Nat) (hk : 20 ≤ k) (v : S44) (hs : v.f2.size ≤ 140737488351232) : cadastreref6_body k v = some (bodyv v) := by
  unfold cadastreref6_body bodyv
  by_cases a1 : v.f0 = 1
  · rw [show (v.f0 != 1) = false by simp [a1], cond_false, rkind_eq k (by omega) v hs, some_bind, size_eq, some_bind, if_pos a1]
    have := wid_le (kindv v)
    rw [w64 (by omega) (by omega)]
    have := body_l5 k (some : List Int → Option (List Int)) v (wid (kindv v)) k [] (by omega) (by omega) (by simp; omega)
    simpa using this
  · rw [show (v.f0 != 1) = true by simp [a1], cond_true, if_neg a1]
theorem kindv_cases {v : S44} (h : good v = true) : (v.f0 = 1 ∧ 1 ≤ kindv v ∧ kindv v ≤ 6) ∨ (v.f0 = 0 ∧ kindv v = 0 ∧ v.f2.size = 0) ∨ ((v.f0 = 2 ∨ v.f0 = 3) ∧ 12 ≤ kindv v ∧ kindv v ≤ 8205) := by
  unfold good at h
  unfold kindv
  by_cases a0 : v.f0 = 0
  · simp [a0] at h ⊢; exact h.2
  by_cases a1 : v.f0 = 1
  · left
    refine ⟨a1, ?_⟩
    rw [if_neg a0, if_neg (by omega), if_neg (by omega)]
    repeat' split
    all_goals omega
  by_cases a2 : v.f0 = 2 ∨ v.f0 = 3
  · rw [if_neg a0, if_neg a1, if_pos a2] at h
    simp at h
    right; right
    refine ⟨a2, ?_⟩
    rw [if_neg a0]
    rcases a2 with a | a
    · rw [if_neg (by omega), if_pos a]; omega
    · rw [if_pos a]; omega
  · rw [if_neg a0, if_neg a1, if_neg a2] at h; cases h
theorem rput_rec (k : Nat) (hk : 20 ≤ k) (b : List Int) (hb : b.length ≤ 140737400000000) (v : S44) (hg : good v = true) (h1 : -9223372036854775808 ≤ v.f1) (h2 : v.f1 < 9223372036854775808) : record_put_o0 k b v = some (b ++ bodyv v) := by
  have hbl := body_length hg
  have hs : v.f2.size ≤ 140737488351232 := by rcases good_says hg with ⟨_, _, e⟩ | ⟨_, e⟩ | ⟨_, _, e⟩ <;> omega
  unfold record_put_o0
  rw [kind_eq k v hs h1 h2, some_bind]
  rcases kindv_cases hg with ⟨a1, c1, c2⟩ | ⟨a0, c0, c3⟩ | ⟨a23, c1, c2⟩
  · rw [decide_eq_false (by omega), cond_false, decide_eq_false (by omega), cond_false]
    have hbody : bodyv v = bl (wid (kindv v)) v.f1 := by unfold bodyv; rw [if_pos a1]
    by_cases c4 : kindv v > 4
    · rw [decide_eq_true c4, cond_true, hbody, show wid (kindv v) = 0 by unfold wid; repeat' split
                                                                         all_goals omega]
      simp [bl]
    · rw [decide_eq_false c4, cond_false]
      unfold record_put_o0_j6
      rw [show record_widths k = some [0, 1, 2, 4, 8] from rfl, some_bind, chk_pos (by omega)]
      have hw : ([0, 1, 2, 4, 8] : List Int).getD (kindv v).toNat 0 = (wid (kindv v) : Int) := by
        have : kindv v = 1 ∨ kindv v = 2 ∨ kindv v = 3 ∨ kindv v = 4 := by omega
        rcases this with e | e | e | e <;> rw [e] <;> rfl
      have := wid_le (kindv v)
      rw [hw, w64 (by omega) (by omega), hbody]
      exact put_l7 k (some : List Int → Option (List Int)) v (wid (kindv v)) k b (by omega) (by omega) (by omega)
  · rw [decide_eq_false (by omega), cond_false, decide_eq_true (by omega), cond_true]
    have : bodyv v = [] := by
      unfold bodyv; rw [if_neg (by omega)]
      exact List.eq_nil_of_length_eq_zero (by rw [bytesOf_length]; exact c3)
    rw [this, List.append_nil]
  · have hbody : bodyv v = bytesOf v.f2 := by unfold bodyv; rw [if_neg (by omega)]
    rw [hbody] at hbl
    rw [decide_eq_true (by omega), cond_true, chk_pos (by omega), hbody]
end Go.Proofs.Ytekjibpkkgldgaa.R
