/-
  Layer 20: the reader's smallest steps as plain functions; what the printed functions come to. A word is a name if it is no key word.
-/
import Derived.Test.YtepekanlplbciaaQLx3
import Derived.Test.YtepekanlplbciaaAxTxt
namespace Go.Proofs.Ytepekanlplbciaa.Q
open Go Go.AX

/-! ### key words -/
noncomputable def keysB : List ByteArray := (parse_Keys 0).getD []
theorem keys_eq (k : Nat) : parse_Keys k = some keysB := rfl
theorem keys_len : keysB.length = 39 := rfl
noncomputable def isName (s : ByteArray) : Bool := !(keysB.any fun w => w == s)
theorem less_eq (k : Nat) (a b : ByteArray) : cmp_Less_string_ k a b = some (Go.Op.bytesLess a.toList b.toList) := by
  unfold cmp_Less_string_ cmp_isNaN_string_
  simp only [some_bind, beq_self_eq_true, Bool.not_true, Bool.cond_false]
theorem half (i j : Nat) (h : i + j < 1000000) : IntKind.i64.wrap (Int.fdiv (IntKind.u64.wrap (IntKind.i64.wrap ((i : Int) + (j : Int)))) (2 ^ (min (1 : Int).toNat (IntKind.u64).bits))) = (((i + j) / 2 : Nat) : Int) := by
  have wu : ∀ y : Int, IntKind.u64.wrap y = y % 18446744073709551616 := fun y => by simp [IntKind.wrap, IntKind.bits, IntKind.signed]
  have e : ((2 : Int) ^ (min (1 : Int).toNat (IntKind.u64).bits)) = 2 := rfl
  have h1 : IntKind.i64.wrap ((i : Int) + (j : Int)) = (i : Int) + (j : Int) := w64 (by omega) (by omega)
  rw [h1, wu, e, Int.emod_eq_of_lt (by omega) (by omega), Int.fdiv_eq_ediv_of_nonneg _ (by omega), w64 (by omega) (by omega)]
  omega
theorem bs_loop {ρ : Type} (k : Nat) (kx : List ByteArray → ByteArray → Int → Int → Option ρ) (x : List ByteArray) (t : ByteArray) (c : Int) (hx : x.length < 1000) : ∀ (d n i j : Nat), j - i ≤ d → d < n → i ≤ j → j ≤ x.length →
    (0 < i → Go.Op.bytesLess (x.getD (i - 1) ByteArray.empty).toList t.toList = true) → (j < x.length → Go.Op.bytesLess (x.getD j ByteArray.empty).toList t.toList = false) →
    ∃ i' : Nat, slices_BinarySearch_string_string__l3 k kx n x t c (i : Int) (j : Int) = kx x t c (i' : Int) ∧ i' ≤ x.length ∧ (0 < i' → Go.Op.bytesLess (x.getD (i' - 1) ByteArray.empty).toList t.toList = true) ∧
      (i' < x.length → Go.Op.bytesLess (x.getD i' ByteArray.empty).toList t.toList = false)
  | d, n + 1, i, j, hd, hn, hij, hj, h1, h2 => by
    simp only [slices_BinarySearch_string_string__l3, slices_BinarySearch_string_string__l3_b]
    by_cases hlt : i < j
    · rw [decide_eq_true (by omega), cond_true, half i j (by omega), chk_pos (by omega), Int.toNat_natCast, less_eq, some_bind]
      obtain ⟨d, rfl⟩ : ∃ d', d = d' + 1 := ⟨d - 1, by omega⟩
      cases hl : Go.Op.bytesLess (x.getD ((i + j) / 2) ByteArray.empty).toList t.toList with
      | true =>
        rw [cond_true, w64n (by omega)]
        exact bs_loop k kx x t c hx d n _ j (by omega) (by omega) (by omega) hj (fun _ => by rw [Nat.add_sub_cancel]; exact hl) h2
      | false =>
        rw [cond_false]
        exact bs_loop k kx x t c hx d n i _ (by omega) (by omega) (by omega) (by omega) h1 fun _ => hl
    · rw [decide_eq_false (by omega), cond_false]
      obtain rfl : i = j := by omega
      exact ⟨i, rfl, hj, h1, h2⟩
theorem keys_up : ∀ a : Fin 39, ∀ b : Fin 39, a < b → Go.Op.bytesLess (keysB.getD a.val ByteArray.empty).toList (keysB.getD b.val ByteArray.empty).toList = true := by
  have h : ((List.range 39).all fun a => (List.range 39).all fun b => !(decide (a < b)) || Go.Op.bytesLess (keysB.getD a ByteArray.empty).toList (keysB.getD b ByteArray.empty).toList) = true := by kernel_rfl
  intro a b hab
  have h1 := List.all_eq_true.1 (List.all_eq_true.1 h a.val (List.mem_range.2 a.isLt)) b.val (List.mem_range.2 b.isLt)
  have h2 : decide (a.val < b.val) = true := decide_eq_true hab
  simpa [h2] using h1
theorem less_irr (x : List UInt8) : Go.Op.bytesLess x x = false := by rw [less_tcmp, tcmp_refl]; rfl
theorem less_asy {x y : List UInt8} (h : Go.Op.bytesLess x y = true) : Go.Op.bytesLess y x = false := by
  rw [less_tcmp, decide_eq_true_eq] at h
  rw [less_tcmp, decide_eq_false_iff_not, tcmp_neg x y, h]
  decide
theorem name_is (k : Nat) (hk : 40 < k) (s : ByteArray) : parse_Name k s = some (isName s) := by
  unfold parse_Name slices_BinarySearch_string_string_
  rw [keys_eq, some_bind]
  obtain ⟨i, h1, h2, h3, h4⟩ := bs_loop k (fun x0_3 target1_4 n6_5 i7_6 =>
    bif (decide (i7_6 < n6_5)) then
    chk (0 ≤ i7_6 ∧ i7_6 < (x0_3.length : Int)) <|
    bif ((x0_3.getD i7_6.toNat ByteArray.empty).toList == target1_4.toList) then
    some (i7_6, true)
    else
    chk (0 ≤ i7_6 ∧ i7_6 < (x0_3.length : Int)) <|
    (slices_isNaN_string_ k (x0_3.getD i7_6.toNat ByteArray.empty)).bind fun r_7 =>
    bif r_7 then
    (slices_isNaN_string_ k target1_4).bind fun r_8 =>
    some (i7_6, r_8)
    else
    some (i7_6, false)
    else
    some (i7_6, false)) keysB s (keysB.length : Int) (by rw [keys_len]; omega) 39 k 0 39 (by omega) (by omega) (by omega) (by rw [keys_len]; omega) (fun h => by omega) (fun h => by rw [keys_len] at h; omega)
  rw [keys_len] at h2 h4
  have key : ∀ m, m < 39 → keysB.getD m ByteArray.empty = s → m = i := by
    intro m hm e
    rcases Nat.lt_trichotomy m i with h | h | h
    · have := h3 (by omega)
      rw [← e] at this
      rcases Nat.lt_or_ge m (i - 1) with h' | h'
      · rw [less_asy (keys_up ⟨m, hm⟩ ⟨i - 1, by omega⟩ h')] at this; cases this
      · obtain rfl : m = i - 1 := by omega
        rw [less_irr] at this; cases this
    · exact h
    · have := h4 (by omega)
      rw [← e, keys_up ⟨i, by omega⟩ ⟨m, hm⟩ h] at this
      cases this
  have hnm : isName s = !(decide (i < 39) && (keysB.getD i ByteArray.empty == s)) := by
    unfold isName
    congr 1
    rw [Bool.eq_iff_iff, List.any_eq_true, Bool.and_eq_true, decide_eq_true_eq]
    constructor
    · rintro ⟨w, hw, e⟩
      obtain ⟨m, hm, rfl⟩ := List.getElem_of_mem hw
      rw [keys_len] at hm
      rw [beq_iff_eq] at e
      have e' : keysB.getD m ByteArray.empty = s := by rw [getD_get _ m _ (by rw [keys_len]; exact hm)]; exact e
      obtain rfl := key m hm e'
      exact ⟨hm, by rw [beq_iff_eq]; exact e'⟩
    · rintro ⟨h, e⟩
      exact ⟨_, getD_mem (by rw [keys_len]; exact h), e⟩
  refine (congrArg (fun z => Option.bind z _) h1).trans ?_
  rw [keys_len, hnm]
  by_cases hi : i < 39
  · rw [decide_eq_true (p := ((i : Int) < ((39 : Nat) : Int))) (by omega), cond_true, chk_pos (by omega), Int.toNat_natCast, decide_eq_true hi, beq_bytes]
    cases he : (keysB.getD i ByteArray.empty == s) with
    | true => rfl
    | false =>
      rw [cond_false, chk_pos (by omega)]
      unfold slices_isNaN_string_
      rw [some_bind, beq_self_eq_true, Bool.not_true, cond_false]
      rfl
  · rw [decide_eq_false (p := ((i : Int) < ((39 : Nat) : Int))) (by omega), cond_false, decide_eq_false hi]
    rfl

/-! ### the smallest steps -/
/-- Whether a token is a key word or a mark. -/
noncomputable def isT (t : SToken) (s : ByteArray) : Bool := (t.f0 == 1 || t.f0 == 5) && t.f1 == s
noncomputable def hdL (l : List SToken) (s : ByteArray) : Bool := match l with | [] => false | t :: _ => isT t s
noncomputable def hd (r : Sreader) (s : ByteArray) : Bool := hdL r.f0 s
def tl (r : Sreader) : Sreader := ⟨r.f0.tail, r.f1, r.f2, r.f3, r.f4⟩
def badR (r : Sreader) : Sreader := ⟨r.f0, true, r.f2, r.f3, r.f4⟩
def mostR (n m : Int) (r : Sreader) : Sreader := ⟨r.f0, r.f1, decide (n > m) || r.f2, r.f3, r.f4⟩
def nodeR (r : Sreader) : Sreader := ⟨r.f0, r.f1, r.f2, IntKind.i64.wrap (r.f3 + 1), r.f4⟩
theorem take_tail {α : Type} (l : List α) : (l.drop (1 : Int).toNat).take ((l.length : Int).toNat - (1 : Int).toNat) = l.tail := by
  cases l with
  | nil => rfl
  | cons a l =>
    have e : (1 : Int).toNat = 1 := rfl
    rw [e, Int.toNat_natCast, List.drop_succ_cons, List.drop_zero, List.length_cons, Nat.add_sub_cancel, List.take_length]; rfl
theorem is_eq (k : Nat) (s : ByteArray) (r : Sreader) : parse_reader_is_p0 k s r = some (hd r s, r) := by
  obtain ⟨l, a, b, c, d⟩ := r
  unfold parse_reader_is_p0 hd hdL
  cases l with
  | nil => rfl
  | cons t l =>
    dsimp only
    rw [decide_eq_true (by simp only [List.length_cons]; omega), cond_true, chk_pos (by simp only [List.length_cons]; omega), chk_pos (by simp only [List.length_cons]; omega), chk_pos (by simp only [List.length_cons]; omega), List.getD_cons_zero]
    unfold isT
    rw [beq_bytes]
    cases (t.f0 == 1) <;> cases (t.f0 == 5) <;> cases (t.f1 == s) <;> rfl
theorem got_eq (k : Nat) (s : ByteArray) (r : Sreader) : parse_reader_got_p0 k s r = some (hd r s, bif hd r s then tl r else r) := by
  unfold parse_reader_got_p0
  rw [is_eq, some_bind]
  dsimp only
  cases h : hd r s with
  | false => rfl
  | true =>
    rw [Bool.not_true, cond_false, cond_true]
    obtain ⟨l, a, b, c, d⟩ := r
    cases l with
    | nil => cases h
    | cons t l => rw [chk_pos (by simp only [List.length_cons]; omega), take_tail]; rfl
theorem fail_eq (k : Nat) (r : Sreader) : parse_reader_fail_p0 k r = some ((), badR r) := rfl
theorem most_eq (k : Nat) (n m : Int) (r : Sreader) : parse_reader_most_p0 k n m r = some ((), mostR n m r) := by
  unfold parse_reader_most_p0 mostR
  cases h : decide (n > m) <;> rfl
theorem node_eq (k : Nat) (e : SExpr) (r : Sreader) : parse_reader_node_p0 k e r = some (e, nodeR r) := rfl
/-- A name is taken. -/
noncomputable def nameR (r : Sreader) : ByteArray × Sreader := match r.f0 with
  | [] => (ByteArray.empty, badR r)
  | t :: _ => bif t.f0 == 1 && isName t.f1 then (t.f1, tl r) else (ByteArray.empty, badR r)
theorem name_eq (k : Nat) (hk : 40 < k) (r : Sreader) : parse_reader_name_p0 k r = some (nameR r) := by
  obtain ⟨l, a, b, c, d⟩ := r
  unfold parse_reader_name_p0 nameR
  cases l with
  | nil => rfl
  | cons t l =>
    dsimp only
    rw [show (((t :: l).length : Int) == 0) = false by rw [beq_eq_false_iff_ne]; simp only [List.length_cons]; omega, cond_false, chk_pos (by simp only [List.length_cons]; omega), List.getD_cons_zero]
    by_cases h : t.f0 = 1
    · rw [show (t.f0 != 1) = false by simp [h], show (t.f0 == 1) = true by simp [h], cond_false, chk_pos (by simp only [List.length_cons]; omega), name_is k hk, some_bind, Bool.true_and]
      cases isName t.f1 with
      | true =>
        rw [Bool.not_true, cond_false, cond_true]
        unfold parse_reader_name_p0_j4
        rw [chk_pos (by simp only [List.length_cons]; omega), chk_pos (by simp only [List.length_cons]; omega), take_tail]; rfl
      | false => rfl
    · rw [show (t.f0 != 1) = true by simp [h], show (t.f0 == 1) = false by simp [h]]; rfl
/-- Key words or marks are taken, one behind the other. -/
noncomputable def mustR : List ByteArray → Sreader → Sreader
  | [], r => r
  | s :: l, r => bif r.f1 then badR r else bif hd r s then mustR l (tl r) else badR r
theorem must_l1 {ρ : Type} (k : Nat) (kx : Sreader → Option ρ) (l : List ByteArray) (hl : l.length < 1000) : ∀ (d n i : Nat) (r : Sreader), i + d = l.length → d < n →
    parse_reader_must_p0_l1 k (fun t => (parse_reader_fail_p0 k t).bind fun r => kx r.2) kx n l (l.length : Int) (i : Int) r = kx (mustR (l.drop i) r)
  | 0, n + 1, i, r, hi, _ => by
    simp only [parse_reader_must_p0_l1, parse_reader_must_p0_l1_b]
    rw [decide_eq_false (by omega), cond_false, List.drop_eq_nil_of_le (by omega)]; rfl
  | d + 1, n + 1, i, r, hi, hn => by
    simp only [parse_reader_must_p0_l1, parse_reader_must_p0_l1_b]
    have hlt : i < l.length := by omega
    rw [decide_eq_true (by omega), cond_true, chk_pos (by omega), Int.toNat_natCast, got_eq, some_bind, List.drop_eq_getElem_cons hlt, getD_get _ i _ hlt]
    simp only [mustR, fail_eq, some_bind]
    cases r.f1 with
    | true => rfl
    | false =>
      cases hd r l[i] with
      | true => simp only [cond_true, cond_false, Bool.not_true]; rw [w64n (by omega)]; exact must_l1 k kx l hl d n (i + 1) (tl r) (by omega) (by omega)
      | false => rfl
theorem must_eq (k : Nat) (l : List ByteArray) (hl : l.length < 1000) (hk : l.length < k) (r : Sreader) : parse_reader_must_p0 k l r = some ((), mustR l r) :=
  must_l1 k (fun t => some ((), t)) l hl l.length k 0 r (by omega) hk
end Go.Proofs.Ytepekanlplbciaa.Q
