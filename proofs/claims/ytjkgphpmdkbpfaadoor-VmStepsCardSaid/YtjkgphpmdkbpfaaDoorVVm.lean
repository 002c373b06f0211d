/-
  Layer 24: whether code may be, the loops over code and rows, what code tells within some steps: the program and the page come to the same.
-/
import Derived.Test.YtjkgphpmdkbpfaaDoorVVa
namespace Go.Proofs.YtjkgphpmdkbpfaaDoor.V
open Go Go.AX

/-- Is this a place of the machine's? -/
def reg (n : Int) : Bool := decide (0 ≤ n ∧ n < 256)
theorem reg_iff {n : Int} : reg n = true ↔ 0 ≤ n ∧ n < 256 := decide_eq_true_iff
theorem vreg_eq (k : Nat) (n : Int) : vm_reg k n = some (reg n) := by
  unfold vm_reg reg
  simp only [big_eq, bif_ite, decide_eq_true_eq]
  by_cases h : n ≥ 0
  · rw [if_pos h, Bool.decide_and, show decide (0 ≤ n) = true from decide_eq_true h]; rfl
  · rw [if_neg h, Bool.decide_and, show decide (0 ≤ n) = false from decide_eq_false (by omega)]; rfl
theorem rreg_eq (k : Nat) (n : Int) : cadastreref23_reg k n = some (reg n) := vreg_eq k n
theorem rone_eq (k : Nat) (n : Int) : cadastreref23_one k n = some (decide (3 ≤ n ∧ n ≤ 8)) := by
  unfold cadastreref23_one
  by_cases h : 3 ≤ n <;> simp [h]
theorem rtwo_eq (k : Nat) (n : Int) : cadastreref23_two k n = some (decide (9 ≤ n ∧ n ≤ 22)) := by
  unfold cadastreref23_two
  by_cases h : 9 ≤ n <;> simp [h]
def zv (v : S29) : Bool := (v.f0 == 0) && ((v.f1 == 0) && (v.f2 == ByteArray.empty))
/-- May this instruction be, in code of n instructions, on a row of p places? -/
def gc (n p : Int) (c : S43) : Bool :=
  if c.f0 = 1 then reg c.f1 && (good c.f4 && ((c.f2 == 0) && ((c.f3 == 0) && (c.f5 == 0))))
  else if c.f0 = 2 then reg c.f1 && (decide (0 ≤ c.f2) && (decide (c.f2 < p) && ((c.f3 == 0) && (zv c.f4 && (c.f5 == 0)))))
  else if c.f0 = 3 then reg c.f1 && (reg c.f2 && (decide (3 ≤ c.f3) && (decide (c.f3 ≤ 8) && (zv c.f4 && (c.f5 == 0)))))
  else if c.f0 = 4 then reg c.f1 && (reg c.f2 && (reg c.f3 && (decide (9 ≤ c.f5) && (decide (c.f5 ≤ 22) && zv c.f4))))
  else if c.f0 = 5 then decide (0 ≤ c.f5) && (decide (c.f5 < n) && ((c.f1 == 0) && ((c.f2 == 0) && ((c.f3 == 0) && zv c.f4))))
  else if c.f0 = 6 ∨ c.f0 = 7 then reg c.f2 && (decide (0 ≤ c.f5) && (decide (c.f5 < n) && ((c.f1 == 0) && ((c.f3 == 0) && zv c.f4))))
  else if c.f0 = 8 then reg c.f1 && ((c.f2 == 0) && ((c.f3 == 0) && (zv c.f4 && (c.f5 == 0))))
  else false
theorem bcomm (a b : Int) : (a == b) = (b == a) := by rw [Bool.eq_iff_iff, beq_iff_eq, beq_iff_eq]; exact eq_comm
theorem bcommB (a b : ByteArray) : (a == b) = (b == a) := by rw [Bool.eq_iff_iff, beq_iff_eq, beq_iff_eq]; exact eq_comm
theorem reg0 : reg 0 = true := by decide
theorem cond_some (b x y : Bool) : (bif b then some x else some y) = some (bif b then x else y) := by cases b <;> rfl
theorem cond_false (b x : Bool) : (bif b then x else false) = (b && x) := by cases b <;> rfl
theorem rinstr_eq (k : Nat) (c : S43) (n p : Int) : cadastreref23_instruction k c n p = some (gc n p c) := by
  obtain ⟨o, a, b, d, ⟨v0, v1, v2⟩, j⟩ := c
  unfold cadastreref23_instruction gc zv
  dsimp only
  by_cases h : o = 1
  · subst h
    rw [if_pos rfl]
    simp only [rreg_eq, may_eq, some_bind, beq_self_eq_true, cond_true, Bool.true_and, cond_some, cond_false, bcomm 0 b, bcomm 0 d, bcomm 0 j]
  rw [if_neg h, beq_eq_false_iff_ne.2 h, Bool.cond_false]
  clear h
  by_cases h : o = 2
  · subst h
    rw [if_pos rfl]
    simp only [rreg_eq, may_eq, some_bind, beq_self_eq_true, cond_true, Bool.true_and, cond_some, cond_false, bcomm 0 b, bcomm 0 d, bcomm 0 j, bcomm 0 v0, bcomm 0 v1, bcommB ByteArray.empty v2, ge_iff_le, Bool.and_assoc]
  rw [if_neg h, beq_eq_false_iff_ne.2 h, Bool.cond_false]
  clear h
  by_cases h : o = 3
  · subst h
    rw [if_pos rfl]
    simp only [rreg_eq, rone_eq, some_bind, beq_self_eq_true, cond_true, Bool.true_and, cond_some, cond_false, bcomm 0 b, bcomm 0 d, bcomm 0 j, bcomm 0 v0, bcomm 0 v1, bcommB ByteArray.empty v2, ge_iff_le, Bool.decide_and, Bool.and_assoc]
  rw [if_neg h, beq_eq_false_iff_ne.2 h, Bool.cond_false]
  clear h
  by_cases h : o = 4
  · subst h
    rw [if_pos rfl]
    simp only [rreg_eq, rtwo_eq, some_bind, beq_self_eq_true, cond_true, Bool.true_and, Bool.and_true, cond_some, cond_false, bcomm 0 b, bcomm 0 d, bcomm 0 j, bcomm 0 v0, bcomm 0 v1, bcommB ByteArray.empty v2, ge_iff_le, Bool.decide_and, Bool.and_assoc]
  rw [if_neg h, beq_eq_false_iff_ne.2 h, Bool.cond_false]
  clear h
  by_cases h : o = 5
  · subst h
    rw [if_pos rfl]
    simp only [some_bind, beq_self_eq_true, cond_true, Bool.true_and, Bool.and_true, cond_some, cond_false, bcomm 0 a, bcomm 0 b, bcomm 0 d, bcomm 0 j, bcomm 0 v0, bcomm 0 v1, bcommB ByteArray.empty v2, ge_iff_le, Bool.decide_and, Bool.and_assoc]
  rw [if_neg h, beq_eq_false_iff_ne.2 h, Bool.cond_false]
  clear h
  by_cases h : o = 6
  · subst h
    rw [if_pos (.inl rfl)]
    unfold cadastreref23_instruction_j28
    simp only [rreg_eq, some_bind, beq_self_eq_true, cond_true, Bool.true_and, Bool.and_true, cond_some, cond_false, bcomm 0 a, bcomm 0 b, bcomm 0 d, bcomm 0 j, bcomm 0 v0, bcomm 0 v1, bcommB ByteArray.empty v2, ge_iff_le, Bool.decide_and, Bool.and_assoc]
    cases reg b <;> simp
  by_cases h' : o = 7
  · subst h'
    rw [if_pos (.inr rfl)]
    unfold cadastreref23_instruction_j28
    simp only [rreg_eq, some_bind, beq_self_eq_true, cond_true, Bool.true_and, Bool.and_true, cond_some, cond_false, bcomm 0 a, bcomm 0 b, bcomm 0 d, bcomm 0 j, bcomm 0 v0, bcomm 0 v1, bcommB ByteArray.empty v2, ge_iff_le, Bool.decide_and, Bool.and_assoc]
    cases reg b <;> simp
  rw [if_neg (by simp [h, h']), beq_eq_false_iff_ne.2 h, Bool.cond_false, beq_eq_false_iff_ne.2 h', Bool.cond_false]
  clear h h'
  unfold cadastreref23_instruction_j31
  by_cases h : o = 8
  · subst h
    rw [if_pos rfl]
    simp only [rreg_eq, some_bind, beq_self_eq_true, cond_true, Bool.true_and, Bool.and_true, cond_some, cond_false, bcomm 0 a, bcomm 0 b, bcomm 0 d, bcomm 0 j, bcomm 0 v0, bcomm 0 v1, bcommB ByteArray.empty v2, ge_iff_le, Bool.decide_and, Bool.and_assoc]
  rw [if_neg h, beq_eq_false_iff_ne.2 h]
  rfl
theorem vgood_eq (k : Nat) (c : S43) (n p : Int) : vm_good k c n p = some (gc n p c) := by
  have h0 : vm_good k c n p = vm_good_j4 k (fun t => some t) p (reg c.f1 && reg c.f2) (decide (0 ≤ c.f5) && decide (c.f5 < n)) c (⟨c.f0, 0, 0, 0, (⟨0, 0, ByteArray.empty⟩ : S29), 0⟩ : S43) := by
    unfold vm_good vm_good_j3
    simp only [vreg_eq, some_bind]
    cases reg c.f1 <;> by_cases h : 0 ≤ c.f5 <;> simp [h]
  rw [h0]
  obtain ⟨o, a, b, d, ⟨v0, v1, v2⟩, j⟩ := c
  unfold vm_good_j4 gc zv
  dsimp only
  by_cases h : o = 1
  · subst h
    rw [if_pos rfl]
    simp only [vreg_eq, good_eq, some_bind, beq_self_eq_true, cond_true, Bool.true_and, Bool.and_true, cond_some, cond_false, bcomm 0 a, bcomm 0 b, bcomm 0 d, bcomm 0 j, bcomm 0 v0, bcomm 0 v1, bcommB ByteArray.empty v2, ge_iff_le, Bool.decide_and, Bool.and_assoc]
  rw [if_neg h, beq_eq_false_iff_ne.2 h, Bool.cond_false]
  clear h
  by_cases h : o = 2
  · subst h
    rw [if_pos rfl]
    simp only [vreg_eq, good_eq, some_bind, beq_self_eq_true, cond_true, Bool.true_and, Bool.and_true, cond_some, cond_false, bcomm 0 a, bcomm 0 b, bcomm 0 d, bcomm 0 j, bcomm 0 v0, bcomm 0 v1, bcommB ByteArray.empty v2, ge_iff_le, Bool.decide_and, Bool.and_assoc]
  rw [if_neg h, beq_eq_false_iff_ne.2 h, Bool.cond_false]
  clear h
  by_cases h : o = 3
  · subst h
    rw [if_pos rfl]
    simp only [vreg_eq, good_eq, some_bind, beq_self_eq_true, cond_true, Bool.true_and, Bool.and_true, cond_some, cond_false, bcomm 0 a, bcomm 0 b, bcomm 0 d, bcomm 0 j, bcomm 0 v0, bcomm 0 v1, bcommB ByteArray.empty v2, ge_iff_le, Bool.decide_and, Bool.and_assoc]
  rw [if_neg h, beq_eq_false_iff_ne.2 h, Bool.cond_false]
  clear h
  by_cases h : o = 4
  · subst h
    rw [if_pos rfl]
    simp only [vreg_eq, good_eq, some_bind, beq_self_eq_true, cond_true, Bool.true_and, Bool.and_true, cond_some, cond_false, bcomm 0 a, bcomm 0 b, bcomm 0 d, bcomm 0 j, bcomm 0 v0, bcomm 0 v1, bcommB ByteArray.empty v2, ge_iff_le, Bool.decide_and, Bool.and_assoc]
  rw [if_neg h, beq_eq_false_iff_ne.2 h, Bool.cond_false]
  clear h
  by_cases h : o = 5
  · subst h
    rw [if_pos rfl]
    simp only [vreg_eq, good_eq, some_bind, beq_self_eq_true, cond_true, Bool.true_and, Bool.and_true, cond_some, cond_false, bcomm 0 a, bcomm 0 b, bcomm 0 d, bcomm 0 j, bcomm 0 v0, bcomm 0 v1, bcommB ByteArray.empty v2, ge_iff_le, Bool.decide_and, Bool.and_assoc]
  rw [if_neg h, beq_eq_false_iff_ne.2 h, Bool.cond_false]
  clear h
  by_cases h : o = 6
  · subst h
    rw [if_pos (.inl rfl)]
    unfold vm_good_j23
    simp only [vreg_eq, some_bind, beq_self_eq_true, cond_true, Bool.true_and, Bool.and_true, cond_some, cond_false, bcomm 0 a, bcomm 0 b, bcomm 0 d, bcomm 0 j, bcomm 0 v0, bcomm 0 v1, bcommB ByteArray.empty v2, ge_iff_le, Bool.decide_and, Bool.and_assoc]
    cases reg b <;> simp
  by_cases h' : o = 7
  · subst h'
    rw [if_pos (.inr rfl)]
    unfold vm_good_j23
    simp only [vreg_eq, some_bind, beq_self_eq_true, cond_true, Bool.true_and, Bool.and_true, cond_some, cond_false, bcomm 0 a, bcomm 0 b, bcomm 0 d, bcomm 0 j, bcomm 0 v0, bcomm 0 v1, bcommB ByteArray.empty v2, ge_iff_le, Bool.decide_and, Bool.and_assoc]
    cases reg b <;> simp
  rw [if_neg (by simp [h, h']), beq_eq_false_iff_ne.2 h, Bool.cond_false, beq_eq_false_iff_ne.2 h', Bool.cond_false]
  clear h h'
  unfold vm_good_j25
  by_cases h : o = 8
  · subst h
    rw [if_pos rfl]
    simp only [vreg_eq, some_bind, beq_self_eq_true, cond_true, Bool.true_and, Bool.and_true, cond_some, cond_false, bcomm 0 a, bcomm 0 b, bcomm 0 d, bcomm 0 j, bcomm 0 v0, bcomm 0 v1, bcommB ByteArray.empty v2, ge_iff_le, Bool.decide_and, Bool.and_assoc]
  rw [if_neg h, beq_eq_false_iff_ne.2 h]
  rfl
end Go.Proofs.YtjkgphpmdkbpfaaDoor.V

namespace Go.Proofs.YtjkgphpmdkbpfaaDoor.V
open Go Go.AX

theorem loop_all {α ρ : Type} (l : List α) (g : α → Bool) (F : Nat → Int → Option ρ) (ke kf : Option ρ) (h0 : ∀ n, F (n + 1) (l.length : Int) = ke)
    (h1 : ∀ (n i : Nat) (h : i < l.length), F (n + 1) (i : Int) = if g l[i] = true then F n ((i + 1 : Nat) : Int) else kf) :
    ∀ (d i n : Nat), i + d = l.length → d < n → F n (i : Int) = if (l.drop i).all g = true then ke else kf
  | 0, i, n + 1, hi, _ => by
    obtain rfl : i = l.length := by omega
    rw [h0, List.drop_length]; rfl
  | d + 1, i, n + 1, hi, hn => by
    rw [h1 n i (by omega), List.drop_eq_getElem_cons (by omega), List.all_cons, loop_all l g F ke kf h0 h1 d (i + 1) n (by omega) (by omega)]
    cases g l[i] <;> simp

/-- May this code be? -/
def okc (l : List S43) (p : Int) : Bool := decide (l.length ≤ 800) && l.all (gc l.length p)
theorem rcode_eq (k : Nat) (l : List S43) (p : Int) (hk : 801 ≤ k) : cadastreref23_Code k l p = some (okc l p) := by
  unfold cadastreref23_Code okc
  rw [big_eq]
  by_cases h : l.length ≤ 800
  case neg => rw [decide_eq_false h, decide_eq_true (show (l.length : Int) > 800 by omega)]; rfl
  rw [decide_eq_true h, decide_eq_false (show ¬ ((l.length : Int) > 800) by omega), Bool.cond_false, Bool.true_and]
  have := loop_all l (gc l.length p) (fun n i => cadastreref23_Code_l4 k (fun t => some t) (some true) n l p i) (some true) (some false)
    (fun n => by simp [cadastreref23_Code_l4, cadastreref23_Code_l4_b])
    (fun n i hi => by
      simp only [cadastreref23_Code_l4, cadastreref23_Code_l4_b]
      rw [decide_eq_true (show (i : Int) < (l.length : Int) by omega), cond_true, chk_pos (by omega), rinstr_eq, some_bind, show ((i : Int)).toNat = i from rfl, getD_get l i _ hi, w64n (by omega)]
      cases gc l.length p l[i] <;> rfl) l.length 0 k (by omega) (by omega)
  refine Eq.trans this ?_
  rw [List.drop_zero]
  cases l.all (gc l.length p) <;> rfl
theorem check_eq (k : Nat) (l : List S43) (p : Int) (hk : 801 ≤ k) : vm_Check k l p = some (if okc l p = true then 0 else 1) := by
  unfold vm_Check okc
  rw [big_eq]
  by_cases h : l.length ≤ 800
  case neg => rw [decide_eq_false h, decide_eq_true (show (l.length : Int) > 800 by omega)]; rfl
  rw [decide_eq_true h, decide_eq_false (show ¬ ((l.length : Int) > 800) by omega), Bool.cond_false, Bool.true_and]
  have key : ∃ r : Int, api_Code__45_f26 k l l p = some r ∧ (decide (r ≥ 0) = !(l.all (gc l.length p))) := by
    unfold api_Code__45_f26
    suffices H : ∀ (d i n : Nat), i + d = l.length → d < n → ∃ r : Int, api_Code__45_f26_l2 k (fun t4 => some t4) (some (-1)) n l l p (l.length : Int) (i : Int) = some r ∧ (decide (r ≥ 0) = !((l.drop i).all (gc l.length p))) by
      have := H l.length 0 k (by omega) (by omega)
      rwa [List.drop_zero] at this
    intro d
    induction d with
    | zero =>
      intro i n hi hn
      obtain ⟨n, rfl⟩ : ∃ m, n = m + 1 := ⟨n - 1, by omega⟩
      obtain rfl : i = l.length := by omega
      exact ⟨-1, by simp [api_Code__45_f26_l2, api_Code__45_f26_l2_b], by simp⟩
    | succ d ih =>
      intro i n hi hn
      obtain ⟨n, rfl⟩ : ∃ m, n = m + 1 := ⟨n - 1, by omega⟩
      have hl : i < l.length := by omega
      simp only [api_Code__45_f26_l2, api_Code__45_f26_l2_b, vm_Check_1_r1_r2]
      rw [decide_eq_true (show (i : Int) < (l.length : Int) by omega), cond_true, chk_pos (by omega), vgood_eq, some_bind, show ((i : Int)).toNat = i from rfl, getD_get l i _ hl, w64n (by omega), some_bind, List.drop_eq_getElem_cons hl, List.all_cons]
      cases gc l.length p l[i]
      · exact ⟨(i : Int), rfl, by simp⟩
      · rw [Bool.true_and]; exact ih (i + 1) n (by omega) (by omega)
  obtain ⟨r, hr, hb⟩ := key
  unfold api_Code__f26
  rw [hr, some_bind, some_bind, hb]
  cases l.all (gc l.length p) <;> rfl
theorem rall_eq (k : Nat) (l : List S29) (hn : l.length ≤ 9223372036854775806) (hk : l.length < k) : cadastreref2_All k l = some (l.all good) := by
  unfold cadastreref2_All
  have := loop_all l good (fun n i => cadastreref2_All_l2 k (fun t => some t) (some true) n l i) (some true) (some false)
    (fun n => by simp [cadastreref2_All_l2, cadastreref2_All_l2_b])
    (fun n i hi => by
      simp only [cadastreref2_All_l2, cadastreref2_All_l2_b]
      rw [decide_eq_true (show (i : Int) < (l.length : Int) by omega), cond_true, chk_pos (by omega), may_eq, some_bind, show ((i : Int)).toNat = i from rfl, getD_get l i _ hi, w64n (by omega)]
      cases good l[i] <;> rfl) l.length 0 k (by omega) (by omega)
  refine Eq.trans this ?_
  rw [List.drop_zero]
  cases l.all good <;> rfl
theorem same43 (a : S43) : ((a.f0 == a.f0) && ((a.f1 == a.f1) && ((a.f2 == a.f2) && ((a.f3 == a.f3) && ((a.f4.f0 == a.f4.f0) && ((a.f4.f1 == a.f4.f1) && ((a.f4.f2 == a.f4.f2) && (a.f5 == a.f5)))))))) = true := by simp
theorem eqcodes_eq (k : Nat) (l : List S43) (hn : l.length ≤ 900) (hk : 901 ≤ k) : cadastreref0_EqCodes k l l = some true := by
  unfold cadastreref0_EqCodes
  have := loop_all l (fun _ => true) (fun n i => cadastreref0_EqCodes_l4 k (fun t => some t) (some true) n l l i) (some true) (some false)
    (fun n => by simp [cadastreref0_EqCodes_l4, cadastreref0_EqCodes_l4_b])
    (fun n i hi => by
      simp only [cadastreref0_EqCodes_l4, cadastreref0_EqCodes_l4_b]
      rw [decide_eq_true (show (i : Int) < (l.length : Int) by omega), cond_true, chk_pos (by omega), chk_pos (by omega), w64n (by omega), same43]
      rfl) l.length 0 k (by omega) (by omega)
  rw [show ((l.length : Int) != (l.length : Int)) = false by simp]
  refine Eq.trans this ?_
  rw [List.drop_zero, if_pos (by simp)]
theorem copy_eq (k : Nat) (l : List S43) (hn : l.length ≤ 900) (hk : 901 ≤ k) : cadastreref0_CopyCodes k l = some l := by
  unfold cadastreref0_CopyCodes
  suffices H : ∀ (d i n : Nat), i + d = l.length → d < n → cadastreref0_CopyCodes_l3 k (fun m => some m) n l (l.take i) (i : Int) = some l by
    exact H l.length 0 k (by omega) (by omega)
  intro d
  induction d with
  | zero =>
    intro i n hi hn
    obtain ⟨n, rfl⟩ : ∃ m, n = m + 1 := ⟨n - 1, by omega⟩
    obtain rfl : i = l.length := by omega
    simp [cadastreref0_CopyCodes_l3, cadastreref0_CopyCodes_l3_b]
  | succ d ih =>
    intro i n hi hn
    obtain ⟨n, rfl⟩ : ∃ m, n = m + 1 := ⟨n - 1, by omega⟩
    have hl : i < l.length := by omega
    simp only [cadastreref0_CopyCodes_l3, cadastreref0_CopyCodes_l3_b]
    rw [decide_eq_true (show (i : Int) < (l.length : Int) by omega), cond_true, chk_pos (by omega), chk_pos (by simp; omega), show ((i : Int)).toNat = i from rfl, getD_get l i _ hl, w64n (by omega), show l.take i ++ [l[i]] = l.take (i + 1) by simp]
    exact ih (i + 1) n (by omega) (by omega)
/-- What weighs much is let go. -/
theorem heavy_eq (k : Nat) (p : S25) (hk : 901 ≤ k) : ∃ b, cadastrelaw24_heavy k p = some b ∧ (b = false → p.f0.length ≤ 900 ∧ p.f1.length ≤ 200 ∧ p.f2 ≤ 3000) := by
  unfold cadastrelaw24_heavy
  simp only [big_eq]
  by_cases h : (p.f0.length : Int) > 900
  · rw [decide_eq_true h]; exact ⟨true, rfl, by simp⟩
  rw [decide_eq_false h, Bool.cond_false]
  have hl : ∃ b, cadastrelaw0_Light k p.f1 20000 = some b ∧ (b = true → p.f1.length ≤ 200) := by
    unfold cadastrelaw0_Light
    by_cases h2 : (p.f1.length : Int) > 200
    · rw [decide_eq_true h2]; exact ⟨false, rfl, by simp⟩
    rw [decide_eq_false h2, Bool.cond_false]
    suffices H : ∀ (d i n : Nat) (s : Int), i + d = p.f1.length → d < n → ∃ b, cadastrelaw0_Light_l5 k (fun most n5 => some (decide (n5 ≤ most))) n p.f1 20000 s (i : Int) = some b by
      obtain ⟨b, hb⟩ := H p.f1.length 0 k 0 (by omega) (by omega)
      exact ⟨b, hb, fun _ => by omega⟩
    intro d
    induction d with
    | zero =>
      intro i n s hi hn
      obtain ⟨n, rfl⟩ : ∃ m, n = m + 1 := ⟨n - 1, by omega⟩
      obtain rfl : i = p.f1.length := by omega
      simp [cadastrelaw0_Light_l5, cadastrelaw0_Light_l5_b]
    | succ d ih =>
      intro i n s hi hn
      obtain ⟨n, rfl⟩ : ∃ m, n = m + 1 := ⟨n - 1, by omega⟩
      simp only [cadastrelaw0_Light_l5, cadastrelaw0_Light_l5_b]
      rw [decide_eq_true (show (i : Int) < (p.f1.length : Int) by omega), cond_true, chk_pos (by omega), w64n (by omega)]
      exact ih (i + 1) n _ (by omega) (by omega)
  obtain ⟨b, hb, hp⟩ := hl
  rw [hb, some_bind]
  cases b
  · exact ⟨true, rfl, by simp⟩
  · refine ⟨_, rfl, fun hf => ⟨by omega, hp rfl, ?_⟩⟩
    have := of_decide_eq_false hf
    omega
end Go.Proofs.YtjkgphpmdkbpfaaDoor.V

namespace Go.Proofs.YtjkgphpmdkbpfaaDoor.V
open Go Go.AX

def vat (rs : List S29) (i : Int) : S29 := rs.getD i.toNat default
noncomputable def doesS (rs row : List S29) (c : S43) : S29 × Int :=
  if c.f0 = 1 then (c.f4, 0) else if c.f0 = 2 then (vat row c.f2, 0) else if c.f0 = 3 then unS c.f3 (vat rs c.f2) else binS c.f5 (vat rs c.f2) (vat rs c.f3)
/-- What code tells, from an instruction on, within r steps. -/
noncomputable def go (l : List S43) (row : List S29) : Nat → Nat → List S29 → S29 × Int
  | 0, i, _ => if i = l.length then (vnull, 1) else (vnull, 7)
  | r + 1, i, rs =>
    if i = l.length then (vnull, 1)
    else if (l.getD i default).f0 = 8 then (vat rs (l.getD i default).f1, 0)
    else if (l.getD i default).f0 = 5 then go l row r (l.getD i default).f5.toNat rs
    else if (l.getD i default).f0 = 6 ∨ (l.getD i default).f0 = 7 then
      if (tr (vat rs (l.getD i default).f2)).2 ≠ 0 then (vnull, (tr (vat rs (l.getD i default).f2)).2)
      else if (tr (vat rs (l.getD i default).f2)).1 = (if (l.getD i default).f0 = 7 then 0 else 2) then go l row r (l.getD i default).f5.toNat rs
      else go l row r (i + 1) rs
    else if (doesS rs row (l.getD i default)).2 ≠ 0 then (vnull, (doesS rs row (l.getD i default)).2)
    else go l row r (i + 1) (rs.set (l.getD i default).f1.toNat (doesS rs row (l.getD i default)).1)

theorem gc_says {n p : Int} {c : S43} (h : gc n p c = true) :
    (c.f0 = 1 ∧ reg c.f1 = true ∧ good c.f4 = true) ∨ (c.f0 = 2 ∧ reg c.f1 = true ∧ 0 ≤ c.f2 ∧ c.f2 < p) ∨ (c.f0 = 3 ∧ reg c.f1 = true ∧ reg c.f2 = true ∧ 3 ≤ c.f3 ∧ c.f3 ≤ 8)
    ∨ (c.f0 = 4 ∧ reg c.f1 = true ∧ reg c.f2 = true ∧ reg c.f3 = true ∧ 9 ≤ c.f5 ∧ c.f5 ≤ 22) ∨ (c.f0 = 5 ∧ 0 ≤ c.f5 ∧ c.f5 < n) ∨ ((c.f0 = 6 ∨ c.f0 = 7) ∧ reg c.f2 = true ∧ 0 ≤ c.f5 ∧ c.f5 < n) ∨ (c.f0 = 8 ∧ reg c.f1 = true) := by
  unfold gc at h
  by_cases h1 : c.f0 = 1
  · rw [if_pos h1] at h; simp only [Bool.and_eq_true] at h; exact .inl ⟨h1, h.1, h.2.1⟩
  by_cases h2 : c.f0 = 2
  · rw [if_neg h1, if_pos h2] at h; simp only [Bool.and_eq_true, decide_eq_true_eq] at h; exact .inr (.inl ⟨h2, h.1, h.2.1, h.2.2.1⟩)
  by_cases h3 : c.f0 = 3
  · rw [if_neg h1, if_neg h2, if_pos h3] at h; simp only [Bool.and_eq_true, decide_eq_true_eq] at h; exact .inr (.inr (.inl ⟨h3, h.1, h.2.1, h.2.2.1, h.2.2.2.1⟩))
  by_cases h4 : c.f0 = 4
  · rw [if_neg h1, if_neg h2, if_neg h3, if_pos h4] at h; simp only [Bool.and_eq_true, decide_eq_true_eq] at h; exact .inr (.inr (.inr (.inl ⟨h4, h.1, h.2.1, h.2.2.1, h.2.2.2.1, h.2.2.2.2.1⟩)))
  by_cases h5 : c.f0 = 5
  · rw [if_neg h1, if_neg h2, if_neg h3, if_neg h4, if_pos h5] at h; simp only [Bool.and_eq_true, decide_eq_true_eq] at h; exact .inr (.inr (.inr (.inr (.inl ⟨h5, h.1, h.2.1⟩))))
  by_cases h6 : c.f0 = 6 ∨ c.f0 = 7
  · rw [if_neg h1, if_neg h2, if_neg h3, if_neg h4, if_neg h5, if_pos h6] at h; simp only [Bool.and_eq_true, decide_eq_true_eq] at h; exact .inr (.inr (.inr (.inr (.inr (.inl ⟨h6, h.1, h.2.1, h.2.2.1⟩)))))
  by_cases h8 : c.f0 = 8
  · rw [if_neg h1, if_neg h2, if_neg h3, if_neg h4, if_neg h5, if_neg h6, if_pos h8] at h; simp only [Bool.and_eq_true, decide_eq_true_eq] at h; exact .inr (.inr (.inr (.inr (.inr (.inr ⟨h8, h.1⟩)))))
  · rw [if_neg h1, if_neg h2, if_neg h3, if_neg h4, if_neg h5, if_neg h6, if_neg h8] at h; cases h

theorem reg_chk {ρ : Type} {n : Int} (h : reg n = true) (x : Option ρ) : (chk (0 ≤ n ∧ n < (256 : Int)) <| chk (n.toNat < 256) x) = x := by
  have := reg_iff.1 h
  rw [chk_pos this, chk_pos (by omega)]
theorem gd_get {rs : List S29} (hg : ∀ v ∈ rs, gd v) {i : Int} (h1 : i.toNat < rs.length) : gd (vat rs i) := hg _ (getD_mem h1)
theorem gd_reg {rs : List S29} (hl : rs.length = 256) (hg : ∀ v ∈ rs, gd v) {i : Int} (h1 : reg i = true) : gd (vat rs i) := gd_get hg (by have := reg_iff.1 h1; omega)
theorem gd_set {rs : List S29} (hg : ∀ v ∈ rs, gd v) (i : Nat) {v : S29} (hv : gd v) : ∀ w ∈ rs.set i v, gd w := by
  intro w hw
  rcases List.mem_or_eq_of_mem_set hw with h | rfl
  · exact hg w h
  · exact hv

/-- What one instruction of value comes to. -/
theorem does_eq (k : Nat) (hk : 4097 ≤ k) {n : Int} {c : S43} {rs row : List S29} (hc : gc n row.length c = true) (hx : inr c.f4.f1 = true) (hl : rs.length = 256) (hg : ∀ v ∈ rs, gd v) (hr : ∀ v ∈ row, gd v)
    (h5 : ¬ c.f0 = 5) (h6 : ¬ (c.f0 = 6 ∨ c.f0 = 7)) (h8 : ¬ c.f0 = 8) : vm_machine_does_p0 k c ⟨rs, row⟩ = some (doesS rs row c, ⟨rs, row⟩) ∧ gd (doesS rs row c).1 ∧ reg c.f1 = true := by
  unfold vm_machine_does_p0 doesS
  simp only [bif_ite, beq_iff_eq]
  rcases gc_says hc with ⟨h, h1, h2⟩ | ⟨h, h1, h2, h3⟩ | ⟨h, h1, h2, h3, h4⟩ | ⟨h, h1, h2, h3, h4, h5'⟩ | ⟨h, _⟩ | ⟨h, _⟩ | ⟨h, _⟩
  · simp only [if_pos h]; exact ⟨trivial, ⟨h2, hx⟩, h1⟩
  · have e1 : ¬ c.f0 = 1 := by omega
    simp only [if_neg e1, if_pos h]
    rw [chk_pos ⟨h2, h3⟩]
    exact ⟨rfl, gd_get hr (by omega), h1⟩
  · have e1 : ¬ c.f0 = 1 := by omega
    have e2 : ¬ c.f0 = 2 := by omega
    have hv := gd_reg hl hg h2
    simp only [if_neg e1, if_neg e2, if_pos h]
    rw [reg_chk h2, show rs.getD c.f2.toNat default = vat rs c.f2 from rfl, un_eq k c.f3 _ h3 h4 hv.1 hv.2]
    exact ⟨rfl, gd_un _ hv, h1⟩
  · have e1 : ¬ c.f0 = 1 := by omega
    have e2 : ¬ c.f0 = 2 := by omega
    have e3 : ¬ c.f0 = 3 := by omega
    have hv := gd_reg hl hg h2
    have hw := gd_reg hl hg h3
    simp only [if_neg e1, if_neg e2, if_neg e3]
    rw [reg_chk h2, reg_chk h3, show rs.getD c.f2.toNat default = vat rs c.f2 from rfl, show rs.getD c.f3.toNat default = vat rs c.f3 from rfl, bin_eq k hk c.f5 _ _ h4 h5' hv.1 hw.1 hv.2 hw.2]
    exact ⟨rfl, gd_bin _ hv hw, h1⟩
  · exact absurd h h5
  · exact absurd h h6
  · exact absurd h h8
/-- What a test of a place comes to. -/
theorem asks_eq (k : Nat) {c : S43} {rs row : List S29} (h2 : reg c.f2 = true) (hv : gd (vat rs c.f2)) (h6 : c.f0 = 6 ∨ c.f0 = 7) :
    vm_machine_asks_p0 k c ⟨rs, row⟩ = some ((if (tr (vat rs c.f2)).2 = 0 then decide ((tr (vat rs c.f2)).1 = if c.f0 = 7 then 0 else 2) else false, (tr (vat rs c.f2)).2), ⟨rs, row⟩) := by
  unfold vm_machine_asks_p0
  rw [reg_chk h2, show (⟨rs, row⟩ : S55).f0.getD c.f2.toNat default = vat rs c.f2 from rfl, true_eq, not_eq]
  generalize vat rs c.f2 = v at hv ⊢
  unfold notR
  rcases h6 with h | h <;> rw [h] <;> rcases tr_cases hv.1 with ⟨ha, _⟩ | ⟨ha, _⟩ | ⟨ha, _⟩ | ⟨ha, _⟩ <;> rw [ha] <;> first | rfl | (simp [true_eq, tr, good, ansV, vint, vnull])
end Go.Proofs.YtjkgphpmdkbpfaaDoor.V

namespace Go.Proofs.YtjkgphpmdkbpfaaDoor.V
open Go Go.AX

/-- Good code: what holds of every instruction. -/
def cok (l : List S43) (row : List S29) : Prop := l.length ≤ 800 ∧ (∀ c ∈ l, gc l.length row.length c = true ∧ inr c.f4.f1 = true) ∧ (∀ v ∈ row, gd v)
theorem go_end (l : List S43) (row : List S29) (r : Nat) (rs : List S29) : go l row r l.length rs = (vnull, 1) := by
  cases r <;> unfold go <;> rw [if_pos rfl]
theorem go_none {l : List S43} {row : List S29} {i : Nat} (h : ¬ i = l.length) (rs : List S29) : go l row 0 i rs = (vnull, 7) := by
  unfold go; rw [if_neg h]

theorem vrun (k : Nat) (hk : 4097 ≤ k) {l : List S43} {row : List S29} (hc : cok l row) {ρ : Type} (kret : Int → S29 → Option ρ) (most : Int) (hm : most ≤ 9223372036854775807) :
    ∀ (r n i : Nat) (rs : List S29) (t : S29), rs.length = 256 → (∀ v ∈ rs, gd v) → i ≤ l.length → r < n → (r : Int) ≤ most →
      vm_Run_g0 k kret n l most i (most - r) t ⟨rs, row⟩ = kret (go l row r i rs).2 (go l row r i rs).1 := by
  intro r
  induction r with
  | zero =>
    intro n i rs t hl hg hi hn hrm
    obtain ⟨n, rfl⟩ : ∃ m, n = m + 1 := ⟨n - 1, by omega⟩
    simp only [vm_Run_g0, vm_Run_g0_b, vm_Run_j7, bif_ite, beq_iff_eq]
    by_cases he : i = l.length
    · subst he; rw [if_pos rfl, go_end]; rfl
    · rw [if_neg (by omega), if_pos (by omega), go_none he]; rfl
  | succ r ih =>
    intro n i rs t hl hg hi hn hrm
    obtain ⟨n, rfl⟩ : ∃ m, n = m + 1 := ⟨n - 1, by omega⟩
    by_cases he : i = l.length
    · simp only [vm_Run_g0, vm_Run_g0_b, vm_Run_j7, bif_ite, beq_iff_eq]
      subst he; rw [if_pos rfl, go_end]; rfl
    have hlt : i < l.length := by omega
    have hlen := hc.1
    obtain ⟨hgc, hx⟩ := hc.2.1 _ (getD_mem (d := default) hlt)
    have hs : IntKind.i64.wrap (most - ((r + 1 : Nat) : Int) + 1) = most - (r : Int) := by rw [w64 (by omega) (by omega)]; omega
    have hi1 : IntKind.i64.wrap ((i : Int) + 1) = ((i + 1 : Nat) : Int) := w64n (by omega)
    unfold vm_Run_g0 vm_Run_g0_b vm_Run_j7 go
    simp only [bif_ite, beq_iff_eq]
    rw [if_neg (show ¬ ((i : Int) = (l.length : Int)) by omega), if_neg (show ¬ (most - ((r + 1 : Nat) : Int) = most) by omega), chk_pos (by omega), if_neg he, show ((i : Int)).toNat = i from rfl, hs, hi1]
    generalize l.getD i default = c at hgc hx ⊢
    by_cases h8 : c.f0 = 8
    · have h1 : reg c.f1 = true := by
        rcases gc_says hgc with h | h | h | h | h | h | h <;> first | exact h.2 | (exfalso; omega)
      rw [if_pos h8, if_pos h8, reg_chk h1]
      rfl
    rw [if_neg h8, if_neg h8]
    by_cases h5 : c.f0 = 5
    · have h1 : 0 ≤ c.f5 ∧ c.f5 < l.length := by
        rcases gc_says hgc with h | h | h | h | h | h | h <;> first | exact h.2 | (exfalso; omega)
      rw [if_pos h5, if_pos h5, ← ih n c.f5.toNat rs t hl hg (by omega) (by omega) (by omega), show ((c.f5.toNat : Nat) : Int) = c.f5 by omega]
    rw [if_neg h5, if_neg h5]
    by_cases h6 : c.f0 = 6 ∨ c.f0 = 7
    · have h1 : reg c.f2 = true ∧ 0 ≤ c.f5 ∧ c.f5 < l.length := by
        rcases gc_says hgc with h | h | h | h | h | h | h <;> first | exact h.2 | (exfalso; omega)
      have hv := gd_reg hl hg h1.1
      rw [if_pos h6]
      have hj : ∀ (kg : List S43 → Int → Int → Int → S29 → S55 → Option ρ), vm_Run_j22 k (fun l0 most at_ steps e t b => vm_Run_j26 k kg kret l0 most at_ steps e t b) l most ((i + 1 : Nat) : Int) (most - (r : Int)) t c ⟨rs, row⟩ =
          if (tr (vat rs c.f2)).2 ≠ 0 then kret (tr (vat rs c.f2)).2 vnull else if (tr (vat rs c.f2)).1 = (if c.f0 = 7 then 0 else 2) then kg l most c.f5 (most - (r : Int)) t ⟨rs, row⟩ else kg l most ((i + 1 : Nat) : Int) (most - (r : Int)) t ⟨rs, row⟩ := by
        intro kg
        unfold vm_Run_j22 vm_Run_j26
        rw [asks_eq k h1.1 hv h6, some_bind]
        simp only [bif_ite, beq_iff_eq]
        generalize (tr (vat rs c.f2)).2 = e
        generalize (tr (vat rs c.f2)).1 = u
        generalize (if c.f0 = 7 then (0 : Int) else 2) = w
        by_cases e0 : e = 0
        · by_cases hu : u = w <;> simp [e0, hu]
        · simp [e0, vnull]
      have hb : (if c.f0 = 6 then vm_Run_j22 k (fun l0 most at_ steps e t b => vm_Run_j26 k (vm_Run_g0 k kret n) kret l0 most at_ steps e t b) l most ((i + 1 : Nat) : Int) (most - (r : Int)) t c ⟨rs, row⟩
          else if c.f0 = 7 then vm_Run_j22 k (fun l0 most at_ steps e t b => vm_Run_j26 k (vm_Run_g0 k kret n) kret l0 most at_ steps e t b) l most ((i + 1 : Nat) : Int) (most - (r : Int)) t c ⟨rs, row⟩
          else vm_Run_j15 k (fun l0 most at_ steps e t b => vm_Run_j26 k (vm_Run_g0 k kret n) kret l0 most at_ steps e t b) l most ((i + 1 : Nat) : Int) (most - (r : Int)) t c ⟨rs, row⟩) = vm_Run_j22 k (fun l0 most at_ steps e t b => vm_Run_j26 k (vm_Run_g0 k kret n) kret l0 most at_ steps e t b) l most ((i + 1 : Nat) : Int) (most - (r : Int)) t c ⟨rs, row⟩ := by
        rcases h6 with h | h
        · rw [if_pos h]
        · rw [if_neg (by omega), if_pos h]
      refine hb.trans ((hj _).trans ?_)
      generalize (if c.f0 = 7 then (0 : Int) else 2) = w
      split
      · rfl
      split
      · rw [← ih n c.f5.toNat rs t hl hg (by omega) (by omega) (by omega), show ((c.f5.toNat : Nat) : Int) = c.f5 by omega]
      · rw [ih n (i + 1) rs t hl hg (by omega) (by omega) (by omega)]
    rw [if_neg h6, if_neg (fun h => h6 (.inl h)), if_neg (fun h => h6 (.inr h))]
    obtain ⟨hd, hgd, hr1⟩ := does_eq k hk hgc hx hl hg hc.2.2 h5 h6 h8
    have hr1' := reg_iff.1 hr1
    unfold vm_Run_j15 vm_Run_j26
    rw [hd, some_bind, reg_chk hr1, chk_pos (show c.f1.toNat < rs.length by omega)]
    simp only [bif_ite, beq_iff_eq]
    by_cases e0 : (doesS rs row c).2 = 0
    · rw [if_pos e0, if_neg (fun h => h e0), ih n (i + 1) _ t (by rw [List.length_set]; exact hl) (gd_set hg _ hgd) (by omega) (by omega) (by omega)]
    · rw [if_neg e0, if_pos e0]; rfl

theorem rrun (k : Nat) (hk : 4097 ≤ k) {l : List S43} {row : List S29} (hc : cok l row) {ρ : Type} (kret : Int → S29 → Option ρ) (most : Int) (hm : most ≤ 9223372036854775807) :
    ∀ (r n i : Nat) (rs : List S29) (t : S29), rs.length = 256 → (∀ v ∈ rs, gd v) → i ≤ l.length → r < n → (r : Int) ≤ most →
      cadastreref23_Run_l5 k kret n l row most i (most - r) t rs = kret (go l row r i rs).2 (go l row r i rs).1 := by
  intro r
  induction r with
  | zero =>
    intro n i rs t hl hg hi hn hrm
    obtain ⟨n, rfl⟩ : ∃ m, n = m + 1 := ⟨n - 1, by omega⟩
    simp only [cadastreref23_Run_l5, cadastreref23_Run_l5_b, bif_ite, beq_iff_eq]
    by_cases he : i = l.length
    · subst he; rw [if_pos rfl, go_end]; rfl
    · rw [if_neg (by omega), if_pos (by omega), go_none he]; rfl
  | succ r ih =>
    intro n i rs t hl hg hi hn hrm
    obtain ⟨n, rfl⟩ : ∃ m, n = m + 1 := ⟨n - 1, by omega⟩
    by_cases he : i = l.length
    · simp only [cadastreref23_Run_l5, cadastreref23_Run_l5_b, bif_ite, beq_iff_eq]
      subst he; rw [if_pos rfl, go_end]; rfl
    have hlt : i < l.length := by omega
    have hlen := hc.1
    obtain ⟨hgc, hx⟩ := hc.2.1 _ (getD_mem (d := default) hlt)
    have hs : IntKind.i64.wrap (most - ((r + 1 : Nat) : Int) + 1) = most - (r : Int) := by rw [w64 (by omega) (by omega)]; omega
    have hi1 : IntKind.i64.wrap ((i : Int) + 1) = ((i + 1 : Nat) : Int) := w64n (by omega)
    unfold cadastreref23_Run_l5 cadastreref23_Run_l5_b go
    simp only [bif_ite, beq_iff_eq]
    rw [if_neg (show ¬ ((i : Int) = (l.length : Int)) by omega), if_neg (show ¬ (most - ((r + 1 : Nat) : Int) = most) by omega), chk_pos (by omega), if_neg he, show ((i : Int)).toNat = i from rfl, hs, hi1]
    generalize l.getD i default = c at hgc hx ⊢
    have hz : (((0 : Int) != 0) = true) = False := by simp
    simp only [hz, if_false]
    have next : ∀ (v : S29), reg c.f1 = true → gd v → (chk (0 ≤ c.f1 ∧ c.f1 < (256 : Int)) <| chk (c.f1.toNat < 256) <| chk (c.f1.toNat < rs.length) <| cadastreref23_Run_l5 k kret n l row most ((i + 1 : Nat) : Int) (most - (r : Int)) t (rs.set c.f1.toNat v))
        = kret (go l row r (i + 1) (rs.set c.f1.toNat v)).2 (go l row r (i + 1) (rs.set c.f1.toNat v)).1 := by
      intro v h1 hv
      have h1' := reg_iff.1 h1
      rw [reg_chk h1, chk_pos (by omega), ih n (i + 1) _ t (by rw [List.length_set]; exact hl) (gd_set hg _ hv) (by omega) (by omega) (by omega)]
    have next2 : ∀ (x : S29 × Int), reg c.f1 = true → gd x.1 → (chk (0 ≤ c.f1 ∧ c.f1 < (256 : Int)) <| chk (c.f1.toNat < 256) <| chk (c.f1.toNat < rs.length) <| if (x.2 != 0) = true then kret x.2 (⟨0, 0, ByteArray.empty⟩ : S29) else cadastreref23_Run_l5 k kret n l row most ((i + 1 : Nat) : Int) (most - (r : Int)) t (rs.set c.f1.toNat x.1))
        = kret (if x.2 ≠ 0 then (vnull, x.2) else go l row r (i + 1) (rs.set c.f1.toNat x.1)).2 (if x.2 ≠ 0 then (vnull, x.2) else go l row r (i + 1) (rs.set c.f1.toNat x.1)).1 := by
      intro x h1 hv
      have h1' := reg_iff.1 h1
      by_cases e0 : x.2 = 0
      · have : (x.2 != 0) = false := by simp [e0]
        rw [if_neg (show ¬ (x.2 ≠ 0) from fun h => h e0)]
        simp only [this, Bool.false_eq_true, if_false]
        exact next x.1 h1 hv
      · have : (x.2 != 0) = true := by simp [e0]
        rw [if_pos (show x.2 ≠ 0 from e0)]
        simp only [this, if_true]
        rw [reg_chk h1, chk_pos (by omega)]; rfl
    rcases gc_says hgc with ⟨h, h1, h2⟩ | ⟨h, h1, h2, h3⟩ | ⟨h, h1, h2, h3, h4⟩ | ⟨h, h1, h2, h3, h4, h5'⟩ | ⟨h, h2, h3⟩ | ⟨h, h1, h2, h3⟩ | ⟨h, h1⟩
    · have hd : doesS rs row c = (c.f4, 0) := by unfold doesS; rw [if_pos h]
      rw [if_pos h, if_neg (by omega), if_neg (by omega), if_neg (by omega), hd, if_neg (fun h => h rfl)]
      exact next _ h1 ⟨h2, hx⟩
    · have hd : doesS rs row c = (vat row c.f2, 0) := by unfold doesS; rw [if_neg (by omega), if_pos h]
      rw [if_neg (show ¬ c.f0 = 1 by omega), if_pos h, if_neg (by omega), if_neg (by omega), if_neg (by omega), hd, if_neg (fun h => h rfl), chk_pos ⟨h2, h3⟩]
      exact next _ h1 (gd_get hc.2.2 (by omega))
    · have hv := gd_reg hl hg h2
      have hd : doesS rs row c = unS c.f3 (vat rs c.f2) := by unfold doesS; rw [if_neg (by omega), if_neg (by omega), if_pos h]
      rw [if_neg (show ¬ c.f0 = 1 by omega), if_neg (show ¬ c.f0 = 2 by omega), if_pos h, if_neg (by omega), if_neg (by omega), if_neg (by omega), hd, reg_chk h2, show rs.getD c.f2.toNat default = vat rs c.f2 from rfl, one_eq k (by omega) _ _ hv.1 hv.2, some_bind]
      exact next2 _ h1 (gd_un _ hv)
    · have hv := gd_reg hl hg h2
      have hw := gd_reg hl hg h3
      have hd : doesS rs row c = binS c.f5 (vat rs c.f2) (vat rs c.f3) := by unfold doesS; rw [if_neg (by omega), if_neg (by omega), if_neg (by omega)]
      rw [if_neg (show ¬ c.f0 = 1 by omega), if_neg (show ¬ c.f0 = 2 by omega), if_neg (show ¬ c.f0 = 3 by omega), if_pos h, if_neg (by omega), if_neg (by omega), if_neg (by omega), hd, reg_chk h2, reg_chk h3, show rs.getD c.f2.toNat default = vat rs c.f2 from rfl, show rs.getD c.f3.toNat default = vat rs c.f3 from rfl, two_eq k hk _ _ _ h4 h5' hv.1 hw.1 hv.2 hw.2, some_bind]
      exact next2 _ h1 (gd_bin _ hv hw)
    · rw [if_neg (show ¬ c.f0 = 1 by omega), if_neg (show ¬ c.f0 = 2 by omega), if_neg (show ¬ c.f0 = 3 by omega), if_neg (show ¬ c.f0 = 4 by omega), if_pos h, if_neg (show ¬ c.f0 = 8 by omega), if_pos h, ← ih n c.f5.toNat rs t hl hg (by omega) (by omega) (by omega), show ((c.f5.toNat : Nat) : Int) = c.f5 by omega]
    · have hv := gd_reg hl hg h1
      rw [if_neg (show ¬ c.f0 = 1 by omega), if_neg (show ¬ c.f0 = 2 by omega), if_neg (show ¬ c.f0 = 3 by omega), if_neg (show ¬ c.f0 = 4 by omega), if_neg (show ¬ c.f0 = 5 by omega), if_neg (show ¬ c.f0 = 8 by omega), if_neg (show ¬ c.f0 = 5 by omega), if_pos h]
      unfold cadastreref23_Run_j26 cadastreref23_Run_j29
      rw [reg_chk h1, show rs.getD c.f2.toNat default = vat rs c.f2 from rfl, rtruth_eq, some_bind]
      have e5 : ((c.f5.toNat : Nat) : Int) = c.f5 := by omega
      have i5 := ih n c.f5.toNat rs t hl hg (by omega) (by omega) (by omega)
      rw [e5] at i5
      have i1 := ih n (i + 1) rs t hl hg (by omega) (by omega) (by omega)
      generalize ((i + 1 : Nat) : Int) = A at i1 ⊢
      generalize most - ((r + 1 : Nat) : Int) = B at hs ⊢
      generalize most - (r : Int) = C at hs i1 i5 ⊢
      rcases h with h | h <;> rcases tr_cases hv.1 with ⟨ha, hb⟩ | ⟨ha, hb⟩ | ⟨ha, hb⟩ | ⟨ha, hb⟩ <;> rw [ha, hb] <;> simp [h, hs, i5, i1, vnull]
    · rw [if_neg (show ¬ c.f0 = 1 by omega), if_neg (show ¬ c.f0 = 2 by omega), if_neg (show ¬ c.f0 = 3 by omega), if_neg (show ¬ c.f0 = 4 by omega), if_neg (show ¬ c.f0 = 5 by omega), if_neg (show ¬ c.f0 = 6 by omega), if_neg (show ¬ c.f0 = 7 by omega), if_pos h, reg_chk h1]
      rfl
end Go.Proofs.YtjkgphpmdkbpfaaDoor.V

namespace Go.Proofs.YtjkgphpmdkbpfaaDoor.V
open Go Go.AX

def zeros : List S29 := List.replicate 256 default
theorem zeros_len : zeros.length = 256 := by unfold zeros; exact List.length_replicate
theorem zeros_gd : ∀ v ∈ zeros, gd v := by
  intro v hv
  rw [List.eq_of_mem_replicate hv]
  exact gd_null
/-- What stands within the bounds of a list's numbers. -/
def inl (l : List S43) (row : List S29) : Prop := (∀ c ∈ l, inr c.f4.f1 = true) ∧ (∀ v ∈ row, inr v.f1 = true) ∧ row.length ≤ 200
theorem cok_of {l : List S43} {row : List S29} (hi : inl l row) (h1 : okc l row.length = true) (h2 : row.all good = true) : cok l row := by
  unfold okc at h1
  rw [Bool.and_eq_true, decide_eq_true_eq, List.all_eq_true] at h1
  rw [List.all_eq_true] at h2
  exact ⟨h1.1, fun c hc => ⟨h1.2 c hc, hi.1 c hc⟩, fun v hv => ⟨h2 v hv, hi.2.1 v hv⟩⟩
noncomputable def runS (l : List S43) (row : List S29) (most : Int) : S29 × Int :=
  if okc l row.length = true ∧ row.all good = true ∧ 0 ≤ most then go l row most.toNat 0 zeros else (vnull, 1)
theorem run_eq (k : Nat) (hk : 4097 ≤ k) (l : List S43) (row : List S29) (most : Int) (hi : inl l row) (hm : most ≤ 4096) : vm_Run k l row most = some (runS l row most) := by
  unfold vm_Run runS
  rw [check_eq k l _ (by omega), some_bind]
  by_cases h1 : okc l row.length = true
  case neg => rw [if_neg h1, if_neg (fun h => h1 h.1)]; rfl
  rw [if_pos h1, all_eq k row (by have := hi.2.2; omega) (by have := hi.2.2; omega), some_bind]
  by_cases h2 : row.all good = true
  case neg => rw [if_neg (fun h => h2 h.2.1), Bool.eq_false_iff.2 h2]; rfl
  by_cases h3 : 0 ≤ most
  case neg => rw [if_neg (fun h => h3 h.2.2), h2, decide_eq_true (show most < 0 by omega)]; rfl
  rw [if_pos ⟨h1, h2, h3⟩, h2, decide_eq_false (show ¬ most < 0 by omega)]
  have := vrun k hk (cok_of hi h1 h2) (fun t7 t6 => some (t6, t7)) most (by omega) most.toNat (k + 1) 0 zeros (⟨0, 0, ByteArray.empty⟩ : S29) zeros_len zeros_gd (by omega) (by omega) (by omega)
  rw [show most - ((most.toNat : Nat) : Int) = 0 by omega] at this
  exact this
theorem rrun_eq (k : Nat) (hk : 4097 ≤ k) (l : List S43) (row : List S29) (most : Int) (hi : inl l row) (hm : most ≤ 4096) (h1 : okc l row.length = true) (h2 : row.all good = true) (h3 : 0 ≤ most) : cadastreref23_Run k l row most = some (runS l row most) := by
  unfold cadastreref23_Run runS
  rw [if_pos ⟨h1, h2, h3⟩]
  have := rrun k hk (cok_of hi h1 h2) (fun t7 t6 => some (t6, t7)) most (by omega) most.toNat k 0 zeros (⟨0, 0, ByteArray.empty⟩ : S29) zeros_len zeros_gd (by omega) (by omega) (by omega)
  rw [show most - ((most.toNat : Nat) : Int) = 0 by omega] at this
  exact this

/-- Within more steps code tells the same. -/
theorem go_more (l : List S43) (row : List S29) (d : Nat) : ∀ (r i : Nat) (rs : List S29), (go l row r i rs).2 ≠ 7 → go l row (r + d) i rs = go l row r i rs := by
  intro r
  induction r with
  | zero =>
    intro i rs h
    by_cases he : i = l.length
    · subst he; rw [go_end, go_end]
    · rw [go_none he] at h; exact absurd rfl h
  | succ r ih =>
    intro i rs h
    rw [show r + 1 + d = (r + d) + 1 by omega]
    unfold go at h ⊢
    by_cases he : i = l.length
    · rw [if_pos he, if_pos he]
    rw [if_neg he] at h ⊢
    rw [if_neg he]
    generalize l.getD i default = c at h ⊢
    by_cases h8 : c.f0 = 8
    · rw [if_pos h8, if_pos h8]
    rw [if_neg h8] at h ⊢
    rw [if_neg h8]
    by_cases h5 : c.f0 = 5
    · rw [if_pos h5] at h ⊢
      rw [if_pos h5, ih _ _ h]
    rw [if_neg h5] at h ⊢
    rw [if_neg h5]
    by_cases h6 : c.f0 = 6 ∨ c.f0 = 7
    · rw [if_pos h6] at h ⊢
      rw [if_pos h6]
      generalize (if c.f0 = 7 then (0 : Int) else 2) = w at h ⊢
      by_cases e0 : (tr (vat rs c.f2)).2 ≠ 0
      · rw [if_pos e0, if_pos e0]
      rw [if_neg e0] at h ⊢
      rw [if_neg e0]
      by_cases hw : (tr (vat rs c.f2)).1 = w
      · rw [if_pos hw] at h ⊢
        rw [if_pos hw, ih _ _ h]
      · rw [if_neg hw] at h ⊢
        rw [if_neg hw, ih _ _ h]
    rw [if_neg h6] at h ⊢
    rw [if_neg h6]
    by_cases e0 : (doesS rs row c).2 ≠ 0
    · rw [if_pos e0, if_pos e0]
    rw [if_neg e0] at h ⊢
    rw [if_neg e0, ih _ _ h]
end Go.Proofs.YtjkgphpmdkbpfaaDoor.V
