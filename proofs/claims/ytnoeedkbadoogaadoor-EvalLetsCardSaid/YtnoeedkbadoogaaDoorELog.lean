/-
  Layer 3: truths, what two make together, tests: what the printed functions come to, and what the page's do.
-/
import Derived.Test.YtnoeedkbadoogaaDoorEOrd
import Derived.KernelRfl
namespace Go.Proofs.YtnoeedkbadoogaaDoor.E
open Go Go.AX
def vtruth (b : Bool) : S23 := vint (if b then 1 else 0)
theorem said_eq (k : Nat) (b : Bool) : logic_said k b = some (vtruth b) := by
  cases b <;> rfl
/-- A value's truth (0, 1 unknown, 2), and what is wrong with it. -/
def tr (v : S23) : Int × Int := if good v = true then (if v.f0 = 0 then (1, 0) else if v.f0 = 1 then (if v.f1 = 0 then (0, 0) else (2, 0)) else (0, 4)) else (0, 1)
theorem truth_eq (k : Nat) (v : S23) : logic_truth k v = some (tr v) := by
  unfold logic_truth tr
  rw [good_eq, some_bind]
  simp only [bif_ite, beq_iff_eq, bne_iff_ne, ne_eq, Bool.not_eq_true']
  cases good v
  · rfl
  · simp only [Bool.true_eq_false, if_false, if_true]
    by_cases h0 : v.f0 = 0
    · simp [h0]
    by_cases h1 : v.f0 = 1
    · by_cases h2 : v.f1 = 0 <;> simp [h1, h2]
    simp [h0, h1]
/-- The page's own telling of it. -/
def rtr (v : S23) : Int := if v.f0 = 0 then 2 else if v.f0 = 1 then (if v.f1 = 0 then 0 else 1) else -1
theorem tr_bad {v : S23} (h : ¬ good v = true) : tr v = (0, 1) := by unfold tr; rw [if_neg h]
theorem tr_cases {v : S23} (h : good v = true) : (tr v = (0, 0) ∧ rtr v = 0) ∨ (tr v = (1, 0) ∧ rtr v = 2) ∨ (tr v = (2, 0) ∧ rtr v = 1) ∨ (tr v = (0, 4) ∧ rtr v = -1) := by
  unfold tr rtr
  rw [if_pos h]
  by_cases h0 : v.f0 = 0
  · simp [h0]
  by_cases h1 : v.f0 = 1
  · by_cases h2 : v.f1 = 0 <;> simp [h1, h2]
  simp [h0, h1]
def ansV (t : Int) : S23 := if t = 0 then vint 0 else if t = 1 then vnull else vint 1
theorem ans_eq (k : Nat) {t : Int} (h : t = 0 ∨ t = 1 ∨ t = 2) : logic_answer k t = some (ansV t) := by
  rcases h with rfl | rfl | rfl <;> rfl
theorem true_eq (k : Nat) (v : S23) : logic_True k v = some (if (tr v).2 = 0 then decide ((tr v).1 = 2) else false, (tr v).2) := by
  unfold logic_True
  rw [truth_eq, some_bind, bif_ite]
  simp only [beq_iff_eq]
  split
  · rename_i h
    rw [Bool.beq_eq_decide_eq] <;> rfl
  · rfl

/-! ### not -/
def notR (a : S23) : S23 × Int := if (tr a).2 = 0 then (ansV (2 - (tr a).1), 0) else (vnull, (tr a).2)
theorem not_eq (k : Nat) (a : S23) : logic_Not k a = some (notR a) := by
  unfold logic_Not notR
  rw [truth_eq, some_bind]
  by_cases hg : good a = true
  case neg => rw [tr_bad hg]; rfl
  rcases tr_cases hg with ⟨ha, _⟩ | ⟨ha, _⟩ | ⟨ha, _⟩ | ⟨ha, _⟩ <;> rw [ha] <;> rfl
def joinR (op : Int) (a b : S23) : S23 × Int := if (tr a).2 = 0 ∧ (tr b).2 = 0 then (ansV (if op = 21 then min (tr a).1 (tr b).1 else max (tr a).1 (tr b).1), 0) else (vnull, 4)
def joinA (op : Int) (a b : S23) : S23 × Int := if good a = true ∧ good b = true then joinR op a b else (vnull, 1)
theorem all_two (k : Nat) (a b : S23) (hk : 3 ≤ k) : value_All k [a, b] = some (good a && good b) := by
  rw [all_eq k [a, b] (by simp) (by simp; omega)]; simp
theorem join_eq (k : Nat) (op : Int) (ho : op = 21 ∨ op = 22) (a b : S23) (hk : 3 ≤ k) : logic_Join k op a b = some (joinA op a b) := by
  have j3 : good a = true → good b = true → logic_Join_j3 k (fun t7 t6 => some (t6, t7)) op a b (⟨0, 0, ByteArray.empty⟩ : S23) = some (joinR op a b) := by
    intro ga gb
    unfold logic_Join_j3 joinR
    rw [truth_eq, truth_eq]
    rcases ho with rfl | rfl <;>
    rcases tr_cases ga with ⟨ha, _⟩ | ⟨ha, _⟩ | ⟨ha, _⟩ | ⟨ha, _⟩ <;> rcases tr_cases gb with ⟨hb, _⟩ | ⟨hb, _⟩ | ⟨hb, _⟩ | ⟨hb, _⟩ <;> rw [ha, hb] <;> rfl
  unfold logic_Join joinA
  rw [all_two k a b hk]
  by_cases hg : good a = true ∧ good b = true
  · rw [if_pos hg, hg.1, hg.2]
    have := j3 hg.1 hg.2
    rcases ho with rfl | rfl <;> exact this
  · have : (good a && good b) = false := by cases h1 : good a <;> cases h2 : good b <;> simp_all
    rw [if_neg hg, this]
    rcases ho with rfl | rfl <;> rfl
theorem join_none (k : Nat) (op : Int) (ho : ¬ (op = 21 ∨ op = 22)) (a b : S23) : logic_Join k op a b = some (vnull, 1) := by
  unfold logic_Join
  rw [show (op != 21) = true by simp; omega, show (op != 22) = true by simp; omega]
  rfl
def cmpB (op c : Int) : Bool := if op = 15 then c == 0 else if op = 16 then c != 0 else if op = 17 then decide (c < 0) else if op = 18 then decide (c ≤ 0) else if op = 19 then decide (c > 0) else decide (c ≥ 0)
def testR (op : Int) (a b : S23) : S23 := if a.f0 = 0 ∨ b.f0 = 0 then vnull else vtruth (cmpB op (vcmp a b))
def testA (op : Int) (a b : S23) : S23 × Int := if good a = true ∧ good b = true then (testR op a b, 0) else (vnull, 1)
theorem size_of_good {a : S23} (h : good a = true) : a.f2.size ≤ 4096 := by
  have := good_says h; omega
theorem test_eq (k : Nat) (op : Int) (h1 : 15 ≤ op) (h2 : op ≤ 20) (a b : S23) (hk : 4097 ≤ k) : logic_Test k op a b = some (testA op a b) := by
  unfold logic_Test testA
  rw [all_two k a b (by omega)]
  simp only [bif_ite, decide_eq_true_eq, show ¬ (op < 15) by omega, show ¬ (op > 20) by omega, if_false, some_bind, Bool.not_eq_true', Bool.and_eq_false_iff]
  by_cases hg : good a = true ∧ good b = true
  case neg =>
    rw [if_neg hg, if_pos (by cases h1 : good a <;> cases h2 : good b <;> simp_all)]; rfl
  rw [if_pos hg, if_neg (by rw [hg.1, hg.2]; simp)]
  have hs := size_of_good hg.1
  unfold logic_Test_j3 logic_Test_j5 testR cmpB
  rw [order_eq k a b (by omega) (by omega)]
  simp only [bif_ite, beq_iff_eq, some_bind, said_eq]
  by_cases a0 : a.f0 = 0
  · simp only [a0, if_true, true_or]; rfl
  by_cases b0 : b.f0 = 0
  · simp only [a0, b0, if_true, if_false, or_true]; rfl
  simp only [a0, b0, if_false, or_self]
  repeat' split
  all_goals rfl
theorem test_none (k : Nat) (op : Int) (ho : ¬ (15 ≤ op ∧ op ≤ 20)) (a b : S23) : logic_Test k op a b = some (vnull, 1) := by
  unfold logic_Test
  simp only [bif_ite, decide_eq_true_eq]
  by_cases h : op < 15
  · rw [if_pos h]; rfl
  · rw [if_neg h, if_pos (by omega)]; rfl
theorem null_eq (k : Nat) (op : Int) (v : S23) (ho : op = 5 ∨ op = 6) (gv : good v = true) : logic_Null k op v = some (vtruth ((v.f0 == 0) == (op == 5)), 0) := by
  unfold logic_Null
  rcases ho with rfl | rfl <;> simp [good_eq, gv, said_eq]
theorem null_bad (k : Nat) (op : Int) (v : S23) (h : ¬ (good v = true ∧ (op = 5 ∨ op = 6))) : logic_Null k op v = some (vnull, 1) := by
  unfold logic_Null
  by_cases h5 : op = 5
  · have : good v = false := by rw [Bool.eq_false_iff]; intro e; exact h ⟨e, .inl h5⟩
    simp [h5, good_eq, this]; rfl
  by_cases h6 : op = 6
  · have : good v = false := by rw [Bool.eq_false_iff]; intro e; exact h ⟨e, .inr h6⟩
    simp [h6, good_eq, this]; rfl
  · rw [show (op != 5) = true by simpa using h5, show (op != 6) = true by simpa using h6]; rfl
theorem null_iff {v : S23} (gv : good v = true) : v.f0 = 0 ↔ v = vnull := by
  constructor
  · intro h
    unfold good at gv
    rw [if_pos h] at gv
    simp only [Bool.and_eq_true, decide_eq_true_eq] at gv
    cases v
    simp only at h gv
    rw [h, gv.1, empty_of_size gv.2]; rfl
  · intro h; rw [h]; rfl
end Go.Proofs.YtnoeedkbadoogaaDoor.E
