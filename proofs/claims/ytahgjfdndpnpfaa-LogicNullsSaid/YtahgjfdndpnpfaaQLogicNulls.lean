/-
  cadastre/cadastrelaw3.LogicNulls: what its printed function answers is true, for every list. No condition beyond the numbers' own bounds.
-/
import Derived.Test.YtahgjfdndpnpfaaTOk
import Derived.Test.YtahgjfdndpnpfaaTVal
namespace Go.Proofs.Ytahgjfdndpnpfaa.T
open Go Go.AX

def vtruth (b : Bool) : S23 := vint (if b then 1 else 0)
theorem said_eq (k : Nat) (b : Bool) : logic_said k b = some (vtruth b) := by
  cases b <;> rfl
theorem null_eq (k : Nat) (op : Int) (v : S23) (ho : op = 5 ∨ op = 6) (gv : good v = true) : logic_Null k op v = some (vtruth ((v.f0 == 0) == (op == 5)), 0) := by
  unfold logic_Null
  rcases ho with rfl | rfl <;> simp [good_eq, gv, said_eq]
theorem null_iff {v : S23} (gv : good v = true) : v.f0 = 0 ↔ v = vnull := by
  constructor
  · intro h
    unfold good at gv
    rw [if_pos h] at gv
    simp only [Bool.and_eq_true, decide_eq_true_eq] at gv
    cases v
    simp only at h gv
    rw [h, gv.1, empty_of_size gv.2]; rfl
  · intro h; rw [h]; rfl
theorem test_null (k : Nat) (op : Int) (a b : S23) (hk : 3 ≤ k) (h1 : 15 ≤ op) (h2 : op ≤ 20) (ga : good a = true) (gb : good b = true) (h : a.f0 = 0 ∨ b.f0 = 0) : logic_Test k op a b = some (vnull, 0) := by
  unfold logic_Test
  rw [all_eq k [a, b] (by simp) (by simp; omega)]
  simp only [bif_ite, decide_eq_true_eq, show ¬ (op < 15) by omega, show ¬ (op > 20) by omega, if_false, some_bind, List.all_cons, List.all_nil, ga, gb, Bool.and_true, Bool.not_true, Bool.false_eq_true]
  unfold logic_Test_j3
  simp only [bif_ite, beq_iff_eq]
  by_cases a0 : a.f0 = 0
  · simp only [a0, if_true]; rfl
  · simp only [a0, if_false, h.resolve_left a0, if_true]; rfl
theorem wakes3 (k : Nat) (hk : 3 ≤ k) : cadastrelaw3_wakes k = some true := by
  unfold cadastrelaw3_wakes logic_Join logic_Join_j3
  rw [all_eq k _ (by decide) (by simp; omega)]
  kernel_rfl

section
variable {ρ : Type} {k : Nat} (hk : 22 ≤ k) (l : List S25) (i : Int) {a : S23} (ga : good a = true)
include hk ga
theorem l14_step (kret : Bool → Option ρ) (kexit : List S25 → Int → Option ρ) (rec : List S25 → Int → Int → S23 → Option ρ) (op : Nat) (h1 : 15 ≤ op) (h2 : op ≤ 20) :
    cadastrelaw3_LogicNulls_l14_b k kret kexit rec l i op a = rec l i ((op + 1 : Nat) : Int) a := by
  unfold cadastrelaw3_LogicNulls_l14_b
  rw [show decide ((op : Int) ≤ 20) = true by simp; omega, cond_true]
  have g0 : good (⟨0, 0, ByteArray.empty⟩ : S23) = true := by decide +kernel
  rw [test_null k op _ _ (by omega) (by omega) (by omega) ga g0 (.inr rfl), some_bind, test_null k op _ _ (by omega) (by omega) (by omega) g0 ga (.inl rfl), some_bind]
  rw [w64n (by omega)]
  rfl
theorem l14_all (kret : Bool → Option ρ) (kexit : List S25 → Int → Option ρ) : ∀ (d op n : Nat), op + d = 21 → 15 ≤ op → d < n → cadastrelaw3_LogicNulls_l14 k kret kexit n l i op a = kexit l i
  | 0, op, n + 1, ho, _, _ => by
    obtain rfl : op = 21 := by omega
    rfl
  | d + 1, op, n + 1, ho, h1, hn => by
    refine Eq.trans (l14_step hk l i ga kret kexit _ op h1 (by omega)) ?_
    exact l14_all kret kexit d (op + 1) n (by omega) (by omega) (by omega)
end

theorem nj4_ok {ρ : Type} {k : Nat} (hk : 22 ≤ k) (l : List S25) (i : Nat) (hi : i < l.length) (hn : l.length ≤ 9223372036854775807) (kret : Bool → Option ρ) (knxt : List S25 → Int → Option ρ) :
    cadastrelaw3_LogicNulls_j4 k knxt kret l i = knxt l ((i + 1 : Nat) : Int) := by
  unfold cadastrelaw3_LogicNulls_j4
  rw [chk_pos (by omega)]
  simp only [Int.toNat_natCast, w64n (show i < 9223372036854775807 by omega)]
  generalize l.getD i default = p at *
  rw [may_eq, some_bind]
  by_cases ga : good p.f0 = true
  case neg => simp [ga]
  rw [ga, Bool.not_true, cond_false, null_eq k 5 _ (.inl rfl) ga, some_bind, null_eq k 6 _ (.inr rfl) ga, some_bind]
  have e5 : ((5 : Int) == 5) = true := rfl
  have e6 : ((6 : Int) == 5) = false := rfl
  have r : ∀ k', knxt l ((i + 1 : Nat) : Int) = k' → cadastrelaw3_LogicNulls_j13 k kret (fun l0 i3 => knxt l0 (IntKind.i64.wrap (i3 + 1))) l i p.f0 = k' := by
    intro k' hk'
    unfold cadastrelaw3_LogicNulls_j13
    rw [← hk', show (15 : Int) = ((15 : Nat) : Int) by rfl, l14_all hk l i ga kret _ 6 15 k (by omega) (by omega) (by omega), w64n (by omega)]
  have r := r _ rfl
  simp only [cadastreref2_Int, cadastrelaw3_num, some_bind, bne_self_eq_false, cond_false, e5, e6, r]
  by_cases h0 : p.f0.f0 = 0
  · have hp := (null_iff ga).1 h0
    have en : ((p.f0.f0 == 0) && ((p.f0.f1 == 0) && (p.f0.f2 == ByteArray.empty))) = true := (isnull_iff _).2 hp
    simp only [en, cond_true, Bool.not_true, cond_false]
    rw [h0]
    rfl
  · have en : ((p.f0.f0 == 0) && ((p.f0.f1 == 0) && (p.f0.f2 == ByteArray.empty))) = false := by
      rw [Bool.eq_false_iff]; intro h; exact h0 ((null_iff ga).2 ((isnull_iff _).1 h))
    have e0 : (p.f0.f0 == 0) = false := by simpa using h0
    simp only [en, cond_false, Bool.not_false, cond_true]
    rw [e0]
    rfl

theorem nl2_ok {ρ : Type} {k : Nat} (hk : 22 ≤ k) (l : List S25) (hn : l.length ≤ 9223372036854775807) (kret : Bool → Option ρ) (kexit : Option ρ) :
    ∀ (d i n : Nat), i + d = l.length → d < n → cadastrelaw3_LogicNulls_l2 k kret kexit n l i = kexit
  | 0, i, n + 1, hi, _ => by
    simp only [cadastrelaw3_LogicNulls_l2, cadastrelaw3_LogicNulls_l2_b]
    rw [show decide ((i : Int) < (l.length : Int)) = false by simp; omega, cond_false]
  | d + 1, i, n + 1, hi, hlt => by
    simp only [cadastrelaw3_LogicNulls_l2, cadastrelaw3_LogicNulls_l2_b]
    rw [show decide ((i : Int) < (l.length : Int)) = true by simp; omega, cond_true]
    by_cases h30 : (i : Int) < 30
    · rw [decide_eq_true h30, cond_true]
      refine Eq.trans (nj4_ok hk l i (by omega) hn kret _) ?_
      exact nl2_ok hk l hn kret kexit d (i + 1) n (by omega) (by omega)
    · rw [decide_eq_false h30, cond_false]

theorem LogicNulls_pure : ∀ l : List S25, (l.length * 72 ≤ 140737488351232 ∧ l.length ≤ 9223372036854775807 ∧ ∀ y ∈ l, (ok25 y)) → ∃ k, cadastrelaw3_LogicNulls k l = some true := by
  rintro l ⟨-, hn, -⟩
  refine ⟨l.length + 22, ?_⟩
  unfold cadastrelaw3_LogicNulls
  refine Eq.trans (nl2_ok (by omega) l hn _ _ l.length 0 (l.length + 22) (by omega) (by omega)) ?_
  rw [wakes3 _ (by omega)]; rfl
end Go.Proofs.Ytahgjfdndpnpfaa.T
