/-
  cadastre/cadastrelaw3.LogicExact: what its printed function answers is true, for every list. No condition beyond the numbers' own bounds.
-/
import Derived.Test.YtahgjfdndpnpfaaTOk
import Derived.Test.YtahgjfdndpnpfaaTLog
namespace Go.Proofs.Ytahgjfdndpnpfaa.T
open Go Go.AX

section
variable {ρ : Type} {k : Nat} (l : List S25) (i : Int) (p : S25) (kret : Bool → Option ρ) (knxt : List S25 → Int → Option ρ)
/-- The last four checks: what the page said must be what the program says. -/
theorem ej26 {n : S23 × Int} {j : S23 × Int} {s : S23 × Int} {u : S23 × Int} (hn : logic_Not k p.f0 = some n) (hj : logic_Join k p.f2 p.f0 p.f1 = some j) (hs : logic_Test k p.f2 p.f0 p.f1 = some s) (hu : logic_Null k p.f2 p.f0 = some u) :
    cadastrelaw3_LogicExact_j26 k kret knxt l i n.2 j.2 s.2 u.2 p n.1 j.1 s.1 u.1 = knxt l i := by
  unfold cadastrelaw3_LogicExact_j26
  rw [hn, some_bind, is_same, some_bind, hj, some_bind, is_same, some_bind, hs, some_bind, is_same, some_bind, hu, some_bind, is_same, some_bind]
  rfl
theorem ej23 {t : Bool × Int} {n : S23 × Int} {j : S23 × Int} {s : S23 × Int} {u : S23 × Int} (ht : logic_True k p.f0 = some t) (hn : logic_Not k p.f0 = some n) (hj : logic_Join k p.f2 p.f0 p.f1 = some j) (hs : logic_Test k p.f2 p.f0 p.f1 = some s) (hu : logic_Null k p.f2 p.f0 = some u) :
    cadastrelaw3_LogicExact_j23 k kret knxt l i t.2 n.2 j.2 s.2 u.2 t.1 p n.1 j.1 s.1 u.1 = knxt l i := by
  unfold cadastrelaw3_LogicExact_j23
  rw [ht, some_bind, cadastrelaw3_num, some_bind, ej26 l i p kret knxt hn hj hs hu]
  simp
theorem ej21 (one : Bool) (ho : one = good p.f0) {t : Bool × Int} {n : S23 × Int} {j : S23 × Int} {s : S23 × Int} (ht : logic_True k p.f0 = some t) (hn : logic_Not k p.f0 = some n) (hj : logic_Join k p.f2 p.f0 p.f1 = some j) (hs : logic_Test k p.f2 p.f0 p.f1 = some s) :
    cadastrelaw3_LogicExact_j21 k kret knxt l i one t.2 n.2 j.2 s.2 1 t.1 p n.1 j.1 s.1 vnull = knxt l i := by
  unfold cadastrelaw3_LogicExact_j21
  by_cases hg : good p.f0 = true ∧ (p.f2 = 5 ∨ p.f2 = 6)
  · have hu := null_eq k p.f2 p.f0 hg.2 hg.1
    have e := ej23 l i p kret knxt ht hn hj hs hu
    rw [rnull_eq, some_bind, ho, hg.1, cond_true]
    simp only at e
    rw [e]
    rcases hg.2 with h | h <;> simp [h]
  · have hu := null_bad k p.f2 p.f0 hg
    have e := ej23 l i p kret knxt ht hn hj hs hu
    simp only at e
    rw [e]
    subst ho
    cases h : good p.f0 with
    | false => rfl
    | true =>
      rw [show (p.f2 == 5) = false by simp; intro q; exact hg ⟨h, .inl q⟩, show (p.f2 == 6) = false by simp; intro q; exact hg ⟨h, .inr q⟩]
      rfl
theorem ej19 (hk : 4097 ≤ k) (one two : Bool) (ho : one = good p.f0) (h2 : two = (good p.f0 && good p.f1)) {t : Bool × Int} {n : S23 × Int} {j : S23 × Int} (ht : logic_True k p.f0 = some t) (hn : logic_Not k p.f0 = some n) (hj : logic_Join k p.f2 p.f0 p.f1 = some j) :
    cadastrelaw3_LogicExact_j19 k kret knxt l i one two t.2 n.2 j.2 1 1 t.1 p n.1 j.1 vnull vnull = knxt l i := by
  unfold cadastrelaw3_LogicExact_j19
  subst h2
  by_cases hr : 15 ≤ p.f2 ∧ p.f2 ≤ 20
  · have hs := test_eq k p.f2 hr.1 hr.2 p.f0 p.f1 hk
    have e := ej21 l i p kret knxt one ho ht hn hj hs
    rw [show decide (p.f2 ≥ 15) = true by simp; omega, show decide (p.f2 ≤ 20) = true by simp; omega, cond_true, cond_true]
    unfold testA at e
    by_cases hg : good p.f0 = true ∧ good p.f1 = true
    · rw [rtest_eq k _ _ _ hg.1 hg.2, some_bind, hg.1, hg.2]
      rw [if_pos hg] at e
      exact e
    · rw [if_neg hg] at e
      have : (good p.f0 && good p.f1) = false := by cases h1 : good p.f0 <;> cases h2 : good p.f1 <;> simp_all
      rw [this, cond_false]
      exact e
  · have hs := test_none k p.f2 hr p.f0 p.f1
    have e := ej21 l i p kret knxt one ho ht hn hj hs
    simp only at e
    rw [e]
    cases (good p.f0 && good p.f1) with
    | false => rfl
    | true =>
      by_cases h : 15 ≤ p.f2
      · rw [show decide (p.f2 ≥ 15) = true by simp; omega, show decide (p.f2 ≤ 20) = false by simp; omega]; rfl
      · rw [show decide (p.f2 ≥ 15) = false by simp; omega]; rfl
theorem ej17 (hk : 4097 ≤ k) (one two : Bool) (ho : one = good p.f0) (h2 : two = (good p.f0 && good p.f1)) {t : Bool × Int} {n : S23 × Int} (ht : logic_True k p.f0 = some t) (hn : logic_Not k p.f0 = some n) :
    cadastrelaw3_LogicExact_j17 k kret knxt l i one two t.2 n.2 1 1 1 t.1 p n.1 vnull vnull vnull = knxt l i := by
  unfold cadastrelaw3_LogicExact_j17 cadastrelaw3_LogicExact_j18
  have h2' := h2
  subst h2'
  by_cases hr : p.f2 = 21 ∨ p.f2 = 22
  · have hj := join_eq k p.f2 hr p.f0 p.f1 (by omega)
    have e := ej19 l i p kret knxt hk one _ ho rfl ht hn hj
    unfold joinA at e
    by_cases hg : good p.f0 = true ∧ good p.f1 = true
    · rw [if_pos hg, hg.1, hg.2] at e
      rw [rjoin_eq k _ hr _ _ hg.1 hg.2, hg.1, hg.2]
      simp only [some_bind, Bool.and_self, cond_true] at e ⊢
      rw [e]
      rcases hr with h | h <;> simp [h]
    · rw [if_neg hg] at e
      have : (good p.f0 && good p.f1) = false := by cases h1 : good p.f0 <;> cases h2 : good p.f1 <;> simp_all
      rw [this] at e ⊢
      exact e
  · have hj := join_none k p.f2 hr p.f0 p.f1
    have e := ej19 l i p kret knxt hk one _ ho rfl ht hn hj
    simp only at e
    cases h : (good p.f0 && good p.f1) with
    | false => rw [h] at e; exact e
    | true =>
      rw [h] at e
      rw [show (p.f2 == 21) = false by simp; omega, show (p.f2 == 22) = false by simp; omega]
      exact e
theorem ej7 (hk : 4097 ≤ k) (one two : Bool) (ho : one = good p.f0) (h2 : two = (good p.f0 && good p.f1)) : cadastrelaw3_LogicExact_j7 k kret knxt l i one two p = knxt l i := by
  unfold cadastrelaw3_LogicExact_j7
  have ht := true_eq k p.f0
  have hn := not_eq k p.f0
  have e := ej17 l i p kret knxt hk one two ho h2 ht hn
  have h1 := ho
  subst h1
  by_cases hg : good p.f0 = true
  · rw [rtruth_eq, some_bind, some_bind, rnot_eq k _ hg, some_bind, some_bind]
    rw [hg] at e ⊢
    rw [cond_true]
    rcases tr_cases hg with ⟨ha, hr⟩ | ⟨ha, hr⟩ | ⟨ha, hr⟩ | ⟨ha, hr⟩ <;> (rw [ha] at e; rw [hr]; exact e)
  · have hf : good p.f0 = false := by simpa using hg
    have hb := tr_bad hg
    have hn1 : notR p.f0 = (vnull, 1) := by unfold notR; rw [hb]; rfl
    rw [hb, hn1, hf] at e
    rw [hf]
    exact e
end

theorem ej4 {k : Nat} {ρ : Type} (hk : 4097 ≤ k) (l : List S25) (i : Nat) (hi : i < l.length) (hn : l.length ≤ 9223372036854775807) (kret : Bool → Option ρ) (knxt : List S25 → Int → Option ρ) :
    cadastrelaw3_LogicExact_j4 k kret knxt l i = knxt l ((i + 1 : Nat) : Int) := by
  unfold cadastrelaw3_LogicExact_j4
  rw [chk_pos (by omega), Int.toNat_natCast]
  generalize l.getD i default = p
  rw [may_eq, some_bind, may_eq, some_bind]
  cases hg : good p.f0 with
  | false =>
    rw [cond_false, ej7 l i p kret _ hk false false hg.symm (by rw [hg]; rfl), w64n (by omega)]
  | true =>
    rw [cond_true, ej7 l i p kret _ hk true _ hg.symm (by rw [hg]; rfl), w64n (by omega)]

theorem el2 {k : Nat} {ρ : Type} (hk : 4097 ≤ k) (l : List S25) (hn : l.length ≤ 9223372036854775807) (kret : Bool → Option ρ) (kexit : Option ρ) :
    ∀ (d i n : Nat), i + d = l.length → d < n → cadastrelaw3_LogicExact_l2 k kret kexit n l i = kexit
  | 0, i, n + 1, hi, _ => by
    simp only [cadastrelaw3_LogicExact_l2, cadastrelaw3_LogicExact_l2_b]
    rw [show decide ((i : Int) < (l.length : Int)) = false by simp; omega, cond_false]
  | d + 1, i, n + 1, hi, hlt => by
    simp only [cadastrelaw3_LogicExact_l2, cadastrelaw3_LogicExact_l2_b]
    rw [show decide ((i : Int) < (l.length : Int)) = true by simp; omega, cond_true]
    by_cases h30 : (i : Int) < 30
    · rw [decide_eq_true h30, cond_true]
      refine Eq.trans (ej4 hk l i (by omega) hn kret _) ?_
      exact el2 hk l hn kret kexit d (i + 1) n (by omega) (by omega)
    · rw [decide_eq_false h30, cond_false]

theorem LogicExact_pure : ∀ l : List S25, (l.length * 72 ≤ 140737488351232 ∧ l.length ≤ 9223372036854775807 ∧ ∀ y ∈ l, (ok25 y)) → ∃ k, cadastrelaw3_LogicExact k l = some true := by
  rintro l ⟨-, hn, -⟩
  refine ⟨l.length + 4097, ?_⟩
  unfold cadastrelaw3_LogicExact
  refine Eq.trans (el2 (by omega) l hn _ _ l.length 0 (l.length + 4097) (by omega) (by omega)) ?_
  rw [wakes3 _ (by omega)]; rfl
end Go.Proofs.Ytahgjfdndpnpfaa.T
