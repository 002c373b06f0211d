/-
  cadastre/cadastrelaw24.VmExact: what its printed function answers is true, for every list. No condition beyond the numbers' own bounds.
-/
import Derived.Test.YtjkgphpmdkbpfaaDoorVOk
import Derived.Test.YtjkgphpmdkbpfaaDoorVVm
namespace Go.Proofs.YtjkgphpmdkbpfaaDoor.V
open Go Go.AX

theorem inl_of {p : S25} (h : ok25 p) (h2 : p.f1.length ≤ 200) : inl p.f0 p.f1 := by
  unfold ok25 at h
  exact ⟨fun c hc => inr_iff.2 (h.1.2.2 c hc).2.2.2.2.1.2.1, fun v hv => inr_iff.2 (h.2.1.2.2 v hv).2.1, h2⟩
theorem wakes_eq (k : Nat) (hk : 4097 ≤ k) : cadastrelaw24_wakes k = some true := by
  unfold cadastrelaw24_wakes
  rw [run_eq k hk _ _ 5 ⟨by intro c hc; simp at hc; rcases hc with rfl | rfl <;> decide, by simp, by simp⟩ (by omega)]
  rfl
theorem same_self (v : S29) : (!((v.f0 == v.f0) && ((v.f1 == v.f1) && (v.f2 == v.f2)))) = false := by simp
theorem one_ask (k : Nat) (hk : 4097 ≤ k) (l : List S25) (i : Nat) (hi : i < l.length) (hl : l.length ≤ 9223372036854775806) (h : ok25 (l.getD i default)) (kn : List S25 → Int → Option Bool) :
    cadastrelaw24_VmExact_j4 k (fun t => some t) kn l (i : Int) = some true ∨ cadastrelaw24_VmExact_j4 k (fun t => some t) kn l (i : Int) = kn l ((i + 1 : Nat) : Int) := by
  unfold cadastrelaw24_VmExact_j4
  rw [chk_pos (by omega), show ((i : Int)).toNat = i from rfl]
  generalize l.getD i default = p at h ⊢
  obtain ⟨b, hb, hp⟩ := heavy_eq k p (by omega)
  rw [hb, some_bind]
  cases b
  case true => exact .inl rfl
  obtain ⟨hp1, hp2, hp3⟩ := hp rfl
  have hin := inl_of h hp2
  right
  have h14 : ∀ (kn : List S25 → Int → Option Bool), cadastrelaw24_VmExact_j14 k (fun t => some t) kn l (i : Int) (if okc p.f0 p.f3 = true then 0 else 1) (runS p.f0 p.f1 p.f2).2 p (runS p.f0 p.f1 p.f2).1 = kn l (i : Int) := by
    intro kn
    unfold cadastrelaw24_VmExact_j14 cadastrelaw24_num
    rw [copy_eq k _ hp1 (by omega), some_bind, run_eq k hk _ _ _ hin (by omega), some_bind, check_eq k _ _ (by omega), some_bind, some_bind, bne_self_eq_false, Bool.cond_false, some_bind, bne_self_eq_false, Bool.cond_false, same_self, Bool.cond_false, eqcodes_eq k _ hp1 (by omega)]
    rfl
  have h10 : ∀ (kn : List S25 → Int → Option Bool), cadastrelaw24_VmExact_j10 k (fun t => some t) kn l (i : Int) (if okc p.f0 p.f3 = true then 0 else 1) p = kn l (i : Int) := by
    intro kn
    have h14' := h14 kn
    unfold cadastrelaw24_VmExact_j10 cadastrelaw24_VmExact_j13
    rw [rcode_eq k _ _ (by omega), some_bind, rall_eq k _ (by omega) (by omega), some_bind]
    by_cases h1 : okc p.f0 p.f1.length = true
    case neg =>
      have hr : runS p.f0 p.f1 p.f2 = (vnull, 1) := by unfold runS; rw [if_neg (fun h => h1 h.1)]
      rw [hr] at h14'
      rw [Bool.eq_false_iff.2 h1, Bool.cond_false]; exact h14'
    by_cases h2 : p.f1.all good = true
    case neg =>
      have hr : runS p.f0 p.f1 p.f2 = (vnull, 1) := by unfold runS; rw [if_neg (fun h => h2 h.2.1)]
      rw [hr] at h14'
      rw [h1, Bool.eq_false_iff.2 h2, Bool.cond_true, Bool.cond_false]; exact h14'
    by_cases h3 : 0 ≤ p.f2
    case neg =>
      have hr : runS p.f0 p.f1 p.f2 = (vnull, 1) := by unfold runS; rw [if_neg (fun h => h3 h.2.2)]
      rw [hr] at h14'
      rw [h1, h2, decide_eq_false (show ¬ p.f2 ≥ 0 by omega), Bool.cond_true, Bool.cond_true, Bool.cond_false]; exact h14'
    rw [h1, h2, decide_eq_true (show p.f2 ≥ 0 by omega), Bool.cond_true, Bool.cond_true, Bool.cond_true, rrun_eq k hk _ _ _ hin (by omega) h1 h2 h3, some_bind]
    exact h14'
  rw [rcode_eq k _ _ (by omega), some_bind, Bool.cond_false]
  by_cases h1 : okc p.f0 p.f3 = true
  · have := h10 (fun l0 i3 => kn l0 (IntKind.i64.wrap (i3 + 1)))
    rw [if_pos h1] at this
    rw [h1, Bool.cond_true]; exact this.trans (congrArg (kn l) (w64n (by omega)))
  · have := h10 (fun l0 i3 => kn l0 (IntKind.i64.wrap (i3 + 1)))
    rw [if_neg h1] at this
    rw [Bool.eq_false_iff.2 h1, Bool.cond_false]; exact this.trans (congrArg (kn l) (w64n (by omega)))
theorem VmExact_pure : ∀ l : List S25, (l.length * 64 ≤ 140737488351232 ∧ l.length ≤ 9223372036854775807 ∧ ∀ y ∈ l, (ok25 y)) → ∃ k, cadastrelaw24_VmExact k l = some true := by
  intro l hl
  refine ⟨5000, ?_⟩
  unfold cadastrelaw24_VmExact
  rw [wakes_eq 5000 (by omega)]
  suffices H : ∀ (d i n : Nat), i + d = 9 → d < n → cadastrelaw24_VmExact_l2 5000 (fun t => some t) ((some true).bind fun r => some r) n l (i : Int) = some true by
    exact H 9 0 5000 (by omega) (by omega)
  intro d
  induction d with
  | zero =>
    intro i n hi hn
    obtain ⟨n, rfl⟩ : ∃ m, n = m + 1 := ⟨n - 1, by omega⟩
    simp only [cadastrelaw24_VmExact_l2, cadastrelaw24_VmExact_l2_b]
    rw [decide_eq_false (show ¬ (i : Int) < 8 by omega)]
    cases decide ((i : Int) < (l.length : Int)) <;> rfl
  | succ d ih =>
    intro i n hi hn
    obtain ⟨n, rfl⟩ : ∃ m, n = m + 1 := ⟨n - 1, by omega⟩
    simp only [cadastrelaw24_VmExact_l2, cadastrelaw24_VmExact_l2_b]
    by_cases h1 : (i : Int) < (l.length : Int)
    case neg => rw [decide_eq_false h1]; rfl
    by_cases h2 : (i : Int) < 8
    case neg => rw [decide_eq_true h1, decide_eq_false h2]; rfl
    rw [decide_eq_true h1, decide_eq_true h2, cond_true, cond_true]
    rcases one_ask 5000 (by omega) l i (by omega) (by omega) (hl.2.2 _ (getD_mem (by omega))) (cadastrelaw24_VmExact_l2 5000 (fun t => some t) ((some true).bind fun r => some r) n) with h | h
    · exact h
    · exact h.trans (ih (i + 1) n (by omega) (by omega))
end Go.Proofs.YtjkgphpmdkbpfaaDoor.V
