/-
  cadastre/cadastrelaw24.VmSteps: what its printed function answers is true, for every list. No condition beyond the numbers' own bounds.
-/
import Derived.Test.YtjkgphpmdkbpfaaDoorVOk
import Derived.Test.YtjkgphpmdkbpfaaDoorVVm
namespace Go.Proofs.YtjkgphpmdkbpfaaDoor.V
open Go Go.AX

theorem inl_of' {p : S25} (h : ok25 p) (h2 : p.f1.length ≤ 200) : inl p.f0 p.f1 := by
  unfold ok25 at h
  exact ⟨fun c hc => inr_iff.2 (h.1.2.2 c hc).2.2.2.2.1.2.1, fun v hv => inr_iff.2 (h.2.1.2.2 v hv).2.1, h2⟩
theorem wakes_eq' (k : Nat) (hk : 4097 ≤ k) : cadastrelaw24_wakes k = some true := by
  unfold cadastrelaw24_wakes
  rw [run_eq k hk _ _ 5 ⟨by intro c hc; simp at hc; rcases hc with rfl | rfl <;> decide, by simp, by simp⟩ (by omega)]
  rfl
theorem same_self' (v : S29) : (!((v.f0 == v.f0) && ((v.f1 == v.f1) && (v.f2 == v.f2)))) = false := by simp
/-- Code that goes round and round tells nothing, however many steps it has. -/
theorem go_round : ∀ (r : Nat) (rs : List S29), go [(⟨5, 0, 0, 0, (⟨0, 0, ByteArray.empty⟩ : S29), 0⟩ : S43)] [] r 0 rs = (vnull, 7)
  | 0, rs => go_none (by simp) rs
  | r + 1, rs => by
    unfold go
    exact go_round r rs
theorem runs_round : runS [(⟨5, 0, 0, 0, (⟨0, 0, ByteArray.empty⟩ : S29), 0⟩ : S43)] [] 500 = (vnull, 7) := by
  unfold runS
  rw [if_pos ⟨by decide +kernel, rfl, by omega⟩]
  exact go_round _ _
theorem more_eq {l : List S43} {row : List S29} {n : Int} (hn : 0 ≤ n) (h7 : (runS l row n).2 ≠ 7) (h1 : (runS l row n).2 ≠ 1) : runS l row (n + 100) = runS l row n := by
  unfold runS at h7 h1 ⊢
  by_cases h : okc l row.length = true ∧ row.all good = true ∧ 0 ≤ n
  case neg => rw [if_neg h] at h1; exact absurd rfl h1
  rw [if_pos h] at h7 ⊢
  rw [if_pos ⟨h.1, h.2.1, by omega⟩, show (n + 100).toNat = n.toNat + 100 by omega, go_more _ _ _ _ _ _ h7]
theorem one_ask' (k : Nat) (hk : 4097 ≤ k) (l : List S25) (i : Nat) (hi : i < l.length) (hl : l.length ≤ 9223372036854775806) (h : ok25 (l.getD i default)) (kn : List S25 → Int → Option Bool) :
    cadastrelaw24_VmSteps_j4 k (fun t => some t) kn l (i : Int) = some true ∨ cadastrelaw24_VmSteps_j4 k (fun t => some t) kn l (i : Int) = kn l ((i + 1 : Nat) : Int) := by
  unfold cadastrelaw24_VmSteps_j4
  rw [chk_pos (by omega), show ((i : Int)).toNat = i from rfl]
  generalize l.getD i default = p at h ⊢
  obtain ⟨b, hb, hp⟩ := heavy_eq k p (by omega)
  rw [hb, some_bind]
  cases b
  case true => exact .inl rfl
  obtain ⟨hp1, hp2, hp3⟩ := hp rfl
  have hin := inl_of' h hp2
  right
  rw [Bool.cond_false]
  have hn : 0 ≤ (if p.f2 > (0 : Int) then p.f2 else (0 : Int)) ∧ (if p.f2 > (0 : Int) then p.f2 else (0 : Int)) ≤ 3000 := by split <;> omega
  generalize (if p.f2 > (0 : Int) then p.f2 else (0 : Int)) = n at hn ⊢
  dsimp only
  rw [run_eq k hk _ _ n hin (by omega), some_bind, some_bind]
  unfold cadastrelaw24_num
  rw [some_bind, some_bind, bne_self_eq_false, Bool.cond_false, same_self', Bool.cond_false]
  unfold cadastrelaw24_VmSteps_j12 cadastrelaw24_num
  rw [some_bind, some_bind]
  have hw : kn l (IntKind.i64.wrap ((i : Int) + 1)) = kn l ((i + 1 : Nat) : Int) := congrArg (kn l) (w64n (by omega))
  by_cases h7 : (runS p.f0 p.f1 n).2 = 7
  · rw [h7]; exact hw
  by_cases h1 : (runS p.f0 p.f1 n).2 = 1
  · rw [h1]; exact hw
  rw [beq_eq_false_iff_ne.2 h7, beq_eq_false_iff_ne.2 h1, Bool.cond_false, Bool.cond_false]
  unfold cadastrelaw24_VmSteps_j13 cadastrelaw24_num
  rw [w64 (by omega) (by omega), run_eq k hk _ _ (n + 100) hin (by omega), some_bind, more_eq hn.1 h7 h1, some_bind, some_bind, bne_self_eq_false, Bool.cond_false, same_self', Bool.cond_false]
  exact hw
theorem VmSteps_pure : ∀ l : List S25, (l.length * 64 ≤ 140737488351232 ∧ l.length ≤ 9223372036854775807 ∧ ∀ y ∈ l, (ok25 y)) → ∃ k, cadastrelaw24_VmSteps k l = some true := by
  intro l hl
  refine ⟨5000, ?_⟩
  have hend : ((vm_Run 5000 [(⟨5, 0, 0, 0, (⟨0, 0, ByteArray.empty⟩ : S29), 0⟩ : S43)] [] 500).bind fun r_26 =>
      (cadastreref2_Int 5000 5).bind fun r_27 =>
      (vm_Run 5000 [(⟨1, 255, 0, 0, r_27, 0⟩ : S43), (⟨8, 255, 0, 0, (⟨0, 0, ByteArray.empty⟩ : S29), 0⟩ : S43)] [] 2).bind fun r_28 =>
      (cadastrelaw24_num 5000 r_26.2).bind fun r_29 =>
      bif (r_29 == 7) then
      (cadastrelaw24_num 5000 r_28.2).bind fun r_30 =>
      bif (r_30 == 0) then
      (cadastreref2_Int 5000 5).bind fun r_31 =>
      let v_32 : Bool := ((r_28.1.f0 == r_31.f0) && ((r_28.1.f1 == r_31.f1) && (r_28.1.f2 == r_31.f2)))
      bif v_32 then
      (cadastrelaw24_wakes 5000).bind fun r_33 =>
      some r_33
      else
      some false
      else
      some false
      else
      some false) = some true := by
    rw [run_eq 5000 (by omega) _ _ 500 ⟨by intro c hc; simp at hc; rcases hc with rfl; decide, by simp, by simp⟩ (by omega), some_bind, runs_round]
    unfold cadastreref2_Int cadastrelaw24_num
    rw [some_bind, run_eq 5000 (by omega) _ _ 2 ⟨by intro c hc; simp at hc; rcases hc with rfl | rfl <;> decide, by simp, by simp⟩ (by omega), some_bind, wakes_eq' 5000 (by omega)]
    rfl
  unfold cadastrelaw24_VmSteps
  rw [hend]
  suffices H : ∀ (d i n : Nat), i + d = 9 → d < n → cadastrelaw24_VmSteps_l2 5000 (fun t => some t) (some true) n l (i : Int) = some true by
    exact H 9 0 5000 (by omega) (by omega)
  intro d
  induction d with
  | zero =>
    intro i n hi hn
    obtain ⟨n, rfl⟩ : ∃ m, n = m + 1 := ⟨n - 1, by omega⟩
    simp only [cadastrelaw24_VmSteps_l2, cadastrelaw24_VmSteps_l2_b]
    rw [decide_eq_false (show ¬ (i : Int) < 8 by omega)]
    cases decide ((i : Int) < (l.length : Int)) <;> rfl
  | succ d ih =>
    intro i n hi hn
    obtain ⟨n, rfl⟩ : ∃ m, n = m + 1 := ⟨n - 1, by omega⟩
    simp only [cadastrelaw24_VmSteps_l2, cadastrelaw24_VmSteps_l2_b]
    by_cases h1 : (i : Int) < (l.length : Int)
    case neg => rw [decide_eq_false h1]; rfl
    by_cases h2 : (i : Int) < 8
    case neg => rw [decide_eq_true h1, decide_eq_false h2]; rfl
    rw [decide_eq_true h1, decide_eq_true h2, cond_true, cond_true]
    rcases one_ask' 5000 (by omega) l i (by omega) (by omega) (hl.2.2 _ (getD_mem (by omega))) (cadastrelaw24_VmSteps_l2 5000 (fun t => some t) (some true) n) with h | h
    · exact h
    · exact h.trans (ih (i + 1) n (by omega) (by omega))
end Go.Proofs.YtjkgphpmdkbpfaaDoor.V
