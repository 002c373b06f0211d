/-
  cadastre/cadastrelaw3.LogicLaws: what its printed function answers is true, for every list. No condition beyond the numbers' own bounds.
-/
import Derived.Test.YtahgjfdndpnpfaaTOk
import Derived.Test.YtahgjfdndpnpfaaTLog
namespace Go.Proofs.Ytahgjfdndpnpfaa.T
open Go Go.AX

theorem tr_ans {t : Int} (h : t = 0 ∨ t = 1 ∨ t = 2) : tr (ansV t) = (t, 0) ∧ good (ansV t) = true := by
  rcases h with rfl | rfl | rfl <;> exact ⟨rfl, rfl⟩
theorem not_ans {t : Int} (h : t = 0 ∨ t = 1 ∨ t = 2) : notR (ansV t) = (ansV (2 - t), 0) := by
  unfold notR
  rw [(tr_ans h).1]; rfl
theorem tr_in {v : S23} (h : (tr v).2 = 0) : good v = true ∧ ((tr v).1 = 0 ∨ (tr v).1 = 1 ∨ (tr v).1 = 2) := by
  by_cases hg : good v = true
  · refine ⟨hg, ?_⟩
    rcases tr_cases hg with ⟨e, _⟩ | ⟨e, _⟩ | ⟨e, _⟩ | ⟨e, _⟩ <;> rw [e] <;> simp
  · rw [tr_bad hg] at h; simp at h
theorem joinA_comm (a b : S23) : joinA 21 a b = joinA 21 b a := by
  unfold joinA joinR
  by_cases h : good a = true ∧ good b = true
  · rw [if_pos h, if_pos h.symm]
    by_cases h2 : (tr a).2 = 0 ∧ (tr b).2 = 0
    · rw [if_pos h2, if_pos h2.symm, Int.min_comm]; rfl
    · rw [if_neg h2, if_neg (fun e => h2 e.symm)]
  · rw [if_neg h, if_neg (fun e => h e.symm)]
/-- De Morgan. -/
theorem morgan {a b : S23} (h : (joinA 21 a b).2 = 0) :
    ∃ n x y, notR (joinA 21 a b).1 = (n, 0) ∧ notR a = (x, 0) ∧ notR b = (y, 0) ∧ joinA 22 x y = (n, 0) := by
  unfold joinA at h ⊢
  by_cases hg : good a = true ∧ good b = true
  case neg => rw [if_neg hg] at h; simp at h
  rw [if_pos hg] at h ⊢
  unfold joinR at h ⊢
  by_cases h2 : (tr a).2 = 0 ∧ (tr b).2 = 0
  case neg => rw [if_neg h2] at h; simp at h
  rw [if_pos h2]
  obtain ⟨_, ha⟩ := tr_in h2.1
  obtain ⟨_, hb⟩ := tr_in h2.2
  have na : notR a = (ansV (2 - (tr a).1), 0) := by unfold notR; rw [if_pos h2.1]
  have nb : notR b = (ansV (2 - (tr b).1), 0) := by unfold notR; rw [if_pos h2.2]
  refine ⟨ansV (2 - min (tr a).1 (tr b).1), _, _, ?_, na, nb, ?_⟩
  · exact not_ans (by rcases ha with h | h | h <;> rcases hb with h' | h' | h' <;> rw [h, h'] <;> decide)
  · have ta := tr_ans (t := 2 - (tr a).1) (by rcases ha with h | h | h <;> rw [h] <;> decide)
    have tb := tr_ans (t := 2 - (tr b).1) (by rcases hb with h | h | h <;> rw [h] <;> decide)
    rw [if_pos ⟨ta.2, tb.2⟩, if_pos ⟨by rw [ta.1], by rw [tb.1]⟩, ta.1, tb.1]
    rcases ha with h | h | h <;> rcases hb with h' | h' | h' <;> rw [h, h'] <;> rfl

def opp : List Int := [16, 15, 20, 19, 18, 17]
def mir : List Int := [15, 16, 19, 20, 17, 18]
theorem tests {q : Nat} (hq : q < 6) : (15 ≤ mir.getD q 0 ∧ mir.getD q 0 ≤ 20) ∧ (15 ≤ opp.getD q 0 ∧ opp.getD q 0 ≤ 20) ∧
    ∀ c : Int, (c = -1 ∨ c = 0 ∨ c = 1) → cmpB (mir.getD q 0) (-c) = cmpB (15 + q) c ∧ cmpB (opp.getD q 0) c = !cmpB (15 + q) c := by
  have : q = 0 ∨ q = 1 ∨ q = 2 ∨ q = 3 ∨ q = 4 ∨ q = 5 := by omega
  rcases this with rfl | rfl | rfl | rfl | rfl | rfl <;> refine ⟨by decide, by decide, ?_⟩ <;> rintro c (rfl | rfl | rfl) <;> decide
theorem not_truth (b : Bool) : notR (vtruth b) = (vtruth (!b), 0) := by cases b <;> rfl
theorem tests_are (q : Nat) (hq : q < 6) (a b : S23) : testA (mir.getD q 0) b a = testA (15 + q) a b ∧ (testA (opp.getD q 0) a b).2 = (testA (15 + q) a b).2 ∧
    ((testA (15 + q) a b).2 = 0 → notR (testA (opp.getD q 0) a b).1 = ((testA (15 + q) a b).1, 0)) := by
  obtain ⟨_, _, h3⟩ := tests hq
  obtain ⟨c1, c2⟩ := h3 _ (vcmp_cases a b)
  unfold testA
  by_cases hg : good a = true ∧ good b = true
  · rw [if_pos hg, if_pos hg, if_pos hg.symm]
    unfold testR
    by_cases hz : a.f0 = 0 ∨ b.f0 = 0
    · rw [if_pos hz, if_pos hz, if_pos hz.symm]; exact ⟨rfl, rfl, fun _ => rfl⟩
    · rw [if_neg hz, if_neg hz, if_neg (fun e => hz e.symm), vcmp_neg a b, c1, c2]
      refine ⟨rfl, rfl, fun _ => ?_⟩
      rw [not_truth, Bool.not_not]
  · rw [if_neg hg, if_neg hg, if_neg (fun e => hg e.symm)]
    exact ⟨rfl, rfl, fun h => by simp at h⟩

section
variable {ρ : Type} {k : Nat}
theorem lj26 (l : List S25) (i q g : Int) (o m : List Int) (p : S25) (s u : S23) (kret : Bool → Option ρ) (knxt : List S25 → Int → Int → List Int → List Int → S25 → Option ρ) (h : g = 0 → notR u = (s, 0)) :
    cadastrelaw3_LogicLaws_j26 k kret knxt l i q g o m p s u = knxt l i q o m p := by
  unfold cadastrelaw3_LogicLaws_j26
  rw [cadastrelaw3_num, some_bind]
  by_cases hg : g = 0
  · rw [show (g == 0) = true by simp [hg], cond_true, not_eq, some_bind, h hg, cadastrelaw3_num, some_bind]
    simp
  · rw [show (g == 0) = false by simp [hg], cond_false]
theorem ll19 (hk : 4097 ≤ k) (l : List S25) (i : Int) (p : S25) (kret : Bool → Option ρ) (kexit : List S25 → Int → List Int → List Int → Option ρ) :
    ∀ (d q n : Nat), q + d = 6 → d < n → cadastrelaw3_LogicLaws_l19 k kret kexit n l i q opp mir p = kexit l i opp mir
  | 0, q, n + 1, hq, _ => by
    simp only [cadastrelaw3_LogicLaws_l19, cadastrelaw3_LogicLaws_l19_b]
    rw [show decide ((q : Int) < 6) = false by simp; omega, cond_false]
  | d + 1, q, n + 1, hq, hn => by
    have h6 : q < 6 := by omega
    obtain ⟨⟨m1, m2⟩, ⟨o1, o2⟩, -⟩ := tests h6
    obtain ⟨t1, t2, t3⟩ := tests_are q h6 p.f0 p.f1
    simp only [cadastrelaw3_LogicLaws_l19, cadastrelaw3_LogicLaws_l19_b]
    rw [show decide ((q : Int) < 6) = true by simp; omega, cond_true, w64 (by omega) (by omega), test_eq k _ (by omega) (by omega) _ _ hk, some_bind, chk_pos (by omega), chk_pos (by omega), Int.toNat_natCast,
      test_eq k _ m1 m2 _ _ hk, some_bind, chk_pos (by omega), chk_pos (by omega), test_eq k _ o1 o2 _ _ hk, some_bind, t1, cadastrelaw3_num, some_bind, some_bind, cadastrelaw3_num, some_bind, t2]
    simp only [bne_self_eq_false, cond_false, same_false, some_bind]
    rw [lj26 l i q _ opp mir p _ _ kret _ t3, w64n (by omega)]
    exact ll19 hk l i p kret kexit d (q + 1) n (by omega) (by omega)
theorem lj18 (hk : 4097 ≤ k) (l : List S25) (i : Int) (p : S25) (kret : Bool → Option ρ) (knxt : List S25 → Int → List Int → List Int → Option ρ) :
    cadastrelaw3_LogicLaws_j18 k kret knxt l i opp mir p = knxt l i opp mir := by
  unfold cadastrelaw3_LogicLaws_j18
  exact ll19 hk l i p kret knxt 6 0 k (by omega) (by omega)
theorem lj11 (hk : 4097 ≤ k) (l : List S25) (i : Int) (p : S25) (kret : Bool → Option ρ) (knxt : List S25 → Int → List Int → List Int → Option ρ) :
    cadastrelaw3_LogicLaws_j11 k kret knxt l i (joinA 21 p.f0 p.f1).2 opp mir p (joinA 21 p.f0 p.f1).1 = knxt l i opp mir := by
  unfold cadastrelaw3_LogicLaws_j11
  rw [cadastrelaw3_num, some_bind, lj18 hk]
  by_cases hg : (joinA 21 p.f0 p.f1).2 = 0
  · obtain ⟨n, x, y, h1, h2, h3, h4⟩ := morgan hg
    rw [show ((joinA 21 p.f0 p.f1).2 == 0) = true by simp [hg], cond_true, not_eq, some_bind, h1, not_eq, some_bind, h2, not_eq, some_bind, h3, join_eq k 22 (.inr rfl) _ _ (by omega), some_bind, h4]
    simp [cadastrelaw3_num]
  · rw [show ((joinA 21 p.f0 p.f1).2 == 0) = false by simp [hg], cond_false]
theorem lj6 (hk : 4097 ≤ k) (l : List S25) (i : Nat) (hi : i < l.length) (hn : l.length ≤ 9223372036854775807) (kret : Bool → Option ρ) (knxt : List S25 → Int → List Int → List Int → Option ρ) :
    cadastrelaw3_LogicLaws_j6 k kret knxt l i opp mir = knxt l ((i + 1 : Nat) : Int) opp mir := by
  unfold cadastrelaw3_LogicLaws_j6
  rw [chk_pos (by omega), Int.toNat_natCast]
  generalize l.getD i default = p
  rw [join_eq k 21 (.inl rfl) _ _ (by omega), some_bind, join_eq k 21 (.inl rfl) _ _ (by omega), some_bind, joinA_comm p.f1 p.f0, cadastrelaw3_num, some_bind, some_bind]
  simp only [bne_self_eq_false, cond_false, same_false]
  rw [lj11 hk l i p kret _, w64n (by omega)]
theorem ll4 (hk : 4097 ≤ k) (l : List S25) (hn : l.length ≤ 9223372036854775807) (kret : Bool → Option ρ) (kexit : Option ρ) :
    ∀ (d i n : Nat), i + d = l.length → d < n → cadastrelaw3_LogicLaws_l4 k kret kexit n l i opp mir = kexit
  | 0, i, n + 1, hi, _ => by
    simp only [cadastrelaw3_LogicLaws_l4, cadastrelaw3_LogicLaws_l4_b]
    rw [show decide ((i : Int) < (l.length : Int)) = false by simp; omega, cond_false]
  | d + 1, i, n + 1, hi, hlt => by
    simp only [cadastrelaw3_LogicLaws_l4, cadastrelaw3_LogicLaws_l4_b]
    rw [show decide ((i : Int) < (l.length : Int)) = true by simp; omega, cond_true]
    by_cases h30 : (i : Int) < 30
    · rw [decide_eq_true h30, cond_true]
      refine Eq.trans (lj6 hk l i (by omega) hn kret _) ?_
      exact ll4 hk l hn kret kexit d (i + 1) n (by omega) (by omega)
    · rw [decide_eq_false h30, cond_false]
end

theorem LogicLaws_pure : ∀ l : List S25, (l.length * 72 ≤ 140737488351232 ∧ l.length ≤ 9223372036854775807 ∧ ∀ y ∈ l, (ok25 y)) → ∃ k, cadastrelaw3_LogicLaws k l = some true := by
  rintro l ⟨-, hn, -⟩
  refine ⟨l.length + 4097, ?_⟩
  unfold cadastrelaw3_LogicLaws
  refine Eq.trans (ll4 (by omega) l hn _ _ l.length 0 (l.length + 4097) (by omega) (by omega)) ?_
  rw [wakes3 _ (by omega)]; rfl
end Go.Proofs.Ytahgjfdndpnpfaa.T
