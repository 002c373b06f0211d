/-
  cadastre/cadastrelaw6.RecordDecodes: what its printed function answers is true, for every list. No condition beyond the numbers' own bounds.
-/
import Derived.Test.YtekjibpkkgldgaaROk
import Derived.Test.YtekjibpkkgldgaaRDl
namespace Go.Proofs.Ytekjibpkkgldgaa.R
open Go Go.AX

theorem vok_of {v : S44} (h : ok44 v) : vok v := ⟨h.2.1.1, h.2.1.2, h.2.2⟩
theorem decR_small {b : List Int} (hb : IsB b) : (decR b).1.length ≤ 17 := by
  rcases decR_says hb with c | ⟨_, _, _, _, c, _⟩
  · rw [c]; exact Nat.zero_le _
  · exact c
theorem decR_code {b : List Int} (hb : IsB b) : decR b = ([], 1) ∨ (decR b).2 = 0 := by
  rcases decR_says hb with c | ⟨c, _⟩
  · exact .inl c
  · exact .inr (by rw [c])
theorem rd_j4 {ρ : Type} (k : Nat) (hk : 300 ≤ k) (hk2 : 20000 ≤ k) (l : List S34) (i : Nat) (hi : i < l.length) (hn : l.length ≤ 9223372036854775807) (ho : ok34 (l.getD i default)) (kret : Bool → Option ρ) (knxt : List S34 → Int → Option ρ) :
    cadastrelaw6_RecordDecodes_j4 k kret knxt l i = kret true ∨ cadastrelaw6_RecordDecodes_j4 k kret knxt l i = knxt l ((i + 1 : Nat) : Int) := by
  unfold cadastrelaw6_RecordDecodes_j4
  rw [chk_pos (by omega), Int.toNat_natCast]
  generalize l.getD i default = p at ho
  unfold cadastrelaw6_heavy
  obtain ⟨b, e, hb⟩ := light_eq k hk p.f0 20000
  rw [e, some_bind]
  cases b with
  | false => left; rfl
  | true =>
    rw [Bool.not_true, cond_false, some_bind, bigd]
    by_cases hw : (p.f1.length : Int) > 3000
    · left; rw [decide_eq_true hw]; rfl
    · right
      have hB : IsB p.f1 := ho.2.2.2
      have hs := decR_small hB
      rw [decide_eq_false hw, cond_false, chk_pos (by omega), dec_eq k (by omega) hB (by omega), some_bind, chk_pos (by omega), rdec_eq k (by omega) hB (by omega) (by omega), some_bind]
      simp only [cadastrelaw6_num, some_bind]
      rcases decR_code hB with c | c
      · rw [c]
        show ((cadastreref0_EqValues k ([] : List S44) []).bind fun r => bif !r then kret false else knxt l (IntKind.i64.wrap ((i : Int) + 1))) = _
        rw [eqv_refl k [] (by simp) (by simp; omega), w64n (by omega)]; rfl
      · rw [if_pos c]
        simp only []
        rw [show (!(true == ((decR p.f1).2 == 0))) = false by rw [c]; rfl, cond_false, Bool.not_true, cond_false, eqv_refl k _ (by omega) (by omega), some_bind, w64n (by omega)]; rfl
theorem rd_l2 (k : Nat) (hk : 20000 ≤ k) (l : List S34) (hn : l.length ≤ 9223372036854775807) (ho : ∀ y ∈ l, ok34 y) (kexit : Option Bool) (hx : kexit = some true) :
    ∀ (d i n : Nat), i + d = l.length → d < n → cadastrelaw6_RecordDecodes_l2 k some kexit n l i = some true
  | 0, i, n + 1, hi, _ => by
    simp only [cadastrelaw6_RecordDecodes_l2, cadastrelaw6_RecordDecodes_l2_b]
    rw [decide_eq_false (by omega), cond_false, hx]
  | d + 1, i, n + 1, hi, hlt => by
    simp only [cadastrelaw6_RecordDecodes_l2, cadastrelaw6_RecordDecodes_l2_b]
    rw [decide_eq_true (by omega), cond_true]
    by_cases h12 : (i : Int) < 12
    · rw [decide_eq_true h12, cond_true]
      rcases rd_j4 k (by omega) hk l i (by omega) hn (ho _ (getD_mem (by omega))) some (cadastrelaw6_RecordDecodes_l2 k some kexit n) with e | e
      · exact e
      · rw [e]; exact rd_l2 k hk l hn ho kexit hx d (i + 1) n (by omega) (by omega)
    · rw [decide_eq_false h12, cond_false, hx]

theorem RecordDecodes_pure : ∀ l : List S34, (l.length * 48 ≤ 140737488351232 ∧ l.length ≤ 9223372036854775807 ∧ ∀ y ∈ l, (ok34 y)) → ∃ k, cadastrelaw6_RecordDecodes k l = some true := by
  rintro l ⟨-, hn, ho⟩
  refine ⟨l.length + 20000, ?_⟩
  unfold cadastrelaw6_RecordDecodes
  exact rd_l2 _ (by omega) l hn ho _ (by rw [wakes_eq _ (by omega)]; rfl) l.length 0 _ (by omega) (by omega)
end Go.Proofs.Ytekjibpkkgldgaa.R
