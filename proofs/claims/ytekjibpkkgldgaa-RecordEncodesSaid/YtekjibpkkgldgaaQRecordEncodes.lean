/-
  cadastre/cadastrelaw6.RecordEncodes: what its printed function answers is true, for every list. No condition beyond the numbers' own bounds.
-/
import Derived.Test.YtekjibpkkgldgaaROk
import Derived.Test.YtekjibpkkgldgaaREnc
namespace Go.Proofs.Ytekjibpkkgldgaa.R
open Go Go.AX

theorem vok_of {v : S44} (h : ok44 v) : vok v := ⟨h.2.1.1, h.2.1.2, h.2.2⟩
theorem encR_length (l : List S44) : (encR l).1.length ≤ 16384 := by
  unfold encR
  repeat' split
  all_goals simp
  omega
theorem re_j4 {ρ : Type} (k : Nat) (hk : 300 ≤ k) (hk2 : 20000 ≤ k) (l : List S34) (i : Nat) (hi : i < l.length) (hn : l.length ≤ 9223372036854775807) (ho : ok34 (l.getD i default)) (kret : Bool → Option ρ) (knxt : List S34 → Int → Option ρ) :
    cadastrelaw6_RecordEncodes_j4 k kret knxt l i = kret true ∨ cadastrelaw6_RecordEncodes_j4 k kret knxt l i = knxt l ((i + 1 : Nat) : Int) := by
  unfold cadastrelaw6_RecordEncodes_j4
  rw [chk_pos (by omega), Int.toNat_natCast]
  generalize l.getD i default = p at ho
  unfold cadastrelaw6_heavy
  obtain ⟨b, e, hb⟩ := light_eq k hk p.f0 20000
  rw [e, some_bind]
  cases b with
  | false => left; rfl
  | true =>
    rw [Bool.not_true, cond_false, some_bind, bigd]
    by_cases hw : (p.f1.length : Int) > 3000
    · left; rw [decide_eq_true hw]; rfl
    · right
      have hl := hb rfl
      have hv : ∀ v ∈ p.f0, vok v := fun v hv => vok_of (ho.1.2.2 v hv)
      rw [decide_eq_false hw, cond_false, chk_pos (by omega), enc_eq k (by omega) _ hv (by omega) (by omega), some_bind, chk_pos (by omega), renc_eq k (by omega) _ hv (by omega) (by omega), some_bind, cadastrelaw6_num, some_bind]
      have hle := encR_length p.f0
      rw [show ((encR p.f0).2 != (encR p.f0).2) = false by simp, cond_false, eqb k _ _ (by omega) (by omega), some_bind, decide_eq_true rfl, w64n (by omega)]
      rfl
theorem re_l2 (k : Nat) (hk : 20000 ≤ k) (l : List S34) (hn : l.length ≤ 9223372036854775807) (ho : ∀ y ∈ l, ok34 y) (kexit : Option Bool) (hx : kexit = some true) :
    ∀ (d i n : Nat), i + d = l.length → d < n → cadastrelaw6_RecordEncodes_l2 k some kexit n l i = some true
  | 0, i, n + 1, hi, _ => by
    simp only [cadastrelaw6_RecordEncodes_l2, cadastrelaw6_RecordEncodes_l2_b]
    rw [decide_eq_false (by omega), cond_false, hx]
  | d + 1, i, n + 1, hi, hlt => by
    simp only [cadastrelaw6_RecordEncodes_l2, cadastrelaw6_RecordEncodes_l2_b]
    rw [decide_eq_true (by omega), cond_true]
    by_cases h12 : (i : Int) < 12
    · rw [decide_eq_true h12, cond_true]
      rcases re_j4 k (by omega) hk l i (by omega) hn (ho _ (getD_mem (by omega))) some (cadastrelaw6_RecordEncodes_l2 k some kexit n) with e | e
      · exact e
      · rw [e]; exact re_l2 k hk l hn ho kexit hx d (i + 1) n (by omega) (by omega)
    · rw [decide_eq_false h12, cond_false, hx]

theorem RecordEncodes_pure : ∀ l : List S34, (l.length * 48 ≤ 140737488351232 ∧ l.length ≤ 9223372036854775807 ∧ ∀ y ∈ l, (ok34 y)) → ∃ k, cadastrelaw6_RecordEncodes k l = some true := by
  rintro l ⟨-, hn, ho⟩
  refine ⟨l.length + 20000, ?_⟩
  unfold cadastrelaw6_RecordEncodes
  exact re_l2 _ (by omega) l hn ho _ (by rw [wakes_eq _ (by omega)]; rfl) l.length 0 _ (by omega) (by omega)
end Go.Proofs.Ytekjibpkkgldgaa.R
