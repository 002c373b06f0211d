/-
  cadastre/cadastrelaw21.PrintValues: what its printed function answers is true, for every list. No condition beyond the numbers' own bounds.
-/
import Derived.Test.YtnoeedkbadoogaaDoorPPr
import Derived.Test.YtnoeedkbadoogaaDoorPOk
namespace Go.Proofs.YtnoeedkbadoogaaDoor.P
open Go Go.AX

theorem one_ask (k : Nat) (hk : 20000 ≤ k) (l : List T25) (i : Nat) (hi : i < l.length) (hl : l.length ≤ 9223372036854775806) (ho : T25.ok (l.getD i default)) (kret : Bool → Option Bool) (rec : List T25 → Int → Option Bool) :
    cadastrelaw21_PrintValues_j4 k rec kret l (i : Int) = rec l ((i + 1 : Nat) : Int) := by
  unfold cadastrelaw21_PrintValues_j4
  rw [chk_pos (by omega), Int.toNat_natCast, may_eq, some_bind, w64n (by omega)]
  have hb : inr (l.getD i default).s.f1.f1 = true := by
    cases ho with
    | mk _ h _ => exact inr_iff.mpr h.2.1.2.1
  generalize (l.getD i default).s.f1 = v at hb
  cases hg : good v
  · rfl
  rw [Bool.not_true, Bool.cond_false]
  by_cases h0 : v.f1 < 0
  · rw [decide_eq_true h0]; rfl
  rw [decide_eq_false h0, Bool.cond_false, big_eq]
  by_cases h5 : (v.f2.size : Int) > 500
  · rw [decide_eq_true h5]; rfl
  rw [decide_eq_false h5, Bool.cond_false]
  refine (one_value k hk kret _ l (i : Int) v hg hb h0 (by omega)).trans ?_
  rw [w64n (by omega)]
theorem PrintValues_pure : ∀ l : List T25, ((l.length * 96 ≤ 140737488351232 ∧ l.length ≤ 9223372036854775807) ∧ ∀ y ∈ l, T25.ok y) → ∃ k, cadastrelaw21_PrintValues k l = some true := by
  intro l hl
  refine ⟨20000, ?_⟩
  unfold cadastrelaw21_PrintValues
  rw [wakes_eq _ (by omega)]
  generalize hK : 20000 = K
  suffices H : ∀ (d i n : Nat), i + d = 11 → d < n → cadastrelaw21_PrintValues_l2 K (fun t => some t) ((some true).bind fun r => some r) n l (i : Int) = some true by
    exact H 11 0 K (by omega) (by omega)
  intro d
  induction d with
  | zero =>
    intro i n hi hn
    obtain ⟨n, rfl⟩ : ∃ m, n = m + 1 := ⟨n - 1, by omega⟩
    simp only [cadastrelaw21_PrintValues_l2, cadastrelaw21_PrintValues_l2_b]
    rw [decide_eq_false (show ¬ (i : Int) < 10 by omega)]
    cases decide ((i : Int) < (l.length : Int)) <;> rfl
  | succ d ih =>
    intro i n hi hn
    obtain ⟨n, rfl⟩ : ∃ m, n = m + 1 := ⟨n - 1, by omega⟩
    simp only [cadastrelaw21_PrintValues_l2, cadastrelaw21_PrintValues_l2_b]
    by_cases h1 : (i : Int) < (l.length : Int)
    case neg => rw [decide_eq_false h1]; rfl
    by_cases h2 : (i : Int) < 10
    case neg => rw [decide_eq_true h1, decide_eq_false h2]; rfl
    rw [decide_eq_true h1, decide_eq_true h2, cond_true, cond_true]
    have hm : l.getD i default ∈ l := getD_mem (by omega)
    exact (one_ask K (by omega) l i (by omega) (by omega) (hl.2 _ hm) (fun t => some t) (cadastrelaw21_PrintValues_l2 K (fun t => some t) ((some true).bind fun r => some r) n)).trans (ih (i + 1) n (by omega) (by omega))
end Go.Proofs.YtnoeedkbadoogaaDoor.P
