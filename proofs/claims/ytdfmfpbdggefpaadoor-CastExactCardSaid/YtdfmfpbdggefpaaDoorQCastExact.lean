/-
  cadastre/cadastrelaw5.CastExact: what its printed function answers is true, for every list. No condition beyond the numbers' own bounds.
-/
import Derived.Test.YtdfmfpbdggefpaaDoorDOk
import Derived.Test.YtdfmfpbdggefpaaDoorDSt
namespace Go.Proofs.YtdfmfpbdggefpaaDoor.D
open Go Go.AX

theorem ce14 (k : Nat) (kret : Bool → Option Bool) (knxt : List S25 → Int → Option Bool) (l : List S25) (i : Int) (p : S25) (r : S23 × Int) (h : cast_Store k p.f1 p.f2 = some r) : cadastrelaw5_CastExact_j14 k kret knxt l i r.2 p r.1 = knxt l i := by
  unfold cadastrelaw5_CastExact_j14 cadastrelaw5_num
  rw [h, some_bind, some_bind, same_false]
  simp
theorem ce11 (k : Nat) (kret : Bool → Option Bool) (knxt : List S25 → Int → Option Bool) (l : List S25) (i : Int) (p : S25) (hk : 5000 < k) (hv : inr p.f1.f1 = true) : cadastrelaw5_CastExact_j11 k kret knxt l i p = knxt l i := by
  unfold cadastrelaw5_CastExact_j11
  have hs := store_eq k p.f1 p.f2 hk hv
  rw [may_eq, some_bind, rtype_eq, some_bind]
  cases hg : good p.f1 with
  | false => rw [hg] at hs; exact ce14 k kret knxt l i p _ hs
  | true =>
    cases ht : typeOk p.f2 with
    | false => rw [hg, ht] at hs; exact ce14 k kret knxt l i p _ hs
    | true =>
      rw [hg, ht, if_pos ⟨rfl, rfl⟩] at hs
      rw [cond_true, cond_true, rstore_eq k hk hv hg ht, some_bind]
      exact ce14 k kret knxt l i p _ hs
theorem CastExact_pure : ∀ l : List S25, (l.length * 56 ≤ 140737488351232 ∧ l.length ≤ 9223372036854775807 ∧ ∀ y ∈ l, (ok25 y)) → ∃ k, cadastrelaw5_CastExact k l = some true := by
  intro l ⟨h1, h2, h3⟩
  refine ⟨l.length + 6000, ?_⟩
  unfold cadastrelaw5_CastExact
  refine law_loop (α := Unit) l.length (fun n i => cadastrelaw5_CastExact_l2 (l.length + 6000) (fun t => some t) ((cadastrelaw5_wakes (l.length + 6000)).bind fun r => some r) n l i) h2 (fun n => ?_) (fun n i hi => ?_) l.length 0 (l.length + 6000) (by omega) (by omega)
  · simp only [cadastrelaw5_CastExact_l2, cadastrelaw5_CastExact_l2_b]
    rw [decide_eq_false (by omega), cond_false, wakes5 _ (by omega)]; rfl
  · simp only [cadastrelaw5_CastExact_l2, cadastrelaw5_CastExact_l2_b]
    rw [decide_eq_true (show (i : Int) < (l.length : Int) by omega), cond_true]
    by_cases h30 : (i : Int) < 30
    case neg => right; rw [decide_eq_false h30, cond_false, wakes5 _ (by omega)]; rfl
    rw [decide_eq_true h30, cond_true]
    unfold cadastrelaw5_CastExact_j4
    rw [chk_pos (by omega), Int.toNat_natCast, big_eq]
    have ho := h3 _ (getD_mem (d := default) hi)
    generalize l.getD i default = p at *
    by_cases hs : (p.f0.size : Int) > 1000
    · right; rw [decide_eq_true hs]; rfl
    · left
      rw [decide_eq_false hs, cond_false, cast_eq _ (by omega) (by omega), some_bind, rint_eq _ (by omega) (by omega), some_bind]
      unfold cadastrelaw5_num
      rw [some_bind]
      simp only [bne_self_eq_false, cond_false]
      rw [ce11 _ _ _ _ _ _ (by omega) (by apply inr_iff.mpr; exact ho.2.1.2.1), w64n (by omega)]
end Go.Proofs.YtdfmfpbdggefpaaDoor.D
