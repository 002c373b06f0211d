/-
  cadastre/cadastrelaw5.CastStores: what its printed function answers is true, for every list. No condition beyond the numbers' own bounds.
-/
import Derived.Test.YtdfmfpbdggefpaaDoorDOk
import Derived.Test.YtdfmfpbdggefpaaDoorDSt
namespace Go.Proofs.YtdfmfpbdggefpaaDoor.D
open Go Go.AX

theorem cs11 (k : Nat) (kret : Bool → Option Bool) (knxt : List S25 → Int → Int → Option Bool) (l : List S25) (i t e : Int) (v : S23) : cadastrelaw5_CastStores_j11 k kret knxt l i t e e v v = knxt l i t := by
  unfold cadastrelaw5_CastStores_j11 cadastrelaw5_num
  rw [some_bind, same_false]
  simp
theorem cs5 (k : Nat) (kret : Bool → Option Bool) (kexit : List S25 → Int → Option Bool) (l : List S25) (i : Nat) (hi : i < l.length) (hk : 5000 < k) (hv : inr (l.getD i default).f1.f1 = true) : ∀ (d m t : Nat), t + d = 6 → d < m → cadastrelaw5_CastStores_l5 k kret kexit m l i t = kexit l i
  | 0, m + 1, t, ht, _ => by
    simp only [cadastrelaw5_CastStores_l5, cadastrelaw5_CastStores_l5_b]
    rw [decide_eq_false (by omega), cond_false]
  | d + 1, m + 1, t, ht, hm => by
    have ih := cs5 k kret kexit l i hi hk hv d m (t + 1) (by omega) (by omega)
    simp only [cadastrelaw5_CastStores_l5, cadastrelaw5_CastStores_l5_b]
    rw [decide_eq_true (by omega), cond_true]
    unfold cadastrelaw5_CastStores_j10
    simp only [Int.toNat_natCast, chk_pos (show 0 ≤ (i : Int) ∧ (i : Int) < (l.length : Int) by omega)]
    generalize (l.getD i default).f1 = v at *
    rw [store_eq k v t hk hv, some_bind, may_eq, some_bind, rtype_eq, some_bind]
    cases hg : good v with
    | false =>
      rw [cond_false, if_neg (by simp)]
      refine (cs11 k kret _ l i t 1 vnull).trans ?_
      rw [w64n (by omega), ih]
    | true =>
      cases hT : typeOk t with
      | false =>
        rw [cond_true, cond_false, if_neg (by simp)]
        refine (cs11 k kret _ l i t 1 vnull).trans ?_
        rw [w64n (by omega), ih]
      | true =>
        rw [cond_true, cond_true, if_pos ⟨rfl, rfl⟩, rstore_eq k hk hv hg hT, some_bind]
        refine (cs11 k kret _ l i t _ _).trans ?_
        rw [w64n (by omega), ih]
theorem CastStores_pure : ∀ l : List S25, (l.length * 56 ≤ 140737488351232 ∧ l.length ≤ 9223372036854775807 ∧ ∀ y ∈ l, (ok25 y)) → ∃ k, cadastrelaw5_CastStores k l = some true := by
  intro l ⟨h1, h2, h3⟩
  obtain ⟨K, hK⟩ : ∃ K, K = l.length + 6000 := ⟨_, rfl⟩
  refine ⟨K, ?_⟩
  unfold cadastrelaw5_CastStores
  refine law_loop (α := Unit) l.length (fun n i => cadastrelaw5_CastStores_l2 K (fun t => some t) ((cadastrelaw5_wakes K).bind fun r => some r) n l i) h2 (fun n => ?_) (fun n i hi => ?_) l.length 0 K (by omega) (by omega)
  · simp only [cadastrelaw5_CastStores_l2, cadastrelaw5_CastStores_l2_b]
    rw [decide_eq_false (by omega), cond_false, wakes5 _ (by omega)]; rfl
  · simp only [cadastrelaw5_CastStores_l2, cadastrelaw5_CastStores_l2_b]
    rw [decide_eq_true (show (i : Int) < (l.length : Int) by omega), cond_true]
    by_cases h30 : (i : Int) < 30
    case neg => right; rw [decide_eq_false h30, cond_false, wakes5 _ (by omega)]; rfl
    rw [decide_eq_true h30, cond_true]
    unfold cadastrelaw5_CastStores_j4
    left
    have ho := h3 _ (getD_mem (d := default) hi)
    have e := cs5 K (fun t => some t) (fun l i => cadastrelaw5_CastStores_l2 K (fun t => some t) ((cadastrelaw5_wakes K).bind fun r => some r) n l (IntKind.i64.wrap (i + 1))) l i hi (by omega) (by apply inr_iff.mpr; exact ho.2.1.2.1) 6 K 0 (by omega) (by omega)
    rw [show ((0 : Nat) : Int) = 0 from rfl] at e
    refine Eq.trans e ?_
    rw [w64n (by omega)]
end Go.Proofs.YtdfmfpbdggefpaaDoor.D
