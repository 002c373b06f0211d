/-
  cadastre/cadastrelaw4.ArithTexts: what its printed function answers is true, for every list. No condition beyond the numbers' own bounds.
-/
import Derived.Test.YtdfmfpbdggefpaaDoorDOk
import Derived.Test.YtdfmfpbdggefpaaDoorDTx
namespace Go.Proofs.YtdfmfpbdggefpaaDoor.D
open Go Go.AX

section
variable (k : Nat) (kret : Bool → Option Bool) (knxt : List S45 → Int → Option Bool) (l : List S45) (i : Int) (p : S45)
theorem at16 {t n y c : S23 × Int} (ht : arith_Text k p.f0 = some t) (hn : arith_Length k p.f0 = some n) (hy : arith_Typeof k p.f0 = some y) (hc : arith_Concat k p.f0 p.f1 = some c) (h1 : t.2 = n.2) (h2 : t.2 = y.2) :
    cadastrelaw4_ArithTexts_j16 k kret knxt l i t.2 c.2 p t.1 n.1 y.1 c.1 = knxt l i := by
  unfold cadastrelaw4_ArithTexts_j16
  obtain ⟨t1, t2⟩ := t
  obtain ⟨n1, n2⟩ := n
  obtain ⟨y1, y2⟩ := y
  obtain ⟨c1, c2⟩ := c
  dsimp only at h1 h2 ⊢
  subst h1 h2
  rw [ht, some_bind, hn, some_bind, hy, some_bind, hc, some_bind]
  dsimp only
  simp only [is_eq, some_bind, Bool.not_true, cond_false]
theorem at14 (one : Bool) (ho : one = good p.f0) (hk : 22 ≤ k) (ha : inr p.f0.f1 = true) (hb : inr p.f1.f1 = true) {t n y : S23 × Int} (ht : arith_Text k p.f0 = some t) (hn : arith_Length k p.f0 = some n) (hy : arith_Typeof k p.f0 = some y) (h1 : t.2 = n.2) (h2 : t.2 = y.2) :
    cadastrelaw4_ArithTexts_j14 k kret knxt l i one t.2 1 p t.1 n.1 y.1 vnull = knxt l i := by
  subst ho
  unfold cadastrelaw4_ArithTexts_j14
  have hc := concat_eq k p.f0 p.f1 (by omega) ha hb
  rw [may_eq, some_bind]
  cases ga : good p.f0 with
  | false => rw [ga, if_neg (by simp)] at hc; rw [cond_false]; exact at16 k kret knxt l i p (c := (vnull, 1)) ht hn hy hc h1 h2
  | true =>
    cases gb : good p.f1 with
    | false => rw [ga, gb, if_neg (by simp)] at hc; rw [cond_true, cond_false]; exact at16 k kret knxt l i p (c := (vnull, 1)) ht hn hy hc h1 h2
    | true =>
      rw [ga, gb, if_pos ⟨rfl, rfl⟩] at hc
      rw [cond_true, cond_true, rconcat_eq k _ _ hk ga gb ha hb, some_bind]
      exact at16 k kret knxt l i p ht hn hy hc h1 h2
end
theorem ArithTexts_pure : ∀ l : List S45, (l.length * 72 ≤ 140737488351232 ∧ l.length ≤ 9223372036854775807 ∧ ∀ y ∈ l, (ok45 y)) → ∃ k, cadastrelaw4_ArithTexts k l = some true := by
  intro l ⟨h1, h2, h3⟩
  obtain ⟨K, hK⟩ : ∃ K, K = l.length + 6000 := ⟨_, rfl⟩
  refine ⟨K, ?_⟩
  unfold cadastrelaw4_ArithTexts
  refine law_loop (α := Unit) l.length (fun n i => cadastrelaw4_ArithTexts_l2 K (fun t => some t) ((cadastrelaw4_wakes K).bind fun r => some r) n l i) h2 (fun n => ?_) (fun n i hi => ?_) l.length 0 K (by omega) (by omega)
  · simp only [cadastrelaw4_ArithTexts_l2, cadastrelaw4_ArithTexts_l2_b]
    rw [decide_eq_false (by omega), cond_false, wakes4 _ (by omega)]; rfl
  · simp only [cadastrelaw4_ArithTexts_l2, cadastrelaw4_ArithTexts_l2_b]
    rw [decide_eq_true (show (i : Int) < (l.length : Int) by omega), cond_true]
    by_cases h30 : (i : Int) < 30
    case neg => right; rw [decide_eq_false h30, cond_false, wakes4 _ (by omega)]; rfl
    rw [decide_eq_true h30, cond_true]
    unfold cadastrelaw4_ArithTexts_j4
    left
    rw [chk_pos (by omega), Int.toNat_natCast]
    have ho := h3 _ (getD_mem (d := default) hi)
    generalize l.getD i default = p at *
    have ha : inr p.f0.f1 = true := by apply inr_iff.mpr; exact ho.1.2.1
    have hb : inr p.f1.f1 = true := by apply inr_iff.mpr; exact ho.2.1.2.1
    rw [may_eq, some_bind]
    have ht := text_eq K p.f0 ha
    have hn := length_eq K p.f0 ha
    have hy := typeof_eq K p.f0
    obtain ⟨Kx, hKx⟩ : ∃ Kx : List S45 → Int → Option Bool, Kx = fun l i => cadastrelaw4_ArithTexts_l2 K (fun t => some t) ((cadastrelaw4_wakes K).bind fun r => some r) n l (IntKind.i64.wrap (i + 1)) := ⟨_, rfl⟩
    have hend : Kx l i = cadastrelaw4_ArithTexts_l2 K (fun t => some t) ((cadastrelaw4_wakes K).bind fun r => some r) n l ((i + 1 : Nat) : Int) := by rw [hKx]; dsimp only; rw [w64n (by omega)]
    have e14 := fun one ho {t n y : S23 × Int} => @at14 K (fun t => some t) Kx l i p one ho (by omega) ha hb t n y
    cases ga : good p.f0 with
    | false =>
      rw [ga] at ht hn hy
      have e := e14 false ga.symm ht hn hy rfl rfl
      rw [hend] at e
      rw [← e, hKx]; rfl
    | true =>
      rw [ga] at ht hn hy
      have e := e14 true ga.symm ht hn hy rfl rfl
      rw [hend] at e
      rw [cond_true, rtext_eq K _ (by omega) ha, some_bind, rlength_eq K _ (by omega) ga ha, some_bind, rtypeof_eq K _ ga, some_bind, ← e, hKx]; rfl
end Go.Proofs.YtdfmfpbdggefpaaDoor.D
