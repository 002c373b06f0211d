/-
  cadastre/cadastrelaw4.ArithConcats: what its printed function answers is true, for every list. No condition beyond the numbers' own bounds.
-/
import Derived.Test.YtdfmfpbdggefpaaDoorDOk
import Derived.Test.YtdfmfpbdggefpaaDoorDTx
namespace Go.Proofs.YtdfmfpbdggefpaaDoor.D
open Go Go.AX

/-- What two values put together come to, where they do. -/
theorem put_ok {a b : S23} (ga : good a = true) (gb : good b = true) (h : (concatS a b).2 = 0) (h2 : (concatS a b).1.f0 = 2) :
    a.f0 ≠ 0 ∧ b.f0 ≠ 0 ∧ (textS a).f2.size + (textS b).f2.size ≤ 4096 ∧ concatS a b = (vtxt (cat (textS a).f2 (textS b).f2), 0) := by
  unfold concatS at h h2 ⊢
  by_cases h0 : a.f0 = 0 ∨ b.f0 = 0
  · rw [if_pos h0] at h2; exact absurd h2 (by decide)
  rw [if_neg h0] at h h2 ⊢
  by_cases h3 : a.f0 = 3 ∨ b.f0 = 3
  · rw [if_pos h3] at h; exact absurd h (by decide)
  rw [if_neg h3] at h h2 ⊢
  by_cases hz : 4096 < (textS a).f2.size + (textS b).f2.size
  · rw [if_pos hz] at h; exact absurd h (by decide)
  rw [if_neg hz]
  exact ⟨fun h => h0 (.inl h), fun h => h0 (.inr h), by omega, rfl⟩
theorem cat_empty (a : ByteArray) : cat a ByteArray.empty = a := by rw [cat_eq]; exact ByteArray.append_empty
section
variable (k : Nat) (kret : Bool → Option Bool) (knxt : List S45 → Int → Option Bool) (l : List S45) (i : Int)
theorem ac7 (hk : 22 ≤ k) {a b : S23} (ha : inr a.f1 = true) (hb : inr b.f1 = true) (ga : good a = true) (gb : good b = true) (h : (concatS a b).2 = 0) (h2 : (concatS a b).1.f0 = 2) :
    cadastrelaw4_ArithConcats_j7 k kret knxt l i a b (concatS a b).1 = knxt l i := by
  obtain ⟨a0, b0, hz, e⟩ := put_ok ga gb h h2
  rw [e]
  have hs := cat_size (textS a).f2 (textS b).f2
  have gc : good (vtxt (cat (textS a).f2 (textS b).f2)) = true := good_vtxt (by omega)
  have sa := textS_size ha ga
  have sb := textS_size hb gb
  unfold cadastrelaw4_ArithConcats_j7 cadastrelaw4_num
  rw [text_eq k a ha, text_eq k b hb, length_eq k _ (by rfl), length_eq k a ha, length_eq k b hb, show (⟨2, 0, ByteArray.empty⟩ : S23) = vtxt ByteArray.empty from rfl, concat_eq k _ _ (by omega) (by rfl) (by rfl)]
  rw [ga, gb, gc, show good (vtxt ByteArray.empty) = true from rfl]
  simp only [if_true, and_self, some_bind]
  have ec : concatS (vtxt (cat (textS a).f2 (textS b).f2)) (vtxt ByteArray.empty) = (vtxt (cat (textS a).f2 (textS b).f2), 0) := by
    have e1 : textS (vtxt (cat (textS a).f2 (textS b).f2)) = vtxt (cat (textS a).f2 (textS b).f2) := rfl
    have e2 : textS (vtxt ByteArray.empty) = vtxt ByteArray.empty := rfl
    unfold concatS
    rw [e1, e2, if_neg (by intro h; rcases h with h | h <;> exact absurd (show (2 : Int) = 0 from h) (by decide)), if_neg (by intro h; rcases h with h | h <;> exact absurd (show (2 : Int) = 3 from h) (by decide))]
    have e3 : (vtxt ByteArray.empty).f2.size = 0 := rfl
    have e4 : (vtxt (cat (textS a).f2 (textS b).f2)).f2 = cat (textS a).f2 (textS b).f2 := rfl
    rw [e3, e4, if_neg (by omega), show (vtxt ByteArray.empty).f2 = ByteArray.empty from rfl, cat_empty]
  rw [ec]
  have el : ∀ v : S23, v.f0 ≠ 0 → lenS v = vint ((textS v).f2.size : Int) := fun v h => by unfold lenS; rw [if_neg h]
  rw [el a a0, el b b0, el _ (by decide : (2 : Int) ≠ 0)]
  have e1 : textS (vtxt (cat (textS a).f2 (textS b).f2)) = vtxt (cat (textS a).f2 (textS b).f2) := rfl
  rw [e1, chk_pos (by rw [strFits_eq]; omega)]
  simp only [bne_self_eq_false, cond_false, vtxt, vint, beq_self_eq_true, Bool.not_true, Bool.and_self]
  rw [hs, w64 (by omega) (by omega), show (((textS a).f2.size + (textS b).f2.size : Nat) : Int) = ((textS a).f2.size : Int) + ((textS b).f2.size : Int) by omega]
  simp
end
theorem ArithConcats_pure : ∀ l : List S45, (l.length * 72 ≤ 140737488351232 ∧ l.length ≤ 9223372036854775807 ∧ ∀ y ∈ l, (ok45 y)) → ∃ k, cadastrelaw4_ArithConcats k l = some true := by
  intro l ⟨h1, h2, h3⟩
  obtain ⟨K, hK⟩ : ∃ K, K = l.length + 6000 := ⟨_, rfl⟩
  refine ⟨K, ?_⟩
  unfold cadastrelaw4_ArithConcats
  refine law_loop (α := Unit) l.length (fun n i => cadastrelaw4_ArithConcats_l2 K (fun t => some t) ((cadastrelaw4_wakes K).bind fun r => some r) n l i) h2 (fun n => ?_) (fun n i hi => ?_) l.length 0 K (by omega) (by omega)
  · simp only [cadastrelaw4_ArithConcats_l2, cadastrelaw4_ArithConcats_l2_b]
    rw [decide_eq_false (by omega), cond_false, wakes4 _ (by omega)]; rfl
  · simp only [cadastrelaw4_ArithConcats_l2, cadastrelaw4_ArithConcats_l2_b]
    rw [decide_eq_true (show (i : Int) < (l.length : Int) by omega), cond_true]
    by_cases h30 : (i : Int) < 30
    case neg => right; rw [decide_eq_false h30, cond_false, wakes4 _ (by omega)]; rfl
    rw [decide_eq_true h30, cond_true]
    unfold cadastrelaw4_ArithConcats_j4
    left
    rw [chk_pos (by omega), chk_pos (by omega), Int.toNat_natCast]
    have ho := h3 _ (getD_mem (d := default) hi)
    generalize l.getD i default = p at *
    have ha : inr p.f0.f1 = true := by apply inr_iff.mpr; exact ho.1.2.1
    have hb : inr p.f1.f1 = true := by apply inr_iff.mpr; exact ho.2.1.2.1
    have e7 := fun K' => ac7 K (fun t => some t) K' l i (by omega) (a := p.f0) (b := p.f1) ha hb
    unfold cadastrelaw4_num
    rw [concat_eq K p.f0 p.f1 (by omega) ha hb, some_bind, some_bind, w64n (by omega)]
    by_cases hg : good p.f0 = true ∧ good p.f1 = true
    case neg => rw [if_neg hg]; rfl
    rw [if_pos hg]
    by_cases hz : (concatS p.f0 p.f1).2 = 0
    case neg => rw [show ((concatS p.f0 p.f1).2 != 0) = true by simp [hz], cond_true]
    rw [show ((concatS p.f0 p.f1).2 != 0) = false by simp [hz], cond_false]
    by_cases hq : (concatS p.f0 p.f1).1.f0 = 2
    case neg => rw [show ((concatS p.f0 p.f1).1.f0 != 2) = true by simp [hq], cond_true]
    rw [show ((concatS p.f0 p.f1).1.f0 != 2) = false by simp [hq], cond_false, e7 _ hg.1 hg.2 hz hq]
    rw [w64n (by omega)]
end Go.Proofs.YtdfmfpbdggefpaaDoor.D
