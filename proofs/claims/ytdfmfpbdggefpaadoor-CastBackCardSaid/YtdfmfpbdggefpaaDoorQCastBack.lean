/-
  cadastre/cadastrelaw5.CastBack: what its printed function answers is true, for every list. No condition beyond the numbers' own bounds.
-/
import Derived.Test.YtdfmfpbdggefpaaDoorDOk
import Derived.Test.YtdfmfpbdggefpaaDoorDSt
namespace Go.Proofs.YtdfmfpbdggefpaaDoor.D
open Go Go.AX

theorem fin_inr (neg : Bool) (v : Nat) : inr (fin_ neg v).1 = true := by
  unfold fin_; apply inr_iff.mpr
  split
  · rename_i h
    unfold lim at h; unfold sg
    cases neg <;> simp at h ⊢ <;> omega
  · decide
theorem digs_inr (neg : Bool) (l : List UInt8) : inr (digs neg l).1 = true := by
  unfold digs; split
  · rfl
  · split
    · exact fin_inr neg _
    · rfl
theorem castR_inr (l : List UInt8) : inr (castR l).1 = true := by
  cases l with
  | nil => rfl
  | cons c t =>
    show inr (if c.toNat = 45 then digs true t else if c.toNat = 43 then digs false t else digs false (c :: t)).1 = true
    split
    · exact digs_inr _ _
    · split <;> exact digs_inr _ _
/-- What is stored is a value that fits. -/
theorem stored {v : S23} {t : Int} (hv : inr v.f1 = true) (hg : good v = true) (ht : typeOk t = true) (h : (storeS v t).2 = 0) : good (storeS v t).1 = true ∧ fitsB (storeS v t).1 t = true ∧ inr (storeS v t).1.f1 = true := by
  rcases typeOk_cases ht with rfl | rfl | rfl | rfl <;> rcases gcases hg with rfl | ⟨n, rfl⟩ | ⟨s, rfl, hs⟩ | ⟨s, rfl, hs⟩
  all_goals first
    | exact ⟨hg, rfl, hv⟩
    | exact absurd (show (4 : Int) = 0 from h) (by decide)
    | (have e : storeS (vtxt s) 2 = numS s := rfl
       rw [e] at h ⊢
       have hc := castR_inr (by_ s)
       unfold numS at h ⊢
       split at h
       · rename_i hz; rw [if_pos hz]; exact ⟨good_vint _, rfl, hc⟩
       · rename_i hz; exact absurd h hz)
    | exact ⟨good_textS hv hg, rfl, rfl⟩
    | exact ⟨(show good (vblob s) = true from by simp [good, vblob, hs]), rfl, rfl⟩
theorem store_fits {v : S23} {t : Int} (h : fitsB v t = true) : storeS v t = (v, 0) := by unfold storeS; rw [if_pos h]

section
variable (k : Nat) (kret : Bool → Option Bool) (knxt : List S25 → Int → Option Bool) (l : List S25) (i : Int) (p : S25)
theorem cb12 (hk : 5000 < k) (hv : inr p.f1.f1 = true) : cadastrelaw5_CastBack_j12 k kret knxt l i p = knxt l i := by
  unfold cadastrelaw5_CastBack_j12 cadastrelaw5_num
  rw [text_eq k _ hv, some_bind, some_bind]
  by_cases hg : good p.f1 = true
  case neg => rw [if_neg hg]; rfl
  rw [if_pos hg]
  by_cases h1 : p.f1.f0 = 1
  case neg => rw [show (p.f1.f0 == 1) = false by rw [beq_eq_false_iff_ne]; exact h1]; rfl
  rw [show (p.f1.f0 == 1) = true by rw [beq_iff_eq]; exact h1]
  show cadastrelaw5_CastBack_j14 k kret knxt l i p (textS p.f1) = knxt l i
  have et : textS p.f1 = vtxt (dtxt p.f1.f1) := by unfold textS; rw [if_pos h1]
  have hz := dtxt_size _ hv
  unfold cadastrelaw5_CastBack_j14 cadastrelaw5_CastBack_j17 cadastrelaw5_num
  rw [et, show (vtxt (dtxt p.f1.f1)).f2 = dtxt p.f1.f1 from rfl, cast_eq k (by omega) (by omega), some_bind, cast_itoa _ hv, some_bind]
  rw [store_eq k _ 2 hk (by rfl), some_bind, some_bind, if_pos ⟨good_vtxt (by omega), rfl⟩]
  have es : storeS (vtxt (dtxt p.f1.f1)) 2 = (p.f1, 0) := by
    show numS (dtxt p.f1.f1) = _
    unfold numS; rw [cast_itoa _ hv, if_pos rfl, ← good1 hg h1]
  rw [es]
  dsimp only
  rw [same_false]
  simp
end
theorem CastBack_pure : ∀ l : List S25, (l.length * 56 ≤ 140737488351232 ∧ l.length ≤ 9223372036854775807 ∧ ∀ y ∈ l, (ok25 y)) → ∃ k, cadastrelaw5_CastBack k l = some true := by
  intro l ⟨h1, h2, h3⟩
  refine ⟨l.length + 6000, ?_⟩
  unfold cadastrelaw5_CastBack
  refine law_loop (α := Unit) l.length (fun n i => cadastrelaw5_CastBack_l2 (l.length + 6000) (fun t => some t) ((cadastrelaw5_wakes (l.length + 6000)).bind fun r => some r) n l i) h2 (fun n => ?_) (fun n i hi => ?_) l.length 0 (l.length + 6000) (by omega) (by omega)
  · simp only [cadastrelaw5_CastBack_l2, cadastrelaw5_CastBack_l2_b]
    rw [decide_eq_false (by omega), cond_false, wakes5 _ (by omega)]; rfl
  · simp only [cadastrelaw5_CastBack_l2, cadastrelaw5_CastBack_l2_b]
    rw [decide_eq_true (show (i : Int) < (l.length : Int) by omega), cond_true]
    by_cases h30 : (i : Int) < 30
    case neg => right; rw [decide_eq_false h30, cond_false, wakes5 _ (by omega)]; rfl
    rw [decide_eq_true h30, cond_true]
    unfold cadastrelaw5_CastBack_j4
    left
    rw [chk_pos (by omega), Int.toNat_natCast]
    have ho := h3 _ (getD_mem (d := default) hi)
    generalize l.getD i default = p at *
    have hv : inr p.f1.f1 = true := by apply inr_iff.mpr; exact ho.2.1.2.1
    have last : ∀ K : List S25 → Int → Option Bool, cadastrelaw5_CastBack_j12 (l.length + 6000) (fun t => some t) K l i p = K l i := fun K => cb12 _ _ K l i p (by omega) hv
    rw [store_eq _ _ _ (by omega) hv, some_bind, last]
    unfold cadastrelaw5_num
    rw [some_bind, w64n (by omega)]
    by_cases hc : good p.f1 = true ∧ typeOk p.f2 = true
    case neg => rw [if_neg hc]; rfl
    rw [if_pos hc]
    by_cases hz : (storeS p.f1 p.f2).2 = 0
    case neg => rw [show ((storeS p.f1 p.f2).2 == 0) = false by rw [beq_eq_false_iff_ne]; exact hz]; rfl
    obtain ⟨s1, s2, s3⟩ := stored hv hc.1 hc.2 hz
    rw [hz, fits_eq, some_bind, if_pos ⟨s1, hc.2⟩, store_eq _ _ _ (by omega) s3, some_bind, if_pos ⟨s1, hc.2⟩, store_fits s2, fits_eq, some_bind, if_pos hc, s2]
    simp only [beq_self_eq_true, cond_true, some_bind, bne_self_eq_false, cond_false, Bool.not_true, Bool.and_self]
    cases hf : fitsB p.f1 p.f2 with
    | false => rfl
    | true =>
      rw [store_fits hf]
      simp only [cond_true, beq_self_eq_true, Bool.and_self, Bool.not_true, cond_false]
end Go.Proofs.YtdfmfpbdggefpaaDoor.D
