/-
  cadastre/cadastrelaw11.NodeDecodes: what its printed function answers is true, for every list. No condition beyond the numbers' own bounds.
-/
import Derived.Test.YtekjibpkkgldgaaMNw
namespace Go.Proofs.Ytekjibpkkgldgaa.M
open Go Go.AX
theorem dec_j10 {ρ : Type} (k : Nat) (hk : 140737488355328 ≤ k) (kret : Bool → Option ρ) (knxt : List S26 → Int → Option ρ) (l : List S26) (i : Nat) (hi : i < l.length) (hp : IsB (l.getD i default).f3) (ok : Bool) (h512 : ok = true → (l.getD i default).f3.length = 512) :
    cadastrelaw11_NodeDecodes_j10 k kret knxt l i ok = knxt l i := by
  unfold cadastrelaw11_NodeDecodes_j10
  cases ok with
  | false => rfl
  | true =>
    have h := h512 rfl
    rw [cond_true, chk_pos (by omega), Int.toNat_natCast]
    generalize (l.getD i default).f3 = p at *
    have e1 : ((p.drop (1 : Int).toNat).take ((p.length : Int).toNat - (1 : Int).toNat)) = p.drop 1 := by
      rw [Int.toNat_natCast]; exact List.take_of_length_le (by rw [List.length_drop]; exact Nat.le_refl _)
    have b2 : IsB (p ++ [0]) := by
      intro y hy
      rcases List.mem_append.1 hy with q | q
      · exact hp y q
      · rw [List.mem_singleton.1 q]; omega
    rw [chk_pos (by omega), e1, dec_eq k (by omega) (hp.drop 1), some_bind, pageR_none (by rw [List.length_drop]; omega), chk_pos (by omega), copy_eq k p (by omega) (by omega), some_bind, chk_pos (by simp only [List.length_cons, List.length_nil]; omega),
      dec_eq k (by omega) b2, some_bind, pageR_none (by simp; omega)]
    simp only [cadastrelaw11_num, some_bind]
    rfl
theorem NodeDecodes_pure : ∀ l : List S26, (l.length * 64 ≤ 140737488351232 ∧ l.length ≤ 9223372036854775807 ∧ ∀ y ∈ l, (ok26 y)) → ∃ k, cadastrelaw11_NodeDecodes k l = some true := by
  intro l ⟨h1, h2, h3⟩
  obtain ⟨K, hK⟩ : ∃ K : Nat, 140737488355328 ≤ K := ⟨_, Nat.le_refl _⟩
  refine ⟨K, ?_⟩
  unfold cadastrelaw11_NodeDecodes
  refine law_run l.length (fun n i => cadastrelaw11_NodeDecodes_l2 K (fun t => some t) ((cadastrelaw11_wakes K).bind fun r => some r) n l i) (fun n => ?_) (fun n i hi => ?_) l.length 0 K (by omega) (by omega)
  · simp only [cadastrelaw11_NodeDecodes_l2, cadastrelaw11_NodeDecodes_l2_b]
    rw [decide_eq_false (by omega), cond_false, wakes_eq _ (by omega)]; rfl
  · simp only [cadastrelaw11_NodeDecodes_l2, cadastrelaw11_NodeDecodes_l2_b]
    rw [decide_eq_true (show (i : Int) < (l.length : Int) by omega), cond_true]
    by_cases h6 : (i : Int) < 6
    case neg => right; rw [decide_eq_false h6, cond_false, wakes_eq _ (by omega)]; rfl
    rw [decide_eq_true h6, cond_true]
    unfold cadastrelaw11_NodeDecodes_j4
    have ho := h3 _ (getD_mem (d := default) hi)
    have hp : IsB (l.getD i default).f3 := fun y hy => ho.2.2.2.2.2 y hy
    have hj := fun ok kn => dec_j10 K hK (fun t => some t) kn l i hi hp ok
    have hl : (l.getD i default).f2.length ≤ 9000000000000 := by have := ho.2.2.1.1; omega
    obtain ⟨b, hb⟩ := heavy_some K (l.getD i default) hl (by omega)
    rw [chk_pos (by omega), Int.toNat_natCast, hb, some_bind]
    cases b with
    | true => right; rfl
    | false =>
      left
      rw [cond_false, chk_pos (by omega), rcells_eq K (by omega) hp, some_bind, chk_pos (by omega), dec_eq K (by omega) hp, some_bind]
      cases hr : pageR (l.getD i default).f3 with
      | none =>
        simp only [cadastrelaw11_num, some_bind]
        rw [hj false _ (fun h => by cases h)]
        rw [w64n (by omega)]
        rfl
      | some q =>
        obtain ⟨a, c, cs⟩ := q
        obtain ⟨s1, s2, s3⟩ := pageR_small hr
        simp only [cadastrelaw11_num, some_bind, bne_self_eq_false, cond_false]
        rw [eqc_refl K cs (by omega) (fun y hy => by have := s3 y hy; omega) (by omega), some_bind, hj true _ (fun _ => s1)]
        rw [w64n (by omega)]
        rfl
end Go.Proofs.Ytekjibpkkgldgaa.M
