/-
  cadastre/cadastrelaw7.KeysFinds: what its printed function answers is true, for every list. No condition beyond the numbers' own bounds.
-/
import Derived.Test.YtcongmnnacmbmaaKOk
import Derived.Test.YtcongmnnacmbmaaKKf
namespace Go.Proofs.Ytcongmnnacmbmaa.K
open Go Go.AX
theorem light_l5 {ρ : Type} (k : Nat) (l : List S41) (kexit : Int → Int → Option ρ) (most : Int) : ∀ (d i n : Nat) (x : Int), i + d = l.length → d < n → l.length ≤ 1000000000000 → ∃ y, cadastrelaw0_Light_l5 k kexit n l most x i = kexit most y
  | 0, i, n + 1, x, hi, _, _ => by
    simp only [cadastrelaw0_Light_l5, cadastrelaw0_Light_l5_b]
    exact ⟨x, by rw [decide_eq_false (by omega), cond_false]⟩
  | d + 1, i, n + 1, x, hi, hn, hl => by
    simp only [cadastrelaw0_Light_l5, cadastrelaw0_Light_l5_b]
    rw [decide_eq_true (by omega), cond_true, chk_pos (by omega), w64n (i := i) (by omega)]
    exact light_l5 k l kexit most d (i + 1) n _ (by omega) (by omega) hl
theorem light_eq (k : Nat) (hk : 300 ≤ k) (l : List S41) (most : Int) : ∃ b, cadastrelaw0_Light k l most = some b := by
  unfold cadastrelaw0_Light
  by_cases h : (l.length : Int) > 200
  · rw [decide_eq_true h, cond_true]; exact ⟨false, rfl⟩
  · rw [decide_eq_false h, cond_false]
    obtain ⟨y, e⟩ := light_l5 k l (fun m n => some (decide (n ≤ m))) most l.length 0 k 0 (by omega) (by omega) (by omega)
    exact ⟨_, e⟩
theorem lights_l10 {ρ : Type} (k : Nat) (l : List (List S41)) (kexit : List (List S41) → Int → Int → Int → Option ρ) (most : Int) (i : Nat) (hi : i < l.length) : ∀ (d j n : Nat) (x : Int), j + d = (l.getD i []).length → d < n → (l.getD i []).length ≤ 1000000000000 → ∃ y, cadastrelaw0_LightLists_l10 k kexit n l most x i j = kexit l most y i
  | 0, j, n + 1, x, hj, _, _ => by
    simp only [cadastrelaw0_LightLists_l10, cadastrelaw0_LightLists_l10_b]
    exact ⟨x, by rw [chk_pos (by omega), Int.toNat_natCast, decide_eq_false (by omega), cond_false]⟩
  | d + 1, j, n + 1, x, hj, hn, hl => by
    simp only [cadastrelaw0_LightLists_l10, cadastrelaw0_LightLists_l10_b]
    rw [chk_pos (by omega), Int.toNat_natCast, decide_eq_true (by omega), cond_true, chk_pos (by omega), chk_pos (by omega), w64n (i := j) (by omega)]
    exact lights_l10 k l kexit most i hi d (j + 1) n _ (by omega) (by omega) hl
theorem lights_l5 (k : Nat) (hk : 300 ≤ k) (l : List (List S41)) (most : Int) : ∀ (d i n : Nat) (x : Int), i + d = l.length → d < n → l.length ≤ 1000000000000 → ∃ b, cadastrelaw0_LightLists_l5 k (fun t => some t) (fun m n => some (decide (n ≤ m))) n l most x i = some b
  | 0, i, n + 1, x, hi, _, _ => by
    simp only [cadastrelaw0_LightLists_l5, cadastrelaw0_LightLists_l5_b]
    exact ⟨_, by rw [decide_eq_false (by omega), cond_false]⟩
  | d + 1, i, n + 1, x, hi, hn, hl => by
    simp only [cadastrelaw0_LightLists_l5, cadastrelaw0_LightLists_l5_b]
    rw [decide_eq_true (by omega), cond_true, chk_pos (by omega), Int.toNat_natCast]
    by_cases h : ((l.getD i []).length : Int) > 100
    · rw [decide_eq_true h, cond_true]; exact ⟨false, rfl⟩
    · rw [decide_eq_false h, cond_false]
      obtain ⟨y, e⟩ := lights_l10 k l (fun a b c i => cadastrelaw0_LightLists_l5 k (fun t => some t) (fun m n => some (decide (n ≤ m))) n a b c (IntKind.i64.wrap (i + 1))) most i (by omega) (l.getD i []).length 0 k x (by omega) (by omega) (by omega)
      rw [w64n (by omega)] at e
      obtain ⟨b, hb⟩ := lights_l5 k hk l most d (i + 1) n y (by omega) (by omega) hl
      exact ⟨b, e.trans hb⟩
theorem lights_eq (k : Nat) (hk : 300 ≤ k) (l : List (List S41)) (most : Int) : ∃ b, cadastrelaw0_LightLists k l most = some b := by
  unfold cadastrelaw0_LightLists
  by_cases h : (l.length : Int) > 200
  · rw [decide_eq_true h, cond_true]; exact ⟨false, rfl⟩
  · rw [decide_eq_false h, cond_false]
    exact lights_l5 k hk l most l.length 0 k 0 (by omega) (by omega) (by omega)
theorem heavy_eq (k : Nat) (hk : 300 ≤ k) (p : S25) : ∃ b, cadastrelaw7_heavy k p = some b := by
  unfold cadastrelaw7_heavy
  obtain ⟨a, ha⟩ := light_eq k hk p.f0 5000
  obtain ⟨b, hb⟩ := light_eq k hk p.f1 5000
  obtain ⟨c, hc⟩ := lights_eq k hk p.f2 5000
  rw [ha, some_bind, hb, some_bind, hc, some_bind]
  cases a <;> cases b <;> exact ⟨_, rfl⟩
theorem wakes_eq (k : Nat) (hk : 5000 ≤ k) : cadastrelaw7_wakes k = some true := by
  unfold cadastrelaw7_wakes
  rw [kcmp_eq_ev k hk _ _ (by decide +kernel) (by decide +kernel), some_bind, cadastrelaw7_num, some_bind]
  decide +kernel
theorem finds_l10 {ρ : Type} (k : Nat) (hk : 140737488355328 ≤ k) (kret : Bool → Option ρ) (kexit : List S25 → Int → S25 → Option ρ) (l : List S25) (i : Int) (p : S25) (hl : p.f2.length * 24 ≤ 140737488351232) (hg : ∀ y ∈ p.f2, kgood y = true) (g0 : kgood p.f0 = true) (hs : sorted p.f2) (r : Nat) (hp : placeAt p.f2 p.f0 r) (hy : ∀ y ∈ p.f2, y.length < k ∧ y.length ≤ 9223372036854775807) :
    ∀ (d j n : Nat), j + d = p.f2.length → d < n → cadastrelaw7_KeysFinds_l10 k kret kexit n l i r j p = kexit l i p
  | 0, j, n + 1, hj, _ => by
    simp only [cadastrelaw7_KeysFinds_l10, cadastrelaw7_KeysFinds_l10_b]
    rw [decide_eq_false (by omega), cond_false]
  | d + 1, j, n + 1, hj, hn => by
    have hjl : j < p.f2.length := by omega
    simp only [cadastrelaw7_KeysFinds_l10, cadastrelaw7_KeysFinds_l10_b]
    obtain ⟨m, e, h1, h2, h3⟩ := find_eq k p.f2 (p.f2.getD j []) (by omega) hl (by omega) hy (hy _ (getD_mem hjl))
    have he : e = 0 := h2.2 ⟨hg, hg _ (getD_mem hjl), hs⟩
    obtain ⟨q, rfl, hq⟩ := h3 he
    subst he
    have hqj : q = j := by
      have a1 := place_all hs hq
      have s0 : ¬ j < q := fun h => by have := (a1 j hjl).2 h; rw [kcmp_refl] at this; omega
      by_cases e : q = j
      · exact e
      · exact absurd (sorted_pair hs (i := q) (j := j) (by omega) hjl) (fun h => by have := (a1 q (by omega)).1 h; omega)
    subst hqj
    rw [decide_eq_true (by omega), cond_true, chk_pos (by omega), Int.toNat_natCast, kcmp_eq_ev k (by omega) _ _ (hg _ (getD_mem hjl)) g0, some_bind, chk_pos (by omega), h1, some_bind]
    simp only [cadastrelaw7_num, some_bind, show ((0 : Int) != 0) = false from rfl, cond_false, bne_self_eq_false]
    have w := place_all hs hp q hjl
    have ih := finds_l10 k hk kret kexit l i p hl hg g0 hs r hp hy d (q + 1) n (by omega) (by omega)
    rw [w64n (by omega), ih]
    by_cases h : q < r
    · rw [decide_eq_true (show (q : Int) < (r : Int) by omega), cond_true, decide_eq_false (show ¬ kcmp (p.f2.getD q []) p.f0 ≥ 0 by have := w.2 h; omega), cond_false, decide_eq_false (show ¬ (q : Int) ≥ (r : Int) by omega), cond_false]
    · rw [decide_eq_false (show ¬ (q : Int) < (r : Int) by omega), cond_false, decide_eq_true (show (q : Int) ≥ (r : Int) by omega), cond_true, decide_eq_false (show ¬ kcmp (p.f2.getD q []) p.f0 < 0 by intro q'; exact h (w.1 q')), cond_false]
theorem KeysFinds_pure : ∀ l : List S25, (l.length * 72 ≤ 140737488351232 ∧ l.length ≤ 9223372036854775807 ∧ ∀ y ∈ l, (ok25 y)) → ∃ k, cadastrelaw7_KeysFinds k l = some true := by
  intro l ⟨h1, h2, h3⟩
  obtain ⟨K, hK⟩ : ∃ K : Nat, 140737488355328 ≤ K := ⟨_, Nat.le_refl _⟩
  refine ⟨K, ?_⟩
  unfold cadastrelaw7_KeysFinds
  refine law_run l.length (fun n i => cadastrelaw7_KeysFinds_l2 K (fun t => some t) ((cadastrelaw7_wakes K).bind fun r => some r) n l i) (fun n => ?_) (fun n i hi => ?_) l.length 0 K (by omega) (by omega)
  · simp only [cadastrelaw7_KeysFinds_l2, cadastrelaw7_KeysFinds_l2_b]
    rw [decide_eq_false (by omega), cond_false, wakes_eq _ (by omega)]; rfl
  · simp only [cadastrelaw7_KeysFinds_l2, cadastrelaw7_KeysFinds_l2_b]
    rw [decide_eq_true (show (i : Int) < (l.length : Int) by omega), cond_true]
    by_cases h6 : (i : Int) < 12
    case neg => right; rw [decide_eq_false h6, cond_false, wakes_eq _ (by omega)]; rfl
    rw [decide_eq_true h6, cond_true]
    unfold cadastrelaw7_KeysFinds_j4
    rw [chk_pos (by omega), Int.toNat_natCast]
    have ho := h3 _ (getD_mem (d := default) hi)
    generalize l.getD i default = p at *
    obtain ⟨⟨a1, a2, _⟩, _, c1, c2, c3⟩ := ho
    obtain ⟨b, hb⟩ := heavy_eq K (by omega) p
    rw [hb, some_bind]
    cases b with
    | true => right; rfl
    | false =>
      left
      rw [cond_false]
      have hy : ∀ y ∈ p.f2, y.length < K ∧ y.length ≤ 9223372036854775807 := fun y hy => by have := (c3 y hy).1; omega
      have hkey : p.f0.length < K ∧ p.f0.length ≤ 9223372036854775807 := by omega
      obtain ⟨m, e, q1, q2, q3⟩ := find_eq K p.f2 p.f0 (by omega) c1 (by omega) hy hkey
      rw [q1, some_bind, cadastrelaw7_num, some_bind, w64n (by omega)]
      by_cases he : e = 0
      case neg => rw [show (e != 0) = true from bne_iff_ne.2 he, cond_true]
      obtain ⟨r, rfl, hp⟩ := q3 he
      obtain ⟨g1, g2, g3⟩ := q2.1 he
      subst he
      rw [show ((0 : Int) != 0) = false from rfl, cond_false]
      refine (finds_l10 K hK _ _ l i p c1 g1 g2 g3 r hp hy p.f2.length 0 K (by omega) (by omega)).trans ?_
      obtain ⟨m2, e2, t1, t2, t3⟩ := find_eq K [] p.f0 (by omega) (by simp) (by simp; omega) (fun y hy => absurd hy (by simp)) hkey
      have he2 : e2 = 0 := t2.2 ⟨fun y hy => absurd hy (by simp), g2, fun j _ hj => absurd hj (by simp)⟩
      obtain ⟨r2, rfl, hp2⟩ := t3 he2
      have : r2 = 0 := by have := hp2.1; simpa using this
      subst this
      subst he2
      rw [t1, some_bind, cadastrelaw7_num, some_bind, w64n (by omega)]
      rfl
end Go.Proofs.Ytcongmnnacmbmaa.K
