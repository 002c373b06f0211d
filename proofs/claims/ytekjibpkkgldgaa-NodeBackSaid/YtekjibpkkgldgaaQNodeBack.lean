/-
  cadastre/cadastrelaw11.NodeBack: what its printed function answers is true, for every list. No condition beyond the numbers' own bounds.
-/
import Derived.Test.YtekjibpkkgldgaaBOk
import Derived.Test.YtekjibpkkgldgaaBNk
namespace Go.Proofs.Ytekjibpkkgldgaa.B
open Go Go.AX
theorem copy_l3 {ρ : Type} (k : Nat) (kexit : List Int → Option ρ) (l : List Int) (hl : l.length ≤ 140737488351232) : ∀ (d i n : Nat) (acc : List Int), i + d = l.length → d < n → acc.length = i → cadastreref0_CopyBytes_l3 k kexit n l acc i = kexit (acc ++ l.drop i)
  | 0, i, n + 1, acc, hi, _, _ => by
    simp only [cadastreref0_CopyBytes_l3, cadastreref0_CopyBytes_l3_b]
    rw [decide_eq_false (by omega), cond_false, List.drop_eq_nil_of_le (by omega), List.append_nil]
  | d + 1, i, n + 1, acc, hi, hn, ha => by
    simp only [cadastreref0_CopyBytes_l3, cadastreref0_CopyBytes_l3_b]
    rw [decide_eq_true (by omega), cond_true, chk_pos (by omega), Int.toNat_natCast, chk_pos (by simp only [List.length_cons, List.length_nil]; omega), w64n (by omega), copy_l3 k kexit l hl d (i + 1) n _ (by omega) (by omega) (by simp [ha]),
      List.drop_eq_getElem_cons (show i < l.length by omega), getD_get l i 0 (by omega), List.append_assoc]
    rfl
theorem copy_eq (k : Nat) (l : List Int) (hl : l.length ≤ 140737488351232) (hk : l.length < k) : cadastreref0_CopyBytes k l = some l := by
  unfold cadastreref0_CopyBytes
  exact copy_l3 k some l hl l.length 0 k [] (by omega) hk rfl
theorem eqb_l4 {ρ : Type} (k : Nat) (kret : Bool → Option ρ) (kexit : Option ρ) (a : List Int) (ha : a.length ≤ 140737488355328) : ∀ (d i n : Nat), i + d = a.length → d < n → cadastreref0_EqBytes_l4 k kret kexit n a a i = kexit
  | 0, i, n + 1, hi, _ => by
    simp only [cadastreref0_EqBytes_l4, cadastreref0_EqBytes_l4_b]
    rw [decide_eq_false (by omega), cond_false]
  | d + 1, i, n + 1, hi, hn => by
    simp only [cadastreref0_EqBytes_l4, cadastreref0_EqBytes_l4_b]
    rw [decide_eq_true (by omega), cond_true, chk_pos (by omega), chk_pos (by omega), bne_self_eq_false, cond_false, w64n (by omega)]
    exact eqb_l4 k kret kexit a ha d (i + 1) n (by omega) (by omega)
theorem eqb_refl (k : Nat) (a : List Int) (ha : a.length ≤ 140737488355328) (hk : a.length < k) : cadastreref0_EqBytes k a a = some true := by
  unfold cadastreref0_EqBytes
  rw [bne_self_eq_false, cond_false]
  exact eqb_l4 k _ _ a ha a.length 0 k (by omega) hk
theorem eqc_l4 {ρ : Type} (k : Nat) (kret : Bool → Option ρ) (kexit : Option ρ) (a : List (List Int)) (ha : a.length ≤ 140737488355328) (hb : ∀ y ∈ a, y.length ≤ 140737488355328 ∧ y.length < k) : ∀ (d i n : Nat), i + d = a.length → d < n → cadastreref0_EqCells_l4 k kret kexit n a a i = kexit
  | 0, i, n + 1, hi, _ => by
    simp only [cadastreref0_EqCells_l4, cadastreref0_EqCells_l4_b]
    rw [decide_eq_false (by omega), cond_false]
  | d + 1, i, n + 1, hi, hn => by
    simp only [cadastreref0_EqCells_l4, cadastreref0_EqCells_l4_b]
    have hm := hb _ (getD_mem (d := []) (show i < a.length by omega))
    rw [decide_eq_true (by omega), cond_true, chk_pos (by omega), chk_pos (by omega), Int.toNat_natCast, eqb_refl k _ hm.1 hm.2, some_bind, Bool.not_true, cond_false, w64n (by omega)]
    exact eqc_l4 k kret kexit a ha hb d (i + 1) n (by omega) (by omega)
theorem eqc_refl (k : Nat) (a : List (List Int)) (ha : a.length ≤ 140737488355328) (hb : ∀ y ∈ a, y.length ≤ 140737488355328 ∧ y.length < k) (hk : a.length < k) : cadastreref0_EqCells k a a = some true := by
  unfold cadastreref0_EqCells
  rw [bne_self_eq_false, cond_false]
  exact eqc_l4 k _ _ a ha hb a.length 0 k (by omega) hk
theorem heavy_l3 (k : Nat) (p : S26) (hl : p.f2.length ≤ 9000000000000) (hc : ∀ y ∈ p.f2, y.length ≤ 140737488355328) (kexit : Int → S26 → Option Bool) : ∀ (d i m : Nat) (n : Int), i + d = p.f2.length → d < m → i ≤ 300 → 0 ≤ n → n ≤ 140737488355328 * (i + 1) →
    cadastrelaw11_heavy_l3 k kexit m n i p = kexit (n + (sumL ((p.f2.drop i).take (300 - i)) : Int)) p
  | 0, i, m + 1, n, hi, _, h3, h0, h1 => by
    simp only [cadastrelaw11_heavy_l3, cadastrelaw11_heavy_l3_b]
    rw [decide_eq_false (by omega), cond_false, List.drop_eq_nil_of_le (by omega)]
    simp [sumL]
  | d + 1, i, m + 1, n, hi, hm, h3, h0, h1 => by
    have hil : i < p.f2.length := by omega
    simp only [cadastrelaw11_heavy_l3, cadastrelaw11_heavy_l3_b]
    rw [decide_eq_true (by omega), cond_true, big_eq]
    by_cases h : i < 300
    case neg =>
      rw [decide_eq_false (by omega), cond_false, show 300 - i = 0 by omega]
      simp [sumL]
    rw [decide_eq_true (by omega), cond_true]
    unfold cadastrelaw11_heavy_j5
    have hcb := hc _ (getD_mem (d := []) hil)
    rw [chk_pos (by omega), Int.toNat_natCast, w64 (x := n + ((p.f2.getD i []).length : Int)) (by omega) (by omega), w64n (by omega), heavy_l3 k p hl hc kexit d (i + 1) m _ (by omega) (by omega) (by omega) (by omega) (by omega)]
    obtain ⟨q, hq⟩ : ∃ q, 300 - i = q + 1 := ⟨300 - i - 1, by omega⟩
    rw [hq, List.drop_eq_getElem_cons hil, List.take_succ_cons, sumL_cons, show 300 - (i + 1) = q by omega, getD_get p.f2 i [] hil]
    congr 1
    omega
theorem heavy_says (k : Nat) (p : S26) (hl : p.f2.length ≤ 9000000000000) (hc : ∀ y ∈ p.f2, y.length ≤ 140737488355328) (hp : p.f3.length ≤ 140737488355328) (hk : p.f2.length < k) :
    ∃ b, cadastrelaw11_heavy k p = some b ∧ (b = false → p.f2.length ≤ 300 ∧ sumL p.f2 ≤ 3000) := by
  unfold cadastrelaw11_heavy
  have := heavy_l3 k p hl hc (fun n3_4 p1_5 => bif (big (decide (n3_4 > 3000))) then some true else some (big (decide ((p1_5.f2.length : Int) > 300)))) p.f2.length 0 k (p.f3.length : Int) (by omega) hk (by omega) (by omega) (by omega)
  refine ⟨decide ((p.f3.length : Int) + (sumL ((p.f2.drop 0).take (300 - 0)) : Int) > 3000) || decide ((p.f2.length : Int) > 300), this.trans ?_, ?_⟩
  · rw [big_eq, big_eq]
    by_cases h : (p.f3.length : Int) + (sumL ((p.f2.drop 0).take (300 - 0)) : Int) > 3000
    · rw [decide_eq_true h, cond_true, Bool.true_or]
    · rw [decide_eq_false h, cond_false, Bool.false_or]
  · intro h
    rw [Bool.or_eq_false_iff, decide_eq_false_iff_not, decide_eq_false_iff_not] at h
    have h2 : p.f2.length ≤ 300 := by omega
    refine ⟨h2, ?_⟩
    have := h.1
    rw [List.drop_zero, List.take_of_length_le (by omega)] at this
    omega
theorem within_eq (k : Nat) (x n : Int) (h0 : 0 < n) (h1 : n ≤ 4294967296) : ∃ r, cadastrelaw0_Within k x n = some r ∧ 0 ≤ r ∧ r < n := by
  unfold cadastrelaw0_Within
  have e : IntKind.u64.wrap n = n := by rw [wrap_u64]; omega
  have hx : 0 ≤ IntKind.u64.wrap x := by rw [wrap_u64]; omega
  rw [e, if_neg (by omega)]
  have hm := Int.tmod_eq_emod_of_nonneg (b := n) hx
  dsimp only
  rw [hm]
  have h2 := Int.emod_nonneg (IntKind.u64.wrap x) (show n ≠ 0 by omega)
  have h3 := Int.emod_lt_of_pos (IntKind.u64.wrap x) h0
  rw [w64 (by omega) (by omega)]
  exact ⟨_, rfl, h2, h3⟩
theorem sum_mem {l : List (List Int)} {c : List Int} (h : c ∈ l) : c.length ≤ sumL l := by
  induction l with
  | nil => cases h
  | cons x r ih =>
    rw [sumL_cons]
    rcases List.mem_cons.1 h with rfl | h
    · omega
    · have := ih h; omega
theorem tot_append : ∀ (a b : List (List Int)), tot (a ++ b) = tot a + tot b
  | [], b => by simp [tot]
  | c :: a, b => by rw [List.cons_append, tot_cons, tot_cons, tot_append a b]; omega
theorem sumL_append : ∀ (a b : List (List Int)), sumL (a ++ b) = sumL a + sumL b
  | [], b => by simp [sumL]
  | c :: a, b => by rw [List.cons_append, sumL_cons, sumL_cons, sumL_append a b]; omega
theorem copyc_l3 {ρ : Type} (k : Nat) (kexit : List (List Int) → Option ρ) (l : List (List Int)) (hl : l.length ≤ 1000000) (hc : ∀ y ∈ l, y.length ≤ 140737488351232 ∧ y.length < k) : ∀ (d i n : Nat) (acc : List (List Int)), i + d = l.length → d < n → acc.length = i → cadastreref0_CopyCells_l3 k kexit n l acc i = kexit (acc ++ l.drop i)
  | 0, i, n + 1, acc, hi, _, _ => by
    simp only [cadastreref0_CopyCells_l3, cadastreref0_CopyCells_l3_b]
    rw [decide_eq_false (by omega), cond_false, List.drop_eq_nil_of_le (by omega), List.append_nil]
  | d + 1, i, n + 1, acc, hi, hn, ha => by
    simp only [cadastreref0_CopyCells_l3, cadastreref0_CopyCells_l3_b]
    have hm := hc _ (getD_mem (d := []) (show i < l.length by omega))
    rw [decide_eq_true (by omega), cond_true, chk_pos (by omega), Int.toNat_natCast, copy_eq k _ hm.1 hm.2, some_bind, chk_pos (by simp only [List.length_cons, List.length_nil]; omega), w64n (by omega), copyc_l3 k kexit l hl hc d (i + 1) n _ (by omega) (by omega) (by simp [ha]),
      List.drop_eq_getElem_cons (show i < l.length by omega), getD_get l i [] (by omega), List.append_assoc]
    rfl
theorem copyc_eq (k : Nat) (l : List (List Int)) (hl : l.length ≤ 1000000) (hc : ∀ y ∈ l, y.length ≤ 140737488351232 ∧ y.length < k) (hk : l.length < k) : cadastreref0_CopyCells k l = some l := by
  unfold cadastreref0_CopyCells
  exact copyc_l3 k some l hl hc l.length 0 k [] (by omega) hk rfl
theorem wakes_eq (k : Nat) (hk : 1000 ≤ k) : cadastrelaw11_wakes k = some true := by
  unfold cadastrelaw11_wakes cadastrelaw11_num
  have hr : roomR [] = 505 := rfl
  rw [enc_eq k hk 1 0 (cells := []) (by simp) (by simp [sumL]) (fun c h => by cases h) (by omega) (by omega) (by omega) (by omega), if_neg (by rw [hr]; omega), some_bind, some_bind, room_eq k (by omega) (cells := []) (by simp) (by simp [sumL]), some_bind, hr]
  obtain ⟨p1, _, p3⟩ := page_says 1 0 (cells := []) (by simp) (by rw [hr]; omega) (by omega) (by omega) (by omega) (by omega) (fun c h => by cases h)
  have p4 : (page 1 0 []).getD 0 0 = 1 := by
    unfold pageR at p3
    split at p3
    · cases hc : cellsR (page 1 0 []) (7 + 2 * word (page 1 0 []) 1) (word (page 1 0 []) 1) 0 (fun _ => false) [] with
      | none => rw [hc] at p3; cases p3
      | some q => rw [hc] at p3; simp only [Option.map_some, Option.some.injEq, Prod.mk.injEq] at p3; exact p3.1
    · cases p3
  dsimp only
  rw [p1, p4, chk_pos (by omega), big_eq, big_eq]
  rfl
theorem back_j17 {ρ : Type} (k : Nat) (hk : 140737488355328 ≤ k) (kret : Bool → Option ρ) (knxt : List S26 → Int → Option ρ) (l : List S26) (i : Int) (kind next : Int) (p : S26) (h1 : p.f2.length ≤ 300) (h2 : sumL p.f2 ≤ 3000) (hr : 0 ≤ roomR p.f2) (k0 : 0 ≤ kind) (k1 : kind < 256) (n0 : 0 ≤ next) (n1 : next < 4294967296) :
    cadastrelaw11_NodeBack_j17 k kret knxt l i kind next (roomR p.f2) p = knxt l i := by
  unfold cadastrelaw11_NodeBack_j17
  have hr2 : roomR p.f2 ≤ 505 := by unfold roomR; omega
  have hsm : ∀ y ∈ p.f2, y.length ≤ 3000 := fun y hy => by have := sum_mem hy; omega
  rw [copyc_eq k p.f2 (by omega) (fun y hy => by have := hsm y hy; omega) (by omega), some_bind, w64 (x := roomR p.f2 + 1) (by omega) (by omega), chk_pos (by omega), chk_pos (by simp only [List.length_cons, List.length_nil]; omega)]
  obtain ⟨z, hz⟩ : ∃ z, z = List.replicate (roomR p.f2 + 1).toNat (0 : Int) := ⟨_, rfl⟩
  have hzl : z.length = (roomR p.f2 + 1).toNat := by rw [hz, List.length_replicate]
  rw [← hz]
  have g1 : (p.f2 ++ [z]).length ≤ 400 := by simp; omega
  have g2 : sumL (p.f2 ++ [z]) ≤ 10000 := by rw [sumL_append]; simp [sumL] at h2 ⊢; omega
  have g3 : ∀ c ∈ p.f2 ++ [z], c.length ≤ 10000 := fun c hc => by
    rcases List.mem_append.1 hc with q | q
    · have := hsm c q; omega
    · rw [List.mem_singleton.1 q]; omega
  have g4 : roomR (p.f2 ++ [z]) < 0 := by
    have ht := tot_append p.f2 [z]
    have hc : tot [z] = (cellB z).length := by simp [tot]
    have hcl : z.length ≤ (cellB z).length := by unfold cellB; rw [List.length_append]; omega
    have hll : (p.f2 ++ [z]).length = p.f2.length + 1 := by simp
    unfold roomR at hr hr2 hzl ⊢
    omega
  rw [enc_eq k (by omega) kind next g1 g2 g3 k0 k1 n0 n1, if_pos g4, some_bind]
  simp only [cadastrelaw11_num, some_bind]
  rw [room_eq k (by omega) g1 g2, some_bind, decide_eq_false (by omega), cond_false]
  rfl
theorem NodeBack_pure : ∀ l : List S26, (l.length * 64 ≤ 140737488351232 ∧ l.length ≤ 9223372036854775807 ∧ ∀ y ∈ l, (ok26 y)) → ∃ k, cadastrelaw11_NodeBack k l = some true := by
  intro l ⟨h1, h2, h3⟩
  obtain ⟨K, hK⟩ : ∃ K : Nat, 140737488355328 ≤ K := ⟨_, Nat.le_refl _⟩
  refine ⟨K, ?_⟩
  unfold cadastrelaw11_NodeBack
  refine law_run l.length (fun n i => cadastrelaw11_NodeBack_l2 K (fun t => some t) ((cadastrelaw11_wakes K).bind fun r => some r) n l i) (fun n => ?_) (fun n i hi => ?_) l.length 0 K (by omega) (by omega)
  · simp only [cadastrelaw11_NodeBack_l2, cadastrelaw11_NodeBack_l2_b]
    rw [decide_eq_false (by omega), cond_false, wakes_eq _ (by omega)]; rfl
  · simp only [cadastrelaw11_NodeBack_l2, cadastrelaw11_NodeBack_l2_b]
    rw [decide_eq_true (show (i : Int) < (l.length : Int) by omega), cond_true]
    by_cases h6 : (i : Int) < 6
    case neg => right; rw [decide_eq_false h6, cond_false, wakes_eq _ (by omega)]; rfl
    rw [decide_eq_true h6, cond_true]
    unfold cadastrelaw11_NodeBack_j4
    rw [chk_pos (by omega), Int.toNat_natCast]
    have ho := h3 _ (getD_mem (d := default) hi)
    generalize l.getD i default = p at *
    obtain ⟨_, _, ⟨c1, c2, c3⟩, c4, _, _⟩ := ho
    obtain ⟨b, hb1, hb2⟩ := heavy_says K p (by omega) (fun y hy => by have := (c3 y hy).1; omega) (by omega) (by omega)
    rw [hb1, some_bind]
    cases b with
    | true => right; rfl
    | false =>
      left
      obtain ⟨s1, s2⟩ := hb2 rfl
      obtain ⟨kind, w1, w2, w3⟩ := within_eq K p.f0 256 (by omega) (by omega)
      obtain ⟨next, v1, v2, v3⟩ := within_eq K p.f1 4294967296 (by omega) (by omega)
      have hsm : ∀ y ∈ p.f2, y.length ≤ 3000 := fun y hy => by have := sum_mem hy; omega
      have hB : ∀ c ∈ p.f2, IsB c := fun c hc => (c3 c hc).2.2
      rw [cond_false, w1, some_bind, v1, some_bind, enc_eq K (by omega) kind next (by omega) (by omega) (fun c hc => by have := hsm c hc; omega) w2 w3 v2 v3, some_bind, room_eq K (by omega) (by omega) (by omega), some_bind]
      simp only [cadastrelaw11_num, some_bind]
      by_cases hr : roomR p.f2 < 0
      · rw [if_pos hr, decide_eq_false (by omega)]
        unfold cadastrelaw11_NodeBack_j13
        simp only [cadastrelaw11_num, some_bind]
        rw [w64n (by omega)]
        rfl
      · rw [if_neg hr, decide_eq_true (by omega)]
        obtain ⟨p1, p2, p3⟩ := page_says kind next (cells := p.f2) (by omega) (by omega) w2 w3 v2 v3 hB
        unfold cadastrelaw11_NodeBack_j13
        simp only [cadastrelaw11_num, some_bind]
        rw [dec_eq K (by omega) p2, p3, some_bind]
        simp only [bne_self_eq_false, cond_false, beq_self_eq_true, Bool.not_true]
        rw [eqc_refl K p.f2 (by omega) (fun y hy => by have := hsm y hy; omega) (by omega), some_bind, p1, big_eq]
        rw [back_j17 K hK _ _ l i kind next p s1 s2 (by omega) w2 w3 v2 v3]
        rw [w64n (by omega)]
        rfl
end Go.Proofs.Ytekjibpkkgldgaa.B
