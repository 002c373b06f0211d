/-
  cadastre/cadastrelaw6.RecordBack: what its printed function answers is true, for every list. No condition beyond the numbers' own bounds.
-/
import Derived.Test.YtekjibpkkgldgaaROk
import Derived.Test.YtekjibpkkgldgaaRDl
namespace Go.Proofs.Ytekjibpkkgldgaa.R
open Go Go.AX

theorem vok_of {v : S44} (h : ok44 v) : vok v := ⟨h.2.1.1, h.2.1.2, h.2.2⟩
theorem decR_small {b : List Int} (hb : IsB b) : (decR b).1.length ≤ 17 := by
  rcases decR_says hb with c | ⟨_, _, _, _, c, _⟩
  · rw [c]; exact Nat.zero_le _
  · exact c
theorem decR_code {b : List Int} (hb : IsB b) : decR b = ([], 1) ∨ (decR b).2 = 0 := by
  rcases decR_says hb with c | ⟨c, _⟩
  · exact .inl c
  · exact .inr (by rw [c])
theorem enc_say (l : List S44) : ((encR l).2 = 0 ∧ l.all good = true ∧ l.length ≤ 17 ∧ (encv l).length ≤ 16384 ∧ encR l = (encv l, 0)) ∨ (encR l).2 ≠ 0 := by
  unfold encR
  by_cases hg : l.all good = true
  · rw [if_pos hg]
    by_cases h17 : 17 < l.length
    · rw [if_pos h17]; exact .inr (by decide)
    · rw [if_neg h17]
      by_cases hs : 16384 < (encv l).length
      · rw [if_pos hs]; exact .inr (by decide)
      · rw [if_neg hs]; exact .inl ⟨rfl, hg, by omega, by omega, rfl⟩
  · rw [if_neg hg]; exact .inr (by decide)
theorem rall_eq (k : Nat) (l : List S44) (hn : l.length < k) (hl : l.length ≤ 1000000000000) : cadastreref2_All k l = some (l.all good) := by
  unfold cadastreref2_All
  have ha := rall_l2 k l (fun t => some t) (some true) l.length 0 k (by omega) hn hl
  rw [Int.natCast_zero, List.drop_zero] at ha
  rw [ha]
  cases l.all good <;> rfl
section
variable {l : List S44} (hg : l.all good = true) (hv : ∀ v ∈ l, vok v) (h17 : l.length ≤ 17)
include hg hv h17
theorem dec_short {m : Nat} (h : m < (encv l).length) : decR ((encv l).take m) = ([], 1) := by
  have hb : IsB ((encv l).take m) := fun y hy => encv_byte l hg y (List.mem_of_mem_take hy)
  rcases decR_says hb with c | ⟨_, c, g, v, c17, _⟩
  · exact c
  · have := enc_prefix hg hv h17 g v c17 (s := (encv l).drop m) (by rw [← c, List.take_append_drop])
    have := congrArg List.length this
    simp at this; omega
theorem dec_long : decR (encv l ++ [0]) = ([], 1) := by
  have hb : IsB (encv l ++ [0]) := fun y hy => by
    rcases List.mem_append.1 hy with h | h
    · exact encv_byte l hg y h
    · simp at h; omega
  rcases decR_says hb with c | ⟨_, c, g, v, c17, _⟩
  · exact c
  · have := enc_prefix g v c17 hg hv h17 (s := [0]) c
    exact absurd this (by simp)
theorem back_l14 {ρ : Type} (k : Nat) (hk : 40 ≤ k) (hs : (encv l).length ≤ 16384) (kret : Bool → Option ρ) (kexit : List S34 → Int → S34 → Option ρ) (q : List S34) (i : Int) (p : S34) : ∀ (n m : Nat), (encv l).length < n + m →
    cadastrelaw6_RecordBack_l14 k kret kexit (n + 1) q i (encv l) (m : Int) p = kexit q i p
  | n, m, h => by
    simp only [cadastrelaw6_RecordBack_l14, cadastrelaw6_RecordBack_l14_b]
    by_cases hm : m < (encv l).length
    · have hb : IsB ((encv l).take m) := fun y hy => encv_byte l hg y (List.mem_of_mem_take hy)
      have ht : (List.take ((m : Int).toNat - (0 : Int).toNat) ((encv l).drop (0 : Int).toNat)) = (encv l).take m := rfl
      rw [decide_eq_true (by omega), cond_true, chk_pos (by omega), ht, dec_eq k hk hb (by rw [List.length_take]; omega), some_bind, dec_short hg hv h17 hm, cadastrelaw6_num, some_bind]
      have e : IntKind.i64.wrap (IntKind.i64.wrap ((m : Int) + 1) + IntKind.i64.wrap (Int.tdiv ((encv l).length : Int) 20)) = ((m + 1 + (encv l).length / 20 : Nat) : Int) := by
        rw [Int.tdiv_eq_ediv_of_nonneg (by omega), w64n (by omega), w64 (x := ((encv l).length : Int) / 20) (by omega) (by omega), w64 (by omega) (by omega)]; omega
      rw [show ((([] : List S44), (1 : Int)).2 != 1) = false from rfl, cond_false]
      simp only [e]
      cases n with
      | zero => omega
      | succ n => exact back_l14 k hk hs kret kexit q i p n _ (by omega)
    · rw [decide_eq_false (by omega), cond_false]
end
theorem back_j19 {ρ : Type} (k : Nat) (hk : 40 ≤ k) (hk2 : 20000 ≤ k) (kret : Bool → Option ρ) (knxt : List S34 → Int → Option ρ) (q : List S34) (i : Int) (p : S34) (hB : IsB p.f1) (hl : p.f1.length ≤ 140737488351232) : cadastrelaw6_RecordBack_j19 k kret knxt q i p = knxt q i := by
  unfold cadastrelaw6_RecordBack_j19
  rw [dec_eq k hk hB hl, some_bind, cadastrelaw6_num, some_bind]
  rcases decR_says hB with c | ⟨c, e, g, v, h17, hs⟩
  · rw [c]; rfl
  · rw [show ((decR p.f1).2 == 0) = true by rw [c]; rfl, cond_true, enc_eq k hk _ v (by omega) (by omega), some_bind]
    have he : encR (decR p.f1).1 = (p.f1, 0) := by
      unfold encR
      rw [if_pos g, if_neg (by omega), ← e, if_neg (by omega)]
    rw [he, cadastrelaw6_num, some_bind, show (((p.f1, (0 : Int)).2) != 0) = false from rfl, cond_false, eqb k _ _ (by simp only; omega) (by simp only; omega), some_bind, decide_eq_true rfl, Bool.not_true, cond_false, rall_eq k _ (by omega) (by omega), g, some_bind]
    rfl
theorem rb_j4 {ρ : Type} (k : Nat) (hk : 300 ≤ k) (hk2 : 20000 ≤ k) (l : List S34) (i : Nat) (hi : i < l.length) (hn : l.length ≤ 9223372036854775807) (ho : ok34 (l.getD i default)) (kret : Bool → Option ρ) (knxt : List S34 → Int → Option ρ) :
    cadastrelaw6_RecordBack_j4 k kret knxt l i = kret true ∨ cadastrelaw6_RecordBack_j4 k kret knxt l i = knxt l ((i + 1 : Nat) : Int) := by
  unfold cadastrelaw6_RecordBack_j4
  rw [chk_pos (by omega), Int.toNat_natCast]
  generalize l.getD i default = p at ho
  unfold cadastrelaw6_heavy
  obtain ⟨b, e, hb⟩ := light_eq k hk p.f0 20000
  rw [e, some_bind]
  cases b with
  | false => left; rfl
  | true =>
    rw [Bool.not_true, cond_false, some_bind, bigd]
    by_cases hw : (p.f1.length : Int) > 3000
    · left; rw [decide_eq_true hw]; rfl
    · right
      have hl := hb rfl
      have hv : ∀ v ∈ p.f0, vok v := fun v hv => vok_of (ho.1.2.2 v hv)
      have hB : IsB p.f1 := ho.2.2.2
      rw [decide_eq_false hw, cond_false, enc_eq k (by omega) _ hv (by omega) (by omega), some_bind, cadastrelaw6_num, some_bind]
      have j19 : ∀ (kr : Bool → Option ρ) (kn : List S34 → Int → Option ρ) (q : List S34) (j : Int), cadastrelaw6_RecordBack_j19 k kr kn q j p = kn q j := fun kr kn q j => back_j19 k (by omega) hk2 kr kn q j p hB (by have := ho.2.1; omega)
      rcases enc_say p.f0 with ⟨z, g, h17, hs, ee⟩ | z
      · rw [ee]
        simp only [show (((encv p.f0, (0 : Int)).2) == 0) = true from rfl, cond_true, cadastrelaw6_num, some_bind]
        have hBe := encv_byte p.f0 g
        rw [dec_eq k (by omega) hBe (by omega), some_bind, copy_eq k _ (by omega) (by omega), some_bind, chk_pos (by simp only [List.length_cons, List.length_nil]; omega),
          dec_eq k (by omega) (fun y hy => by
            rcases List.mem_append.1 hy with h | h
            · exact hBe y h
            · simp at h; omega) (by simp; omega), some_bind, decR_enc g hv h17 hs, dec_long g hv h17]
        simp only [bne_self_eq_false, cond_false]
        rw [eqv_refl k _ (by omega) (by omega), some_bind, Bool.not_true, cond_false]
        unfold cadastrelaw6_RecordBack_j13
        obtain ⟨k', rfl⟩ : ∃ k', k = k' + 1 := ⟨k - 1, by omega⟩
        have := back_l14 g hv h17 (k' + 1) (by omega) hs kret (fun l0_18 i3_19 p4_20 => cadastrelaw6_RecordBack_j19 (k' + 1) kret (fun l0_28 i3_29 => knxt l0_28 (IntKind.i64.wrap (i3_29 + 1))) l0_18 i3_19 p4_20) l (i : Int) p k' 0 (by omega)
        refine Eq.trans this ?_
        rw [j19, w64n (by omega)]
      · rw [show ((encR p.f0).2 == 0) = false by simpa using z, cond_false, j19, w64n (by omega)]
theorem rb_l2 (k : Nat) (hk : 20000 ≤ k) (l : List S34) (hn : l.length ≤ 9223372036854775807) (ho : ∀ y ∈ l, ok34 y) (kexit : Option Bool) (hx : kexit = some true) :
    ∀ (d i n : Nat), i + d = l.length → d < n → cadastrelaw6_RecordBack_l2 k some kexit n l i = some true
  | 0, i, n + 1, hi, _ => by
    simp only [cadastrelaw6_RecordBack_l2, cadastrelaw6_RecordBack_l2_b]
    rw [decide_eq_false (by omega), cond_false, hx]
  | d + 1, i, n + 1, hi, hlt => by
    simp only [cadastrelaw6_RecordBack_l2, cadastrelaw6_RecordBack_l2_b]
    rw [decide_eq_true (by omega), cond_true]
    by_cases h12 : (i : Int) < 12
    · rw [decide_eq_true h12, cond_true]
      rcases rb_j4 k (by omega) hk l i (by omega) hn (ho _ (getD_mem (by omega))) some (cadastrelaw6_RecordBack_l2 k some kexit n) with e | e
      · exact e
      · rw [e]; exact rb_l2 k hk l hn ho kexit hx d (i + 1) n (by omega) (by omega)
    · rw [decide_eq_false h12, cond_false, hx]

theorem RecordBack_pure : ∀ l : List S34, (l.length * 48 ≤ 140737488351232 ∧ l.length ≤ 9223372036854775807 ∧ ∀ y ∈ l, (ok34 y)) → ∃ k, cadastrelaw6_RecordBack k l = some true := by
  rintro l ⟨-, hn, ho⟩
  refine ⟨l.length + 20000, ?_⟩
  unfold cadastrelaw6_RecordBack
  exact rb_l2 _ (by omega) l hn ho _ (by rw [wakes_eq _ (by omega)]; rfl) l.length 0 _ (by omega) (by omega)
end Go.Proofs.Ytekjibpkkgldgaa.R
