/-
  cadastre/cadastrelaw6.RecordExact: what its printed function answers is true, for every list. No condition beyond the numbers' own bounds.
-/
import Derived.Test.YtekjibpkkgldgaaROk
import Derived.Test.YtekjibpkkgldgaaRDl
namespace Go.Proofs.Ytekjibpkkgldgaa.R
open Go Go.AX

theorem vok_of {v : S44} (h : ok44 v) : vok v := ⟨h.2.1.1, h.2.1.2, h.2.2⟩
theorem encR_length (l : List S44) : (encR l).1.length ≤ 16384 := by
  unfold encR
  repeat' split
  all_goals simp
  omega
theorem decR_small {b : List Int} (hb : IsB b) : (decR b).1.length ≤ 17 := by
  rcases decR_says hb with c | ⟨_, _, _, _, c, _⟩
  · rw [c]; exact Nat.zero_le _
  · exact c
theorem decR_code {b : List Int} (hb : IsB b) : decR b = ([], 1) ∨ (decR b).2 = 0 := by
  rcases decR_says hb with c | ⟨c, _⟩
  · exact .inl c
  · exact .inr (by rw [c])
theorem copyv_l3 {ρ : Type} (k : Nat) (kexit : List S44 → Option ρ) (l : List S44) (hl : l.length ≤ 1000000000000) : ∀ (d i n : Nat), i + d = l.length → d < n → cadastreref0_CopyValues_l3 k kexit n l (l.take i) i = kexit l
  | 0, i, n + 1, hi, _ => by
    simp only [cadastreref0_CopyValues_l3, cadastreref0_CopyValues_l3_b]
    rw [decide_eq_false (by omega), cond_false, List.take_of_length_le (by omega)]
  | d + 1, i, n + 1, hi, hlt => by
    simp only [cadastreref0_CopyValues_l3, cadastreref0_CopyValues_l3_b]
    have h2 : i < l.length := by omega
    rw [decide_eq_true (by omega), cond_true, chk_pos (by omega), Int.toNat_natCast, chk_pos (by simp only [List.length_cons, List.length_nil, List.length_take]; omega), w64n (by omega), getD_get l i _ h2, List.take_append_getElem h2]
    exact copyv_l3 k kexit l hl d (i + 1) n (by omega) (by omega)
theorem copyv_eq (k : Nat) (l : List S44) (hl : l.length ≤ 1000000000000) (hk : l.length < k) : cadastreref0_CopyValues k l = some l := by
  unfold cadastreref0_CopyValues
  exact copyv_l3 k _ l hl l.length 0 k (by omega) hk
theorem spoil_l1 {ρ : Type} (k : Nat) (kexit : List S44 → Option ρ) (r : ρ) (N : Nat) (hN : N ≤ 1000000000) (he : ∀ l, l.length = N → kexit l = some r) : ∀ (d i n : Nat) (l : List S44), l.length = N → i + d = N → d < n → cadastrelaw0_Values_o0_l1 k kexit n l i = some r
  | 0, i, n + 1, l, hl, hi, _ => by
    simp only [cadastrelaw0_Values_o0_l1, cadastrelaw0_Values_o0_l1_b]
    rw [decide_eq_false (by omega), cond_false, he l hl]
  | d + 1, i, n + 1, l, hl, hi, hlt => by
    simp only [cadastrelaw0_Values_o0_l1, cadastrelaw0_Values_o0_l1_b]
    rw [decide_eq_true (by omega), cond_true, chk_pos (by omega), Int.toNat_natCast, chk_pos (by omega), w64n (by omega)]
    exact spoil_l1 k kexit r N hN he d (i + 1) n _ (by rw [List.length_set]; exact hl) (by omega) (by omega)
theorem spoil_eq (k : Nat) (l : List S44) (hl : l.length ≤ 1000000) (hk : l.length < k) : cadastrelaw0_Values_o0 k l = some () := by
  unfold cadastrelaw0_Values_o0
  exact spoil_l1 k _ () l.length (by omega) (fun q hq => by rw [chk_pos (by simp only [List.length_cons, List.length_nil]; omega)]) l.length 0 k l rfl (by omega) hk
theorem rx_j17 (k : Nat) (kret : Bool → Option Bool) (knxt : List S34 → Int → Option Bool) (l : List S34) (i : Int) (x : List S44) (p : S34) (hx : x.length ≤ 1000) (hk : 20000 ≤ k) (hb : p.f1.length ≤ 3000) :
    cadastrelaw6_RecordExact_j17 k kret knxt l i p.f1 x p = knxt l i := by
  unfold cadastrelaw6_RecordExact_j17
  rw [spoil_eq k x (by omega) (by omega), some_bind, eqb k _ _ (by omega) (by omega), some_bind, decide_eq_true rfl]; rfl
theorem rx_j12 (k : Nat) (kret : Bool → Option Bool) (knxt : List S34 → Int → Option Bool) (l : List S34) (i : Int) (p : S34) (hk : 20000 ≤ k) (hB : IsB p.f1) (hw : p.f1.length ≤ 3000) : cadastrelaw6_RecordExact_j12 k kret knxt l i p = knxt l i := by
  unfold cadastrelaw6_RecordExact_j12
  have hs := decR_small hB
  rw [rdec_eq k (by omega) hB (by omega) (by omega), some_bind, copy_eq k _ (by omega) (by omega), some_bind, dec_eq k (by omega) hB (by omega), some_bind]
  simp only [cadastrelaw6_num, some_bind]
  rcases decR_code hB with c | c
  · rw [c]
    show ((cadastreref0_EqValues k ([] : List S44) []).bind fun r => bif !r then kret false else cadastrelaw6_RecordExact_j17 k kret knxt l i p.f1 [] p) = _
    rw [eqv_refl k [] (by simp) (by simp; omega), some_bind, rx_j17 k kret knxt l i [] p (by simp) hk hw]; rfl
  · rw [if_pos c]
    simp only []
    rw [show (!(((decR p.f1).2 == 0) == true)) = false by rw [c]; rfl, cond_false, Bool.not_true, cond_false, eqv_refl k _ (by omega) (by omega), some_bind, rx_j17 k kret knxt l i _ p (by omega) hk hw]; rfl
theorem rx_j4 (k : Nat) (hk : 300 ≤ k) (hk2 : 20000 ≤ k) (l : List S34) (i : Nat) (hi : i < l.length) (hn : l.length ≤ 9223372036854775807) (ho : ok34 (l.getD i default)) (kret : Bool → Option Bool) (knxt : List S34 → Int → Option Bool) :
    cadastrelaw6_RecordExact_j4 k kret knxt l i = kret true ∨ cadastrelaw6_RecordExact_j4 k kret knxt l i = knxt l ((i + 1 : Nat) : Int) := by
  unfold cadastrelaw6_RecordExact_j4
  rw [chk_pos (by omega), Int.toNat_natCast]
  generalize l.getD i default = p at ho
  unfold cadastrelaw6_heavy
  obtain ⟨b, e, hb⟩ := light_eq k hk p.f0 20000
  rw [e, some_bind]
  cases b with
  | false => left; rfl
  | true =>
    rw [Bool.not_true, cond_false, some_bind, bigd]
    by_cases hw : (p.f1.length : Int) > 3000
    · left; rw [decide_eq_true hw]; rfl
    · right
      have hl := hb rfl
      have hv : ∀ v ∈ p.f0, vok v := fun v hv => vok_of (ho.1.2.2 v hv)
      have hle := encR_length p.f0
      rw [decide_eq_false hw, cond_false, renc_eq k (by omega) _ hv (by omega) (by omega), some_bind, copyv_eq k _ (by omega) (by omega), some_bind, enc_eq k (by omega) _ hv (by omega) (by omega), some_bind, cadastrelaw6_num, some_bind]
      rw [show ((encR p.f0).2 != (encR p.f0).2) = false by simp, cond_false, eqb k _ _ (by omega) (by omega), some_bind, decide_eq_true rfl, Bool.not_true, cond_false, eqv_refl k _ (by omega) (by omega), some_bind, Bool.not_true, cond_false]
      rw [rx_j12 k kret _ l i p hk2 ho.2.2.2 (by omega), w64n (by omega)]
theorem rx_l2 (k : Nat) (hk : 20000 ≤ k) (l : List S34) (hn : l.length ≤ 9223372036854775807) (ho : ∀ y ∈ l, ok34 y) (kexit : Option Bool) (hx : kexit = some true) :
    ∀ (d i n : Nat), i + d = l.length → d < n → cadastrelaw6_RecordExact_l2 k some kexit n l i = some true
  | 0, i, n + 1, hi, _ => by
    simp only [cadastrelaw6_RecordExact_l2, cadastrelaw6_RecordExact_l2_b]
    rw [decide_eq_false (by omega), cond_false, hx]
  | d + 1, i, n + 1, hi, hlt => by
    simp only [cadastrelaw6_RecordExact_l2, cadastrelaw6_RecordExact_l2_b]
    rw [decide_eq_true (by omega), cond_true]
    by_cases h12 : (i : Int) < 12
    · rw [decide_eq_true h12, cond_true]
      rcases rx_j4 k (by omega) hk l i (by omega) hn (ho _ (getD_mem (by omega))) some (cadastrelaw6_RecordExact_l2 k some kexit n) with e | e
      · exact e
      · rw [e]; exact rx_l2 k hk l hn ho kexit hx d (i + 1) n (by omega) (by omega)
    · rw [decide_eq_false h12, cond_false, hx]

theorem RecordExact_pure : ∀ l : List S34, (l.length * 48 ≤ 140737488351232 ∧ l.length ≤ 9223372036854775807 ∧ ∀ y ∈ l, (ok34 y)) → ∃ k, cadastrelaw6_RecordExact k l = some true := by
  rintro l ⟨-, hn, ho⟩
  refine ⟨l.length + 20000, ?_⟩
  unfold cadastrelaw6_RecordExact
  exact rx_l2 _ (by omega) l hn ho _ (by rw [wakes_eq _ (by omega)]; rfl) l.length 0 _ (by omega) (by omega)
end Go.Proofs.Ytekjibpkkgldgaa.R
