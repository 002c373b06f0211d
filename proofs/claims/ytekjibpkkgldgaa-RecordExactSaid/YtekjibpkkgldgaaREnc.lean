/-
  Layer 6: any values' record, by the program and by the page.
-/
import Derived.Test.YtekjibpkkgldgaaRRec
namespace Go.Proofs.Ytekjibpkkgldgaa.R
open Go Go.AX

/-- A value's numbers' own bounds. -/
def vok (v : S44) : Prop := -9223372036854775808 ≤ v.f1 ∧ v.f1 < 9223372036854775808 ∧ v.f2.size ≤ 140737488351232
/-- A record's bytes. -/
def heads (l : List S44) : List Int := l.flatMap fun v => put (kindv v)
def bodies (l : List S44) : List Int := l.flatMap bodyv
def encv (l : List S44) : List Int := put (l.length : Int) ++ (heads l ++ bodies l)
def encR (l : List S44) : List Int × Int := if l.all good = true then (if 17 < l.length then ([], 7) else if 16384 < (encv l).length then ([], 7) else (encv l, 0)) else ([], 1)

theorem kindv_range (v : S44) (h : vok v) : 0 ≤ kindv v ∧ kindv v < 18446744073709551616 := by
  have hs := h.2.2
  unfold kindv
  repeat' split
  all_goals omega
theorem heads_length : ∀ l : List S44, (heads l).length ≤ 10 * l.length
  | [] => by simp [heads]
  | v :: r => by
    have := heads_length r
    have := put_length (kindv v)
    simp only [heads, List.flatMap_cons, List.length_append, List.length_cons] at *
    omega
theorem bodies_length : ∀ l : List S44, l.all good = true → (bodies l).length ≤ 4096 * l.length
  | [], _ => by simp [bodies]
  | v :: r, h => by
    simp only [List.all_cons, Bool.and_eq_true] at h
    have := bodies_length r h.2
    have := body_length h.1
    simp only [bodies, List.flatMap_cons, List.length_append, List.length_cons] at *
    omega
theorem drop_flat {β : Type} (f : S44 → List β) (l : List S44) (i : Nat) (h : i < l.length) : (l.drop i).flatMap f = f (l.getD i default) ++ (l.drop (i + 1)).flatMap f := by
  rw [List.drop_eq_getElem_cons h, List.flatMap_cons, getD_get l i default h]

theorem rall_l2 {ρ : Type} (k : Nat) (l : List S44) (kret : Bool → Option ρ) (kexit : Option ρ) : ∀ (d i n : Nat), i + d = l.length → d < n → l.length ≤ 1000000000000 → cadastreref2_All_l2 k kret kexit n l i = if (l.drop i).all good = true then kexit else kret false
  | 0, i, n + 1, hi, _, _ => by
    simp only [cadastreref2_All_l2, cadastreref2_All_l2_b]
    rw [decide_eq_false (by omega), cond_false, List.drop_eq_nil_of_le (by omega)]; rfl
  | d + 1, i, n + 1, hi, hn, hl => by
    simp only [cadastreref2_All_l2, cadastreref2_All_l2_b]
    rw [decide_eq_true (by omega), cond_true, chk_pos (by omega), Int.toNat_natCast, may_eq, some_bind, w64n (by omega), List.drop_eq_getElem_cons (by omega), getD_get l i default (by omega), List.all_cons]
    cases hg : good l[i] with
    | false => rfl
    | true => rw [Bool.not_true, cond_false, Bool.true_and]; exact rall_l2 k l kret kexit d (i + 1) n (by omega) (by omega) hl
theorem light_l5 {ρ : Type} (k : Nat) (l : List S44) (kexit : Int → Int → Option ρ) (most : Int) : ∀ (d i n : Nat) (x : Int), i + d = l.length → d < n → l.length ≤ 1000000000000 → ∃ y, cadastrelaw0_Light_l5 k kexit n l most x i = kexit most y
  | 0, i, n + 1, x, hi, _, _ => by
    simp only [cadastrelaw0_Light_l5, cadastrelaw0_Light_l5_b]
    exact ⟨x, by rw [decide_eq_false (by omega), cond_false]⟩
  | d + 1, i, n + 1, x, hi, hn, hl => by
    simp only [cadastrelaw0_Light_l5, cadastrelaw0_Light_l5_b]
    rw [decide_eq_true (by omega), cond_true, chk_pos (by omega), w64n (i := i) (by omega)]
    exact light_l5 k l kexit most d (i + 1) n _ (by omega) (by omega) hl
section
variable {ρ : Type} (k : Nat) (hk : 40 ≤ k) (l : List S44) (hv : ∀ v ∈ l, vok v)
include hk hv
theorem enc_l7 (kexit : List S44 → List Int → Option ρ) : ∀ (d i n : Nat) (b : List Int), i + d = l.length → d < n → b.length + 10 * d ≤ 140737400000000 → l.length ≤ 1000000000000 →
    record_Encode_l7 k kexit n l b l (l.length : Int) i = kexit l (b ++ heads (l.drop i))
  | 0, i, n + 1, b, hi, _, _, _ => by
    simp only [record_Encode_l7, record_Encode_l7_b]
    rw [decide_eq_false (by omega), cond_false, List.drop_eq_nil_of_le (by omega)]; simp [heads]
  | d + 1, i, n + 1, b, hi, hn, hb, hl => by
    have hm := kindv_range _ (hv _ (getD_mem (d := default) (show i < l.length by omega)))
    have h := hv _ (getD_mem (d := default) (show i < l.length by omega))
    simp only [record_Encode_l7, record_Encode_l7_b]
    have hp := put_length (kindv (l.getD i default))
    rw [decide_eq_true (by omega), cond_true, chk_pos (by omega), Int.toNat_natCast, kind_eq k _ h.2.2 h.1 h.2.1, some_bind, put_eq k hk _ hm.1 hm.2, some_bind, chk_pos (by omega), w64n (by omega),
      enc_l7 kexit d (i + 1) n _ (by omega) (by omega) (by rw [List.length_append]; omega) hl, List.append_assoc]
    simp only [heads]
    rw [drop_flat _ l i (by omega)]
theorem enc_l12 (hg : l.all good = true) (kexit : List Int → Option ρ) : ∀ (d i n : Nat) (b : List Int), i + d = l.length → d < n → b.length + 4096 * d ≤ 140737400000000 → l.length ≤ 1000000000000 →
    record_Encode_l12 k kexit n b l (l.length : Int) i = kexit (b ++ bodies (l.drop i))
  | 0, i, n + 1, b, hi, _, _, _ => by
    simp only [record_Encode_l12, record_Encode_l12_b]
    rw [decide_eq_false (by omega), cond_false, List.drop_eq_nil_of_le (by omega)]; simp [bodies]
  | d + 1, i, n + 1, b, hi, hn, hb, hl => by
    have hmem := getD_mem (d := default) (show i < l.length by omega)
    have h := hv _ hmem
    have hgi := List.all_eq_true.mp hg _ hmem
    have hbl := body_length hgi
    simp only [record_Encode_l12, record_Encode_l12_b]
    rw [decide_eq_true (by omega), cond_true, chk_pos (by omega), Int.toNat_natCast, rput_rec k (by omega) b (by omega) _ hgi h.1 h.2.1, some_bind, w64n (by omega),
      enc_l12 hg kexit d (i + 1) n _ (by omega) (by omega) (by rw [List.length_append]; omega) hl, List.append_assoc]
    simp only [bodies]
    rw [drop_flat _ l i (by omega)]
theorem enc_eq (hn : l.length < k) (hl : l.length ≤ 1000000000000) : record_Encode k l = some (encR l) := by
  unfold record_Encode encR
  rw [all_eq k l (by omega) hn, some_bind]
  cases hg : l.all good with
  | false => rfl
  | true =>
    rw [Bool.not_true, cond_false, if_pos rfl]
    by_cases h17 : (l.length : Int) > 17
    · rw [decide_eq_true h17, cond_true, if_pos (by omega)]
    · rw [decide_eq_false h17, cond_false, if_neg (by omega), wrap_u64, show (l.length : Int) % 18446744073709551616 = (l.length : Int) by omega, put_eq k hk _ (by omega) (by omega), some_bind]
      have hp := put_length (l.length : Int)
      have hh := heads_length l
      have e1 := enc_l7 k hk l hv (fun l0 b4 => record_Encode_l12 k (fun b4 : List Int => bif (big (decide ((b4.length : Int) > 16384))) then some (([] : List Int), (7 : Int)) else some (b4, 0)) k b4 l0 (l0.length : Int) 0) l.length 0 k (put (l.length : Int)) (by omega) hn (by omega) hl
      refine Eq.trans e1 ?_
      rw [List.drop_zero]
      have e2 := enc_l12 k hk l hv hg (fun b4 : List Int => bif (big (decide ((b4.length : Int) > 16384))) then some (([] : List Int), (7 : Int)) else some (b4, 0)) l.length 0 k (put (l.length : Int) ++ heads l) (by omega) hn (by rw [List.length_append]; omega) hl
      refine Eq.trans e2 ?_
      rw [List.drop_zero, List.append_assoc]
      show (bif (big (decide (((encv l).length : Int) > 16384))) then some (([] : List Int), (7 : Int)) else some (encv l, 0)) = _
      rw [bigd]
      by_cases h : 16384 < (encv l).length
      · rw [decide_eq_true (by omega), cond_true, if_pos h]
      · rw [decide_eq_false (by omega), cond_false, if_neg h]

theorem rrec_l3 (kexit : List S44 → List Int → Option ρ) : ∀ (d i n : Nat) (b : List Int), i + d = l.length → d < n → b.length + 10 * d ≤ 140737400000000 → l.length ≤ 1000000000000 →
    cadastreref6_Record_l3 k kexit n l b i = kexit l (b ++ heads (l.drop i))
  | 0, i, n + 1, b, hi, _, _, _ => by
    simp only [cadastreref6_Record_l3, cadastreref6_Record_l3_b]
    rw [decide_eq_false (by omega), cond_false, List.drop_eq_nil_of_le (by omega)]; simp [heads]
  | d + 1, i, n + 1, b, hi, hn, hb, hl => by
    have hm := kindv_range _ (hv _ (getD_mem (d := default) (show i < l.length by omega)))
    have h := hv _ (getD_mem (d := default) (show i < l.length by omega))
    simp only [cadastreref6_Record_l3, cadastreref6_Record_l3_b]
    have hp := put_length (kindv (l.getD i default))
    rw [decide_eq_true (by omega), cond_true, chk_pos (by omega), Int.toNat_natCast, rkind_eq k (by omega) _ h.2.2, some_bind, rput_eq k hk _ hm.1 hm.2, some_bind, chk_pos (by omega), w64n (by omega),
      rrec_l3 kexit d (i + 1) n _ (by omega) (by omega) (by rw [List.length_append]; omega) hl, List.append_assoc]
    simp only [heads]
    rw [drop_flat _ l i (by omega)]
theorem rrec_l7 (hg : l.all good = true) (kexit : List Int → Option ρ) : ∀ (d i n : Nat) (b : List Int), i + d = l.length → d < n → b.length + 4096 * d ≤ 140737400000000 → l.length ≤ 1000000000000 →
    cadastreref6_Record_l7 k kexit n l b i = kexit (b ++ bodies (l.drop i))
  | 0, i, n + 1, b, hi, _, _, _ => by
    simp only [cadastreref6_Record_l7, cadastreref6_Record_l7_b]
    rw [decide_eq_false (by omega), cond_false, List.drop_eq_nil_of_le (by omega)]; simp [bodies]
  | d + 1, i, n + 1, b, hi, hn, hb, hl => by
    have hmem := getD_mem (d := default) (show i < l.length by omega)
    have h := hv _ hmem
    have hbl := body_length (List.all_eq_true.mp hg _ hmem)
    simp only [cadastreref6_Record_l7, cadastreref6_Record_l7_b]
    rw [decide_eq_true (by omega), cond_true, chk_pos (by omega), Int.toNat_natCast, rbody_eq k (by omega) _ h.2.2, some_bind, chk_pos (by omega), w64n (by omega),
      rrec_l7 hg kexit d (i + 1) n _ (by omega) (by omega) (by rw [List.length_append]; omega) hl, List.append_assoc]
    simp only [bodies]
    rw [drop_flat _ l i (by omega)]
theorem rrec_eq (hg : l.all good = true) (hn : l.length < k) (hl : l.length ≤ 1000000) : cadastreref6_Record k l = some (encv l) := by
  unfold cadastreref6_Record
  have hp := put_length (l.length : Int)
  have hh := heads_length l
  rw [wrap_u64, show (l.length : Int) % 18446744073709551616 = (l.length : Int) by omega, rput_eq k hk _ (by omega) (by omega), some_bind]
  have e1 := rrec_l3 k hk l hv (fun l0 b3 => cadastreref6_Record_l7 k (fun b3 => some b3) k l0 b3 0) l.length 0 k (put (l.length : Int)) (by omega) hn (by omega) (by omega)
  refine Eq.trans e1 ?_
  rw [List.drop_zero]
  have e2 := rrec_l7 k hk l hv hg (fun b3 => some b3) l.length 0 k (put (l.length : Int) ++ heads l) (by omega) hn (by rw [List.length_append]; omega) (by omega)
  refine Eq.trans e2 ?_
  rw [List.drop_zero, List.append_assoc]; rfl
theorem renc_eq (hn : l.length < k) (hl : l.length ≤ 1000000000000) : cadastreref6_Encode k l = some (encR l) := by
  unfold cadastreref6_Encode encR cadastreref2_All
  have ha := rall_l2 k l (fun t => some t) (some true) l.length 0 k (by omega) hn hl
  rw [Int.natCast_zero, List.drop_zero] at ha
  rw [ha]
  cases hg : l.all good with
  | false => rfl
  | true =>
    rw [if_pos rfl, some_bind, Bool.not_true, cond_false, if_pos rfl]
    by_cases h17 : (l.length : Int) > 17
    · rw [decide_eq_true h17, cond_true, if_pos (by omega)]
    · rw [decide_eq_false h17, cond_false, if_neg (by omega), rrec_eq k hk l hv hg hn (by omega), some_bind, bigd]
      by_cases h : 16384 < (encv l).length
      · rw [decide_eq_true (by omega), cond_true, if_pos h]
      · rw [decide_eq_false (by omega), cond_false, if_neg h]
end
theorem light_eq (k : Nat) (hk : 300 ≤ k) (l : List S44) (most : Int) : ∃ b, cadastrelaw0_Light k l most = some b ∧ (b = true → l.length ≤ 200) := by
  unfold cadastrelaw0_Light
  by_cases h : (l.length : Int) > 200
  · rw [decide_eq_true h, cond_true]; exact ⟨false, rfl, by simp⟩
  · rw [decide_eq_false h, cond_false]
    obtain ⟨y, e⟩ := light_l5 k l (fun m n => some (decide (n ≤ m))) most l.length 0 k 0 (by omega) (by omega) (by omega)
    exact ⟨_, e, fun _ => by omega⟩
theorem wakes_eq (k : Nat) (hk : 40 ≤ k) : cadastrelaw6_wakes k = some true := by
  unfold cadastrelaw6_wakes
  rw [enc_eq k hk _ (by intro v hv; simp only [List.mem_cons, List.not_mem_nil, or_false] at hv; rcases hv with rfl | rfl | rfl <;> exact ⟨by decide, by decide, by decide⟩) (by simp; omega) (by simp), some_bind]
  have e : encR [(⟨0, 0, ByteArray.empty⟩ : S44), (⟨1, 1, ByteArray.empty⟩ : S44), (⟨2, 0, (⟨#[97]⟩ : ByteArray)⟩ : S44)] = ([3, 0, 6, 15, 97], 0) := by decide +kernel
  rw [e, cadastrelaw6_num, some_bind]
  simp only [beq_self_eq_true, cond_true]
  rw [eqb k _ _ (by simp) (by simp; omega), some_bind]
  rfl
end Go.Proofs.Ytekjibpkkgldgaa.R
