/-
  Layer 19: a token by the page's own printed function.
-/
import Derived.Test.YtekjibpkkgldgaaXLy1
namespace Go.Proofs.Ytekjibpkkgldgaa.X
open Go Go.AX

section
variable {ρ : Type} (k : Nat) {s : ByteArray} (hs : s.size ≤ 9000000000) (kexit : ByteArray → Int → Int → S68 → Option ρ) (a : Int) (t : S68)
include hs
theorem rspan4 : ∀ (d i n : Nat), i + d = s.size → d < n → cadastreref19_token_l4 k kexit n s a i t = kexit s a ((i + (((by' s).drop i).takeWhile notq).length : Nat) : Int) t
  | 0, i, n + 1, hi, _ => by
    simp only [cadastreref19_token_l4, cadastreref19_token_l4_b]
    rw [decide_eq_false (by omega), cond_false, List.drop_eq_nil_of_le (by rw [by_len]; omega)]; simp
  | d + 1, i, n + 1, hi, hn => by
    have hlt : i < (by' s).length := by rw [by_len]; omega
    simp only [cadastreref19_token_l4, cadastreref19_token_l4_b]
    rw [decide_eq_true (by omega), cond_true, chk_pos (by omega), Int.toNat_natCast, dropc hlt, w64n (by omega)]
    have e39 : ((((s.data.toList.getD i 0).toNat : Nat) : Int) == 39) = decide ((by' s).getD i 0 = 39) := u8eq _ 39 (by omega)
    rw [bne, e39]
    by_cases h : (by' s).getD i 0 = 39
    · rw [decide_eq_true h, Bool.not_true, cond_false, List.takeWhile_cons_of_neg (by rw [h]; decide)]; simp
    · rw [decide_eq_false h, Bool.not_false, cond_true, List.takeWhile_cons_of_pos (by simp only [notq, bne_iff_ne, ne_eq]; exact h), rspan4 d (i + 1) n (by omega) (by omega), List.length_cons]
      congr 2; omega
theorem rspan14 : ∀ (d i n : Nat), i + d = s.size → d < n → cadastreref19_token_l14 k kexit n s a i t = kexit s a ((i + (((by' s).drop i).takeWhile wordc).length : Nat) : Int) t
  | 0, i, n + 1, hi, _ => by
    simp only [cadastreref19_token_l14, cadastreref19_token_l14_b]
    rw [decide_eq_false (by omega), cond_false, List.drop_eq_nil_of_le (by rw [by_len]; omega)]; simp
  | d + 1, i, n + 1, hi, hn => by
    have hlt : i < (by' s).length := by rw [by_len]; omega
    have ih := rspan14 d (i + 1) n (by omega) (by omega)
    simp only [cadastreref19_token_l14, cadastreref19_token_l14_b]
    rw [decide_eq_true (by omega), cond_true, chk_pos (by omega), Int.toNat_natCast, dropc hlt, w64n (by omega), rletter_eq, some_bind, rdigit_eq, some_bind, ih]
    show (bif letter ((by' s).getD i 0) then _ else chk _ (bif digit ((by' s).getD i 0) then _ else _)) = _
    rw [chk_pos (by omega)]
    have hw : wordc ((by' s).getD i 0) = (letter ((by' s).getD i 0) || digit ((by' s).getD i 0)) := rfl
    by_cases h : wordc ((by' s).getD i 0) = true
    · rw [List.takeWhile_cons_of_pos h, List.length_cons, show i + ((((by' s).drop (i + 1)).takeWhile wordc).length + 1) = i + 1 + (((by' s).drop (i + 1)).takeWhile wordc).length by omega]
      rw [h] at hw
      cases h1 : letter ((by' s).getD i 0) with
      | true => rfl
      | false =>
        rw [h1, Bool.false_or] at hw
        rw [← hw]; rfl
    · rw [List.takeWhile_cons_of_neg h]
      rw [Bool.not_eq_true] at h
      rw [h] at hw
      have h1 : letter ((by' s).getD i 0) = false := by cases hq : letter ((by' s).getD i 0) with | true => rw [hq] at hw; simp at hw | false => rfl
      have h2 : digit ((by' s).getD i 0) = false := by cases hq : digit ((by' s).getD i 0) with | true => rw [hq, Bool.or_true] at hw; cases hw | false => rfl
      rw [h1, h2]; rfl
theorem rspan19 : ∀ (d i n : Nat), i + d = s.size → d < n → cadastreref19_token_l19 k kexit n s a i t = kexit s a ((i + (((by' s).drop i).takeWhile digit).length : Nat) : Int) t
  | 0, i, n + 1, hi, _ => by
    simp only [cadastreref19_token_l19, cadastreref19_token_l19_b]
    rw [decide_eq_false (by omega), cond_false, List.drop_eq_nil_of_le (by rw [by_len]; omega)]; simp
  | d + 1, i, n + 1, hi, hn => by
    have hlt : i < (by' s).length := by rw [by_len]; omega
    have ih := rspan19 d (i + 1) n (by omega) (by omega)
    simp only [cadastreref19_token_l19, cadastreref19_token_l19_b]
    rw [decide_eq_true (by omega), cond_true, chk_pos (by omega), Int.toNat_natCast, dropc hlt, w64n (by omega), rdigit_eq, some_bind, ih]
    show (bif digit ((by' s).getD i 0) then _ else _) = _
    by_cases h : digit ((by' s).getD i 0) = true
    · rw [List.takeWhile_cons_of_pos h, List.length_cons, show i + ((((by' s).drop (i + 1)).takeWhile digit).length + 1) = i + 1 + (((by' s).drop (i + 1)).takeWhile digit).length by omega, h]; rfl
    · rw [List.takeWhile_cons_of_neg h]
      rw [Bool.not_eq_true] at h
      rw [h]; rfl
end
noncomputable def rTail (k : Nat) (s : ByteArray) (i : Int) : Option (S68 × Int) :=
  cadastreref19_token_j12 k (fun e t => some (t, e)) (fun _ => some ((⟨0, ByteArray.empty, 0⟩ : S68), (-1))) s i ((s.data.toList.getD i.toNat 0).toNat : Int) (⟨0, ByteArray.empty, 0⟩ : S68)
noncomputable def rBlob (k : Nat) (s : ByteArray) (i : Int) : Option (S68 × Int) :=
  cadastreref19_token_j3 k (fun e t => some (t, e)) s i (⟨0, ByteArray.empty, 0⟩ : S68)
theorem rtoken_unf (k : Nat) (s : ByteArray) (i : Int) : cadastreref19_token k s i = chk (0 ≤ i ∧ i < (s.size : Int))
    (bif (((s.data.toList.getD i.toNat 0).toNat : Int) == 120) then
      (bif (decide ((IntKind.i64.wrap (i + 1)) < (s.size : Int))) then chk (0 ≤ (IntKind.i64.wrap (i + 1)) ∧ (IntKind.i64.wrap (i + 1)) < (s.size : Int)) (bif (((s.data.toList.getD (IntKind.i64.wrap (i + 1)).toNat 0).toNat : Int) == 39) then rBlob k s i else rTail k s i) else rTail k s i)
     else bif (((s.data.toList.getD i.toNat 0).toNat : Int) == 88) then
      (bif (decide ((IntKind.i64.wrap (i + 1)) < (s.size : Int))) then chk (0 ≤ (IntKind.i64.wrap (i + 1)) ∧ (IntKind.i64.wrap (i + 1)) < (s.size : Int)) (bif (((s.data.toList.getD (IntKind.i64.wrap (i + 1)).toNat 0).toNat : Int) == 39) then rBlob k s i else rTail k s i) else rTail k s i)
     else rTail k s i) := rfl
theorem rmark_eq (k : Nat) {s : ByteArray} (hs : s.size ≤ 9000000000) (i : Nat) (hi : i < s.size) (kret : Int → S68 → Option (S68 × Int)) (knxt : S68 → Option (S68 × Int)) (t : S68) :
    (bif (decide (((i + 1 : Nat) : Int) < (s.size : Int))) then
      chk (0 ≤ (i : Int) ∧ (i : Int) ≤ ((i + 2 : Nat) : Int) ∧ ((i + 2 : Nat) : Int) ≤ (s.size : Int)) <|
      (cadastreref19_two k (s.extract i (i + 2))).bind fun r_25 => bif r_25 then cadastreref19_token_j29 k kret s i t else cadastreref19_token_j33 k kret knxt s i (((by' s).getD i 0).toNat : Int) t
     else cadastreref19_token_j33 k kret knxt s i (((by' s).getD i 0).toNat : Int) t) =
    if markN ((by' s).drop i) = 0 then knxt t else kret ((i + markN ((by' s).drop i) : Nat) : Int) ⟨5, txt (if ((by' s).drop i).take (markN ((by' s).drop i)) = [33, 61] then [60, 62] else ((by' s).drop i).take (markN ((by' s).drop i))), 0⟩ := by
  have hlt : i < (by' s).length := by rw [by_len]; omega
  have hl : ((by' s).drop i).length = s.size - i := by rw [List.length_drop, by_len]
  have hcut : ∀ m, by' (s.extract i (i + m)) = ((by' s).drop i).take m := fun m => by
    simp only [by', Lib.extract_data]
    rw [Nat.add_sub_cancel_left]
  have hc0 : ((by' s).drop i).getD 0 0 = (by' s).getD i 0 := by rw [dropc hlt]; rfl
  have h33 : ∀ h2 : marks2.contains (((by' s).drop i).take 2) = false, cadastreref19_token_j33 k kret knxt s i (((by' s).getD i 0).toNat : Int) t =
      if markN ((by' s).drop i) = 0 then knxt t else kret ((i + markN ((by' s).drop i) : Nat) : Int) ⟨5, txt (if ((by' s).drop i).take (markN ((by' s).drop i)) = [33, 61] then [60, 62] else ((by' s).drop i).take (markN ((by' s).drop i))), 0⟩ := fun h2 => by
    unfold cadastreref19_token_j33
    rw [rone_eq, some_bind, w64n (by omega)]
    have e : markN ((by' s).drop i) = if marks1.contains ((by' s).getD i 0) = true then 1 else 0 := by unfold markN; rw [h2, if_neg (by decide), hc0]
    rw [e]
    cases marks1.contains ((by' s).getD i 0) with
    | false => rfl
    | true =>
      rw [if_pos rfl, if_neg (by decide), cond_true, chk_pos (by omega), Int.toNat_natCast, Int.toNat_natCast, if_neg (by rw [dropc hlt]; simp), ← hcut, by_txt]
  by_cases h1 : i + 1 < s.size
  · rw [decide_eq_true (by omega), cond_true, chk_pos (by omega), rtwo_eq, some_bind, hcut]
    cases h2 : marks2.contains (((by' s).drop i).take 2) with
    | false => rw [cond_false]; exact h33 h2
    | true =>
      have e : markN ((by' s).drop i) = 2 := by unfold markN; rw [if_pos h2]
      rw [cond_true, e, if_neg (by decide)]
      unfold cadastreref19_token_j29
      rw [show IntKind.i64.wrap ((i : Int) + 2) = ((i + 2 : Nat) : Int) by rw [w64 (by omega) (by omega)]; rfl, chk_pos (by omega), Int.toNat_natCast, Int.toNat_natCast]
      have hb : ((s.extract i (i + 2)).toList == (⟨#[33, 61]⟩ : ByteArray).toList) = decide (((by' s).drop i).take 2 = [33, 61]) := by
        rw [Lib.toList_data, show (s.extract i (i + 2)).data.toList = ((by' s).drop i).take 2 from hcut 2, Lib.toList_data]
        rw [Bool.eq_iff_iff, beq_iff_eq, decide_eq_true_eq]
      dsimp only
      rw [hb]
      by_cases h5 : ((by' s).drop i).take 2 = [33, 61]
      · rw [decide_eq_true h5, cond_true, if_pos h5]; rfl
      · rw [decide_eq_false h5, cond_false, if_neg h5, ← hcut, by_txt]
  · rw [decide_eq_false (by omega), cond_false]
    refine h33 ?_
    have : ((by' s).drop i).take 2 = [(by' s).getD i 0] := by
      rw [dropc hlt, List.drop_eq_nil_of_le (by rw [by_len]; omega)]; rfl
    rw [this]
    simp [marks2]
section
variable (k : Nat) {s : ByteArray} (hs : s.size ≤ 9000000000) (hk : s.size < k)
include hs hk
theorem rtail_eq (i : Nat) (hi : i < s.size) (hx : ¬ (((by' s).getD i 0 = 120 ∨ (by' s).getD i 0 = 88) ∧ ((by' s).drop (i + 1)).head? = some 39)) :
    (tokL ((by' s).drop i) = none ∧ ∃ x, rTail k s (i : Int) = some x ∧ x.2 < 0) ∨ ∃ t r, tokL ((by' s).drop i) = some (t, r) ∧ rTail k s (i : Int) = some (t, ((s.size - r.length : Nat) : Int)) := by
  have hlt : i < (by' s).length := by rw [by_len]; omega
  have hl : ((by' s).drop i).length = s.size - i := by rw [List.length_drop, by_len]
  unfold rTail cadastreref19_token_j12
  rw [Int.toNat_natCast]
  have hcons := dropc hlt
  have htok : tokL ((by' s).drop i) = (if letter ((by' s).getD i 0) = true then some (⟨1, txt ((((by' s).drop i).takeWhile wordc).map smallc), 0⟩, ((by' s).drop i).dropWhile wordc)
    else if digit ((by' s).getD i 0) = true then (intF 0 (((by' s).drop i).takeWhile digit)).map fun v => (⟨2, ByteArray.empty, v⟩, ((by' s).drop i).dropWhile digit)
    else if (by' s).getD i 0 = 39 then (quotF ((by' s).drop (i + 1))).map fun p => (⟨3, txt p.1, 0⟩, p.2)
    else if markN ((by' s).drop i) = 0 then none else some (⟨5, txt (if ((by' s).drop i).take (markN ((by' s).drop i)) = [33, 61] then [60, 62] else ((by' s).drop i).take (markN ((by' s).drop i))), 0⟩, ((by' s).drop i).drop (markN ((by' s).drop i)))) := by
    rw [hcons, tok_cons, if_neg hx]
  rw [htok]
  have hsub : ∀ q : UInt8 → Bool, by' (s.extract i (i + (((by' s).drop i).takeWhile q).length)) = ((by' s).drop i).takeWhile q := fun q => by
    simp only [by', Lib.extract_data]
    rw [Nat.add_sub_cancel_left]; exact takeW_take q _
  have hend : ∀ q : UInt8 → Bool, i + (((by' s).drop i).takeWhile q).length = s.size - (((by' s).drop i).dropWhile q).length := fun q => by
    have := run_len q ((by' s).drop i); omega
  rw [rletter_eq, some_bind]
  show (_ ∧ ∃ x, (bif letter ((by' s).getD i 0) then _ else _) = some x ∧ _) ∨ ∃ t r, _ ∧ (bif letter ((by' s).getD i 0) then _ else _) = _
  by_cases h1 : letter ((by' s).getD i 0) = true
  · have hr := run_len wordc ((by' s).drop i)
    rw [if_pos h1]
    refine .inr ⟨_, _, rfl, ?_⟩
    rw [h1, cond_true, rspan14 k hs _ _ _ (s.size - i) i k (by omega) (by omega), chk_pos (by omega)]
    simp only [Int.toNat_natCast]
    have hsz : (s.extract i (i + (((by' s).drop i).takeWhile wordc).length)).size ≤ s.size := by
      rw [← by_len, hsub]; omega
    rw [lower_eq k _ (by omega) (by omega), some_bind, hsub, ← hend]
  rw [if_neg h1, show letter ((by' s).getD i 0) = false by simpa using h1, cond_false, rdigit_eq, some_bind]
  show (_ ∧ ∃ x, (bif digit ((by' s).getD i 0) then _ else _) = some x ∧ _) ∨ ∃ t r, _ ∧ (bif digit ((by' s).getD i 0) then _ else _) = _
  by_cases h2 : digit ((by' s).getD i 0) = true
  · have hr := run_len digit ((by' s).drop i)
    rw [if_pos h2, h2, cond_true, rspan19 k hs _ _ _ (s.size - i) i k (by omega) (by omega), chk_pos (by omega)]
    simp only [Int.toNat_natCast]
    have hsz : (s.extract i (i + (((by' s).drop i).takeWhile digit).length)).size ≤ s.size := by
      rw [← by_len, hsub]; omega
    rw [rint_digits k (by omega) (by omega) (by rw [hsub, hcons, List.takeWhile_cons_of_pos h2]; simp) (fun c hc => by rw [hsub] at hc; exact mem_takeW hc), some_bind, hsub]
    cases intF 0 (((by' s).drop i).takeWhile digit) with
    | none => exact .inl ⟨rfl, _, rfl, by decide⟩
    | some v => exact .inr ⟨_, _, rfl, by rw [← hend]; rfl⟩
  rw [if_neg h2, show digit ((by' s).getD i 0) = false by simpa using h2, cond_false]
  have e39 : ((((s.data.toList.getD i 0).toNat : Nat) : Int) == 39) = decide ((by' s).getD i 0 = 39) := u8eq _ 39 (by omega)
  rw [e39]
  by_cases h3 : (by' s).getD i 0 = 39
  · rw [if_pos h3, decide_eq_true h3, cond_true, rquoted_eq k hs hk i hi, some_bind]
    cases quotF ((by' s).drop (i + 1)) with
    | none => exact .inl ⟨rfl, _, rfl, show (-1 : Int) < 0 by decide⟩
    | some p => exact .inr ⟨_, _, rfl, rfl⟩
  rw [if_neg h3, decide_eq_false h3, cond_false, w64n (by omega), show IntKind.i64.wrap ((i : Int) + 2) = ((i + 2 : Nat) : Int) by rw [w64 (by omega) (by omega)]; rfl, Int.toNat_natCast]
  have hm := rmark_eq k hs i hi (fun e t => some (t, e)) (fun _ => some ((⟨0, ByteArray.empty, 0⟩ : S68), (-1))) ⟨0, ByteArray.empty, 0⟩
  have hle := markN_le ((by' s).drop i) (by rw [hcons]; simp)
  by_cases h4 : markN ((by' s).drop i) = 0
  · rw [if_pos h4] at hm ⊢
    exact .inl ⟨rfl, _, hm, by decide⟩
  · rw [if_neg h4] at hm ⊢
    refine .inr ⟨_, _, rfl, hm.trans ?_⟩
    rw [List.length_drop, hl]
    congr 3
    omega
theorem rblobtok_eq (i : Nat) (hi : i + 1 < s.size) :
    rBlob k s (i : Int) = match blobL ((by' s).drop (i + 2)) with | none => some (⟨0, ByteArray.empty, 0⟩, -1) | some (t, r) => some (⟨4, txt t, 0⟩, ((s.size - r.length : Nat) : Int)) := by
  unfold rBlob cadastreref19_token_j3
  rw [show IntKind.i64.wrap ((i : Int) + 2) = ((i + 2 : Nat) : Int) by rw [w64 (by omega) (by omega)]; rfl, rspan4 k hs _ _ _ (s.size - (i + 2)) (i + 2) k (by omega) (by omega)]
  have hl : ((by' s).drop (i + 2)).length = s.size - (i + 2) := by rw [List.length_drop, by_len]
  have hr := run_len notq ((by' s).drop (i + 2))
  have ht := takeW_take notq ((by' s).drop (i + 2))
  unfold blobL
  generalize hm : (((by' s).drop (i + 2)).takeWhile notq).length = m at *
  by_cases h1 : m = ((by' s).drop (i + 2)).length
  · rw [if_pos h1, show (((i + 2 + m : Nat) : Int) == (s.size : Int)) = true by rw [beq_iff_eq]; omega, cond_true]
  · rw [if_neg h1, show (((i + 2 + m : Nat) : Int) == (s.size : Int)) = false by rw [beq_eq_false_iff_ne]; omega, cond_false, show IntKind.i64.wrap ((i : Int) + 2) = ((i + 2 : Nat) : Int) by rw [w64 (by omega) (by omega)]; rfl, chk_pos (by omega), Int.toNat_natCast, Int.toNat_natCast]
    have hcut : by' (s.extract (i + 2) (i + 2 + m)) = ((by' s).drop (i + 2)).takeWhile notq := by
      simp only [by', Lib.extract_data]
      rw [Nat.add_sub_cancel_left]; exact ht
    have hsz : (s.extract (i + 2) (i + 2 + m)).size = m := by rw [← by_len, hcut, hm]
    rw [rblob_eq k (by omega) (by omega), some_bind, hsz, hcut]
    by_cases h2 : m % 2 ≠ 0
    · rw [if_pos h2, if_pos h2]; rfl
    · rw [if_neg h2, if_neg h2]
      cases hexF (((by' s).drop (i + 2)).takeWhile notq) with
      | none => rfl
      | some z =>
        simp only [Option.map_some, Bool.not_true, cond_false]
        rw [w64n (by omega), List.drop_drop, List.length_drop, by_len]
        congr 3
        omega
theorem rtoken_eq (i : Nat) (hi : i < s.size) :
    (tokL ((by' s).drop i) = none ∧ ∃ x, cadastreref19_token k s (i : Int) = some x ∧ x.2 < 0) ∨ ∃ t r, tokL ((by' s).drop i) = some (t, r) ∧ cadastreref19_token k s (i : Int) = some (t, ((s.size - r.length : Nat) : Int)) := by
  have hlt : i < (by' s).length := by rw [by_len]; omega
  rw [rtoken_unf, chk_pos (by omega)]
  simp only [Int.toNat_natCast, w64n (show i < 9223372036854775807 by omega)]
  have e120 : ((((s.data.toList.getD i 0).toNat : Nat) : Int) == 120) = decide ((by' s).getD i 0 = 120) := u8eq _ 120 (by omega)
  have e88 : ((((s.data.toList.getD i 0).toNat : Nat) : Int) == 88) = decide ((by' s).getD i 0 = 88) := u8eq _ 88 (by omega)
  have e39 : ((((s.data.toList.getD (i + 1) 0).toNat : Nat) : Int) == 39) = decide ((by' s).getD (i + 1) 0 = 39) := u8eq _ 39 (by omega)
  rw [e120, e88, e39]
  have inner : ((by' s).getD i 0 = 120 ∨ (by' s).getD i 0 = 88) → ∀ Y : Option (S68 × Int), Y = (bif (decide (((i + 1 : Nat) : Int) < (s.size : Int))) then chk (0 ≤ ((i + 1 : Nat) : Int) ∧ ((i + 1 : Nat) : Int) < (s.size : Int)) (bif (decide ((by' s).getD (i + 1) 0 = 39)) then rBlob k s i else rTail k s i) else rTail k s i) →
      (tokL ((by' s).drop i) = none ∧ ∃ x, Y = some x ∧ x.2 < 0) ∨ ∃ t r, tokL ((by' s).drop i) = some (t, r) ∧ Y = some (t, ((s.size - r.length : Nat) : Int)) := by
    intro hc Y hY
    by_cases h1 : i + 1 < s.size
    · have hlt2 : i + 1 < (by' s).length := by rw [by_len]; omega
      rw [decide_eq_true (by omega), cond_true, chk_pos (by omega)] at hY
      by_cases h2 : (by' s).getD (i + 1) 0 = 39
      · rw [decide_eq_true h2, cond_true, rblobtok_eq k hs hk i h1] at hY
        have ht : tokL ((by' s).drop i) = (blobL ((by' s).drop (i + 2))).map fun p => (⟨4, txt p.1, 0⟩, p.2) := by
          rw [dropc hlt, dropc hlt2]
          rw [tok_cons, if_pos ⟨hc, by rw [h2]; rfl⟩]; rfl
        rw [ht, hY]
        cases blobL ((by' s).drop (i + 2)) with
        | none => exact .inl ⟨rfl, _, rfl, by decide⟩
        | some p => exact .inr ⟨_, _, rfl, rfl⟩
      · rw [decide_eq_false h2, cond_false] at hY
        rw [hY]
        exact rtail_eq k hs hk i hi (fun c => h2 (by have := c.2; rw [dropc hlt2] at this; simpa using this))
    · rw [decide_eq_false (by omega), cond_false] at hY
      rw [hY]
      exact rtail_eq k hs hk i hi (fun c => by have := c.2; rw [List.drop_eq_nil_of_le (by rw [by_len]; omega)] at this; simp at this)
  by_cases c1 : (by' s).getD i 0 = 120
  · rw [decide_eq_true c1, cond_true]
    exact inner (.inl c1) _ rfl
  rw [decide_eq_false c1, cond_false]
  by_cases c2 : (by' s).getD i 0 = 88
  · rw [decide_eq_true c2, cond_true]
    exact inner (.inr c2) _ rfl
  rw [decide_eq_false c2, cond_false]
  exact rtail_eq k hs hk i hi (fun c => by rcases c.1 with h | h; exact c1 h; exact c2 h)
end
end Go.Proofs.Ytekjibpkkgldgaa.X
