/-
  Layer 19: a text's tokens as a plain function of its bytes; what the printed functions come to.
-/
import Derived.Test.YtepekanlplbciaaQLx2
namespace Go.Proofs.Ytepekanlplbciaa.Q
open Go Go.AX
theorem bigd (p : Prop) [Decidable p] : big (decide p) = decide p := big_eq _

/-! ### blobs -/
def nib (c : UInt8) : Option Nat :=
  if 48 ≤ c ∧ c ≤ 57 then some (c.toNat - 48) else if 97 ≤ c ∧ c ≤ 102 then some (c.toNat - 87) else if 65 ≤ c ∧ c ≤ 70 then some (c.toNat - 55) else none
def nibR : Option Nat → Int × Bool
  | some x => ((x : Int), true)
  | none => (0, false)
theorem nib_eq (k : Nat) (c : UInt8) : lex_nibble k (c.toNat : Int) = some (nibR (nib c)) := by
  have e : lex_nibble k (c.toNat : Int) = lex_nibble 0 (c.toNat : Int) := rfl
  rw [e]
  clear e
  revert c
  refine all_bytes ?_
  decide +kernel
theorem nib_lt {c : UInt8} {x : Nat} (h : nib c = some x) : x < 16 := by
  have key : ∀ c : UInt8, (match nib c with | some x => decide (x < 16) | none => true) = true := all_bytes (by decide +kernel)
  have := key c
  rw [h] at this
  simpa using this
def hexF : By → Option By
  | [] => some []
  | [_] => none
  | a :: b :: r => match nib a, nib b with | some x, some y => (hexF r).map (UInt8.ofNat (x * 16 + y) :: ·) | _, _ => none
def notq (c : UInt8) : Bool := c != 39
def blobL (l : By) : Option (By × By) :=
  if (l.takeWhile notq).length = l.length then none else if (l.takeWhile notq).length % 2 ≠ 0 then none else (hexF (l.takeWhile notq)).map fun t => (t, l.drop ((l.takeWhile notq).length + 1))
theorem idx39 : ∀ l : By, Lib.indexByte l 39 = if (l.takeWhile notq).length = l.length then -1 else ((l.takeWhile notq).length : Int)
  | [] => rfl
  | c :: r => by
    unfold Lib.indexByte
    by_cases h : c = 39
    · rw [if_pos (by simp [h]), List.takeWhile_cons_of_neg (by simp [notq, h])]; simp
    · rw [if_neg (by simpa using h), List.takeWhile_cons_of_pos (by simp [notq, h]), idx39 r]
      by_cases h2 : (r.takeWhile notq).length = r.length
      · rw [if_pos h2, if_pos (by decide), if_pos (by simp [h2])]
      · rw [if_neg h2, if_neg (by rw [beq_iff_eq]; omega), if_neg (by simp [h2])]; simp
theorem hexor (x y : Nat) (hx : x < 16) (hy : y < 16) : IntKind.u8.wrap ((BitVec.ofInt (IntKind.u8).bits (IntKind.u8.wrap ((x : Int) * 2 ^ (min (4 : Int).toNat (IntKind.u8).bits))) ||| BitVec.ofInt (IntKind.u8).bits (y : Int)).toNat : Int) = ((UInt8.ofNat (x * 16 + y)).toNat : Int) := by
  have h : ∀ a b : Fin 16, IntKind.u8.wrap ((BitVec.ofInt (IntKind.u8).bits (IntKind.u8.wrap ((a.val : Int) * 2 ^ (min (4 : Int).toNat (IntKind.u8).bits))) ||| BitVec.ofInt (IntKind.u8).bits (b.val : Int)).toNat : Int) = ((UInt8.ofNat (a.val * 16 + b.val)).toNat : Int) := by decide +kernel
  exact h ⟨x, hx⟩ ⟨y, hy⟩
theorem blob_l6 {ρ : Type} (k : Nat) (kret : ByteArray → Int → Bool → Option ρ) (kexit : Int → Int → List Int → Option ρ) {s : ByteArray} (hs : s.size ≤ 9000000000) (a m : Nat) (he : a + m < s.size) : ∀ (d i n : Nat) (acc : By), i + 2 * d = a + m → d < n → acc.length ≤ i →
    lex_blob_l6 k kret kexit n s (a : Int) (m : Int) (nums acc) (i : Int) = match hexF (((by' s).drop i).take (2 * d)) with | none => kret ByteArray.empty 0 false | some t => kexit a m (nums (acc ++ t))
  | 0, i, n + 1, acc, hi, _, _ => by
    simp only [lex_blob_l6, lex_blob_l6_b]
    rw [w64 (by omega) (by omega), decide_eq_false (by omega), cond_false]; simp [hexF]
  | d + 1, i, n + 1, acc, hi, hn, ha => by
    have hlt : i < (by' s).length := by rw [by_len]; omega
    have hlt2 : i + 1 < (by' s).length := by rw [by_len]; omega
    simp only [lex_blob_l6, lex_blob_l6_b]
    rw [w64 (by omega) (by omega), decide_eq_true (by omega), cond_true, chk_pos (by omega), Int.toNat_natCast, nib_eq, some_bind, w64n (by omega), chk_pos (by omega)]
    simp only [Int.toNat_natCast, nib_eq, some_bind]
    rw [dropc hlt, dropc hlt2, show 2 * (d + 1) = 2 * d + 1 + 1 by omega, List.take_succ_cons, List.take_succ_cons]
    simp only [hexF]
    generalize (by' s).getD i 0 = c0
    generalize (by' s).getD (i + 1) 0 = c1
    cases h0 : nib c0 with
    | none => rfl
    | some x =>
      cases h1 : nib c1 with
      | none => rfl
      | some y =>
        simp only [nibR, Bool.not_true, cond_false]
        rw [hexor x y (nib_lt h0) (nib_lt h1), chk_pos (by simp only [nums_len, List.length_cons, List.length_nil]; omega),
          show IntKind.i64.wrap ((i : Int) + 2) = ((i + 2 : Nat) : Int) by rw [w64 (by omega) (by omega)]; rfl,
          show nums acc ++ [((UInt8.ofNat (x * 16 + y)).toNat : Int)] = nums (acc ++ [UInt8.ofNat (x * 16 + y)]) by rw [nums_append]; rfl,
          blob_l6 k kret kexit hs a m he d (i + 2) n _ (by omega) (by omega) (by simp; omega)]
        cases hexF (((by' s).drop (i + 1 + 1)).take (2 * d)) with
        | none => rfl
        | some t => simp
theorem mem_takeW {q : UInt8 → Bool} {c : UInt8} : ∀ {l : By}, c ∈ l.takeWhile q → q c = true
  | [], h => by cases h
  | d :: r, h => by
    by_cases hd : q d = true
    · rw [List.takeWhile_cons_of_pos hd] at h
      rcases List.mem_cons.1 h with e | h
      · rw [e]; exact hd
      · exact mem_takeW h
    · rw [List.takeWhile_cons_of_neg hd] at h; cases h
theorem takeW_take (q : UInt8 → Bool) : ∀ l : By, l.take (l.takeWhile q).length = l.takeWhile q
  | [] => rfl
  | c :: r => by
    by_cases h : q c = true
    · rw [List.takeWhile_cons_of_pos h, List.length_cons, List.take_succ_cons, takeW_take q r]
    · rw [List.takeWhile_cons_of_neg h]; rfl
theorem blob_eq (k : Nat) {s : ByteArray} (hs : s.size ≤ 9000000000) (hk : s.size < k) (i : Nat) (hi : i ≤ s.size) :
    lex_blob k s (i : Int) = some (match blobL ((by' s).drop i) with | none => (ByteArray.empty, 0, false) | some (t, r) => (txt t, ((s.size - r.length : Nat) : Int), true)) := by
  unfold lex_blob strings_IndexByte stringslite_IndexByte
  rw [chk_pos (by omega)]
  simp only [some_bind, Int.toNat_natCast]
  rw [Lib.extract_data, List.take_of_length_le (by rw [List.length_drop]; exact Nat.le_refl _), show ((39 : Int).toNat.toUInt8) = 39 from rfl, idx39]
  have hl : ((by' s).drop i).length = s.size - i := by rw [List.length_drop, by_len]
  have hr := run_len notq ((by' s).drop i)
  unfold blobL
  by_cases h1 : (((by' s).drop i).takeWhile notq).length = ((by' s).drop i).length
  · rw [if_pos h1, if_pos h1]; rfl
  rw [if_neg h1, if_neg h1, decide_eq_false (by omega), cond_false, Int.tmod_eq_emod_of_nonneg (by omega)]
  have ht := takeW_take notq ((by' s).drop i)
  generalize hm : (((by' s).drop i).takeWhile notq).length = m at *
  by_cases h2 : m % 2 ≠ 0
  · rw [if_pos h2, show (((m : Int) % 2) != 0) = true by rw [bne_iff_ne]; omega, cond_true]
  · rw [if_neg h2, show (((m : Int) % 2) != 0) = false by rw [bne_eq_false_iff_eq]; omega, cond_false]
    unfold lex_blob_j4
    refine Eq.trans (blob_l6 k _ _ hs i m (by omega) (m / 2) i k [] (by omega) (by omega) (Nat.zero_le _)) ?_
    rw [show 2 * (m / 2) = m by omega, ht]
    cases hexF (((by' s).drop i).takeWhile notq) with
    | none => rfl
    | some t =>
      simp only [List.nil_append, nums_txt, Option.map_some]
      rw [w64 (x := (i : Int) + m) (by omega) (by omega), w64 (by omega) (by omega), List.drop_drop, List.length_drop, by_len]
      congr 3
      omega
theorem blobL_le {l t r : By} (h : blobL l = some (t, r)) : r.length < l.length ∧ l.drop (l.length - r.length) = r := by
  unfold blobL at h
  have hr := run_len notq l
  split at h
  · cases h
  split at h
  · cases h
  cases hq : hexF (l.takeWhile notq) with
  | none => rw [hq] at h; cases h
  | some z =>
    rw [hq] at h; cases h
    rw [List.length_drop]
    exact ⟨by omega, by congr 1; omega⟩

/-! ### tokens -/
def tokL : By → Option (SToken × By)
  | [] => none
  | c :: r =>
    if (c = 120 ∨ c = 88) ∧ r.head? = some 39 then (blobL r.tail).map fun p => (⟨4, txt p.1, 0⟩, p.2)
    else if letter c = true then some (⟨1, txt (((c :: r).takeWhile wordc).map smallc), 0⟩, (c :: r).dropWhile wordc)
    else if digit c = true then (intF 0 ((c :: r).takeWhile digit)).map fun v => (⟨2, ByteArray.empty, v⟩, (c :: r).dropWhile digit)
    else if c = 39 then (quotF r).map fun p => (⟨3, txt p.1, 0⟩, p.2)
    else if markN (c :: r) = 0 then none else some (⟨5, txt (if (c :: r).take (markN (c :: r)) = [33, 61] then [60, 62] else (c :: r).take (markN (c :: r))), 0⟩, (c :: r).drop (markN (c :: r)))
theorem tok_cons (c : UInt8) (r : By) : tokL (c :: r) =
    if (c = 120 ∨ c = 88) ∧ r.head? = some 39 then (blobL r.tail).map fun p => (⟨4, txt p.1, 0⟩, p.2)
    else if letter c = true then some (⟨1, txt (((c :: r).takeWhile wordc).map smallc), 0⟩, (c :: r).dropWhile wordc)
    else if digit c = true then (intF 0 ((c :: r).takeWhile digit)).map fun v => (⟨2, ByteArray.empty, v⟩, (c :: r).dropWhile digit)
    else if c = 39 then (quotF r).map fun p => (⟨3, txt p.1, 0⟩, p.2)
    else if markN (c :: r) = 0 then none else some (⟨5, txt (if (c :: r).take (markN (c :: r)) = [33, 61] then [60, 62] else (c :: r).take (markN (c :: r))), 0⟩, (c :: r).drop (markN (c :: r))) := rfl
theorem markN_le (l : By) (h : l ≠ []) : markN l ≤ l.length := by
  unfold markN
  split
  · rename_i hm
    match l, h, hm with
    | [c], _, hm => simp [marks2] at hm
    | a :: b :: r, _, _ => simp
  · split
    · match l, h with
      | c :: r, _ => simp
    · exact Nat.zero_le _
theorem suffix_drop {l : By} {n : Nat} (h : n ≤ l.length) : l.drop (l.length - (l.drop n).length) = l.drop n := by rw [List.length_drop]; congr 1; omega
theorem tok_le {l r : By} {t : SToken} (h : tokL l = some (t, r)) : r.length < l.length ∧ l.drop (l.length - r.length) = r := by
  match l, h with
  | c :: l, h =>
    rw [tok_cons] at h
    split at h
    · rename_i hx
      cases hq : blobL l.tail with
      | none => rw [hq] at h; cases h
      | some p =>
        rw [hq] at h; cases h
        obtain ⟨h1, h2⟩ := blobL_le (t := p.1) (r := p.2) hq
        match l, hx, h1, h2 with
        | d :: l', _, h1, h2 =>
          simp only [List.tail_cons] at h1 h2
          simp only [List.length_cons]
          refine ⟨by omega, ?_⟩
          rw [show l'.length + 1 + 1 - p.2.length = (l'.length - p.2.length) + 1 + 1 by omega, List.drop_succ_cons, List.drop_succ_cons, h2]
        | [], hx, _, _ => simp at hx
    split at h
    · rename_i hl
      cases h
      have e := drop_run wordc (c :: l)
      have hr := run_len wordc (c :: l)
      have : 0 < ((c :: l).takeWhile wordc).length := by rw [List.takeWhile_cons_of_pos (by simp [wordc, hl])]; simp
      rw [← e, suffix_drop (by omega)]
      exact ⟨by rw [List.length_drop]; omega, rfl⟩
    split at h
    · rename_i hd
      cases hq : intF 0 ((c :: l).takeWhile digit) with
      | none => rw [hq] at h; cases h
      | some v =>
        rw [hq] at h; cases h
        have e := drop_run digit (c :: l)
        have hr := run_len digit (c :: l)
        have : 0 < ((c :: l).takeWhile digit).length := by rw [List.takeWhile_cons_of_pos hd]; simp
        rw [← e, suffix_drop (by omega)]
        exact ⟨by rw [List.length_drop]; omega, rfl⟩
    split at h
    · cases hq : quotF l with
      | none => rw [hq] at h; cases h
      | some p =>
        rw [hq] at h; cases h
        obtain ⟨h1, h2, _⟩ := quotF_le l.length l p.1 p.2 (Nat.le_refl _) hq
        simp only [List.length_cons]
        refine ⟨by omega, ?_⟩
        rw [show l.length + 1 - p.2.length = (l.length - p.2.length) + 1 by omega, List.drop_succ_cons, h2]
    split at h
    · cases h
    · rename_i hm
      cases h
      have := markN_le (c :: l) (by simp)
      rw [suffix_drop this]
      exact ⟨by rw [List.length_drop]; omega, rfl⟩
noncomputable def tokTail (k : Nat) (s : ByteArray) (i : Int) : Option (SToken × Int × Bool) :=
  lex_token_j3 k (fun s0 at1 _ => (lex_span_ftoken_1 k s0 at1).bind fun r => chk (0 ≤ at1 ∧ at1 ≤ r ∧ r ≤ (s0.size : Int)) <| (lex_Small k (s0.extract at1.toNat r.toNat)).bind fun r2 => some ((⟨1, r2, 0⟩ : SToken), r, true))
    (fun s0 at1 t4 => (lex_span_fdigit k s0 at1).bind fun r => chk (0 ≤ at1 ∧ at1 ≤ r ∧ r ≤ (s0.size : Int)) <| (lex_integer k (s0.extract at1.toNat r.toNat)).bind fun r2 => some ((⟨2, t4.f1, r2.1⟩ : SToken), r, r2.2))
    (fun s0 at1 t4 => (lex_quoted k s0 (IntKind.i64.wrap (at1 + 1))).bind fun r => some ((⟨3, r.1, t4.f2⟩ : SToken), r.2.1, r.2.2))
    (fun e ok t4 => some (t4, e, ok)) s i ((s.data.toList.getD i.toNat 0).toNat : Int) (⟨0, ByteArray.empty, 0⟩ : SToken)
theorem token_unf (k : Nat) (s : ByteArray) (i : Int) : lex_token k s i = chk (0 ≤ i ∧ i < (s.size : Int))
    (bif (((s.data.toList.getD i.toNat 0).toNat : Int) == 120) then
      (bif (decide ((IntKind.i64.wrap (i + 1)) < (s.size : Int))) then chk (0 ≤ (IntKind.i64.wrap (i + 1)) ∧ (IntKind.i64.wrap (i + 1)) < (s.size : Int)) (bif (((s.data.toList.getD (IntKind.i64.wrap (i + 1)).toNat 0).toNat : Int) == 39) then (lex_blob k s (IntKind.i64.wrap (i + 2))).bind fun r_2 => some ((⟨4, r_2.1, 0⟩ : SToken), r_2.2.1, r_2.2.2) else tokTail k s i) else tokTail k s i)
     else bif (((s.data.toList.getD i.toNat 0).toNat : Int) == 88) then
      (bif (decide ((IntKind.i64.wrap (i + 1)) < (s.size : Int))) then chk (0 ≤ (IntKind.i64.wrap (i + 1)) ∧ (IntKind.i64.wrap (i + 1)) < (s.size : Int)) (bif (((s.data.toList.getD (IntKind.i64.wrap (i + 1)).toNat 0).toNat : Int) == 39) then (lex_blob k s (IntKind.i64.wrap (i + 2))).bind fun r_2 => some ((⟨4, r_2.1, 0⟩ : SToken), r_2.2.1, r_2.2.2) else tokTail k s i) else tokTail k s i)
     else tokTail k s i) := rfl
theorem u8eq (c : UInt8) (n : Nat) (h : n < 256) : (((c.toNat : Nat) : Int) == (n : Int)) = decide (c = UInt8.ofNat n) := by
  rw [Bool.eq_iff_iff, beq_iff_eq, decide_eq_true_eq]
  constructor
  · intro e; apply UInt8.toNat_inj.1; simp; omega
  · intro e; rw [e]; simp; omega
section
variable (k : Nat) {s : ByteArray} (hs : s.size ≤ 9000000000) (hk : s.size < k)
include hs hk
theorem tail_eq (i : Nat) (hi : i < s.size) (hx : ¬ (((by' s).getD i 0 = 120 ∨ (by' s).getD i 0 = 88) ∧ ((by' s).drop (i + 1)).head? = some 39)) :
    (tokL ((by' s).drop i) = none ∧ ∃ x, tokTail k s (i : Int) = some x ∧ x.2.2 = false) ∨ ∃ t r, tokL ((by' s).drop i) = some (t, r) ∧ tokTail k s (i : Int) = some (t, ((s.size - r.length : Nat) : Int), true) := by
  have hlt : i < (by' s).length := by rw [by_len]; omega
  have hl : ((by' s).drop i).length = s.size - i := by rw [List.length_drop, by_len]
  unfold tokTail lex_token_j3
  simp only [Int.toNat_natCast, letter_eq, digit_eq, some_bind]
  have hcons := dropc hlt
  have htok : tokL ((by' s).drop i) = (if letter ((by' s).getD i 0) = true then some (⟨1, txt ((((by' s).drop i).takeWhile wordc).map smallc), 0⟩, ((by' s).drop i).dropWhile wordc)
    else if digit ((by' s).getD i 0) = true then (intF 0 (((by' s).drop i).takeWhile digit)).map fun v => (⟨2, ByteArray.empty, v⟩, ((by' s).drop i).dropWhile digit)
    else if (by' s).getD i 0 = 39 then (quotF ((by' s).drop (i + 1))).map fun p => (⟨3, txt p.1, 0⟩, p.2)
    else if markN ((by' s).drop i) = 0 then none else some (⟨5, txt (if ((by' s).drop i).take (markN ((by' s).drop i)) = [33, 61] then [60, 62] else ((by' s).drop i).take (markN ((by' s).drop i))), 0⟩, ((by' s).drop i).drop (markN ((by' s).drop i)))) := by
    rw [hcons, tok_cons, if_neg hx]
  rw [htok]
  have hsub : ∀ q : UInt8 → Bool, by' (s.extract i (i + (((by' s).drop i).takeWhile q).length)) = ((by' s).drop i).takeWhile q := fun q => by
    simp only [by', Lib.extract_data]
    rw [Nat.add_sub_cancel_left]; exact takeW_take q _
  have hend : ∀ q : UInt8 → Bool, i + (((by' s).drop i).takeWhile q).length = s.size - (((by' s).drop i).dropWhile q).length := fun q => by
    have := run_len q ((by' s).drop i); omega
  by_cases h1 : letter ((by' s).getD i 0) = true
  · have hr := run_len wordc ((by' s).drop i)
    rw [if_pos h1]
    refine .inr ⟨_, _, rfl, ?_⟩
    rw [show letter (s.data.toList.getD i 0) = true from h1, cond_true, span87 k s hs hk i (by omega), some_bind, chk_pos (by omega)]
    simp only [Int.toNat_natCast]
    have hsz : (s.extract i (i + (((by' s).drop i).takeWhile wordc).length)).size ≤ s.size := by
      rw [← by_len, hsub]; omega
    rw [small_eq k _ (by omega) (by omega), some_bind, hsub, ← hend]
  rw [if_neg h1, show letter (s.data.toList.getD i 0) = false by simpa using h1, cond_false]
  by_cases h2 : digit ((by' s).getD i 0) = true
  · have hr := run_len digit ((by' s).drop i)
    rw [if_pos h2, show digit (s.data.toList.getD i 0) = true from h2, cond_true, span84 k s hs hk i (by omega), some_bind, chk_pos (by omega)]
    simp only [Int.toNat_natCast]
    have hsz : (s.extract i (i + (((by' s).drop i).takeWhile digit).length)).size ≤ s.size := by
      rw [← by_len, hsub]; omega
    rw [integer_eq k (by omega) (by omega) (fun c hc => by rw [hsub] at hc; exact mem_takeW hc), some_bind, hsub]
    cases intF 0 (((by' s).drop i).takeWhile digit) with
    | none => exact .inl ⟨rfl, _, rfl, rfl⟩
    | some v => exact .inr ⟨_, _, rfl, by rw [← hend]⟩
  rw [if_neg h2, show digit (s.data.toList.getD i 0) = false by simpa using h2, cond_false]
  have e39 := u8eq ((by' s).getD i 0) 39 (by omega)
  by_cases h3 : (by' s).getD i 0 = 39
  · rw [if_pos h3, show ((((s.data.toList.getD i 0).toNat : Nat) : Int) == 39) = true from e39.trans (decide_eq_true h3), cond_true, w64n (by omega), quoted_eq k hs hk (i + 1) (by omega), some_bind]
    cases quotF ((by' s).drop (i + 1)) with
    | none => exact .inl ⟨rfl, _, rfl, rfl⟩
    | some p => exact .inr ⟨_, _, rfl, rfl⟩
  rw [if_neg h3, show ((((s.data.toList.getD i 0).toNat : Nat) : Int) == 39) = false from e39.trans (decide_eq_false h3), cond_false, chk_pos (by omega)]
  have hrest : by' (s.extract i s.size) = (by' s).drop i := by
    simp only [by', Lib.extract_data]
    exact List.take_of_length_le (by rw [List.length_drop]; exact Nat.le_refl _)
  have hm : lex_mark k (s.extract i s.size) = some (markN ((by' s).drop i) : Int) := by
    rw [mark_eq k (by rw [← by_len, hrest]; omega), hrest]
  rw [hm, some_bind]
  have hle := markN_le ((by' s).drop i) (by rw [hcons]; simp)
  generalize markN ((by' s).drop i) = m at hle
  by_cases h4 : m = 0
  · rw [if_pos h4, decide_eq_false (by omega), cond_false]
    exact .inl ⟨rfl, _, rfl, rfl⟩
  · rw [if_neg h4, decide_eq_true (by omega), cond_true, w64 (by omega) (by omega), chk_pos (by omega)]
    refine .inr ⟨_, _, rfl, ?_⟩
    have hcut : by' (s.extract i (i + m)) = ((by' s).drop i).take m := by
      simp only [by', Lib.extract_data]
      rw [Nat.add_sub_cancel_left]
    have e : ((i : Int) + (m : Int)).toNat = i + m := by omega
    simp only [e]
    have hb : ((s.extract i (i + m)).toList == (⟨#[33, 61]⟩ : ByteArray).toList) = decide (((by' s).drop i).take m = [33, 61]) := by
      rw [Lib.toList_data, show (s.extract i (i + m)).data.toList = ((by' s).drop i).take m from hcut, Lib.toList_data]
      rw [Bool.eq_iff_iff, beq_iff_eq, decide_eq_true_eq]
    rw [hb, List.length_drop, hl]
    have hpos : (i : Int) + (m : Int) = ((s.size - (s.size - i - m) : Nat) : Int) := by omega
    rw [← hpos]
    by_cases h5 : ((by' s).drop i).take m = [33, 61]
    · rw [decide_eq_true h5, cond_true, if_pos h5]; rfl
    · rw [decide_eq_false h5, cond_false, if_neg h5, ← hcut, by_txt]
theorem token_eq (i : Nat) (hi : i < s.size) :
    (tokL ((by' s).drop i) = none ∧ ∃ x, lex_token k s (i : Int) = some x ∧ x.2.2 = false) ∨ ∃ t r, tokL ((by' s).drop i) = some (t, r) ∧ lex_token k s (i : Int) = some (t, ((s.size - r.length : Nat) : Int), true) := by
  have hlt : i < (by' s).length := by rw [by_len]; omega
  rw [token_unf, chk_pos (by omega)]
  simp only [Int.toNat_natCast, w64n (show i < 9223372036854775807 by omega)]
  have e120 : ((((s.data.toList.getD i 0).toNat : Nat) : Int) == 120) = decide ((by' s).getD i 0 = 120) := u8eq _ 120 (by omega)
  have e88 : ((((s.data.toList.getD i 0).toNat : Nat) : Int) == 88) = decide ((by' s).getD i 0 = 88) := u8eq _ 88 (by omega)
  have e39 : ((((s.data.toList.getD (i + 1) 0).toNat : Nat) : Int) == 39) = decide ((by' s).getD (i + 1) 0 = 39) := u8eq _ 39 (by omega)
  rw [e120, e88, e39]
  have inner : ((by' s).getD i 0 = 120 ∨ (by' s).getD i 0 = 88) → ∀ Y : Option (SToken × Int × Bool), Y = (bif (decide (((i + 1 : Nat) : Int) < (s.size : Int))) then chk (0 ≤ ((i + 1 : Nat) : Int) ∧ ((i + 1 : Nat) : Int) < (s.size : Int)) (bif (decide ((by' s).getD (i + 1) 0 = 39)) then (lex_blob k s (IntKind.i64.wrap ((i : Int) + 2))).bind fun r_2 => some ((⟨4, r_2.1, 0⟩ : SToken), r_2.2.1, r_2.2.2) else tokTail k s i) else tokTail k s i) →
      (tokL ((by' s).drop i) = none ∧ ∃ x, Y = some x ∧ x.2.2 = false) ∨ ∃ t r, tokL ((by' s).drop i) = some (t, r) ∧ Y = some (t, ((s.size - r.length : Nat) : Int), true) := by
    intro hc Y hY
    by_cases h1 : i + 1 < s.size
    · have hlt2 : i + 1 < (by' s).length := by rw [by_len]; omega
      rw [decide_eq_true (by omega), cond_true, chk_pos (by omega)] at hY
      by_cases h2 : (by' s).getD (i + 1) 0 = 39
      · rw [decide_eq_true h2, cond_true, w64 (by omega) (by omega), show (i : Int) + 2 = ((i + 2 : Nat) : Int) from rfl, blob_eq k hs hk (i + 2) (by omega), some_bind] at hY
        have ht : tokL ((by' s).drop i) = (blobL ((by' s).drop (i + 2))).map fun p => (⟨4, txt p.1, 0⟩, p.2) := by
          rw [dropc hlt, dropc hlt2]
          rw [tok_cons, if_pos ⟨hc, by rw [h2]; rfl⟩]; rfl
        rw [ht, hY]
        cases blobL ((by' s).drop (i + 2)) with
        | none => exact .inl ⟨rfl, _, rfl, rfl⟩
        | some p => exact .inr ⟨_, _, rfl, rfl⟩
      · rw [decide_eq_false h2, cond_false] at hY
        rw [hY]
        exact tail_eq k hs hk i hi (fun c => h2 (by have := c.2; rw [dropc hlt2] at this; simpa using this))
    · rw [decide_eq_false (by omega), cond_false] at hY
      rw [hY]
      exact tail_eq k hs hk i hi (fun c => by have := c.2; rw [List.drop_eq_nil_of_le (by rw [by_len]; omega)] at this; simp at this)
  by_cases c1 : (by' s).getD i 0 = 120
  · rw [decide_eq_true c1, cond_true]
    exact inner (.inl c1) _ rfl
  rw [decide_eq_false c1, cond_false]
  by_cases c2 : (by' s).getD i 0 = 88
  · rw [decide_eq_true c2, cond_true]
    exact inner (.inr c2) _ rfl
  rw [decide_eq_false c2, cond_false]
  exact tail_eq k hs hk i hi (fun c => by rcases c.1 with h | h; exact c1 h; exact c2 h)
end

/-! ### a text's tokens -/
def longT (t : SToken) : Bool := if t.f0 = 1 then decide (32 < t.f1.size) else decide (4096 < t.f1.size)
theorem long_eq (k : Nat) (t : SToken) : lex_long k t = some (longT t) := by
  unfold lex_long longT
  by_cases h : t.f0 = 1
  · rw [show (t.f0 == 1) = true by simp [h], cond_true, if_pos h]
    congr 1
    rw [Bool.eq_iff_iff, decide_eq_true_eq, decide_eq_true_eq]; omega
  · rw [show (t.f0 == 1) = false by simp [h], cond_false, if_neg h, bigd]
    congr 1
    rw [Bool.eq_iff_iff, decide_eq_true_eq, decide_eq_true_eq]; omega
def scan : Nat → By → Option (List SToken × Bool)
  | 0, _ => none
  | _ + 1, [] => some ([], false)
  | n + 1, c :: r => (tokL (c :: r)).bind fun p => (scan n (skipL p.2)).map fun q => (p.1 :: q.1, longT p.1 || q.2)
def toks (b : By) : List SToken × Int :=
  if 8192 < b.length then ([], 7) else match scan (b.length + 1) (skipL b) with | none => ([], 1) | some (ts, lg) => if lg = true then ([], 7) else (ts, 0)
theorem toks_l6 {ρ : Type} (k : Nat) {s : ByteArray} (hs : s.size ≤ 9000000000) (hk : s.size + 1 < k) (kret kexit : List SToken → Int → Option ρ) : ∀ (d i n : Nat) (l4 : List SToken) (e : Int), i ≤ s.size → s.size - i ≤ d → d < n → l4.length ≤ i →
    lex_Tokens_l6 k kret kexit n s l4 e (i : Int) = match scan (d + 1) ((by' s).drop i) with | none => kret [] 1 | some (ts, lg) => kexit (l4 ++ ts) (if lg = true then 7 else e)
  | d, i, n + 1, l4, e, hi, hd, hn, ha => by
    simp only [lex_Tokens_l6, lex_Tokens_l6_b]
    by_cases he : i = s.size
    · rw [decide_eq_false (by omega), cond_false, List.drop_eq_nil_of_le (by rw [by_len]; omega)]
      simp [scan]
    have hlt : i < (by' s).length := by rw [by_len]; omega
    have hlen : ((by' s).drop i).length = s.size - i := by rw [List.length_drop, by_len]
    rw [decide_eq_true (by omega), cond_true]
    have hsc : scan (d + 1) ((by' s).drop i) = (tokL ((by' s).drop i)).bind fun p => (scan d (skipL p.2)).map fun q => (p.1 :: q.1, longT p.1 || q.2) := by
      rw [dropc hlt]; rfl
    rw [hsc]
    rcases token_eq k hs (by omega) i (by omega) with ⟨h1, x, h2, h3⟩ | ⟨t, r, h1, h2⟩
    · rw [h1, h2, some_bind, h3]; rfl
    · obtain ⟨h3, h4⟩ := tok_le h1
      rw [h1, h2, some_bind, some_bind]
      simp only [Bool.not_true, cond_false]
      rw [long_eq, some_bind]
      have hr : (by' s).drop (s.size - r.length) = r := by
        rw [List.drop_drop, hlen] at h4
        rw [← h4, List.length_drop, by_len]
        congr 1
        omega
      obtain ⟨j, g1, g2, g3, g4⟩ := skipp k hs hk (s.size - r.length) (by omega)
      rw [hr] at g3
      cases d with
      | zero => omega
      | succ d =>
        have rec' : ∀ e' : Int, lex_Tokens_l6 k kret kexit n s (l4 ++ [t]) e' (j : Int) = match scan (d + 1) (skipL r) with | none => kret [] 1 | some (ts, lg) => kexit ((l4 ++ [t]) ++ ts) (if lg = true then 7 else e') := fun e' => by
          rw [← g3]
          exact toks_l6 k hs hk kret kexit d j n (l4 ++ [t]) e' g2 (by omega) (by omega) (by simp; omega)
        rw [chk_pos (by simp only [List.length_cons, List.length_nil]; omega), chk_pos (by simp only [List.length_cons, List.length_nil]; omega), g4, some_bind, some_bind, rec', rec']
        cases scan (d + 1) (skipL r) with
        | none => cases longT t <;> rfl
        | some q =>
          obtain ⟨ts, lg⟩ := q
          simp only [Option.map_some, List.append_assoc, List.singleton_append]
          cases longT t <;> cases lg <;> rfl
theorem tokens_eq (k : Nat) (s : ByteArray) (hk : 8194 < k) : lex_Tokens k s = some (toks (by' s)) := by
  unfold lex_Tokens toks
  rw [bigd, by_len]
  by_cases h : 8192 < s.size
  · rw [decide_eq_true (by omega), cond_true, if_pos h]
  · rw [decide_eq_false (by omega), cond_false, if_neg h]
    obtain ⟨j, g1, g2, g3, g4⟩ := skipp k (s := s) (by omega) (by omega) 0 (by omega)
    rw [List.drop_zero] at g3
    have g4' : lex_skip k s 0 = some (j : Int) := g4
    rw [g4', some_bind]
    refine Eq.trans (toks_l6 k (by omega) (by omega) _ _ s.size j k [] 0 g2 (by omega) (by omega) (Nat.zero_le _)) ?_
    rw [g3]
    cases scan (s.size + 1) (skipL (by' s)) with
    | none => rfl
    | some q =>
      obtain ⟨ts, lg⟩ := q
      cases lg <;> rfl
end Go.Proofs.Ytepekanlplbciaa.Q
