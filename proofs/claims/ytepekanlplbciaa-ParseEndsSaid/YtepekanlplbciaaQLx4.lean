/-
  Layer 19: two texts with a line's end between; the laws' own helpers.
-/
import Derived.Test.YtepekanlplbciaaQLx3
import Derived.KernelRfl
namespace Go.Proofs.Ytepekanlplbciaa.Q
open Go Go.AX

theorem by_app (a b : ByteArray) : by' (a ++ b) = by' a ++ by' b := by simp [by', ByteArray.data_append]
theorem by_cat (a b : ByteArray) : by' (cat a b) = by' a ++ by' b := by rw [cat_eq, by_app]
theorem fits {a b : ByteArray} (h : (by' a).length + (by' b).length ≤ 9000000000) : strFits a b := by
  rw [strFits_eq]; rw [by_len, by_len] at h; omega

/-! ### the laws' helpers -/
theorem tok_same (a : SToken) : (!((a.f0 == a.f0) && ((a.f1 == a.f1) && (a.f2 == a.f2)))) = false := by simp
theorem scan_fuel : ∀ (n m : Nat) (l : By), l.length < n → l.length < m → scan n l = scan m l
  | n + 1, m + 1, [], _, _ => rfl
  | n + 1, m + 1, c :: r, hn, hm => by
    simp only [scan]
    cases h : tokL (c :: r) with
    | none => rfl
    | some p =>
      obtain ⟨t, r'⟩ := p
      have h1 := (tok_le h).1
      have h2 := skipL_le r'
      rw [some_bind, some_bind, scan_fuel n m (skipL r') (by omega) (by omega)]
theorem scan_len : ∀ (n : Nat) (l : By) (ts : List SToken) (lg : Bool), scan n l = some (ts, lg) → ts.length ≤ l.length
  | n + 1, [], ts, lg, h => by cases h; simp
  | n + 1, c :: r, ts, lg, h => by
    simp only [scan] at h
    cases hq : tokL (c :: r) with
    | none => rw [hq] at h; cases h
    | some p =>
      obtain ⟨t, r'⟩ := p
      have h1 := (tok_le hq).1
      have h2 := skipL_le r'
      rw [hq, some_bind] at h
      cases hz : scan n (skipL r') with
      | none => simp only [hz] at h; cases h
      | some q =>
        simp only [hz] at h; cases h
        have := scan_len n _ q.1 q.2 hz
        simp only [List.length_cons] at h1 ⊢; omega
def full (l : By) : Option (List SToken × Bool) := scan (l.length + 1) (skipL l)
theorem toks_full (b : By) : toks b = ((if 8192 < b.length then ([], 7) else match full b with | none => ([], 1) | some (ts, lg) => if lg = true then ([], 7) else (ts, 0)) : List SToken × Int) := rfl
theorem toks_ok {b : By} (h : (toks b).2 = 0) : b.length ≤ 8192 ∧ full b = some ((toks b).1, false) ∧ (toks b).1.length ≤ b.length := by
  rw [toks_full] at h ⊢
  by_cases h1 : 8192 < b.length
  · rw [if_pos h1] at h; cases h
  rw [if_neg h1] at h ⊢
  cases hf : full b with
  | none => rw [hf] at h; cases h
  | some q =>
    obtain ⟨ts, lg⟩ := q
    rw [hf] at h
    cases lg with
    | true => cases h
    | false =>
      have := scan_len _ _ _ _ hf
      have h2 := skipL_le b
      exact ⟨by omega, rfl, by simp; omega⟩
theorem toks_of {b : By} {ts : List SToken} (h1 : b.length ≤ 8192) (h : full b = some (ts, false)) : toks b = (ts, 0) := by
  rw [toks_full, if_neg (by omega), h]; rfl

/-! ### with a line's end behind -/
section
variable (c : By)
theorem takeW_app {q : UInt8 → Bool} (hq : q 10 = false) : ∀ l : By, (l ++ 10 :: c).takeWhile q = l.takeWhile q
  | [] => by simp [hq]
  | d :: r => by
    by_cases h : q d = true
    · rw [List.cons_append, List.takeWhile_cons_of_pos h, List.takeWhile_cons_of_pos h, takeW_app hq r]
    · rw [List.cons_append, List.takeWhile_cons_of_neg h, List.takeWhile_cons_of_neg h]
theorem dropW_app {q : UInt8 → Bool} (hq : q 10 = false) : ∀ l : By, (l ++ 10 :: c).dropWhile q = l.dropWhile q ++ 10 :: c
  | [] => by simp [hq]
  | d :: r => by
    by_cases h : q d = true
    · rw [List.cons_append, List.dropWhile_cons_of_pos h, List.dropWhile_cons_of_pos h, dropW_app hq r]
    · rw [List.cons_append, List.dropWhile_cons_of_neg h, List.dropWhile_cons_of_neg h]; rfl
theorem dropB_app : ∀ l : By, (l ++ 10 :: c).dropWhile blank = if l.dropWhile blank = [] then c.dropWhile blank else l.dropWhile blank ++ 10 :: c
  | [] => by
    rw [List.nil_append, List.dropWhile_cons_of_pos (by rfl)]; rfl
  | d :: r => by
    by_cases h : blank d = true
    · rw [List.cons_append, List.dropWhile_cons_of_pos h, List.dropWhile_cons_of_pos h, dropB_app r]
    · rw [List.cons_append, List.dropWhile_cons_of_neg h, List.dropWhile_cons_of_neg h, if_neg (by simp)]; rfl
theorem skipL_blank {d : UInt8} (h : blank d = true) (l : By) : skipL (d :: l) = skipL l := by
  rw [skipL_eq, skipL_eq l, List.dropWhile_cons_of_pos h]
theorem skipL_nil : skipL [] = [] := rfl
theorem skip_app : ∀ (n : Nat) (l : By), l.length ≤ n → skipL (l ++ 10 :: c) = if skipL l = [] then skipL c else skipL l ++ 10 :: c := by
  intro n
  induction n with
  | zero =>
    intro l hl
    have : l = [] := List.eq_nil_of_length_eq_zero (by omega)
    subst this
    rw [List.nil_append, skipL_blank (by rfl), skipL_nil, if_pos rfl]
  | succ n ih =>
    intro l hl
    rw [skipL_eq (l ++ 10 :: c), skipL_eq l, dropB_app]
    have hle := run_le blank l
    generalize hr : l.dropWhile blank = r at hle
    match r, hle with
    | [], _ => rw [if_pos rfl, ← skipL_eq, if_neg (show ¬ ([] : By).take 2 = [45, 45] by decide), if_pos rfl]
    | [x], _ =>
      rw [if_neg (show ¬ ([x] : By) = [] by simp), if_neg (show ¬ ([x] ++ 10 :: c : By).take 2 = [45, 45] by simp), if_neg (show ¬ ([x] : By).take 2 = [45, 45] by simp), if_neg (show ¬ ([x] : By) = [] by simp)]
    | x :: y :: r, hle =>
      have e : ((x :: y :: r) ++ 10 :: c : By).take 2 = (x :: y :: r : By).take 2 := rfl
      rw [if_neg (show ¬ (x :: y :: r : By) = [] by simp), e]
      by_cases h : (x :: y :: r : By).take 2 = [45, 45]
      · rw [if_pos h, if_pos h, dropW_app c (by rfl)]
        have h2 := remark_lt h
        exact ih _ (by omega)
      · rw [if_neg h, if_neg h, if_neg (show ¬ (x :: y :: r : By) = [] by simp)]
theorem quot_app : ∀ (n : Nat) (l t r : By), l.length ≤ n → quotF l = some (t, r) → quotF (l ++ 10 :: c) = some (t, r ++ 10 :: c)
  | 0, l, t, r, hn, h => by
    have : l = [] := List.eq_nil_of_length_eq_zero (by omega)
    subst this; cases h
  | n + 1, l, t, r, hn, h => by
    match l, h with
    | d :: l, h =>
      unfold quotF at h
      simp only [List.length_cons] at hn
      rw [List.cons_append]
      unfold quotF
      split at h
      · rename_i hd
        rw [if_pos hd]
        match l, h with
        | [], h => cases h; simp
        | e :: l', h =>
          simp only at h
          simp only [List.length_cons] at hn
          simp only [List.cons_append]
          split at h
          · rename_i he
            rw [if_pos he]
            cases hq : quotF l' with
            | none => rw [hq] at h; cases h
            | some p =>
              rw [hq] at h; cases h
              rw [quot_app n l' p.1 p.2 (by omega) hq]; rfl
          · rename_i he
            cases h
            rw [if_neg he]; rfl
      · rename_i hd
        rw [if_neg hd]
        cases hq : quotF l with
        | none => rw [hq] at h; cases h
        | some p =>
          rw [hq] at h; cases h
          rw [quot_app n l p.1 p.2 (by omega) hq]; rfl
theorem takeW_app2 {q : UInt8 → Bool} : ∀ (l e : By), (l.takeWhile q).length ≠ l.length → (l ++ e).takeWhile q = l.takeWhile q
  | [], e, h => by simp at h
  | d :: r, e, h => by
    by_cases hd : q d = true
    · rw [List.takeWhile_cons_of_pos hd] at h
      rw [List.cons_append, List.takeWhile_cons_of_pos hd, List.takeWhile_cons_of_pos hd, takeW_app2 r e (by simpa using h)]
    · rw [List.cons_append, List.takeWhile_cons_of_neg hd, List.takeWhile_cons_of_neg hd]
theorem blob_app {l t r : By} (h : blobL l = some (t, r)) : blobL (l ++ 10 :: c) = some (t, r ++ 10 :: c) := by
  unfold blobL at h ⊢
  have hr := run_len notq l
  split at h
  · cases h
  rename_i h1
  rw [takeW_app2 l _ h1]
  rw [if_neg (by rw [List.length_append]; omega)]
  split at h
  · cases h
  rename_i h2
  rw [if_neg h2]
  cases hq : hexF (l.takeWhile notq) with
  | none => rw [hq] at h; cases h
  | some z =>
    rw [hq] at h; cases h
    simp only [Option.map_some]
    rw [List.drop_append_of_le_length (by omega)]
theorem mark_app {l : By} (hl : l ≠ []) : markN (l ++ 10 :: c) = markN l := by
  unfold markN
  match l, hl with
  | [x], _ =>
    have e1 : marks2.contains (([x] ++ 10 :: c).take 2) = false := by simp [marks2]
    have e2 : marks2.contains ([x].take 2) = false := by simp [marks2]
    rw [e1, e2]; rfl
  | x :: y :: r, _ => rfl
theorem tok_app {l r : By} {t : SToken} (h : tokL l = some (t, r)) : tokL (l ++ 10 :: c) = some (t, r ++ 10 :: c) := by
  match l, h with
  | d :: l, h =>
    rw [tok_cons] at h
    rw [List.cons_append, tok_cons]
    have hx : ((d = 120 ∨ d = 88) ∧ (l ++ 10 :: c).head? = some 39) ↔ ((d = 120 ∨ d = 88) ∧ l.head? = some 39) := by
      cases l with
      | nil => simp
      | cons e l => simp
    split at h
    · rename_i h1
      rw [if_pos (hx.2 h1)]
      cases hq : blobL l.tail with
      | none => rw [hq] at h; cases h
      | some p =>
        rw [hq] at h; cases h
        match l, h1, hq with
        | e :: l', _, hq =>
          rw [List.cons_append, List.tail_cons]
          rw [List.tail_cons] at hq
          rw [blob_app c (t := p.1) (r := p.2) hq]; rfl
        | [], h1, _ => simp at h1
    rename_i h1
    rw [if_neg (fun e => h1 (hx.1 e))]
    split at h
    · rename_i h2
      cases h
      rw [if_pos h2, ← List.cons_append, takeW_app c (by rfl), dropW_app c (by rfl)]
    rename_i h2
    rw [if_neg h2]
    split at h
    · rename_i h3
      rw [if_pos h3, ← List.cons_append, takeW_app c (by rfl), dropW_app c (by rfl)]
      cases hq : intF 0 ((d :: l).takeWhile digit) with
      | none => rw [hq] at h; cases h
      | some v => rw [hq] at h; cases h; rfl
    rename_i h3
    rw [if_neg h3]
    split at h
    · rename_i h4
      rw [if_pos h4]
      cases hq : quotF l with
      | none => rw [hq] at h; cases h
      | some p =>
        rw [hq] at h; cases h
        rw [quot_app c l.length l p.1 p.2 (Nat.le_refl _) hq]; rfl
    rename_i h4
    have hm := mark_app c (l := d :: l) (by simp)
    have hle := markN_le (d :: l) (by simp)
    rw [List.cons_append] at hm
    rw [if_neg h4, hm]
    split at h
    · cases h
    · rename_i h5
      cases h
      rw [if_neg h5, ← List.cons_append, List.take_append_of_le_length hle, List.drop_append_of_le_length hle]
theorem scan_app {us : List SToken} {mg : Bool} (hc : full c = some (us, mg)) : ∀ (n m : Nat) (l : By) (ts : List SToken) (lg : Bool), l ≠ [] → l.length < n → (l ++ 10 :: c).length < m → scan n l = some (ts, lg) →
    scan m (l ++ 10 :: c) = some (ts ++ us, lg || mg)
  | n + 1, m + 1, d :: l, ts, lg, _, hn, hm, h => by
    simp only [scan] at h
    cases hq : tokL (d :: l) with
    | none => rw [hq] at h; cases h
    | some p =>
      obtain ⟨t, r⟩ := p
      have h1 := (tok_le hq).1
      have h2 := skipL_le r
      rw [hq, some_bind] at h
      have ht := tok_app c hq
      rw [List.cons_append] at ht ⊢
      simp only [scan]
      rw [ht, some_bind]
      simp only [List.length_append, List.length_cons] at h1 hn hm
      simp only [skip_app c r.length r (Nat.le_refl _)]
      have h3 := skipL_le c
      cases hz : scan n (skipL r) with
      | none => simp only [hz] at h; cases h
      | some q =>
        simp only [hz] at h
        cases h
        by_cases he : skipL r = []
        · rw [if_pos he]
          rw [he] at hz
          have : q = ([], false) := by
            cases n with
            | zero => cases hz
            | succ n => cases hz; rfl
          subst this
          have e : scan m (skipL c) = full c := scan_fuel m (c.length + 1) (skipL c) (by omega) (by omega)
          rw [e, hc]
          simp
        · rw [if_neg he]
          have := scan_app hc n m (skipL r) q.1 q.2 he (by omega) (by simp only [List.length_append, List.length_cons]; omega) hz
          rw [this]
          simp [Bool.or_assoc]
theorem full_app {us : List SToken} {mg : Bool} (hc : full c = some (us, mg)) {l : By} {ts : List SToken} {lg : Bool} (h : full l = some (ts, lg)) : full (l ++ 10 :: c) = some (ts ++ us, lg || mg) := by
  unfold full
  rw [skip_app c l.length l (Nat.le_refl _)]
  have h1 := skipL_le l
  have h3 := skipL_le c
  by_cases he : skipL l = []
  · rw [if_pos he]
    have e : scan ((l ++ 10 :: c).length + 1) (skipL c) = full c := scan_fuel _ (c.length + 1) (skipL c) (by simp only [List.length_append, List.length_cons]; omega) (by omega)
    rw [e, hc]
    unfold full at h
    rw [he] at h
    cases h
    simp
  · rw [if_neg he]
    exact scan_app c hc (l.length + 1) _ (skipL l) ts lg he (by omega) (by simp only [List.length_append, List.length_cons]; omega) h
end
theorem full_blank {d : UInt8} (hd : blank d = true) (l : By) : full (d :: l) = full l := by
  unfold full
  rw [skipL_blank hd]
  have h1 := skipL_le l
  exact scan_fuel _ _ _ (by simp only [List.length_cons]; omega) (by omega)
end Go.Proofs.Ytepekanlplbciaa.Q
