/-
  Layer 19: a text's tokens by the page's own printed function.
-/
import Derived.Test.YtekjibpkkgldgaaXLy2
namespace Go.Proofs.Ytekjibpkkgldgaa.X
open Go Go.AX

theorem scan_same : ∀ (n m : Nat) (l : By), l.length < n → l.length < m → scan n l = scan m l
  | n + 1, m + 1, [], _, _ => rfl
  | n + 1, m + 1, c :: r, hn, hm => by
    simp only [scan]
    cases h : tokL (c :: r) with
    | none => rfl
    | some p =>
      obtain ⟨t, r'⟩ := p
      obtain ⟨h1, _⟩ := tok_le h
      have h2 := skipL_le r'
      simp only [List.length_cons] at hn hm h1
      rw [some_bind, some_bind, scan_same n m (skipL r') (by omega) (by omega)]
def scanL (l : By) : Option (List S68 × Bool) := scan (l.length + 1) l
theorem scanL_cons (c : UInt8) (r : By) : scanL (c :: r) = (tokL (c :: r)).bind fun p => (scanL (skipL p.2)).map fun q => (p.1 :: q.1, longT p.1 || q.2) := by
  have e : scanL (c :: r) = (tokL (c :: r)).bind fun p => (scan (c :: r).length (skipL p.2)).map fun q => (p.1 :: q.1, longT p.1 || q.2) := rfl
  rw [e]
  cases h : tokL (c :: r) with
  | none => rfl
  | some p =>
    obtain ⟨t, r'⟩ := p
    obtain ⟨h1, _⟩ := tok_le h
    have h2 := skipL_le r'
    rw [some_bind, some_bind]
    unfold scanL
    rw [scan_same (c :: r).length ((skipL r').length + 1) (skipL r') (by simp only [List.length_cons] at *; omega) (by omega)]
theorem skipL_blank {c : UInt8} {r : By} (h : blank c = true) : skipL (c :: r) = skipL r := by
  rw [skipL_eq, skipL_eq r, List.dropWhile_cons_of_pos h]
theorem skipL_rem {l : By} (h : l.take 2 = [45, 45]) : skipL l = skipL (l.dropWhile line) := by
  have hb : l.dropWhile blank = l := by
    match l, h with
    | c :: r, h =>
      have hc : c = 45 := by simp at h; exact h.1
      rw [List.dropWhile_cons_of_neg (by rw [hc]; decide)]
  rw [skipL_eq, hb, if_pos h]
theorem skipL_stay {c : UInt8} {r : By} (h : blank c = false) (h2 : (c :: r).take 2 ≠ [45, 45]) : skipL (c :: r) = c :: r := by
  have hb : (c :: r).dropWhile blank = c :: r := List.dropWhile_cons_of_neg (by rw [h]; decide)
  rw [skipL_eq, hb, if_neg h2]
theorem tok_kind {l r : By} {t : S68} (h : tokL l = some (t, r)) : t.f0 = 1 ∨ (t.f0 = 2 ∧ t.f1.size = 0) ∨ 2 < t.f0 := by
  match l, h with
  | c :: l, h =>
    rw [tok_cons] at h
    split at h
    · cases hq : blobL l.tail with
      | none => rw [hq] at h; cases h
      | some p => rw [hq] at h; cases h; exact .inr (.inr (by show (2 : Int) < 4; decide))
    split at h
    · cases h; exact .inl rfl
    split at h
    · cases hq : intF 0 ((c :: l).takeWhile digit) with
      | none => rw [hq] at h; cases h
      | some v => rw [hq] at h; cases h; exact .inr (.inl ⟨rfl, rfl⟩)
    split at h
    · cases hq : quotF l with
      | none => rw [hq] at h; cases h
      | some p => rw [hq] at h; cases h; exact .inr (.inr (by show (2 : Int) < 3; decide))
    split at h
    · cases h
    · cases h; exact .inr (.inr (by show (2 : Int) < 5; decide))
section
variable {ρ : Type} (k : Nat) {s : ByteArray} (hs : s.size ≤ 9000000000)
include hs
theorem rspan10 (kexit : ByteArray → List S68 → Bool → Int → Option ρ) (l : List S68) (lg : Bool) : ∀ (d i n : Nat), i + d = s.size → d < n → cadastreref19_Tokens_l10 k kexit n s l lg i = kexit s l lg ((i + (((by' s).drop i).takeWhile line).length : Nat) : Int)
  | 0, i, n + 1, hi, _ => by
    simp only [cadastreref19_Tokens_l10, cadastreref19_Tokens_l10_b]
    rw [decide_eq_false (by omega), cond_false, List.drop_eq_nil_of_le (by rw [by_len]; omega)]; simp
  | d + 1, i, n + 1, hi, hn => by
    have hlt : i < (by' s).length := by rw [by_len]; omega
    have ih := rspan10 kexit l lg d (i + 1) n (by omega) (by omega)
    simp only [cadastreref19_Tokens_l10, cadastreref19_Tokens_l10_b]
    rw [decide_eq_true (by omega), cond_true, chk_pos (by omega), Int.toNat_natCast, dropc hlt, w64n (by omega), ih]
    have e10 : ((((s.data.toList.getD i 0).toNat : Nat) : Int) == 10) = decide ((by' s).getD i 0 = 10) := u8eq _ 10 (by omega)
    rw [bne, e10]
    by_cases h : (by' s).getD i 0 = 10
    · rw [decide_eq_true h, Bool.not_true, cond_false, List.takeWhile_cons_of_neg (by rw [h]; decide)]; simp
    · rw [decide_eq_false h, Bool.not_false, cond_true, List.takeWhile_cons_of_pos (by simp only [line, bne_iff_ne, ne_eq]; exact h), List.length_cons]
      congr 2; omega
theorem rtoks_l6 (hk : s.size + 1 < k) (kret : List S68 → Int → Option ρ) (kexit : List S68 → Bool → Option ρ) : ∀ (d i n : Nat) (l4 : List S68) (lg : Bool), i ≤ s.size → s.size - i ≤ d → d < n → l4.length ≤ i →
    cadastreref19_Tokens_l6 k kret kexit n s l4 lg (i : Int) = match scanL (skipL ((by' s).drop i)) with | none => kret [] 1 | some (ts, g) => kexit (l4 ++ ts) (lg || g)
  | d, i, n + 1, l4, lg, hi, hd, hn, ha => by
    simp only [cadastreref19_Tokens_l6, cadastreref19_Tokens_l6_b]
    by_cases he : i = s.size
    · rw [decide_eq_false (by omega), cond_false, List.drop_eq_nil_of_le (by rw [by_len]; omega)]
      have : scanL (skipL []) = some ([], false) := rfl
      rw [this]; simp
    have hlt : i < (by' s).length := by rw [by_len]; omega
    have hlen : ((by' s).drop i).length = s.size - i := by rw [List.length_drop, by_len]
    rw [decide_eq_true (by omega), cond_true, chk_pos (by omega), Int.toNat_natCast, rblank_eq, some_bind, w64n (by omega)]
    cases d with
    | zero => omega
    | succ d =>
    have hcons := dropc hlt
    show (bif blank ((by' s).getD i 0) then _ else _) = _
    by_cases hb : blank ((by' s).getD i 0) = true
    · rw [hb, cond_true, hcons, skipL_blank hb]
      exact rtoks_l6 hk kret kexit d (i + 1) n l4 lg (by omega) (by omega) (by omega) (by omega)
    rw [Bool.not_eq_true] at hb
    rw [hb, cond_false, chk_pos (by omega)]
    have e45 : ((((s.data.toList.getD i 0).toNat : Nat) : Int) == 45) = decide ((by' s).getD i 0 = 45) := u8eq _ 45 (by omega)
    rw [e45]
    -- a token
    have htok : ((by' s).drop i).take 2 ≠ [45, 45] → cadastreref19_Tokens_j12 k kret (cadastreref19_Tokens_l6 k kret kexit n) s l4 lg i = match scanL (skipL ((by' s).drop i)) with | none => kret [] 1 | some (ts, g) => kexit (l4 ++ ts) (lg || g) := fun h2 => by
      rw [hcons] at h2
      have hst : skipL ((by' s).drop i) = (by' s).drop i := by rw [hcons]; exact skipL_stay hb h2
      have hsc : scanL ((by' s).drop i) = (tokL ((by' s).drop i)).bind fun p => (scanL (skipL p.2)).map fun q => (p.1 :: q.1, longT p.1 || q.2) := by rw [hcons]; exact scanL_cons _ _
      rw [hst, hsc]
      unfold cadastreref19_Tokens_j12
      rcases rtoken_eq k hs (by omega) i (by omega) with ⟨h1, x, h3, h4⟩ | ⟨t, r, h1, h3⟩
      · rw [h1, h3, some_bind, decide_eq_true h4]; rfl
      · obtain ⟨g1, g2⟩ := tok_le h1
        rw [h1, h3, some_bind, some_bind, decide_eq_false (by omega), cond_false]
        have hr : (by' s).drop (s.size - r.length) = r := by
          rw [List.drop_drop, hlen] at g2
          rw [← g2, List.length_drop, by_len]
          congr 1
          omega
        have rec' : ∀ e' : Bool, cadastreref19_Tokens_l6 k kret kexit n s (l4 ++ [t]) e' ((s.size - r.length : Nat) : Int) = match scanL (skipL r) with | none => kret [] 1 | some (ts, g) => kexit ((l4 ++ [t]) ++ ts) (e' || g) := fun e' => by
          have := rtoks_l6 hk kret kexit d (s.size - r.length) n (l4 ++ [t]) e' (by omega) (by omega) (by omega) (by simp; omega)
          rw [hr] at this; exact this
        have fin : (bif lg then chk ((l4.length + [t].length) * 32 ≤ 140737488355328) (cadastreref19_Tokens_l6 k kret kexit n s (l4 ++ [t]) true ((s.size - r.length : Nat) : Int)) else
            bif (t.f0 == 1) then bif (decide ((t.f1.size : Int) > 32)) then chk ((l4.length + [t].length) * 32 ≤ 140737488355328) (cadastreref19_Tokens_l6 k kret kexit n s (l4 ++ [t]) true ((s.size - r.length : Nat) : Int)) else
              bif (decide (t.f0 > 2)) then chk ((l4.length + [t].length) * 32 ≤ 140737488355328) (cadastreref19_Tokens_l6 k kret kexit n s (l4 ++ [t]) (big (decide ((t.f1.size : Int) > 4096))) ((s.size - r.length : Nat) : Int)) else chk ((l4.length + [t].length) * 32 ≤ 140737488355328) (cadastreref19_Tokens_l6 k kret kexit n s (l4 ++ [t]) false ((s.size - r.length : Nat) : Int))
            else bif (decide (t.f0 > 2)) then chk ((l4.length + [t].length) * 32 ≤ 140737488355328) (cadastreref19_Tokens_l6 k kret kexit n s (l4 ++ [t]) (big (decide ((t.f1.size : Int) > 4096))) ((s.size - r.length : Nat) : Int)) else chk ((l4.length + [t].length) * 32 ≤ 140737488355328) (cadastreref19_Tokens_l6 k kret kexit n s (l4 ++ [t]) false ((s.size - r.length : Nat) : Int))) =
            cadastreref19_Tokens_l6 k kret kexit n s (l4 ++ [t]) (lg || longT t) ((s.size - r.length : Nat) : Int) := by
          have hc : (l4.length + [t].length) * 32 ≤ 140737488355328 := by simp only [List.length_cons, List.length_nil]; omega
          simp only [chk_pos hc, bigd]
          cases lg with
          | true => rfl
          | false =>
            rw [cond_false, Bool.false_or]
            unfold longT
            rcases tok_kind h1 with q | ⟨q, q2⟩ | q
            · rw [q, if_pos rfl]
              by_cases z : 32 < t.f1.size
              · rw [decide_eq_true (show (t.f1.size : Int) > 32 by omega), decide_eq_true z]; rfl
              · rw [decide_eq_false (show ¬ (t.f1.size : Int) > 32 by omega), decide_eq_false z]; rfl
            · rw [q, q2, if_neg (by decide)]; rfl
            · rw [show (t.f0 == 1) = false by rw [beq_eq_false_iff_ne]; omega, cond_false, decide_eq_true (show t.f0 > 2 from q), cond_true, if_neg (by omega)]
              congr 1
              rw [Bool.eq_iff_iff, decide_eq_true_eq, decide_eq_true_eq]; omega
        refine Eq.trans fin ?_
        rw [rec']
        cases scanL (skipL r) with
        | none => rfl
        | some q =>
          obtain ⟨ts, g⟩ := q
          simp only [Option.map_some, List.append_assoc, List.singleton_append, Bool.or_assoc]
    by_cases c1 : (by' s).getD i 0 = 45
    case neg =>
      rw [decide_eq_false c1, cond_false]
      exact htok (fun h => c1 (by rw [hcons] at h; simp only [List.take_succ_cons] at h; exact (List.cons.inj h).1))
    rw [decide_eq_true c1, cond_true]
    by_cases c2 : i + 1 < s.size
    case neg =>
      rw [decide_eq_false (by omega), cond_false]
      exact htok (fun h => by have := congrArg List.length h; rw [List.length_take, hlen] at this; simp at this; omega)
    have hlt2 : i + 1 < (by' s).length := by rw [by_len]; omega
    rw [decide_eq_true (by omega), cond_true, chk_pos (by omega)]
    have e45' : ((((s.data.toList.getD (i + 1) 0).toNat : Nat) : Int) == 45) = decide ((by' s).getD (i + 1) 0 = 45) := u8eq _ 45 (by omega)
    simp only [Int.toNat_natCast]
    rw [e45']
    have h2c : ((by' s).drop i).take 2 = [(by' s).getD i 0, (by' s).getD (i + 1) 0] := by rw [hcons, dropc hlt2]; rfl
    by_cases c3 : (by' s).getD (i + 1) 0 = 45
    case neg =>
      rw [decide_eq_false c3, cond_false]
      exact htok (fun h => by rw [h2c] at h; exact c3 (by simpa using (List.cons.inj (List.cons.inj h).2).1))
    rw [decide_eq_true c3, cond_true]
    unfold cadastreref19_Tokens_j10
    have hrem : ((by' s).drop i).take 2 = [45, 45] := by rw [h2c, c1, c3]
    have hlt3 := remark_lt hrem
    have hr := run_len line ((by' s).drop i)
    have e1 : (by' s).drop (i + (((by' s).drop i).takeWhile line).length) = ((by' s).drop i).dropWhile line := by rw [← List.drop_drop, drop_run]
    rw [rspan10 k hs _ l4 lg (s.size - i) i k (by omega) (by omega), skipL_rem hrem, ← e1]
    exact rtoks_l6 hk kret kexit d _ n l4 lg (by omega) (by omega) (by omega) (by omega)
end
theorem rtokens_eq (k : Nat) (s : ByteArray) (hk : 8194 < k) : cadastreref19_Tokens k s = some (toks (by' s)) := by
  unfold cadastreref19_Tokens toks
  rw [bigd, by_len]
  by_cases h : 8192 < s.size
  · rw [decide_eq_true (by omega), cond_true, if_pos h]
  · rw [decide_eq_false (by omega), cond_false, if_neg h]
    refine Eq.trans (rtoks_l6 k (by omega) (by omega) _ _ s.size 0 k [] false (Nat.zero_le _) (by omega) (by omega) (Nat.zero_le _)) ?_
    rw [List.drop_zero]
    have h2 := skipL_le (by' s)
    rw [by_len] at h2
    unfold scanL
    rw [scan_same ((skipL (by' s)).length + 1) (s.size + 1) (skipL (by' s)) (by omega) (by omega)]
    cases scan (s.size + 1) (skipL (by' s)) with
    | none => rfl
    | some q =>
      obtain ⟨ts, g⟩ := q
      cases g <;> rfl
end Go.Proofs.Ytekjibpkkgldgaa.X
