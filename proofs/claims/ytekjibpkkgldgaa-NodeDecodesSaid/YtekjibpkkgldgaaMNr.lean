/-
  Layer 11: the reading of a page, by the document's answer.
-/
import Derived.Test.YtekjibpkkgldgaaMNp
namespace Go.Proofs.Ytekjibpkkgldgaa.M
open Go Go.AX
theorem join8i {x c : Int} (h0 : 0 ≤ x) (h1 : x < 1099511627776) (hc : 0 ≤ c) (hc1 : c < 256) :
    IntKind.i64.wrap ((BitVec.ofInt (IntKind.i64).bits (IntKind.i64.wrap (x * 2 ^ (min (8 : Int).toNat (IntKind.i64).bits))) ||| BitVec.ofInt (IntKind.i64).bits (IntKind.i64.wrap c)).toNat : Int) = x * 256 + c := by
  rw [sh8, w64 (x := x * 256) (by omega) (by omega), w64 (x := c) (by omega) (by omega), or_i64 8 (by omega) (by omega) (by omega) (by omega) (by omega)]
theorem copy_l3 {ρ : Type} (k : Nat) (kexit : List Int → Option ρ) (l : List Int) (hl : l.length ≤ 140737488351232) : ∀ (d i n : Nat) (acc : List Int), i + d = l.length → d < n → acc.length = i → cadastreref0_CopyBytes_l3 k kexit n l acc i = kexit (acc ++ l.drop i)
  | 0, i, n + 1, acc, hi, _, _ => by
    simp only [cadastreref0_CopyBytes_l3, cadastreref0_CopyBytes_l3_b]
    rw [decide_eq_false (by omega), cond_false, List.drop_eq_nil_of_le (by omega), List.append_nil]
  | d + 1, i, n + 1, acc, hi, hn, ha => by
    simp only [cadastreref0_CopyBytes_l3, cadastreref0_CopyBytes_l3_b]
    rw [decide_eq_true (by omega), cond_true, chk_pos (by omega), Int.toNat_natCast, chk_pos (by simp only [List.length_cons, List.length_nil]; omega), w64n (by omega), copy_l3 k kexit l hl d (i + 1) n _ (by omega) (by omega) (by simp [ha]),
      List.drop_eq_getElem_cons (show i < l.length by omega), getD_get l i 0 (by omega), List.append_assoc]
    rfl
theorem copy_eq (k : Nat) (l : List Int) (hl : l.length ≤ 140737488351232) (hk : l.length < k) : cadastreref0_CopyBytes k l = some l := by
  unfold cadastreref0_CopyBytes
  exact copy_l3 k some l hl l.length 0 k [] (by omega) hk rfl
theorem next_step {ρ : Type} (k : Nat) (kexit : List Int → Int → Int → Option ρ) {p : List Int} (hp : IsB p) (h512 : p.length = 512) (nn : Int) (n i : Nat) (hi : i < 4) (x : Int) (h0 : 0 ≤ x) (h1 : x < 1099511627776) :
    cadastreref6_Cells_l6 k kexit (n + 1) p nn x i = cadastreref6_Cells_l6 k kexit n p nn (x * 256 + p.getD (3 + i) 0) ((i + 1 : Nat) : Int) := by
  have hb := byte_at hp (3 + i)
  have e1 : IntKind.i64.wrap (3 + (i : Int)) = ((3 + i : Nat) : Int) := by rw [w64 (by omega) (by omega)]; omega
  simp only [cadastreref6_Cells_l6, cadastreref6_Cells_l6_b]
  rw [decide_eq_true (by omega), cond_true, e1, chk_pos (by omega), Int.toNat_natCast, join8i h0 h1 hb.1 hb.2, w64n (by omega)]
theorem next_l6 {ρ : Type} (k : Nat) (kexit : List Int → Int → Int → Option ρ) {p : List Int} (hp : IsB p) (h512 : p.length = 512) (nn : Int) (n : Nat) : cadastreref6_Cells_l6 k kexit (n + 5) p nn 0 0 = kexit p nn (nextR p) := by
  have h3 := byte_at hp (3 + 0); have h4 := byte_at hp (3 + 1); have h5 := byte_at hp (3 + 2); have h6 := byte_at hp (3 + 3)
  refine (next_step k kexit hp h512 nn (n + 4) 0 (by omega) 0 (by omega) (by omega)).trans ?_
  refine (next_step k kexit hp h512 nn (n + 3) 1 (by omega) _ (by omega) (by omega)).trans ?_
  refine (next_step k kexit hp h512 nn (n + 2) 2 (by omega) _ (by omega) (by omega)).trans ?_
  refine (next_step k kexit hp h512 nn (n + 1) 3 (by omega) _ (by omega) (by omega)).trans ?_
  simp only [cadastreref6_Cells_l6, cadastreref6_Cells_l6_b]
  rw [decide_eq_false (by omega), cond_false]
  unfold nextR
  congr 1
  show (((0 * 256 + p.getD 3 0) * 256 + p.getD 4 0) * 256 + p.getD 5 0) * 256 + p.getD 6 0 = _
  rw [Int.zero_mul, Int.zero_add]
theorem head_l13 {ρ : Type} (k : Nat) (kexit : List Int → Int → Int → List Bool → Option ρ) (p : List Int) (nn : Nat) (hn : 7 + 2 * nn ≤ 512) (next : Int) : ∀ (d i n : Nat) (t : List Bool), i + d = 7 + 2 * nn → d < n → t.length = 512 → cadastreref6_Cells_l13 k kexit n p nn next t i = kexit p nn next (setR t i d)
  | 0, i, n + 1, t, hi, _, _ => by
    have e1 : IntKind.i64.wrap (7 + IntKind.i64.wrap (2 * (nn : Int))) = ((7 + 2 * nn : Nat) : Int) := by rw [w64 (x := 2 * (nn : Int)) (by omega) (by omega), w64 (by omega) (by omega)]; omega
    simp only [cadastreref6_Cells_l13, cadastreref6_Cells_l13_b]
    rw [e1, decide_eq_false (by omega), cond_false]; rfl
  | d + 1, i, n + 1, t, hi, hn', ht => by
    have e1 : IntKind.i64.wrap (7 + IntKind.i64.wrap (2 * (nn : Int))) = ((7 + 2 * nn : Nat) : Int) := by rw [w64 (x := 2 * (nn : Int)) (by omega) (by omega), w64 (by omega) (by omega)]; omega
    simp only [cadastreref6_Cells_l13, cadastreref6_Cells_l13_b]
    rw [e1, decide_eq_true (by omega), cond_true, chk_pos (by omega), chk_pos (by omega), Int.toNat_natCast, w64n (by omega), head_l13 k kexit p nn hn next d (i + 1) n _ (by omega) (by omega) (by simpa using ht)]
    rfl
/-- The head's places are taken too. -/
def withHead (places : Nat) (U : Nat → Bool) : Nat → Bool := fun q => decide (q < places) || U q
theorem anyU_succ {U : Nat → Bool} {a e : Nat} (h : a < e) : anyU U a e = (U a || anyU U (a + 1) e) := by
  unfold anyU
  obtain ⟨d, rfl⟩ : ∃ d, e = a + d + 1 := ⟨e - a - 1, by omega⟩
  rw [show a + d + 1 - a = d + 1 by omega, show a + d + 1 - (a + 1) = d by omega, List.range'_succ, List.any_cons]
theorem anyU_nil {U : Nat → Bool} {a : Nat} : anyU U a a = false := by unfold anyU; rw [Nat.sub_self]; rfl
theorem anyU_congr {U U' : Nat → Bool} {a e : Nat} (h : ∀ q, a ≤ q → U q = U' q) : anyU U a e = anyU U' a e := by
  rw [Bool.eq_iff_iff, anyU_iff, anyU_iff]
  exact ⟨fun ⟨q, h1, h2, h3⟩ => ⟨q, h1, h2, by rw [← h q h1]; exact h3⟩, fun ⟨q, h1, h2, h3⟩ => ⟨q, h1, h2, by rw [h q h1]; exact h3⟩⟩
theorem take_l28 {ρ : Type} (k : Nat) (kret : Int → Int → List (List Int) → Bool → Option ρ) (kexit : List Int → Int → Int → List Bool → List (List Int) → Int → Int → Int → Int → Option ρ) (p : List Int) (nn next : Int) (cells : List (List Int)) (i a kk : Int) (e : Nat) (he : e ≤ 512) :
    ∀ (d j n : Nat) (t : List Bool) (T : Nat → Bool), j + d = e → d < n → RelU t T →
    cadastreref6_Cells_l28 k kret kexit n p nn next t cells i a kk e j = if anyU T j e = true then kret 0 0 [] false else kexit p nn next (setR t j d) cells i a kk e
  | 0, j, n + 1, t, T, hj, _, hT => by
    obtain rfl : j = e := by omega
    simp only [cadastreref6_Cells_l28, cadastreref6_Cells_l28_b]
    rw [decide_eq_false (by omega), cond_false, anyU_nil]; rfl
  | d + 1, j, n + 1, t, T, hj, hn, hT => by
    simp only [cadastreref6_Cells_l28, cadastreref6_Cells_l28_b]
    have hl := hT.1
    rw [decide_eq_true (by omega), cond_true, chk_pos (by omega), Int.toNat_natCast, hT.2 j (by omega), anyU_succ (show j < e by omega)]
    cases hb : T j with
    | true => rfl
    | false =>
      have h1 : RelU (t.set j true) (addU T j (j + 1)) := by
        have := hT.set (a := j) (e := j + 1) (by omega)
        rw [show j + 1 - j = 1 by omega] at this
        exact this
      rw [cond_false, chk_pos (by omega), chk_pos (by omega), w64n (by omega), take_l28 k kret kexit p nn next cells i a kk e he d (j + 1) n _ _ (by omega) (by omega) h1, Bool.false_or,
        anyU_congr (U := addU T j (j + 1)) (U' := T) fun q hq => by simp [addU]; omega]
      rfl
section
variable {ρ : Type} (k : Nat) (hk : 1000 ≤ k) {p : List Int} (hp : IsB p) (h512 : p.length = 512) (nn : Nat) (hn : 7 + 2 * nn ≤ 512)
include hk hp h512 hn
theorem cells_step (kret : Int → Int → List (List Int) → Bool → Option ρ) (kexit : List Int → Int → List (List Int) → Option ρ) (rec : List Int → Int → Int → List Bool → List (List Int) → Int → Option ρ) (next : Int) (i : Nat) (hi : i < nn) (acc : List (List Int)) (hacc : acc.length ≤ i) {t : List Bool} {U : Nat → Bool} (hU : RelU t (withHead (7 + 2 * nn) U)) :
    (stepR p (7 + 2 * nn) i U = none ∧ cadastreref6_Cells_l18_b k kret kexit rec p nn next t acc i = kret 0 0 [] false) ∨
    ∃ U' c t', stepR p (7 + 2 * nn) i U = some (U', c) ∧ RelU t' (withHead (7 + 2 * nn) U') ∧ cadastreref6_Cells_l18_b k kret kexit rec p nn next t acc i = rec p nn next t' (acc ++ [c]) ((i + 1 : Nat) : Int) := by
  unfold cadastreref6_Cells_l18_b
  have e1 : IntKind.i64.wrap (7 + IntKind.i64.wrap (2 * (i : Int))) = ((7 + 2 * i : Nat) : Int) := by rw [w64 (x := 2 * (i : Int)) (by omega) (by omega), w64 (by omega) (by omega)]; omega
  have e2 : IntKind.i64.wrap (8 + IntKind.i64.wrap (2 * (i : Int))) = ((7 + 2 * i + 1 : Nat) : Int) := by rw [w64 (x := 2 * (i : Int)) (by omega) (by omega), w64 (by omega) (by omega)]; omega
  dsimp only
  rw [decide_eq_true (by omega), cond_true, e1, chk_pos (by omega), e2, chk_pos (by omega), Int.toNat_natCast, Int.toNat_natCast, word_eq hp (7 + 2 * i), big_eq]
  have hw := word_lt hp (7 + 2 * i)
  unfold stepR
  generalize word p (7 + 2 * i) = a at hw ⊢
  by_cases h2 : 512 ≤ a
  · rw [decide_eq_true (by omega), cond_true, if_pos (.inr h2)]; exact .inl ⟨rfl, rfl⟩
  have hl : ((p.drop (a : Int).toNat).take ((p.length : Int).toNat - (a : Int).toNat)) = p.drop a := by rw [Int.toNat_natCast, Int.toNat_natCast]; exact List.take_of_length_le (by rw [List.length_drop]; omega)
  rw [decide_eq_false (by omega), cond_false, chk_pos (by omega), hl, rget_eq k (by omega) (hp.drop a) (by rw [List.length_drop]; omega), some_bind]
  rcases gs_says (hp.drop a) 9 0 (by omega) (fun j hj => by omega) (by omega) (by omega) with g | ⟨n, m, g, g1, g2, g3, _, g4, g5⟩
  · rw [g, cellAt_none g]
    refine .inl ⟨?_, rfl⟩
    split <;> rfl
  rw [List.length_drop] at g2
  rw [g, cellAt_some g]
  unfold two
  dsimp only
  rw [show ((m : Int) == 0) = false from beq_eq_false_iff_ne.2 (by omega), cond_false, big_eq, big_eq]
  by_cases h3 : n > 512
  · rw [decide_eq_true h3, cond_true, if_neg (c := (a : Int) + m + n ≤ 512) (by omega)]
    refine .inl ⟨?_, rfl⟩
    split <;> rfl
  rw [decide_eq_false h3, cond_false, w64 (x := (a : Int) + m) (by omega) (by omega), w64 (x := n) (by omega) (by omega), w64 (x := (a : Int) + m + n) (by omega) (by omega)]
  by_cases h4 : (a : Int) + m + n ≤ 512
  case neg =>
    rw [decide_eq_true (by omega), cond_true, if_neg h4]
    refine .inl ⟨?_, rfl⟩
    split <;> rfl
  rw [decide_eq_false (by omega), cond_false, if_pos h4]
  unfold cadastreref6_Cells_j26
  have e3 : ((a : Int) + m + n) = ((a + m + n.toNat : Nat) : Int) := by omega
  dsimp only
  rw [w64 (x := (a : Int) + m) (by omega) (by omega), w64 (x := n) (by omega) (by omega), w64 (x := (a : Int) + m + n) (by omega) (by omega), e3,
    take_l28 k _ _ p nn next acc i a m (a + m + n.toNat) (by omega) (m + n.toNat) a k t _ (by omega) (by omega) hU]
  by_cases h1 : a < 7 + 2 * nn
  · rw [if_pos (.inl h1), anyU_succ (by omega)]
    have : withHead (7 + 2 * nn) U a = true := by simp [withHead, h1]
    rw [this, Bool.true_or, if_pos rfl]
    exact .inl ⟨rfl, rfl⟩
  rw [if_neg (c := a < 7 + 2 * nn ∨ 512 ≤ a) (by omega), anyU_congr (U := withHead (7 + 2 * nn) U) (U' := U) fun q hq => by simp [withHead]; omega]
  cases ha : anyU U a (a + m + n.toNat) with
  | true => exact .inl ⟨rfl, rfl⟩
  | false =>
    refine .inr ⟨_, _, setR t a (m + n.toNat), rfl, ?_, ?_⟩
    · have := hU.set (a := a) (e := a + m + n.toNat) (by omega)
      rw [show a + m + n.toNat - a = m + n.toNat by omega] at this
      refine ⟨this.1, fun q hq => ?_⟩
      rw [this.2 q hq]
      simp only [addU, withHead, Bool.or_assoc]
    · rw [if_neg (by decide), w64 (x := (a : Int) + m) (by omega) (by omega), chk_pos (by omega)]
      have e4 : ((a : Int) + m).toNat = a + m := by omega
      rw [e4, Int.toNat_natCast, copy_eq k _ (by rw [List.length_take, List.length_drop]; omega) (by rw [List.length_take, List.length_drop]; omega), some_bind, chk_pos (by simp only [List.length_cons, List.length_nil]; omega), w64n (by omega)]
theorem cells_l18 (kexit : List Int → Int → List (List Int) → Option (Int × Int × List (List Int) × Bool)) (next : Int) : ∀ (d i n : Nat) (acc : List (List Int)) (t : List Bool) (U : Nat → Bool), i + d = nn → d < n → acc.length ≤ i → RelU t (withHead (7 + 2 * nn) U) →
    cadastreref6_Cells_l18 k (fun a b c e => some (a, b, c, e)) kexit n p nn next t acc i = match cellsR p (7 + 2 * nn) d i U acc with | some l => kexit p next l | none => some (0, 0, [], false)
  | 0, i, n + 1, acc, t, U, hi, _, ha, hU => by
    obtain rfl : i = nn := by omega
    simp only [cadastreref6_Cells_l18, cadastreref6_Cells_l18_b]
    rw [decide_eq_false (by omega), cond_false]; rfl
  | d + 1, i, n + 1, acc, t, U, hi, hn', ha, hU => by
    simp only [cadastreref6_Cells_l18]
    rcases cells_step k hk hp h512 nn hn (fun a b c e => some (a, b, c, e)) kexit (cadastreref6_Cells_l18 k (fun a b c e => some (a, b, c, e)) kexit n) next i (by omega) acc ha hU with ⟨e1, e2⟩ | ⟨U', c, t', e1, e2, e3⟩
    · rw [e2]; simp only [cellsR, e1]
    · rw [e3, cells_l18 kexit next d (i + 1) n _ t' U' (by omega) (by omega) (by simp; omega) e2]
      simp only [cellsR, e1]
end
theorem rcells_eq (k : Nat) (hk : 1000 ≤ k) {p : List Int} (hp : IsB p) : cadastreref6_Cells k p = some (match pageR p with | some (a, b, c) => (a, b, c, true) | none => (0, 0, [], false)) := by
  unfold cadastreref6_Cells pageR
  rw [big_eq]
  by_cases h512 : p.length = 512
  case neg => rw [show ((p.length : Int) != 512) = true from bne_iff_ne.2 (by omega), cond_true, if_neg (fun q => h512 q.1)]
  have hw := word_lt hp 1
  have e1 : IntKind.i64.wrap (7 + IntKind.i64.wrap (2 * (word p 1 : Int))) = ((7 + 2 * word p 1 : Nat) : Int) := by rw [w64 (x := 2 * (word p 1 : Int)) (by omega) (by omega), w64 (by omega) (by omega)]; omega
  obtain ⟨m, hm⟩ : ∃ m, k = m + 5 := ⟨k - 5, by omega⟩
  dsimp only
  rw [show ((p.length : Int) != 512) = false from by rw [h512]; rfl, cond_false, chk_pos (by omega), chk_pos (by omega), word_eq hp 1]
  have hl6 := fun (K : List Int → Int → Int → Option (Int × Int × List (List Int) × Bool)) => next_l6 k K hp h512 (word p 1 : Int) m
  rw [← hm] at hl6
  rw [hl6]
  rw [e1, big_eq]
  by_cases hn : 7 + 2 * word p 1 ≤ 512
  case neg => rw [decide_eq_true (by omega), cond_true, if_neg (fun q => hn q.2)]
  rw [decide_eq_false (by omega), cond_false, chk_pos (by decide), if_pos ⟨h512, hn⟩, show (512 : Int).toNat = 512 from rfl]
  generalize word p 1 = nn at hn
  refine (head_l13 k _ p nn hn (nextR p) (7 + 2 * nn) 0 k _ (by omega) (by omega) List.length_replicate).trans ?_
  have hU : RelU (setR (List.replicate 512 false) 0 (7 + 2 * nn)) (withHead (7 + 2 * nn) fun _ => false) := by
    have := rel_zero.set (a := 0) (e := 7 + 2 * nn) (by omega)
    refine ⟨this.1, fun q hq => ?_⟩
    rw [show 7 + 2 * nn - 0 = 7 + 2 * nn by omega] at this
    rw [this.2 q hq]
    simp [addU, withHead]
  refine (cells_l18 k hk hp h512 nn hn _ (nextR p) nn 0 k [] _ _ (by omega) (by omega) (by simp) hU).trans ?_
  cases cellsR p (7 + 2 * nn) nn 0 (fun _ => false) [] with
  | none => rfl
  | some l =>
    dsimp only [Option.map_some]
    rw [chk_pos (by omega), wb hp]
end Go.Proofs.Ytekjibpkkgldgaa.M
