/-
  Layer 11: the reading of a page, by the program.
-/
import Derived.Test.YtekjibpkkgldgaaBNd
namespace Go.Proofs.Ytekjibpkkgldgaa.B
open Go Go.AX
theorem next_eq {p : List Int} (hp : IsB p) :
    IntKind.i64.wrap ((BitVec.ofInt (IntKind.i64).bits (IntKind.i64.wrap ((BitVec.ofInt (IntKind.i64).bits (IntKind.i64.wrap ((BitVec.ofInt (IntKind.i64).bits (IntKind.i64.wrap ((IntKind.i64.wrap (p.getD 3 0)) * 2 ^ (min (24 : Int).toNat (IntKind.i64).bits))) |||
      BitVec.ofInt (IntKind.i64).bits (IntKind.i64.wrap ((IntKind.i64.wrap (p.getD 4 0)) * 2 ^ (min (16 : Int).toNat (IntKind.i64).bits)))).toNat : Int)) |||
      BitVec.ofInt (IntKind.i64).bits (IntKind.i64.wrap ((IntKind.i64.wrap (p.getD 5 0)) * 2 ^ (min (8 : Int).toNat (IntKind.i64).bits)))).toNat : Int)) |||
      BitVec.ofInt (IntKind.i64).bits (IntKind.i64.wrap (p.getD 6 0))).toNat : Int) = nextR p := by
  have h3 := byte_at hp 3; have h4 := byte_at hp 4; have h5 := byte_at hp 5; have h6 := byte_at hp 6
  have e24 : (2 : Int) ^ (min (24 : Int).toNat (IntKind.i64).bits) = 16777216 := by decide
  have e16 : (2 : Int) ^ (min (16 : Int).toNat (IntKind.i64).bits) = 65536 := by decide
  rw [wb hp, wb hp, wb hp, wb hp, sh8, e24, e16, w64 (x := p.getD 3 0 * 16777216) (by omega) (by omega), w64 (x := p.getD 4 0 * 65536) (by omega) (by omega), w64 (x := p.getD 5 0 * 256) (by omega) (by omega)]
  rw [or_i64 (x := p.getD 3 0 * 16777216) (y := p.getD 4 0 * 65536) 24 (by omega) (by omega) (by omega) (by omega) (by omega),
    or_i64 (x := p.getD 3 0 * 16777216 + p.getD 4 0 * 65536) (y := p.getD 5 0 * 256) 16 (by omega) (by omega) (by omega) (by omega) (by omega),
    or_i64 (x := p.getD 3 0 * 16777216 + p.getD 4 0 * 65536 + p.getD 5 0 * 256) (y := p.getD 6 0) 8 (by omega) (by omega) (by omega) (by omega) (by omega)]
  unfold nextR; omega
section
variable {ρ : Type} (k : Nat)
theorem set_l14 (kexit : List Int → List (List Int) → Int → Int → Int → List Bool → List Int → Option ρ) (p : List Int) (cells : List (List Int)) (nn i places : Int) (c : List Int) (e : Nat) (he : e ≤ 512) : ∀ (d j m : Nat) (used : List Bool), e = j + d → used.length = 512 → d < m →
    node_Decode_l14 k kexit m p cells nn i places used c e j = kexit p cells nn i places (setR used j d) c
  | 0, j, m + 1, used, h, _, _ => by
    simp only [node_Decode_l14, node_Decode_l14_b]
    rw [decide_eq_false (by omega), cond_false]; rfl
  | d + 1, j, m + 1, used, h, hu, hm => by
    simp only [node_Decode_l14, node_Decode_l14_b]
    rw [decide_eq_true (by omega), cond_true, chk_pos (by omega), chk_pos (by omega), Int.toNat_natCast, w64n (by omega), set_l14 kexit p cells nn i places c e he d (j + 1) m _ (by omega) (by simpa using hu) (by omega)]
    rfl
theorem dec_j8_end {p : List Int} (hp : IsB p) (h512 : p.length = 512) (nn : Nat) (kg0 : Option ρ) (kg1 : List Int → List (List Int) → Int → Int → Int → List Bool → Option ρ) (kret : Int → Int → List (List Int) → Int → Option ρ) (acc : List (List Int)) (places : Int) (used : List Bool) :
    node_Decode_j8 k kg0 kg1 kret p acc nn nn places used = kret (p.getD 0 0) (nextR p) acc 0 := by
  unfold node_Decode_j8
  dsimp only
  rw [decide_eq_false (by omega), cond_false, chk_pos (by omega), chk_pos (by omega), chk_pos (by omega), chk_pos (by omega), chk_pos (by omega), next_eq hp, wb hp]
variable (hk : 1000 ≤ k) {p : List Int} (hp : IsB p) (h512 : p.length = 512) (nn : Nat) (hn : 7 + 2 * nn ≤ 512)
include hk hp h512 hn
theorem dec_j8 (kg0 : Option ρ) (kg1 : List Int → List (List Int) → Int → Int → Int → List Bool → Option ρ) (kret : Int → Int → List (List Int) → Int → Option ρ) (acc : List (List Int)) (i : Nat) (hi : i < nn) (hacc : acc.length ≤ i) {used : List Bool} {U : Nat → Bool} (hU : RelU used U) :
    (stepR p (7 + 2 * nn) i U = none ∧ node_Decode_j8 k kg0 kg1 kret p acc nn i ((7 + 2 * nn : Nat) : Int) used = kg0) ∨
    ∃ U' c used', stepR p (7 + 2 * nn) i U = some (U', c) ∧ RelU used' U' ∧ node_Decode_j8 k kg0 kg1 kret p acc nn i ((7 + 2 * nn : Nat) : Int) used = kg1 p (acc ++ [c]) nn ((i + 1 : Nat) : Int) ((7 + 2 * nn : Nat) : Int) used' := by
  unfold node_Decode_j8
  have e1 : IntKind.i64.wrap (7 + IntKind.i64.wrap (2 * (i : Int))) = ((7 + 2 * i : Nat) : Int) := by rw [w64 (x := 2 * (i : Int)) (by omega) (by omega), w64 (by omega) (by omega)]; omega
  have e2 : IntKind.i64.wrap (((7 + 2 * i : Nat) : Int) + 1) = ((7 + 2 * i + 1 : Nat) : Int) := by rw [w64 (by omega) (by omega)]; omega
  dsimp only
  rw [decide_eq_true (by omega), cond_true, e1, chk_pos (by omega), e2, chk_pos (by omega), Int.toNat_natCast, Int.toNat_natCast, word_eq hp (7 + 2 * i), big_eq]
  have hw := word_lt hp (7 + 2 * i)
  unfold stepR
  generalize word p (7 + 2 * i) = a at hw ⊢
  by_cases h1 : a < 7 + 2 * nn
  · rw [decide_eq_true (by omega), cond_true, if_pos (.inl h1)]; exact .inl ⟨rfl, rfl⟩
  rw [decide_eq_false (by omega), cond_false]
  by_cases h2 : 512 ≤ a
  · rw [decide_eq_true (by omega), cond_true, if_pos (.inr h2)]; exact .inl ⟨rfl, rfl⟩
  rw [decide_eq_false (by omega), cond_false, if_neg (by omega)]
  unfold node_Decode_j11
  rw [cell_eq k (by omega) hp h512 a (by omega), some_bind]
  cases hc : cellAt p a with
  | none => exact .inl ⟨rfl, rfl⟩
  | some q =>
    obtain ⟨s, e⟩ := q
    have hle := cellAt_le hp hc
    dsimp only
    rw [show ((e : Int) == 0) = false from beq_eq_false_iff_ne.2 (by omega), cond_false, chk_pos (by rw [hU.1]; omega), Int.toNat_natCast, Int.toNat_natCast,
      contains_eq k _ (by rw [List.length_take, List.length_drop, hU.1]; omega) (by rw [List.length_take, List.length_drop, hU.1]; omega), some_bind, hU.any hle.2.2]
    cases ha : anyU U a e with
    | true => exact .inl ⟨rfl, rfl⟩
    | false =>
      rw [cond_false]
      refine .inr ⟨_, _, setR used a (e - a), rfl, hU.set (by omega), ?_⟩
      unfold node_Decode_j13
      rw [set_l14 k _ p acc nn i _ _ e hle.2.2 (e - a) a k used (by omega) hU.1 (by omega)]
      rw [chk_pos (by simp only [List.length_cons, List.length_nil]; omega), w64n (by omega)]
theorem dec_g1 : ∀ (d i n : Nat) (acc : List (List Int)) (used : List Bool) (U : Nat → Bool), i + d = nn → d < n → acc.length ≤ i → RelU used U →
    node_Decode_g1 k (fun a b c e => some (a, b, c, e)) (fun a b c e => some (a, b, c, e)) n p acc nn i ((7 + 2 * nn : Nat) : Int) used = some (match cellsR p (7 + 2 * nn) d i U acc with | some l => (p.getD 0 0, nextR p, l, 0) | none => (0, 0, [], 1))
  | 0, i, n + 1, acc, used, U, hi, _, ha, hU => by
    obtain rfl : i = nn := by omega
    simp only [node_Decode_g1, node_Decode_g1_b]
    rw [dec_j8_end k hp h512 i]; rfl
  | d + 1, i, n + 1, acc, used, U, hi, hn', ha, hU => by
    simp only [node_Decode_g1, node_Decode_g1_b]
    rcases dec_j8 k hk hp h512 nn hn _ _ _ acc i (by omega) ha hU with ⟨e1, e2⟩ | ⟨U', c, used', e1, e2, e3⟩
    · rw [e2]; simp only [cellsR, e1]
    · rw [e3, dec_g1 d (i + 1) n _ used' U' (by omega) (by omega) (by simp; omega) e2]
      simp only [cellsR, e1]
end
theorem rel_zero : RelU (List.replicate 512 false) (fun _ => false) := ⟨List.length_replicate, fun q hq => by unfold List.getD; rw [List.getElem?_replicate, if_pos hq]; rfl⟩
theorem dec_eq (k : Nat) (hk : 1000 ≤ k) {p : List Int} (hp : IsB p) : node_Decode k p = some (match pageR p with | some (a, b, c) => (a, b, c, 0) | none => (0, 0, [], 1)) := by
  unfold node_Decode pageR
  rw [big_eq]
  by_cases h512 : p.length = 512
  case neg => rw [show ((p.length : Int) != 512) = true from bne_iff_ne.2 (by omega), cond_true, if_neg (fun q => h512 q.1)]
  have hw := word_lt hp 1
  have e1 : IntKind.i64.wrap (7 + IntKind.i64.wrap (2 * (word p 1 : Int))) = ((7 + 2 * word p 1 : Nat) : Int) := by rw [w64 (x := 2 * (word p 1 : Int)) (by omega) (by omega), w64 (by omega) (by omega)]; omega
  dsimp only
  rw [show ((p.length : Int) != 512) = false from by rw [h512]; rfl, cond_false, chk_pos (by omega), chk_pos (by omega), word_eq hp 1, e1, big_eq]
  by_cases hn : 7 + 2 * word p 1 ≤ 512
  case neg => rw [decide_eq_true (by omega), cond_true, if_neg (fun q => hn q.2)]
  rw [decide_eq_false (by omega), cond_false, chk_pos (by decide), if_pos ⟨h512, hn⟩, show (512 : Int).toNat = 512 from rfl]
  generalize word p 1 = nn at hn
  by_cases h0 : nn = 0
  · subst h0
    exact dec_j8_end k hp h512 0 _ _ _ [] _ _
  · obtain ⟨d, rfl⟩ : ∃ d, nn = d + 1 := ⟨nn - 1, by omega⟩
    rcases dec_j8 k hk hp h512 (d + 1) hn (some (0, 0, [], 1)) (fun p0 c4 n6 i7 p8 u9 => node_Decode_g1 k (fun a b c e => some (a, b, c, e)) (fun a b c e => some (a, b, c, e)) k p0 c4 n6 i7 p8 u9) (fun a b c e => some (a, b, c, e)) [] 0 (by omega) (by simp) rel_zero with ⟨e1, e2⟩ | ⟨U', c, used', e1, e2, e3⟩
    · refine e2.trans ?_
      simp only [cellsR, e1]; rfl
    · refine e3.trans ?_
      rw [dec_g1 k hk hp h512 (d + 1) hn d 1 k _ used' U' (by omega) (by omega) (by simp) e2]
      simp only [cellsR, e1]
      cases cellsR p (7 + 2 * (d + 1)) d 1 U' ([] ++ [c]) <;> rfl
end Go.Proofs.Ytekjibpkkgldgaa.B
