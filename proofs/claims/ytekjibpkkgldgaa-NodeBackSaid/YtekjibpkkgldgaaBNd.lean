/-
  Layer 11: a page's cells: what the printed functions that read them come to.
-/
import Derived.Test.YtekjibpkkgldgaaBVg
namespace Go.Proofs.Ytekjibpkkgldgaa.B
open Go Go.AX
theorem or_i64 {x y : Int} (i : Nat) (hx : 0 ≤ x) (hm : x % 2 ^ i = 0) (hy : 0 ≤ y) (hy1 : y < 2 ^ i) (hs : x + y < 9223372036854775808) :
    IntKind.i64.wrap ((BitVec.ofInt (IntKind.i64).bits x ||| BitVec.ofInt (IntKind.i64).bits y).toNat : Int) = x + y := by
  have hj := or_u64 (x := x) (y := y) i hx (by omega) hm hy hy1 (by omega)
  have hw : bits .or .u64 x y = IntKind.u64.wrap ((BitVec.ofInt 64 x ||| BitVec.ofInt 64 y).toNat : Int) := rfl
  rw [hw, wrap_u64] at hj
  have hlt : (BitVec.ofInt 64 x ||| BitVec.ofInt 64 y).toNat < 18446744073709551616 := (BitVec.ofInt 64 x ||| BitVec.ofInt 64 y).isLt
  show IntKind.i64.wrap ((BitVec.ofInt 64 x ||| BitVec.ofInt 64 y).toNat : Int) = _
  generalize (BitVec.ofInt 64 x ||| BitVec.ofInt 64 y).toNat = q at hj hlt
  rw [IntKind.wrap_i64]
  omega
theorem byte_at {p : List Int} (hp : IsB p) (i : Nat) : 0 ≤ p.getD i 0 ∧ p.getD i 0 < 256 := rd_byte hp (i : Int)
theorem wb {p : List Int} (hp : IsB p) (i : Nat) : IntKind.i64.wrap (p.getD i 0) = p.getD i 0 := by have := byte_at hp i; exact w64 (by omega) (by omega)
theorem sh8 (x : Int) : x * 2 ^ (min (8 : Int).toNat (IntKind.i64).bits) = x * 256 := by rw [show (2 : Int) ^ (min (8 : Int).toNat (IntKind.i64).bits) = 256 by decide]
/-- Two bytes' number. -/
def word (p : List Int) (i : Nat) : Nat := (p.getD i 0 * 256 + p.getD (i + 1) 0).toNat
theorem word_lt {p : List Int} (hp : IsB p) (i : Nat) : word p i < 65536 := by
  have h1 := byte_at hp i; have h2 := byte_at hp (i + 1)
  unfold word; omega
theorem word_eq {p : List Int} (hp : IsB p) (i : Nat) :
    IntKind.i64.wrap ((BitVec.ofInt (IntKind.i64).bits (IntKind.i64.wrap ((IntKind.i64.wrap (p.getD i 0)) * 2 ^ (min (8 : Int).toNat (IntKind.i64).bits))) ||| BitVec.ofInt (IntKind.i64).bits (IntKind.i64.wrap (p.getD (i + 1) 0))).toNat : Int) = (word p i : Int) := by
  have h1 := byte_at hp i; have h2 := byte_at hp (i + 1)
  rw [wb hp, wb hp, sh8, w64 (x := p.getD i 0 * 256) (by omega) (by omega), or_i64 8 (by omega) (by omega) (by omega) (by omega) (by omega)]
  unfold word; omega
theorem IsB.drop {p : List Int} (hp : IsB p) (a : Nat) : IsB (p.drop a) := fun y hy => hp y (List.mem_of_mem_drop hy)
/-- The cell at a place: where its bytes begin, where they end. -/
def cellAt (p : List Int) (a : Nat) : Option (Nat × Nat) :=
  if (gs (p.drop a) 9 0).2.2 = 0 ∧ (a : Int) + (gs (p.drop a) 9 0).2.1 + (gs (p.drop a) 9 0).1 ≤ 512 then some (a + (gs (p.drop a) 9 0).2.1.toNat, a + (gs (p.drop a) 9 0).2.1.toNat + (gs (p.drop a) 9 0).1.toNat) else none
theorem cellAt_none {p : List Int} {a : Nat} (h : gs (p.drop a) 9 0 = (0, 0, 1)) : cellAt p a = none := by unfold cellAt; rw [h]; exact if_neg (fun q => absurd q.1 (by decide))
theorem cellAt_some {p : List Int} {a m : Nat} {n : Int} (h : gs (p.drop a) 9 0 = (n, (m : Int), 0)) : cellAt p a = if (a : Int) + m + n ≤ 512 then some (a + m, a + m + n.toNat) else none := by
  unfold cellAt; rw [h]
  by_cases hn : (a : Int) + m + n ≤ 512
  · rw [if_pos hn]; exact if_pos ⟨rfl, hn⟩
  · rw [if_neg hn]; exact if_neg (fun q => hn q.2)
theorem cellAt_le {p : List Int} (hp : IsB p) {a s e : Nat} (h : cellAt p a = some (s, e)) : a < s ∧ s ≤ e ∧ e ≤ 512 := by
  rcases gs_says (hp.drop a) 9 0 (by omega) (fun j hj => by omega) (by omega) (by omega) with g | ⟨n, m, g, h1, h2, h3, _, h4, h5⟩
  · rw [cellAt_none g] at h; cases h
  · rw [cellAt_some g] at h
    split at h
    · cases h; omega
    · cases h
theorem clone_eq (k : Nat) (l : List Int) (h : l.length ≤ 140737488355328) : slices_Clone_byte_byte_ k l = some l := by
  unfold slices_Clone_byte_byte_ nilT
  dsimp only
  rw [cond_true, cond_false, chk_pos (by omega), List.nil_append]
  by_cases h0 : l.length = 0
  · rw [if_pos h0, List.length_eq_zero_iff.1 h0]; unfold both; exact if_pos rfl
  · rw [if_neg h0]
theorem cell_eq (k : Nat) (hk : 9 ≤ k) {p : List Int} (hp : IsB p) (h512 : p.length = 512) (a : Nat) (ha : a < 512) :
    node_cell k p a = some (match cellAt p a with | none => ([], 0) | some (s, e) => ((p.drop s).take (e - s), (e : Int))) := by
  unfold node_cell
  have hl : ((p.drop (a : Int).toNat).take ((p.length : Int).toNat - (a : Int).toNat)) = p.drop a := by rw [Int.toNat_natCast, Int.toNat_natCast]; exact List.take_of_length_le (by rw [List.length_drop]; omega)
  rw [chk_pos (by omega), hl, get_eq k hk (hp.drop a) (by rw [List.length_drop]; omega), some_bind]
  rcases gs_says (hp.drop a) 9 0 (by omega) (fun j hj => by omega) (by omega) (by omega) with g | ⟨n, m, g, h1, h2, h3, _, h4, h5⟩
  · rw [g, cellAt_none g]; rfl
  · rw [List.length_drop] at h2
    rw [g, cellAt_some g]
    dsimp only
    rw [show ((0 : Int) != 0) = false from rfl, cond_false, w64 (x := (p.length : Int) - a) (by omega) (by omega), w64 (x := (p.length : Int) - a - m) (by omega) (by omega), wrap_u64]
    by_cases hn : (a : Int) + m + n ≤ 512
    · rw [decide_eq_false (by omega), cond_false, if_pos hn]
      unfold node_cell_j4
      dsimp only
      rw [w64 (x := (a : Int) + m) (by omega) (by omega), w64 (x := n) (by omega) (by omega), w64 (x := (a : Int) + m + n) (by omega) (by omega), chk_pos (by omega)]
      have e1 : ((a : Int) + m).toNat = a + m := by omega
      have e2 : ((a : Int) + m + n).toNat = a + m + n.toNat := by omega
      rw [e1, e2, clone_eq k _ (by rw [List.length_take, List.length_drop]; omega), some_bind]
      have e3 : ((a : Int) + m + n) = ((a + m + n.toNat : Nat) : Int) := by omega
      rw [e3]
    · rw [decide_eq_true (by omega), cond_true, if_neg hn]
theorem index_l2 (k : Nat) (s : List Bool) (hs : s.length ≤ 9000000000000) : ∀ (d i n : Nat), i + d = s.length → d < n → ∃ r : Int, slices_Index_bool_bool__l2 k (fun t => some t) (some (-1)) n s true (s.length : Int) i = some r ∧ decide (r ≥ 0) = (s.drop i).any id
  | 0, i, n + 1, hi, _ => by
    simp only [slices_Index_bool_bool__l2, slices_Index_bool_bool__l2_b]
    rw [decide_eq_false (by omega), cond_false, List.drop_eq_nil_of_le (by omega)]
    exact ⟨-1, rfl, rfl⟩
  | d + 1, i, n + 1, hi, hn => by
    have h1 : i < s.length := by omega
    simp only [slices_Index_bool_bool__l2, slices_Index_bool_bool__l2_b]
    rw [decide_eq_true (by omega), cond_true, chk_pos (by omega), Int.toNat_natCast, getD_get s i false h1, w64n (by omega), List.drop_eq_getElem_cons h1, List.any_cons]
    obtain ⟨r, hr1, hr2⟩ := index_l2 k s hs d (i + 1) n (by omega) (by omega)
    cases hb : s[i] with
    | true => exact ⟨i, rfl, by simp⟩
    | false => exact ⟨r, hr1, by rw [hr2]; simp⟩
theorem contains_eq (k : Nat) (s : List Bool) (hs : s.length ≤ 9000000000000) (hk : s.length < k) : slices_Contains_bool_bool_ k s true = some (s.any id) := by
  unfold slices_Contains_bool_bool_ slices_Index_bool_bool_
  obtain ⟨r, hr1, hr2⟩ := index_l2 k s hs s.length 0 k (by omega) hk
  rw [show ((0 : Nat) : Int) = 0 from rfl] at hr1
  rw [hr1, some_bind, hr2]; rfl
/-- Places from a on are taken. -/
def setR : List Bool → Nat → Nat → List Bool
  | l, _, 0 => l
  | l, a, d + 1 => setR (l.set a true) (a + 1) d
theorem setR_len : ∀ (d a : Nat) (l : List Bool), (setR l a d).length = l.length
  | 0, _, _ => rfl
  | d + 1, a, l => by rw [setR, setR_len d]; simp
theorem setR_get : ∀ (d a : Nat) (l : List Bool) (q : Nat), q < l.length → (setR l a d).getD q false = (l.getD q false || (decide (a ≤ q) && decide (q < a + d)))
  | 0, a, l, q, h => by
    rw [setR]
    have : (decide (a ≤ q) && decide (q < a + 0)) = false := by
      by_cases h1 : a ≤ q <;> simp [h1]
    rw [this, Bool.or_false]
  | d + 1, a, l, q, h => by
    rw [setR, setR_get d (a + 1) (l.set a true) q (by simpa using h)]
    by_cases e : a = q
    · subst e
      rw [getD_get _ _ _ (by simpa using h)]
      simp
    · have : (l.set a true).getD q false = l.getD q false := by simp [List.getD, List.getElem?_set_ne e]
      rw [this]
      by_cases h1 : a ≤ q <;> by_cases h2 : q < a + (d + 1) <;> simp [h1, h2] <;> omega
def anyU (U : Nat → Bool) (a e : Nat) : Bool := (List.range' a (e - a)).any U
theorem anyU_iff {U : Nat → Bool} {a e : Nat} : anyU U a e = true ↔ ∃ q, a ≤ q ∧ q < e ∧ U q = true := by
  unfold anyU
  rw [List.any_eq_true]
  constructor
  · rintro ⟨q, h1, h2⟩
    rw [List.mem_range'_1] at h1
    exact ⟨q, h1.1, by omega, h2⟩
  · rintro ⟨q, h1, h2, h3⟩
    exact ⟨q, List.mem_range'_1.2 ⟨h1, by omega⟩, h3⟩
def RelU (used : List Bool) (U : Nat → Bool) : Prop := used.length = 512 ∧ ∀ q, q < 512 → used.getD q false = U q
def addU (U : Nat → Bool) (a e : Nat) : Nat → Bool := fun q => U q || (decide (a ≤ q) && decide (q < e))
theorem RelU.set {used : List Bool} {U : Nat → Bool} (h : RelU used U) {a e : Nat} (hae : a ≤ e) : RelU (setR used a (e - a)) (addU U a e) := by
  refine ⟨by rw [setR_len]; exact h.1, fun q hq => ?_⟩
  rw [setR_get _ _ _ _ (by rw [h.1]; exact hq), h.2 q hq, addU, show a + (e - a) = e by omega]
theorem RelU.any {used : List Bool} {U : Nat → Bool} (h : RelU used U) {a e : Nat} (he : e ≤ 512) : ((used.drop a).take (e - a)).any id = anyU U a e := by
  rw [Bool.eq_iff_iff, anyU_iff, List.any_eq_true]
  constructor
  · rintro ⟨x, h1, h2⟩
    obtain ⟨i, hi, rfl⟩ := List.getElem_of_mem h1
    simp only [List.length_take, List.length_drop, h.1] at hi
    refine ⟨a + i, by omega, by omega, ?_⟩
    rw [← h.2 (a + i) (by omega), getD_get _ _ _ (by rw [h.1]; omega)]
    simpa using h2
  · rintro ⟨q, h1, h2, h3⟩
    rw [← h.2 q (by omega), getD_get _ _ _ (by rw [h.1]; omega)] at h3
    refine ⟨_, List.getElem_mem (n := q - a) (by simp only [List.length_take, List.length_drop, h.1]; omega), ?_⟩
    simp only [List.getElem_take, List.getElem_drop, id]
    have : a + (q - a) = q := by omega
    simp only [this]; exact h3
/-- One cell: the next one's places, its bytes. -/
def stepR (p : List Int) (places i : Nat) (U : Nat → Bool) : Option ((Nat → Bool) × List Int) :=
  if word p (7 + 2 * i) < places ∨ 512 ≤ word p (7 + 2 * i) then none else
  match cellAt p (word p (7 + 2 * i)) with
  | none => none
  | some (s, e) => if anyU U (word p (7 + 2 * i)) e = true then none else some (addU U (word p (7 + 2 * i)) e, (p.drop s).take (e - s))
def cellsR (p : List Int) (places : Nat) : Nat → Nat → (Nat → Bool) → List (List Int) → Option (List (List Int))
  | 0, _, _, acc => some acc
  | d + 1, i, U, acc => match stepR p places i U with
    | none => none
    | some (U', c) => cellsR p places d (i + 1) U' (acc ++ [c])
/-- A page's next number. -/
def nextR (p : List Int) : Int := ((p.getD 3 0 * 256 + p.getD 4 0) * 256 + p.getD 5 0) * 256 + p.getD 6 0
/-- What a page holds. -/
def pageR (p : List Int) : Option (Int × Int × List (List Int)) :=
  if p.length = 512 ∧ 7 + 2 * word p 1 ≤ 512 then (cellsR p (7 + 2 * word p 1) (word p 1) 0 (fun _ => false) []).map fun l => (p.getD 0 0, nextR p, l) else none
end Go.Proofs.Ytekjibpkkgldgaa.B
