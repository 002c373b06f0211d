/-
  Numbers of 1 to 9 bytes: their bytes, their reading, in plain lists.
-/
import Derived.Test.YtekjibpkkgldgaaBF
import Derived.Test.YtekjibpkkgldgaaAxLib
import Derived.Laws.BitsAllLaws
import Derived.Laws.BitsLemmas
namespace Go.Proofs.Ytekjibpkkgldgaa.B
open Go Go.AX

def IsB (l : List Int) : Prop := ∀ y ∈ l, 0 ≤ y ∧ y < 256
/-- The byte at a place. -/
def rd (l : List Int) (i : Int) : Int := l.getD i.toNat 0
theorem rd_get (l : List Int) (i : Nat) (h : i < l.length) : rd l i = l[i] := by simp [rd, h]
theorem rd_byte {l : List Int} (hl : ∀ y ∈ l, 0 ≤ y ∧ y < 256) (i : Int) : 0 ≤ rd l i ∧ rd l i < 256 := by
  unfold rd
  by_cases h : i.toNat < l.length
  · rw [List.getD_eq_getElem?_getD, List.getElem?_eq_getElem h]; exact hl _ (List.getElem_mem h)
  · rw [List.getD_eq_getElem?_getD, List.getElem?_eq_none (by omega)]; simp
theorem wrap_u64 (n : Int) : IntKind.u64.wrap n = n % 18446744073709551616 := by simp [IntKind.wrap, IntKind.bits, IntKind.signed]
theorem or_u64 {x y : Int} (i : Nat) (hx : 0 ≤ x) (hx1 : x < 18446744073709551616) (hm : x % 2 ^ i = 0) (hy : 0 ≤ y) (hy1 : y < 2 ^ i) (hy2 : y < 18446744073709551616) : bits .or .u64 x y = x + y :=
  bits_join .u64 64 (by decide) (fun n h0 h1 => by rw [wrap_u64]; omega) i x y hx hm hx1 hy hy1 hy2

/-! ### the words -/
/-- The first i bytes' groups of seven bits, as a number. -/
def V (l : List Int) : Nat → Int
  | 0 => 0
  | i + 1 => V l i * 128 + rd l i % 128
/-- A number's groups, the highest first, each with its highest bit. -/
def hi : Nat → Int → List Int
  | 0, _ => []
  | f + 1, n => if n = 0 then [] else hi f (n / 128) ++ [n % 128 + 128]
/-- Just so many groups. -/
def grp : Nat → Int → List Int
  | 0, _ => []
  | m + 1, n => grp m (n / 128) ++ [n % 128 + 128]
/-- The page's bytes. -/
def put (n : Int) : List Int := if 72057594037927936 ≤ n then grp 8 (n / 256) ++ [n % 256] else hi 9 (n / 128) ++ [n % 128]
/-- The page's reading, from byte i on. -/
def gs (l : List Int) : Nat → Nat → Int × Int × Int
  | 0, _ => (0, 0, 1)
  | f + 1, i => if i = l.length then (0, 0, 1) else
      if i = 8 then (if V l 8 * 256 + rd l 8 < 72057594037927936 then (0, 0, 1) else (V l 8 * 256 + rd l 8, 9, 0)) else
      if 128 ≤ rd l i then gs l f (i + 1) else
      if 1 ≤ i ∧ V l (i + 1) < 128 ^ i then (0, 0, 1) else (V l (i + 1), (i : Int) + 1, 0)

theorem V_range (l : List Int) : ∀ i, 0 ≤ V l i ∧ V l i < 128 ^ i
  | 0 => by simp [V]
  | i + 1 => by
    have := V_range l i
    simp only [V]; rw [Int.pow_succ]; omega
theorem V_small (l : List Int) (i : Nat) (h : i ≤ 8) : 0 ≤ V l i ∧ V l i < 72057594037927936 := by
  have := V_range l i
  have h2 : (128 : Int) ^ i ≤ 128 ^ 8 := by
    have : (128 : Nat) ^ i ≤ 128 ^ 8 := Nat.pow_le_pow_right (by decide) h
    exact_mod_cast this
  have h3 : (128 : Int) ^ 8 = 72057594037927936 := by decide
  omega
theorem pow_pos' (m : Nat) : (0 : Int) < 128 ^ m := by
  have : (0 : Nat) < 128 ^ m := Nat.pos_of_ne_zero (by simp)
  exact_mod_cast this

theorem hi_length_le : ∀ (f m : Nat) (n : Int), 0 ≤ n → n < 128 ^ m → (hi f n).length ≤ m
  | 0, m, n, _, _ => by simp [hi]
  | f + 1, 0, n, h0, h1 => by
    have : n = 0 := by simp at h1; omega
    simp [hi, this]
  | f + 1, m + 1, n, h0, h1 => by
    simp only [hi]
    split
    · simp
    · rw [Int.pow_succ] at h1
      have := hi_length_le f m (n / 128) (by omega) (by omega)
      simp; omega
theorem hi_length : ∀ (f m : Nat) (n : Int), m < f → 128 ^ m ≤ n → n < 128 ^ (m + 1) → (hi f n).length = m + 1
  | 0, m, n, hf, _, _ => by omega
  | f + 1, 0, n, hf, h0, h1 => by
    have e : n / 128 = 0 := by simp at h0 h1; omega
    have hn : ¬ n = 0 := by simp at h0; omega
    simp only [hi, if_neg hn, e]
    cases f <;> simp [hi]
  | f + 1, m + 1, n, hf, h0, h1 => by
    have hp := pow_pos' (m + 1)
    have hn : ¬ n = 0 := by omega
    simp only [hi, if_neg hn]
    rw [Int.pow_succ] at h0 h1
    have := hi_length f m (n / 128) (by omega) (by omega) (by omega)
    simp [this]
theorem grp_length : ∀ (m : Nat) (n : Int), (grp m n).length = m
  | 0, n => rfl
  | m + 1, n => by simp [grp, grp_length m]
theorem hi_byte : ∀ (f : Nat) (n : Int), ∀ y ∈ hi f n, 128 ≤ y ∧ y < 256
  | 0, n => by simp [hi]
  | f + 1, n => by
    simp only [hi]
    split
    · simp
    · intro y hy
      rcases List.mem_append.1 hy with hy | hy
      · exact hi_byte f _ y hy
      · simp at hy; omega
theorem grp_byte : ∀ (f : Nat) (n : Int), ∀ y ∈ grp f n, 128 ≤ y ∧ y < 256
  | 0, n => by simp [grp]
  | f + 1, n => by
    simp only [grp]
    intro y hy
    rcases List.mem_append.1 hy with hy | hy
    · exact grp_byte f _ y hy
    · simp at hy; omega
theorem put_byte (n : Int) : IsB (put n) := by
  unfold put IsB
  split
  · intro y hy
    rcases List.mem_append.1 hy with hy | hy
    · have := grp_byte _ _ y hy; omega
    · simp at hy; omega
  · intro y hy
    rcases List.mem_append.1 hy with hy | hy
    · have := hi_byte _ _ y hy; omega
    · simp at hy; omega

theorem take_snoc {l : List Int} {i : Nat} (h : i < l.length) : l.take (i + 1) = l.take i ++ [rd l i] := by
  rw [List.take_succ_eq_append_getElem h, rd_get l i h]
/-- What was read in the shortest form is told as it was read. -/
theorem hi_take (l : List Int) (hl : IsB l) : ∀ (i f : Nat), i ≤ f → i ≤ l.length → (∀ j : Nat, j < i → 128 ≤ rd l j) → (i = 0 ∨ 128 ^ (i - 1) ≤ V l i) → hi f (V l i) = l.take i
  | 0, f, _, _, _, _ => by cases f <;> simp [hi, V]
  | i + 1, 0, h, _, _, _ => by omega
  | i + 1, f + 1, h, hlen, hb, hm => by
    have hv : 128 ^ i ≤ V l (i + 1) := by rcases hm with hm | hm; omega; simpa using hm
    have hp := pow_pos' i
    have hr := V_range l i
    have hd := hb i (by omega)
    have hd2 := rd_byte hl (i : Int)
    have hn : ¬ V l (i + 1) = 0 := by omega
    simp only [hi, if_neg hn]
    have e1 : V l (i + 1) / 128 = V l i := by simp only [V]; omega
    have e2 : V l (i + 1) % 128 + 128 = rd l i := by simp only [V]; omega
    rw [e1, e2, take_snoc (by omega)]
    congr 1
    refine hi_take l hl i f (by omega) (by omega) (fun j hj => hb j (by omega)) ?_
    cases i with
    | zero => exact .inl rfl
    | succ i =>
      right
      simp only [Nat.add_sub_cancel]
      rw [Int.pow_succ] at hv
      have : V l (i + 1 + 1) = V l (i + 1) * 128 + rd l (i + 1 : Nat) % 128 := rfl
      omega
theorem grp_take (l : List Int) (hl : IsB l) : ∀ (i : Nat), i ≤ l.length → (∀ j : Nat, j < i → 128 ≤ rd l j) → grp i (V l i) = l.take i
  | 0, _, _ => by simp [grp]
  | i + 1, hlen, hb => by
    have hd := hb i (by omega)
    have hd2 := rd_byte hl (i : Int)
    have hr := V_range l i
    simp only [grp]
    have e1 : V l (i + 1) / 128 = V l i := by simp only [V]; omega
    have e2 : V l (i + 1) % 128 + 128 = rd l i := by simp only [V]; omega
    rw [e1, e2, take_snoc (by omega), grp_take l hl i (by omega) (fun j hj => hb j (by omega))]

/-- The number that ends at byte i (below the ninth): its bytes are those that were read, if and only if they are the fewest. -/
theorem put_short (l : List Int) (hl : IsB l) (i : Nat) (hi8 : i < 8) (hlen : i < l.length) (hb : ∀ j : Nat, j < i → 128 ≤ rd l j) (he : rd l i < 128) :
    put (V l (i + 1)) = l.take (i + 1) ↔ ¬ (1 ≤ i ∧ V l (i + 1) < 128 ^ i) := by
  have hs := V_small l (i + 1) (by omega)
  have hr := V_range l i
  have hd2 := rd_byte hl (i : Int)
  have e1 : V l (i + 1) / 128 = V l i := by simp only [V]; omega
  have e2 : V l (i + 1) % 128 = rd l i := by simp only [V]; omega
  have ep : put (V l (i + 1)) = hi 9 (V l i) ++ [rd l i] := by unfold put; rw [if_neg (by omega), e1, e2]
  rw [ep, take_snoc hlen]
  have hvd : V l (i + 1) = V l i * 128 + rd l i % 128 := rfl
  constructor
  · rintro h ⟨h1, h2⟩
    have h3 : hi 9 (V l i) = l.take i := List.append_inj_left' h rfl
    have h4 := congrArg List.length h3
    obtain ⟨m, rfl⟩ : ∃ m, i = m + 1 := ⟨i - 1, by omega⟩
    rw [Int.pow_succ] at h2
    have := hi_length_le 9 m (V l (m + 1)) hr.1 (by omega)
    rw [List.length_take] at h4
    omega
  · intro h
    rw [hi_take l hl i 9 (by omega) (by omega) hb]
    cases i with
    | zero => exact .inl rfl
    | succ m =>
      right
      have : ¬ V l (m + 1 + 1) < 128 ^ (m + 1) := fun h' => h ⟨by omega, h'⟩
      rw [Int.pow_succ] at this
      simp only [Nat.add_sub_cancel]
      omega
theorem put_short_length {n : Int} (h0 : 0 ≤ n) (h1 : n < 72057594037927936) : (put n).length ≤ 8 := by
  have h7 : (128 : Int) ^ 7 = 562949953421312 := by decide
  have := hi_length_le 9 7 (n / 128) (by omega) (by rw [h7]; omega)
  unfold put; rw [if_neg (by omega), List.length_append, List.length_singleton]; omega
theorem put_nine (l : List Int) (hl : IsB l) (hlen : 8 < l.length) (hb : ∀ j : Nat, j < 8 → 128 ≤ rd l j) :
    put (V l 8 * 256 + rd l 8) = l.take 9 ↔ ¬ V l 8 * 256 + rd l 8 < 72057594037927936 := by
  have hr := V_small l 8 (by omega)
  have hd2 := rd_byte hl (8 : Int)
  constructor
  · intro h h1
    have := put_short_length (n := V l 8 * 256 + rd l 8) (by omega) h1
    rw [h, List.length_take] at this
    omega
  · intro h
    unfold put
    have e1 : (V l 8 * 256 + rd l 8) / 256 = V l 8 := by omega
    have e2 : (V l 8 * 256 + rd l 8) % 256 = rd l 8 := by omega
    rw [if_pos (by omega), e1, e2, grp_take l hl 8 (by omega) hb]
    exact (take_snoc (i := 8) (by omega)).symm

theorem put_length (n : Int) : (put n).length ≤ 10 := by
  unfold put
  split
  · simp [grp_length]
  · have := hi_length_le 9 9
    by_cases h : 0 ≤ n / 128 ∧ n / 128 < 128 ^ 9
    · have := this (n / 128) h.1 h.2; simp; omega
    · have h2 : ∀ (f : Nat) (m : Int), (hi f m).length ≤ f := by
        intro f
        induction f with
        | zero => intro m; simp [hi]
        | succ f ih => intro m; simp only [hi]; split; simp; have := ih (m / 128); simp; omega
      have := h2 9 (n / 128); simp; omega

/-! ### the bits -/
theorem or8_128 (x : Int) : bits .or .u8 (x % 256) 128 = x % 128 + 128 := by
  have h : ∀ a : Fin 256, (a.val ||| 128) = a.val % 128 + 128 := by decide +kernel
  rw [u8_or _ _ (by omega) (by omega) (by omega) (by omega)]
  have := h ⟨(x % 256).toNat, by omega⟩
  simp only at this
  rw [show (128 : Int).toNat = 128 from rfl, this]
  omega
theorem and8_127 (x : Int) (h0 : 0 ≤ x) (h1 : x < 256) : bits .and .u8 x 127 = x % 128 := by
  have := bits_mask .u8 8 (by decide) (fun n a b => by rw [IntKind.wrap_u8]; omega) 7 (by decide) x h0 h1
  simpa using this
theorem or8_0 (x : Int) (h0 : 0 ≤ x) (h1 : x < 128) : bits .or .u8 x 0 = x := by
  have := bits_join .u8 8 (by decide) (fun n a b => by rw [IntKind.wrap_u8]; omega) 0 x 0 h0 (by omega) (by omega) (by omega) (by omega) (by omega)
  simpa using this
theorem or8_128' (x : Int) (h0 : 0 ≤ x) (h1 : x < 128) : bits .or .u8 x 128 = x + 128 := by
  have := or8_128 x
  rw [show x % 256 = x by omega] at this
  omega
theorem join7 {x y : Int} (hx : 0 ≤ x) (hx1 : x < 562949953421312) (hy : 0 ≤ y) (hy1 : y < 128) : bits .or .u64 (IntKind.u64.wrap (x * 128)) (IntKind.u64.wrap y) = x * 128 + y := by
  rw [wrap_u64, wrap_u64, show x * 128 % 18446744073709551616 = x * 128 by omega, show y % 18446744073709551616 = y by omega]
  exact or_u64 7 (by omega) (by omega) (by omega) hy (by omega) (by omega)
theorem join8 {x y : Int} (hx : 0 ≤ x) (hx1 : x < 72057594037927936) (hy : 0 ≤ y) (hy1 : y < 256) : bits .or .u64 (IntKind.u64.wrap (x * 256)) (IntKind.u64.wrap y) = x * 256 + y := by
  rw [wrap_u64, wrap_u64, show x * 256 % 18446744073709551616 = x * 256 by omega, show y % 18446744073709551616 = y by omega]
  exact or_u64 8 (by omega) (by omega) (by omega) hy (by omega) (by omega)
theorem shl7 (m : Nat) (h : m ≤ 8) : IntKind.u64.wrap ((1 : Int) * 2 ^ (min ((7 * m : Nat) : Int).toNat (IntKind.u64).bits)) = 128 ^ m := by
  have : ∀ m : Fin 9, IntKind.u64.wrap ((1 : Int) * 2 ^ (min ((7 * m.val : Nat) : Int).toNat (IntKind.u64).bits)) = 128 ^ m.val := by decide
  exact this ⟨m, by omega⟩
theorem tmod_nn {x : Int} (h : 0 ≤ x) : Int.tmod x 128 = x % 128 := Int.tmod_eq_emod_of_nonneg h
theorem tdiv_nn {x : Int} (h : 0 ≤ x) : Int.tdiv x 128 = x / 128 := Int.tdiv_eq_ediv_of_nonneg h

theorem rd_left {a r : List Int} {i : Nat} (h : i < a.length) : rd (a ++ r) i = rd a i := by
  unfold rd; simp only [List.getD_eq_getElem?_getD]
  rw [List.getElem?_append_left (by omega)]
theorem V_left (a r : List Int) : ∀ i, i ≤ a.length → V (a ++ r) i = V a i
  | 0, _ => rfl
  | i + 1, h => by simp only [V]; rw [V_left a r i (by omega), rd_left (by omega)]
theorem V_take (a : List Int) (n : Nat) : ∀ i, i ≤ n → V (a.take n) i = V a i
  | 0, _ => rfl
  | i + 1, h => by
    have : rd (a.take n) (i : Nat) = rd a (i : Nat) := by
      unfold rd; simp only [List.getD_eq_getElem?_getD]; rw [List.getElem?_take_of_lt (by omega)]
    simp only [V]; rw [V_take a n i (by omega), this]
theorem rd_last (a : List Int) (d : Int) (r : List Int) : rd (a ++ [d] ++ r) (a.length : Nat) = d := by
  unfold rd; simp
theorem V_hi : ∀ (f : Nat) (m : Int), 0 ≤ m → m < 128 ^ f → V (hi f m) (hi f m).length = m
  | 0, m, h0, h1 => by simp at h1; simp [hi, V]; omega
  | f + 1, m, h0, h1 => by
    rw [Int.pow_succ] at h1
    simp only [hi]
    split
    · simp [V]; omega
    · have ih := V_hi f (m / 128) (by omega) (by omega)
      rw [List.length_append, List.length_singleton]
      simp only [V]
      rw [V_left _ _ _ (Nat.le_refl _), ih]
      have := rd_last (hi f (m / 128)) (m % 128 + 128) []
      rw [List.append_nil] at this
      rw [this]; omega
theorem V_grp : ∀ (f : Nat) (m : Int), 0 ≤ m → m < 128 ^ f → V (grp f m) f = m
  | 0, m, h0, h1 => by simp at h1; simp [V]; omega
  | f + 1, m, h0, h1 => by
    rw [Int.pow_succ] at h1
    have ih := V_grp f (m / 128) (by omega) (by omega)
    have hl := grp_length f (m / 128)
    simp only [grp, V]
    rw [V_left _ _ _ (by omega), ih]
    have := rd_last (grp f (m / 128)) (m % 128 + 128) []
    rw [List.append_nil, hl] at this
    rw [this]; omega

theorem gs_skip (l : List Int) : ∀ (d f i : Nat), i + d ≤ l.length → i + d ≤ 8 → (∀ j, i ≤ j → j < i + d → 128 ≤ rd l (j : Nat)) → gs l (f + d) i = gs l f (i + d)
  | 0, f, i, _, _, _ => rfl
  | d + 1, f, i, h1, h2, hb => by
    have e : f + (d + 1) = (f + d) + 1 := by omega
    rw [e]
    have : gs l (f + d + 1) i = gs l (f + d) (i + 1) := by
      conv => lhs; unfold gs
      rw [if_neg (by omega), if_neg (by omega), if_pos (hb i (Nat.le_refl _) (by omega))]
    rw [this, gs_skip l d f (i + 1) (by omega) (by omega) (fun j h3 h4 => hb j (by omega) (by omega))]
    congr 1; omega

/-- All bytes but the last one of a number's bytes: so many, with the number's groups. -/
theorem put_parts (n : Int) (h0 : 0 ≤ n) (h1 : n < 18446744073709551616) :
    (n < 72057594037927936 ∧ ∃ h : List Int, put n = h ++ [n % 128] ∧ h.length ≤ 7 ∧ (∀ y ∈ h, 128 ≤ y) ∧ V h h.length = n / 128 ∧ n < 128 ^ (h.length + 1) ∧ (1 ≤ h.length → 128 ^ h.length ≤ n)) ∨
    (72057594037927936 ≤ n ∧ ∃ h : List Int, put n = h ++ [n % 256] ∧ h.length = 8 ∧ (∀ y ∈ h, 128 ≤ y) ∧ V h 8 = n / 256) := by
  by_cases hb : 72057594037927936 ≤ n
  · right
    refine ⟨hb, grp 8 (n / 256), by unfold put; rw [if_pos hb], grp_length _ _, fun y hy => (grp_byte _ _ y hy).1, V_grp 8 _ (by omega) ?_⟩
    have h8 : (128 : Int) ^ 8 = 72057594037927936 := by decide
    omega
  · left
    have h7 : (128 : Int) ^ 7 = 562949953421312 := by decide
    have h9 : (128 : Int) ^ 9 = 9223372036854775808 := by decide
    have hl := hi_length_le 9 7 (n / 128) (by omega) (by omega)
    refine ⟨by omega, hi 9 (n / 128), by unfold put; rw [if_neg hb], hl, fun y hy => (hi_byte _ _ y hy).1, V_hi 9 _ (by omega) (by omega), ?_, ?_⟩
    · have hv := V_hi 9 (n / 128) (by omega) (by omega)
      have hr := V_range (hi 9 (n / 128)) (hi 9 (n / 128)).length
      rw [hv] at hr
      rw [Int.pow_succ]
      omega
    · intro hs
      obtain ⟨s, hs'⟩ : ∃ s, (hi 9 (n / 128)).length = s + 1 := ⟨(hi 9 (n / 128)).length - 1, by omega⟩
      rw [hs', Int.pow_succ]
      by_cases hc : n / 128 < 128 ^ s
      · have := hi_length_le 9 s (n / 128) (by omega) hc
        omega
      · omega
theorem get_put (n : Int) (h0 : 0 ≤ n) (h1 : n < 18446744073709551616) (r : List Int) : gs (put n ++ r) 9 0 = (n, ((put n).length : Int), 0) := by
  rcases put_parts n h0 h1 with ⟨hn, h, e, hl, hb, hv, hlt, hge⟩ | ⟨hn, h, e, hl, hb, hv⟩
  · rw [e]
    have hrd : ∀ j, j < h.length → 128 ≤ rd (h ++ [n % 128] ++ r) (j : Nat) := fun j hj => by
      rw [rd_left (by simp; omega), rd_left hj, rd_get h j hj]; exact hb _ (List.getElem_mem hj)
    have e9 : 9 = (9 - h.length) + h.length := by omega
    have := gs_skip (h ++ [n % 128] ++ r) h.length (9 - h.length) 0 (by rw [List.length_append, List.length_append]; omega) (by omega) (fun j _ hj => hrd j (by omega))
    rw [← e9, Nat.zero_add] at this
    rw [this]
    obtain ⟨f, hf⟩ : ∃ f, 9 - h.length = f + 1 := ⟨8 - h.length, by omega⟩
    rw [hf]
    have hlast := rd_last h (n % 128) r
    have hV : V (h ++ [n % 128] ++ r) (h.length + 1) = n := by
      simp only [V]
      rw [List.append_assoc, V_left _ _ _ (Nat.le_refl _), hv, ← List.append_assoc, hlast]; omega
    simp only [gs]
    rw [if_neg (by simp), if_neg (by omega), hlast, if_neg (by omega), hV, if_neg (fun hc => by have := hge hc.1; omega)]
    simp
  · rw [e]
    have hrd : ∀ j, j < h.length → 128 ≤ rd (h ++ [n % 256] ++ r) (j : Nat) := fun j hj => by
      rw [rd_left (by simp; omega), rd_left hj, rd_get h j hj]; exact hb _ (List.getElem_mem hj)
    have := gs_skip (h ++ [n % 256] ++ r) 8 1 0 (by simp; omega) (by omega) (fun j _ hj => hrd j (by omega))
    rw [Nat.zero_add] at this
    rw [show (9 : Nat) = 1 + 8 from rfl, this]
    have hlast := rd_last h (n % 256) r
    rw [hl] at hlast
    have hV : V (h ++ [n % 256] ++ r) 8 = n / 256 := by rw [List.append_assoc, V_left _ _ _ (by omega), hv]
    have hlast' : rd (h ++ [n % 256] ++ r) 8 = n % 256 := hlast
    simp only [gs]
    rw [if_neg (by simp; omega), if_pos trivial, hV, hlast', if_neg (by omega)]
    simp [hl]; omega
theorem get_begin (n : Int) (h0 : 0 ≤ n) (h1 : n < 18446744073709551616) (j : Nat) (hj : j < (put n).length) : gs ((put n).take j) 9 0 = (0, 0, 1) := by
  obtain ⟨h, d, e, hl, hb⟩ : ∃ (h : List Int) (d : Int), put n = h ++ [d] ∧ h.length ≤ 8 ∧ ∀ y ∈ h, 128 ≤ y := by
    rcases put_parts n h0 h1 with ⟨hn, h, e, hl, hb, _⟩ | ⟨hn, h, e, hl, hb, hv⟩
    · exact ⟨h, _, e, by omega, hb⟩
    · exact ⟨h, _, e, by omega, hb⟩
  rw [e] at hj ⊢
  rw [List.length_append, List.length_singleton] at hj
  rw [List.take_append_of_le_length (by omega)]
  have hlen : (h.take j).length = j := by rw [List.length_take]; omega
  have hrd : ∀ i, i < j → 128 ≤ rd (h.take j) (i : Nat) := fun i hi => by
    rw [rd_get _ i (by omega)]; exact hb _ (List.mem_of_mem_take (List.getElem_mem _))
  have := gs_skip (h.take j) j (9 - j) 0 (by omega) (by omega) (fun i _ hi => hrd i (by omega))
  rw [Nat.zero_add, show 9 - j + j = 9 by omega] at this
  rw [this]
  obtain ⟨f, hf⟩ : ∃ f, 9 - j = f + 1 := ⟨8 - j, by omega⟩
  rw [hf]; simp only [gs]; rw [if_pos hlen.symm]
/-- How many bytes a number has. -/
theorem put_size (n : Int) (h0 : 0 ≤ n) (h1 : n < 18446744073709551616) :
    1 ≤ (put n).length ∧ (((put n).length ≤ 8 ∧ n < 128 ^ (put n).length ∧ (1 < (put n).length → 128 ^ ((put n).length - 1) ≤ n)) ∨ ((put n).length = 9 ∧ 72057594037927936 ≤ n)) := by
  rcases put_parts n h0 h1 with ⟨hn, h, e, hl, hb, hv, hlt, hge⟩ | ⟨hn, h, e, hl, hb, hv⟩
  · rw [e, List.length_append, List.length_singleton]
    exact ⟨by omega, .inl ⟨by omega, hlt, fun hc => hge (by omega)⟩⟩
  · rw [e, List.length_append, List.length_singleton]
    exact ⟨by omega, .inr ⟨by omega, hn⟩⟩

/-- What the page reads. -/
def two (x : Int × Int × Int) : Int × Int := (x.1, x.2.1)
/-- What is read: an error and nothing else; or a number, and its bytes are those that were read. -/
theorem gs_says {l : List Int} (hl : IsB l) : ∀ (f i : Nat), i + f = 9 → (∀ j : Nat, j < i → 128 ≤ rd l j) → i ≤ l.length → i < 9 →
    gs l f i = (0, 0, 1) ∨ ∃ (n : Int) (m : Nat), gs l f i = (n, (m : Int), 0) ∧ 1 ≤ m ∧ m ≤ l.length ∧ m ≤ 9 ∧ put n = l.take m ∧ 0 ≤ n ∧ n < 18446744073709551616
  | 0, i, h, _, _, h9 => by omega
  | f + 1, i, hf, hb, hi_, h9 => by
    have hd := rd_byte hl (i : Int)
    simp only [gs]
    by_cases h1 : i = l.length
    · rw [if_pos h1]; exact .inl rfl
    rw [if_neg h1]
    by_cases h8 : i = 8
    · subst h8
      have hr := V_small l 8 (by omega)
      rw [if_pos rfl]
      by_cases h : V l 8 * 256 + rd l 8 < 72057594037927936
      · rw [if_pos h]; exact .inl rfl
      · rw [if_neg h]
        have hd : 0 ≤ rd l 8 ∧ rd l 8 < 256 := hd
        exact .inr ⟨_, 9, rfl, by omega, by omega, by omega, (put_nine l hl (by omega) hb).mpr h, by omega, by omega⟩
    rw [if_neg h8]
    by_cases hb' : 128 ≤ rd l i
    · rw [if_pos hb']
      refine gs_says hl f (i + 1) (by omega) ?_ (by omega) (by omega)
      intro j hj
      by_cases hji : j = i
      · rw [hji]; exact hb'
      · exact hb j (by omega)
    rw [if_neg hb']
    by_cases hm : 1 ≤ i ∧ V l (i + 1) < 128 ^ i
    · rw [if_pos hm]; exact .inl rfl
    · rw [if_neg hm]
      have hs := V_small l (i + 1) (by omega)
      exact .inr ⟨_, i + 1, by simp, by omega, by omega, by omega, (put_short l hl i (by omega) (by omega) hb (by omega)).mpr hm, by omega, by omega⟩

end Go.Proofs.Ytekjibpkkgldgaa.B
