/-
  Layer 1: what the printed functions over numbers of 1 to 9 bytes come to.
-/
import Derived.Test.YtbamdjfonfmbbaaLib
import Derived.Test.YtbamdjfonfmbbaaWMore
import Derived.Test.YtbamdjfonfmbbaaBOk
import Derived.Test.YtbamdjfonfmbbaaBx1
import Derived.Test.YtbamdjfonfmbbaaBx2
import Derived.Test.YtbamdjfonfmbbaaBLBytes
namespace Go.Proofs.Ytbamdjfonfmbbaa.B
open Go Go.RowKit Go.Proofs.YtbamdjfonfmbbaaW.PrintWords Go.Proofs.YtbamdjfonfmbbaaW.PrintLast Go.Proofs.YtbamdjfonfmbbaaW.PrintMore Go.Proofs.YtbamdjfonfmbbaaG

/-! ### the words -/
/-- The first i bytes' groups of seven bits, as a number. -/
def V (l : List Int) : Nat → Int
  | 0 => 0
  | i + 1 => V l i * 128 + rd l i % 128
/-- A number's groups, the highest first, each with its highest bit. -/
def hi : Nat → Int → List Int
  | 0, _ => []
  | f + 1, n => if n = 0 then [] else hi f (n / 128) ++ [n % 128 + 128]
/-- Just so many groups. -/
def grp : Nat → Int → List Int
  | 0, _ => []
  | m + 1, n => grp m (n / 128) ++ [n % 128 + 128]
/-- The page's bytes. -/
def put (n : Int) : List Int := if 72057594037927936 ≤ n then grp 8 (n / 256) ++ [n % 256] else hi 9 (n / 128) ++ [n % 128]
/-- The page's reading, from byte i on. -/
def gs (l : List Int) : Nat → Nat → Int × Int × Int
  | 0, _ => (0, 0, 1)
  | f + 1, i => if i = l.length then (0, 0, 1) else
      if i = 8 then (if V l 8 * 256 + rd l 8 < 72057594037927936 then (0, 0, 1) else (V l 8 * 256 + rd l 8, 9, 0)) else
      if 128 ≤ rd l i then gs l f (i + 1) else
      if 1 ≤ i ∧ V l (i + 1) < 128 ^ i then (0, 0, 1) else (V l (i + 1), (i : Int) + 1, 0)

theorem V_range (l : List Int) : ∀ i, 0 ≤ V l i ∧ V l i < 128 ^ i
  | 0 => by simp [V]
  | i + 1 => by
    have := V_range l i
    simp only [V]; rw [Int.pow_succ]; omega
theorem V_small (l : List Int) (i : Nat) (h : i ≤ 8) : 0 ≤ V l i ∧ V l i < 72057594037927936 := by
  have := V_range l i
  have h2 : (128 : Int) ^ i ≤ 128 ^ 8 := by
    have : (128 : Nat) ^ i ≤ 128 ^ 8 := Nat.pow_le_pow_right (by decide) h
    exact_mod_cast this
  have h3 : (128 : Int) ^ 8 = 72057594037927936 := by decide
  omega
theorem pow_pos' (m : Nat) : (0 : Int) < 128 ^ m := by
  have : (0 : Nat) < 128 ^ m := Nat.pos_of_ne_zero (by simp)
  exact_mod_cast this

theorem hi_length_le : ∀ (f m : Nat) (n : Int), 0 ≤ n → n < 128 ^ m → (hi f n).length ≤ m
  | 0, m, n, _, _ => by simp [hi]
  | f + 1, 0, n, h0, h1 => by
    have : n = 0 := by simp at h1; omega
    simp [hi, this]
  | f + 1, m + 1, n, h0, h1 => by
    simp only [hi]
    split
    · simp
    · rw [Int.pow_succ] at h1
      have := hi_length_le f m (n / 128) (by omega) (by omega)
      simp; omega
theorem hi_length : ∀ (f m : Nat) (n : Int), m < f → 128 ^ m ≤ n → n < 128 ^ (m + 1) → (hi f n).length = m + 1
  | 0, m, n, hf, _, _ => by omega
  | f + 1, 0, n, hf, h0, h1 => by
    have e : n / 128 = 0 := by simp at h0 h1; omega
    have hn : ¬ n = 0 := by simp at h0; omega
    simp only [hi, if_neg hn, e]
    cases f <;> simp [hi]
  | f + 1, m + 1, n, hf, h0, h1 => by
    have hp := pow_pos' (m + 1)
    have hn : ¬ n = 0 := by omega
    simp only [hi, if_neg hn]
    rw [Int.pow_succ] at h0 h1
    have := hi_length f m (n / 128) (by omega) (by omega) (by omega)
    simp [this]
theorem grp_length : ∀ (m : Nat) (n : Int), (grp m n).length = m
  | 0, n => rfl
  | m + 1, n => by simp [grp, grp_length m]
theorem hi_byte : ∀ (f : Nat) (n : Int), ∀ y ∈ hi f n, 128 ≤ y ∧ y < 256
  | 0, n => by simp [hi]
  | f + 1, n => by
    simp only [hi]
    split
    · simp
    · intro y hy
      rcases List.mem_append.1 hy with hy | hy
      · exact hi_byte f _ y hy
      · simp at hy; omega
theorem grp_byte : ∀ (f : Nat) (n : Int), ∀ y ∈ grp f n, 128 ≤ y ∧ y < 256
  | 0, n => by simp [grp]
  | f + 1, n => by
    simp only [grp]
    intro y hy
    rcases List.mem_append.1 hy with hy | hy
    · exact grp_byte f _ y hy
    · simp at hy; omega
theorem put_byte (n : Int) : IsB (put n) := by
  unfold put IsB
  split
  · intro y hy
    rcases List.mem_append.1 hy with hy | hy
    · have := grp_byte _ _ y hy; omega
    · simp at hy; omega
  · intro y hy
    rcases List.mem_append.1 hy with hy | hy
    · have := hi_byte _ _ y hy; omega
    · simp at hy; omega

theorem take_snoc {l : List Int} {i : Nat} (h : i < l.length) : l.take (i + 1) = l.take i ++ [rd l i] := by
  rw [List.take_succ_eq_append_getElem h, rd_get l i h]
/-- What was read in the shortest form is told as it was read. -/
theorem hi_take (l : List Int) (hl : IsB l) : ∀ (i f : Nat), i ≤ f → i ≤ l.length → (∀ j : Nat, j < i → 128 ≤ rd l j) → (i = 0 ∨ 128 ^ (i - 1) ≤ V l i) → hi f (V l i) = l.take i
  | 0, f, _, _, _, _ => by cases f <;> simp [hi, V]
  | i + 1, 0, h, _, _, _ => by omega
  | i + 1, f + 1, h, hlen, hb, hm => by
    have hv : 128 ^ i ≤ V l (i + 1) := by rcases hm with hm | hm; omega; simpa using hm
    have hp := pow_pos' i
    have hr := V_range l i
    have hd := hb i (by omega)
    have hd2 := rd_byte hl (i : Int)
    have hn : ¬ V l (i + 1) = 0 := by omega
    simp only [hi, if_neg hn]
    have e1 : V l (i + 1) / 128 = V l i := by simp only [V]; omega
    have e2 : V l (i + 1) % 128 + 128 = rd l i := by simp only [V]; omega
    rw [e1, e2, take_snoc (by omega)]
    congr 1
    refine hi_take l hl i f (by omega) (by omega) (fun j hj => hb j (by omega)) ?_
    cases i with
    | zero => exact .inl rfl
    | succ i =>
      right
      simp only [Nat.add_sub_cancel]
      rw [Int.pow_succ] at hv
      have : V l (i + 1 + 1) = V l (i + 1) * 128 + rd l (i + 1 : Nat) % 128 := rfl
      omega
theorem grp_take (l : List Int) (hl : IsB l) : ∀ (i : Nat), i ≤ l.length → (∀ j : Nat, j < i → 128 ≤ rd l j) → grp i (V l i) = l.take i
  | 0, _, _ => by simp [grp]
  | i + 1, hlen, hb => by
    have hd := hb i (by omega)
    have hd2 := rd_byte hl (i : Int)
    have hr := V_range l i
    simp only [grp]
    have e1 : V l (i + 1) / 128 = V l i := by simp only [V]; omega
    have e2 : V l (i + 1) % 128 + 128 = rd l i := by simp only [V]; omega
    rw [e1, e2, take_snoc (by omega), grp_take l hl i (by omega) (fun j hj => hb j (by omega))]

/-- The number that ends at byte i (below the ninth): its bytes are those that were read, if and only if they are the fewest. -/
theorem put_short (l : List Int) (hl : IsB l) (i : Nat) (hi8 : i < 8) (hlen : i < l.length) (hb : ∀ j : Nat, j < i → 128 ≤ rd l j) (he : rd l i < 128) :
    put (V l (i + 1)) = l.take (i + 1) ↔ ¬ (1 ≤ i ∧ V l (i + 1) < 128 ^ i) := by
  have hs := V_small l (i + 1) (by omega)
  have hr := V_range l i
  have hd2 := rd_byte hl (i : Int)
  have e1 : V l (i + 1) / 128 = V l i := by simp only [V]; omega
  have e2 : V l (i + 1) % 128 = rd l i := by simp only [V]; omega
  have ep : put (V l (i + 1)) = hi 9 (V l i) ++ [rd l i] := by unfold put; rw [if_neg (by omega), e1, e2]
  rw [ep, take_snoc hlen]
  have hvd : V l (i + 1) = V l i * 128 + rd l i % 128 := rfl
  constructor
  · rintro h ⟨h1, h2⟩
    have h3 : hi 9 (V l i) = l.take i := List.append_inj_left' h rfl
    have h4 := congrArg List.length h3
    obtain ⟨m, rfl⟩ : ∃ m, i = m + 1 := ⟨i - 1, by omega⟩
    rw [Int.pow_succ] at h2
    have := hi_length_le 9 m (V l (m + 1)) hr.1 (by omega)
    rw [List.length_take] at h4
    omega
  · intro h
    rw [hi_take l hl i 9 (by omega) (by omega) hb]
    cases i with
    | zero => exact .inl rfl
    | succ m =>
      right
      have : ¬ V l (m + 1 + 1) < 128 ^ (m + 1) := fun h' => h ⟨by omega, h'⟩
      rw [Int.pow_succ] at this
      simp only [Nat.add_sub_cancel]
      omega
theorem put_short_length {n : Int} (h0 : 0 ≤ n) (h1 : n < 72057594037927936) : (put n).length ≤ 8 := by
  have h7 : (128 : Int) ^ 7 = 562949953421312 := by decide
  have := hi_length_le 9 7 (n / 128) (by omega) (by rw [h7]; omega)
  unfold put; rw [if_neg (by omega), List.length_append, List.length_singleton]; omega
theorem put_nine (l : List Int) (hl : IsB l) (hlen : 8 < l.length) (hb : ∀ j : Nat, j < 8 → 128 ≤ rd l j) :
    put (V l 8 * 256 + rd l 8) = l.take 9 ↔ ¬ V l 8 * 256 + rd l 8 < 72057594037927936 := by
  have hr := V_small l 8 (by omega)
  have hd2 := rd_byte hl (8 : Int)
  constructor
  · intro h h1
    have := put_short_length (n := V l 8 * 256 + rd l 8) (by omega) h1
    rw [h, List.length_take] at this
    omega
  · intro h
    unfold put
    have e1 : (V l 8 * 256 + rd l 8) / 256 = V l 8 := by omega
    have e2 : (V l 8 * 256 + rd l 8) % 256 = rd l 8 := by omega
    rw [if_pos (by omega), e1, e2, grp_take l hl 8 (by omega) hb]
    exact (take_snoc (i := 8) (by omega)).symm

/-! ### the bits -/
theorem or8_128 (x : Int) : bits .or .u8 (x % 256) 128 = x % 128 + 128 := by
  have h : ∀ a : Fin 256, (a.val ||| 128) = a.val % 128 + 128 := by decide +kernel
  rw [u8_or _ _ (by omega) (by omega) (by omega) (by omega)]
  have := h ⟨(x % 256).toNat, by omega⟩
  simp only at this
  rw [show (128 : Int).toNat = 128 from rfl, this]
  omega
theorem and8_127 (x : Int) (h0 : 0 ≤ x) (h1 : x < 256) : bits .and .u8 x 127 = x % 128 := by
  have := bits_mask .u8 8 (by decide) (fun n a b => by rw [IntKind.wrap_u8]; omega) 7 (by decide) x h0 h1
  simpa using this
theorem or8_0 (x : Int) (h0 : 0 ≤ x) (h1 : x < 128) : bits .or .u8 x 0 = x := by
  have := bits_join .u8 8 (by decide) (fun n a b => by rw [IntKind.wrap_u8]; omega) 0 x 0 h0 (by omega) (by omega) (by omega) (by omega) (by omega)
  simpa using this
theorem or8_128' (x : Int) (h0 : 0 ≤ x) (h1 : x < 128) : bits .or .u8 x 128 = x + 128 := by
  have := or8_128 x
  rw [show x % 256 = x by omega] at this
  omega
theorem join7 {x y : Int} (hx : 0 ≤ x) (hx1 : x < 562949953421312) (hy : 0 ≤ y) (hy1 : y < 128) : bits .or .u64 (IntKind.u64.wrap (x * 128)) (IntKind.u64.wrap y) = x * 128 + y := by
  rw [wrap_u64, wrap_u64, show x * 128 % 18446744073709551616 = x * 128 by omega, show y % 18446744073709551616 = y by omega]
  exact or_u64 7 (by omega) (by omega) (by omega) hy (by omega) (by omega)
theorem join8 {x y : Int} (hx : 0 ≤ x) (hx1 : x < 72057594037927936) (hy : 0 ≤ y) (hy1 : y < 256) : bits .or .u64 (IntKind.u64.wrap (x * 256)) (IntKind.u64.wrap y) = x * 256 + y := by
  rw [wrap_u64, wrap_u64, show x * 256 % 18446744073709551616 = x * 256 by omega, show y % 18446744073709551616 = y by omega]
  exact or_u64 8 (by omega) (by omega) (by omega) hy (by omega) (by omega)
theorem shl7 (m : Nat) (h : m ≤ 8) : shl .u64 1 ((7 * m : Nat) : Int) = 128 ^ m := by
  have : ∀ m : Fin 9, shl .u64 1 ((7 * m.val : Nat) : Int) = 128 ^ m.val := by decide
  exact this ⟨m, by omega⟩
theorem tmod_nn {x : Int} (h : 0 ≤ x) : Int.tmod x 128 = x % 128 := Int.tmod_eq_emod_of_nonneg h
theorem tdiv_nn {x : Int} (h : 0 ≤ x) : Int.tdiv x 128 = x / 128 := Int.tdiv_eq_ediv_of_nonneg h

/-! ### reading -/
theorem get_loop {l : List Int} (hl : IsB l) (hn : l.length ≤ 9223372036854000000) : ∀ (f i : Nat), i + f = 9 → 1 ≤ f → i ≤ l.length → Ev (fun k => varint_Get.l0 k l (V l i) i) (gs l f i)
  | 0, i, _, h, _ => by omega
  | f + 1, i, hf, _, hi_ => by
    have hr := V_small l i (by omega)
    have hd := rd_byte hl (i : Int)
    refine Ev.step (fun k => by rw [varint_Get.l0]) ?_
    by_cases h1 : i = l.length
    · exact Ev.ifp (by omega) (Ev.ret (by simp only [gs, if_pos h1]))
    refine Ev.ifn (by omega) (Ev.ifp (by omega) (Ev.ifp (by omega) ?_))
    have e1 : wrap64 ((i : Int) + 1) = ((i + 1 : Nat) : Int) := by rw [w64 (by omega) (by omega)]; omega
    rw [e1]
    by_cases h8 : i = 8
    · subst h8
      rw [join8 hr.1 hr.2 hd.1 hd.2]
      refine Ev.ifp (by omega) ?_
      by_cases h9 : V l 8 * 256 + rd l ((8 : Nat) : Int) < 72057594037927936
      · exact Ev.ifp h9 (Ev.ret (by simp only [gs]; rw [if_neg h1, if_pos trivial, if_pos (by simpa using h9)]))
      · exact Ev.ifn h9 (Ev.ret (by simp only [gs]; rw [if_neg h1, if_pos trivial, if_neg (by simpa using h9)]; rfl))
    refine Ev.ifn (by omega) ?_
    have hr7 : V l i < 562949953421312 := by
      have := V_range l i
      have h2 : (128 : Int) ^ i ≤ 128 ^ 7 := by
        have : (128 : Nat) ^ i ≤ 128 ^ 7 := Nat.pow_le_pow_right (by decide) (by omega)
        exact_mod_cast this
      have h3 : (128 : Int) ^ 7 = 562949953421312 := by decide
      omega
    rw [and8_127 _ hd.1 hd.2, join7 hr.1 hr7 (by omega) (by omega)]
    have ev : V l i * 128 + rd l i % 128 = V l (i + 1) := rfl
    rw [ev]
    by_cases hb : 128 ≤ rd l i
    · refine Ev.ifp hb ?_
      exact Ev.cast (by simp only [gs]; rw [if_neg h1, if_neg h8, if_pos hb]) (get_loop hl hn f (i + 1) (by omega) (by omega) (by omega))
    refine Ev.ifn hb ?_
    by_cases hz : 1 ≤ i
    · refine Ev.ifp (by omega) ?_
      have e2 : wrap64 (((i + 1 : Nat) : Int) - 1) = (i : Int) := by rw [w64 (by omega) (by omega)]; omega
      have e3 : wrap64 (7 * (i : Int)) = ((7 * i : Nat) : Int) := by rw [w64 (by omega) (by omega)]; omega
      rw [e2, e3, shl7 i (by omega)]
      refine Ev.ifp (by omega) ?_
      by_cases hm : V l (i + 1) < 128 ^ i
      · exact Ev.ifp hm (Ev.ret (by simp only [gs]; rw [if_neg h1, if_neg h8, if_neg hb, if_pos ⟨hz, hm⟩]))
      · exact Ev.ifn hm (Ev.ret (by simp only [gs]; rw [if_neg h1, if_neg h8, if_neg hb, if_neg (fun h => hm h.2)]; simp))
    · exact Ev.ifn (by omega) (Ev.ret (by simp only [gs]; rw [if_neg h1, if_neg h8, if_neg hb, if_neg (fun h => hz h.1)]; simp))
theorem get_ev {l : List Int} (hl : IsB l) (hn : l.length ≤ 9223372036854000000) : Ev (fun k => varint_Get.f k l) (gs l 9 0) :=
  Ev.congr (fun k => by rw [varint_Get.f]; rfl) (get_loop hl hn 9 0 rfl (by omega) (by omega))

/-! ### the other way round -/
theorem turn_loop (o : List Int) (hn : o.length ≤ 140737488351232) : ∀ (d i : Nat) (L : List Int), o.length ≤ 2 * i + d + 1 → 2 * i ≤ o.length → L.length = o.length →
    (∀ j, j < o.length → L[j]? = if j < i ∨ o.length - i ≤ j then o[o.length - 1 - j]? else o[j]?) → Ev (fun k => varint_turned.l0 k L i ((o.length : Int) - 1 - i)) o.reverse := by
  intro d
  induction d with
  | zero =>
    intro i L h1 h2 hL hj
    refine Ev.step (fun k => by rw [varint_turned.l0]) ?_
    refine Ev.ifn (by omega) (Ev.ret ?_)
    apply List.ext_getElem?
    intro j
    by_cases hlt : j < o.length
    · rw [hj j hlt, List.getElem?_reverse hlt]
      split
      · rfl
      · have : j = o.length - 1 - j := by omega
        rw [← this]
    · rw [List.getElem?_eq_none (by omega), List.getElem?_eq_none (by simp; omega)]
  | succ d ih =>
    intro i L h1 h2 hL hj
    by_cases hlt : (i : Int) < (o.length : Int) - 1 - i
    · refine Ev.step (fun k => by rw [varint_turned.l0]) ?_
      refine Ev.ifp hlt (Ev.ifp (by omega) (Ev.ifp (by omega) (Ev.ifp (by omega) (Ev.ifp (by omega) ?_))))
      have e1 : wrap64 ((i : Int) + 1) = ((i + 1 : Nat) : Int) := by rw [w64 (by omega) (by omega)]; omega
      have e2 : wrap64 ((o.length : Int) - 1 - i - 1) = (o.length : Int) - 1 - ((i + 1 : Nat) : Int) := by rw [w64 (by omega) (by omega)]; omega
      rw [e1, e2]
      have e3 : ((o.length : Int) - 1 - i).toNat = o.length - 1 - i := by omega
      have e4 : ((i : Nat) : Int).toNat = i := by omega
      rw [e3, e4]
      refine ih (i + 1) _ (by omega) (by omega) (by simp [hL]) (fun j hjl => ?_)
      have g1 : rd L ((o.length : Int) - 1 - i) = o[o.length - 1 - i]'(by omega) := by
        have := hj (o.length - 1 - i) (by omega)
        rw [if_neg (by omega)] at this
        unfold rd; rw [e3, List.getD_eq_getElem?_getD, this, List.getElem?_eq_getElem (by omega)]; rfl
      have g2 : rd L i = o[i]'(by omega) := by
        have := hj i (by omega)
        rw [if_neg (by omega)] at this
        unfold rd; rw [e4, List.getD_eq_getElem?_getD, this, List.getElem?_eq_getElem (by omega)]; rfl
      rw [g1, g2, List.getElem?_set, List.getElem?_set]
      by_cases ha : o.length - 1 - i = j
      · rw [if_pos ha, if_pos (by simp; omega), if_pos (by omega), List.getElem?_eq_getElem (by omega)]
        congr 2; omega
      · rw [if_neg ha]
        by_cases hb : i = j
        · rw [if_pos hb, if_pos (by omega), if_pos (by omega), List.getElem?_eq_getElem (by omega)]
          congr 2; omega
        · rw [if_neg hb, hj j hjl]
          by_cases hc : j < i ∨ o.length - i ≤ j
          · rw [if_pos hc, if_pos (by omega)]
          · rw [if_neg hc, if_neg (by omega)]
    · refine ?_
      have hz : o.length ≤ 2 * i + 1 := by omega
      refine Ev.step (fun k => by rw [varint_turned.l0]) ?_
      refine Ev.ifn hlt (Ev.ret ?_)
      apply List.ext_getElem?
      intro j
      by_cases hlt : j < o.length
      · rw [hj j hlt, List.getElem?_reverse hlt]
        split
        · rfl
        · have : j = o.length - 1 - j := by omega
          rw [← this]
      · rw [List.getElem?_eq_none (by omega), List.getElem?_eq_none (by simp; omega)]
theorem turn_ev (o : List Int) (hn : o.length ≤ 140737488351232) : Ev (fun k => varint_turned.f k o) o.reverse := by
  refine Ev.congr (fun k => by rw [varint_turned.f]) ?_
  rw [w64 (by omega) (by omega)]
  have := turn_loop o hn o.length 0 o (by omega) (by omega) rfl (fun j hj => by rw [if_neg (by omega)])
  simpa using this
end Go.Proofs.Ytbamdjfonfmbbaa.B
