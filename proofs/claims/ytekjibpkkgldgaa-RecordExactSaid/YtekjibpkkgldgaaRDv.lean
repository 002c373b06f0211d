/-
  Layer 6: a value's bytes and their reading, in plain lists; what the printed functions that read a value come to.
-/
import Derived.Test.YtekjibpkkgldgaaREnc
import Derived.Test.YtekjibpkkgldgaaRVg
namespace Go.Proofs.Ytekjibpkkgldgaa.R
open Go Go.AX

/-! ### integers -/
def sx (c : Int) : Int := if c < 128 then c else c - 256
def numF (x : Int) (cs : List Int) : Int := cs.foldl (fun x c => x * 256 + c) x
def num : List Int → Int
  | [] => 0
  | c :: cs => numF (sx c) cs
theorem num_snoc (bs : List Int) (h : bs ≠ []) (c : Int) : num (bs ++ [c]) = num bs * 256 + c := by
  cases bs with
  | nil => exact absurd rfl h
  | cons a r => simp [num, numF]
theorem p256 : ∀ m : Nat, (0 : Int) < 256 ^ m
  | 0 => by decide
  | m + 1 => by rw [Int.pow_succ]; have := p256 m; omega
theorem p256_le {n : Nat} (h : n ≤ 7) : (256 : Int) ^ n ≤ 72057594037927936 := by
  have h8 : ∀ m : Fin 8, (256 : Int) ^ m.val ≤ 72057594037927936 := by decide
  exact h8 ⟨n, by omega⟩
theorem numF_range : ∀ (cs : List Int) (m : Nat) (x : Int), IsB cs → -(128 * 256 ^ m) ≤ x → x < 128 * 256 ^ m → -(128 * 256 ^ (m + cs.length)) ≤ numF x cs ∧ numF x cs < 128 * 256 ^ (m + cs.length)
  | [], m, x, _, h1, h2 => by simpa [numF] using ⟨h1, h2⟩
  | c :: cs, m, x, hb, h1, h2 => by
    have hc := hb c List.mem_cons_self
    have := numF_range cs (m + 1) (x * 256 + c) (fun y hy => hb y (List.mem_cons_of_mem _ hy)) (by rw [Int.pow_succ]; omega) (by rw [Int.pow_succ]; omega)
    simp only [numF, List.foldl_cons, List.length_cons] at this ⊢
    rw [show m + (cs.length + 1) = m + 1 + cs.length by omega]; exact this
theorem bl_shift (m : Nat) (hm : m ≤ 7) (x : Int) : Int.fdiv x (2 ^ (min (8 * ((m : Nat) : Int)).toNat 64)) = x / 256 ^ m := by
  have e : (2 : Int) ^ (min (8 * ((m : Nat) : Int)).toNat 64) = 256 ^ m := by
    rw [show min (8 * ((m : Nat) : Int)).toNat 64 = 8 * m by omega, Int.pow_mul]; rfl
  rw [e, Int.fdiv_eq_ediv_of_nonneg _ (Int.le_of_lt (p256 m))]
theorem bl_snoc : ∀ (m : Nat) (x : Int), m ≤ 7 → bl (m + 1) x = bl m (x / 256) ++ [x % 256]
  | 0, x, _ => by
    simp only [bl]
    rw [bl_shift 0 (by omega)]; simp [IntKind.wrap_u8]
  | m + 1, x, h => by
    have e : ∀ y, bl (m + 1 + 1) y = IntKind.u8.wrap (y / 256 ^ (m + 1)) :: bl (m + 1) y := fun y => by
      show IntKind.u8.wrap (Int.fdiv y (2 ^ (min (8 * ((m + 1 : Nat) : Int)).toNat 64))) :: bl (m + 1) y = _
      rw [bl_shift (m + 1) h]
    have e2 : ∀ y, bl (m + 1) y = IntKind.u8.wrap (y / 256 ^ m) :: bl m y := fun y => by
      show IntKind.u8.wrap (Int.fdiv y (2 ^ (min (8 * ((m : Nat) : Int)).toNat 64))) :: bl m y = _
      rw [bl_shift m (by omega)]
    rw [e, bl_snoc m x (by omega), e2 (x / 256), List.cons_append]
    congr 2
    rw [Int.pow_succ, Int.mul_comm, Int.ediv_ediv_of_nonneg (by omega)]
theorem bl_num : ∀ (n : Nat) (bs : List Int), bs.length = n + 1 → n ≤ 7 → IsB bs → bl (n + 1) (num bs) = bs
  | 0, bs, h, _, hb => by
    obtain ⟨c, rfl⟩ := List.length_eq_one_iff.1 h
    have hc := hb c (by simp)
    simp only [bl, num, numF, List.foldl_nil]
    rw [bl_shift 0 (by omega), IntKind.wrap_u8]
    unfold sx
    split <;> simp <;> omega
  | n + 1, bs, h, hn, hb => by
    have hne : bs ≠ [] := fun e => by rw [e] at h; simp at h
    obtain ⟨r, c, rfl⟩ : ∃ r c, bs = r ++ [c] := ⟨bs.dropLast, bs.getLast hne, (List.dropLast_concat_getLast hne).symm⟩
    have hr : r.length = n + 1 := by simpa using h
    have hc := hb c (by simp)
    rw [num_snoc r (fun e => by rw [e] at hr; simp at hr) c, bl_snoc (n + 1) _ (by omega), show (num r * 256 + c) / 256 = num r by omega, show (num r * 256 + c) % 256 = c by omega, bl_num n r hr (by omega) fun y hy => hb y (by simp [hy])]
theorem num_bl : ∀ (n : Nat) (x : Int), n ≤ 7 → -(128 * 256 ^ n) ≤ x → x < 128 * 256 ^ n → num (bl (n + 1) x) = x
  | 0, x, _, h1, h2 => by
    simp only [bl, num, numF, List.foldl_nil]
    rw [bl_shift 0 (by omega), IntKind.wrap_u8]
    unfold sx
    simp at h1 h2 ⊢
    split <;> omega
  | n + 1, x, hn, h1, h2 => by
    rw [Int.pow_succ] at h1 h2
    rw [bl_snoc (n + 1) x (by omega), num_snoc _ (fun e => by have := bl_length (n + 1) (x / 256); rw [e] at this; simp at this), num_bl n (x / 256) (by omega) (by omega) (by omega)]; omega
theorem bl_byte : ∀ (m : Nat) (x : Int), IsB (bl m x)
  | 0, _ => by simp [bl, IsB]
  | m + 1, x => by
    intro y hy
    simp only [bl, List.mem_cons] at hy
    rcases hy with rfl | hy
    · rw [IntKind.wrap_u8]; omega
    · exact bl_byte m x y hy
theorem orx {x c : Int} (h1 : -36028797018963968 ≤ x) (h2 : x < 36028797018963968) (hc : 0 ≤ c) (hc1 : c < 256) :
    IntKind.i64.wrap ((BitVec.ofInt (IntKind.i64).bits (IntKind.i64.wrap (x * 2 ^ (min (8 : Int).toNat (IntKind.i64).bits))) ||| BitVec.ofInt (IntKind.i64).bits (IntKind.i64.wrap c)).toNat : Int) = x * 256 + c := by
  have e : x * 2 ^ (min (8 : Int).toNat (IntKind.i64).bits) = x * 256 := by rw [show (2 : Int) ^ (min (8 : Int).toNat (IntKind.i64).bits) = 256 by decide]
  rw [e, w64 (x := x * 256) (by omega) (by omega), w64 (x := c) (by omega) (by omega)]
  have hX : BitVec.ofInt 64 (x * 256) = BitVec.ofInt 64 (x * 256 % 18446744073709551616) := by
    apply BitVec.eq_of_toNat_eq
    rw [BitVec.toNat_ofInt, BitVec.toNat_ofInt]
    congr 1
    omega
  have hj := or_u64 (x := x * 256 % 18446744073709551616) (y := c) 8 (by omega) (by omega) (by omega) hc (by omega) (by omega)
  have hw : bits .or .u64 (x * 256 % 18446744073709551616) c = IntKind.u64.wrap ((BitVec.ofInt 64 (x * 256 % 18446744073709551616) ||| BitVec.ofInt 64 c).toNat : Int) := rfl
  rw [hw, wrap_u64] at hj
  have hlt : (BitVec.ofInt 64 (x * 256 % 18446744073709551616) ||| BitVec.ofInt 64 c).toNat < 18446744073709551616 := (BitVec.ofInt 64 (x * 256 % 18446744073709551616) ||| BitVec.ofInt 64 c).isLt
  show IntKind.i64.wrap ((BitVec.ofInt 64 (x * 256) ||| BitVec.ofInt 64 c).toNat : Int) = _
  rw [hX]
  generalize (BitVec.ofInt 64 (x * 256 % 18446744073709551616) ||| BitVec.ofInt 64 c).toNat = q at hj hlt
  rw [IntKind.wrap_i64]
  omega
theorem sx_eq {c : Int} (h0 : 0 ≤ c) (h1 : c < 256) : IntKind.i64.wrap (IntKind.i8.wrap c) = sx c := by
  rw [wrap_i8, IntKind.wrap_i64]; unfold sx; split <;> omega

/-! ### texts -/
theorem str_bytes {l : List Int} (h : IsB l) : bytesOf (strOfNums l) = l := by
  unfold bytesOf
  rw [strOfNums_data, List.map_map]
  conv => rhs; rw [← List.map_id l]
  apply List.map_congr_left
  intro y hy
  have := h y hy
  simp only [Function.comp, id, UInt8.toNat_ofNat']
  omega
theorem bytes_str (s : ByteArray) : strOfNums (bytesOf s) = s := by
  unfold strOfNums bytesOf
  rw [List.map_map]
  have : (List.map ((fun n : Int => UInt8.ofNat n.toNat) ∘ fun b : UInt8 => (b.toNat : Int)) s.data.toList) = s.data.toList := by
    conv => rhs; rw [← List.map_id s.data.toList]
    apply List.map_congr_left
    intro y _
    simp
  rw [this]
theorem bytesOf_byte (s : ByteArray) : IsB (bytesOf s) := by
  intro y hy
  unfold bytesOf at hy
  obtain ⟨b, _, rfl⟩ := List.mem_map.1 hy
  have := b.toNat_lt
  omega

/-! ### a value's reading -/
def val (t : Int) (r : List Int) : Option (S44 × List Int) :=
  if t = 0 then some (vnull, r) else if t = 5 ∨ t = 6 then some (vint (t - 5), r) else
  if t ≤ 4 then (if r.length < wid t then none else some (vint (num (r.take (wid t))), r.drop (wid t))) else
  if t < 12 ∨ 8205 < t then none else if r.length < ((t - 12) / 2).toNat then none else some (⟨3 - t % 2, 0, strOfNums (r.take ((t - 12) / 2).toNat)⟩, r.drop ((t - 12) / 2).toNat)
def takev (t : Int) (r : List Int) : Option (S44 × List Int) := (val t r).bind fun p => if kindv p.1 = t then some p else none

theorem wid_pos {t : Int} (h1 : 1 ≤ t) (h2 : t ≤ 4) : ∃ n, wid t = n + 1 ∧ n ≤ 7 := by
  have : t = 1 ∨ t = 2 ∨ t = 3 ∨ t = 4 := by omega
  rcases this with rfl | rfl | rfl | rfl
  · exact ⟨0, rfl, by omega⟩
  · exact ⟨1, rfl, by omega⟩
  · exact ⟨3, rfl, by omega⟩
  · exact ⟨7, rfl, by omega⟩
/-- What is read is a value; its bytes are those that were read. -/
theorem val_says {t : Int} (ht : 0 ≤ t) {r r' : List Int} (hr : IsB r) {v : S44} (h : val t r = some (v, r')) : good v = true ∧ vok v ∧ IsB r' ∧ (∃ n, n ≤ r.length ∧ r' = r.drop n) ∧ (kindv v = t → r = bodyv v ++ r') := by
  unfold val at h
  have hd : ∀ n, IsB (r.drop n) := fun n y hy => hr y (List.mem_of_mem_drop hy)
  by_cases t0 : t = 0
  · rw [if_pos t0] at h; cases h
    exact ⟨rfl, ⟨by decide, by decide, by decide⟩, hr, ⟨0, by omega, rfl⟩, fun _ => rfl⟩
  rw [if_neg t0] at h
  by_cases t56 : t = 5 ∨ t = 6
  · rw [if_pos t56] at h; cases h
    refine ⟨good_vint _, ⟨by simp only [vint]; omega, by simp only [vint]; omega, Nat.zero_le 140737488351232⟩, hr, ⟨0, by omega, rfl⟩, fun _ => ?_⟩
    rcases t56 with rfl | rfl <;> rfl
  rw [if_neg t56] at h
  by_cases t4 : t ≤ 4
  · rw [if_pos t4] at h
    split at h
    · cases h
    · rename_i hl
      cases h
      obtain ⟨n, hw, hn⟩ := wid_pos (show 1 ≤ t by omega) t4
      have hlt : (r.take (wid t)).length = n + 1 := by rw [List.length_take, hw]; omega
      have hbt : IsB (r.take (wid t)) := fun y hy => hr y (List.mem_of_mem_take hy)
      have hrange : -(128 * 256 ^ n) ≤ num (r.take (wid t)) ∧ num (r.take (wid t)) < 128 * 256 ^ n := by
        cases hq : r.take (wid t) with
        | nil => rw [hq] at hlt; simp at hlt
        | cons c cs =>
          rw [hq] at hlt hbt
          have hc := hbt c (by simp)
          have := numF_range cs 0 (sx c) (fun y hy => hbt y (by simp [hy])) (by unfold sx; simp; split <;> omega) (by unfold sx; simp; split <;> omega)
          simp only [List.length_cons, Nat.add_right_cancel_iff] at hlt
          rw [Nat.zero_add, hlt] at this; exact this
      have hp := p256_le hn
      refine ⟨good_vint _, ⟨by simp only [vint]; omega, by simp only [vint]; omega, Nat.zero_le 140737488351232⟩, hd _, ⟨_, by omega, rfl⟩, fun hk => ?_⟩
      have hbl := bl_num n (r.take (wid t)) hlt hn hbt
      have : bodyv (vint (num (r.take (wid t)))) = r.take (wid t) := by
        unfold bodyv
        rw [if_pos (show (vint (num (r.take (wid t)))).f0 = 1 from rfl), hk]
        show bl (wid t) (num (r.take (wid t))) = r.take (wid t)
        rw [← hw] at hbl; exact hbl
      rw [this, List.take_append_drop]
  rw [if_neg t4] at h
  split at h
  · cases h
  split at h
  · cases h
  rename_i ht12 hl
  cases h
  have hbt : IsB (r.take ((t - 12) / 2).toNat) := fun y hy => hr y (List.mem_of_mem_take hy)
  have hsz : (strOfNums (r.take ((t - 12) / 2).toNat)).size = ((t - 12) / 2).toNat := by rw [strOfNums_size, List.length_take]; omega
  refine ⟨?_, ⟨by simp, by simp, by simp only [hsz]; omega⟩, hd _, ⟨_, by omega, rfl⟩, fun _ => ?_⟩
  · unfold good
    simp only [hsz]
    rw [if_neg (by omega), if_neg (by omega), if_pos (by omega)]
    simp; omega
  · have : bodyv (⟨3 - t % 2, 0, strOfNums (r.take ((t - 12) / 2).toNat)⟩ : S44) = r.take ((t - 12) / 2).toNat := by
      unfold bodyv
      rw [if_neg (by simp only; omega)]; exact str_bytes hbt
    rw [this, List.take_append_drop]
theorem takev_says {t : Int} (ht : 0 ≤ t) {r r' : List Int} (hr : IsB r) {v : S44} (h : takev t r = some (v, r')) : kindv v = t ∧ r = bodyv v ++ r' ∧ good v = true ∧ vok v ∧ IsB r' := by
  unfold takev at h
  cases hv : val t r with
  | none => rw [hv] at h; cases h
  | some p =>
    rw [hv, some_bind] at h
    split at h
    · rename_i hk
      cases h
      obtain ⟨h1, h2, h3, _, h4⟩ := val_says ht hr hv
      exact ⟨hk, h4 hk, h1, h2, h3⟩
    · cases h
theorem takev_body {v : S44} (hg : good v = true) (hv : vok v) (s : List Int) : takev (kindv v) (bodyv v ++ s) = some (v, s) := by
  have key : val (kindv v) (bodyv v ++ s) = some (v, s) := by
    unfold val
    rcases good_says hg with ⟨a0, b0, hs⟩ | ⟨a1, hs⟩ | ⟨a23, b0, hs⟩
    · have hk : kindv v = 0 := by unfold kindv; rw [if_pos a0]
      have hb : bodyv v = [] := List.eq_nil_of_length_eq_zero (by unfold bodyv; rw [if_neg (by omega), bytesOf_length]; exact hs)
      have : v = vnull := by cases v; simp only at a0 b0 hs; rw [a0, b0, empty_of_size hs]; rfl
      rw [hk, if_pos rfl, hb, List.nil_append, this]
    · have hvi := good1 hg a1
      have hb : bodyv v = bl (wid (kindv v)) v.f1 := by unfold bodyv; rw [if_pos a1]
      have hk : 1 ≤ kindv v ∧ kindv v ≤ 6 := by rcases kindv_cases hg with ⟨_, h⟩ | ⟨h, _⟩ | ⟨h, _⟩ <;> omega
      rw [if_neg (by omega)]
      by_cases k56 : kindv v = 5 ∨ kindv v = 6
      · rw [if_pos k56, hb]
        have hf : v.f1 = kindv v - 5 := by
          unfold kindv at k56 ⊢
          rw [if_neg (show ¬ v.f0 = 0 by omega), if_neg (show ¬ v.f0 = 3 by omega), if_neg (show ¬ v.f0 = 2 by omega)] at k56 ⊢
          by_cases c0 : v.f1 = 0
          · rw [if_pos c0, c0]; rfl
          by_cases c1 : v.f1 = 1
          · rw [if_neg c0, if_pos c1, c1]; rfl
          · rw [if_neg c0, if_neg c1] at k56
            exfalso
            revert k56
            repeat' split
            all_goals omega
        have hw : wid (kindv v) = 0 := by rcases k56 with e | e <;> rw [e] <;> rfl
        rw [hw, ← hf]
        simp only [bl, List.nil_append]
        rw [← hvi]
      · rw [if_neg k56, if_pos (by omega), hb]
        obtain ⟨n, hw, hn⟩ := wid_pos (show 1 ≤ kindv v by omega) (by omega)
        have hrange : -(128 * 256 ^ n) ≤ v.f1 ∧ v.f1 < 128 * 256 ^ n := by
          have h1 := hv.1
          have h2 := hv.2.1
          unfold kindv at hw k56 hk
          rw [if_neg (show ¬ v.f0 = 0 by omega), if_neg (show ¬ v.f0 = 3 by omega), if_neg (show ¬ v.f0 = 2 by omega)] at hw k56 hk
          by_cases c0 : v.f1 = 0
          · rw [if_pos c0] at k56; exact absurd (.inl rfl) k56
          by_cases c1 : v.f1 = 1
          · rw [if_neg c0, if_pos c1] at k56; exact absurd (.inr rfl) k56
          rw [if_neg c0, if_neg c1] at hw
          by_cases d1 : -128 ≤ v.f1 ∧ v.f1 < 128
          · rw [if_pos d1] at hw
            have : n = 0 := by have e : wid 1 = 1 := rfl; omega
            subst this; simpa using d1
          rw [if_neg d1] at hw
          by_cases d2 : -32768 ≤ v.f1 ∧ v.f1 < 32768
          · rw [if_pos d2] at hw
            have : n = 1 := by have e : wid 2 = 2 := rfl; omega
            subst this; exact ⟨by have := d2.1; omega, by have := d2.2; omega⟩
          rw [if_neg d2] at hw
          by_cases d3 : -2147483648 ≤ v.f1 ∧ v.f1 < 2147483648
          · rw [if_pos d3] at hw
            have : n = 3 := by have e : wid 3 = 4 := rfl; omega
            subst this; exact ⟨by have := d3.1; omega, by have := d3.2; omega⟩
          · rw [if_neg d3] at hw
            have : n = 7 := by have e : wid 4 = 8 := rfl; omega
            subst this; exact ⟨by omega, by omega⟩
        have hlen := bl_length (wid (kindv v)) v.f1
        rw [if_neg (by rw [List.length_append]; omega), List.take_append_of_le_length (by omega), List.take_of_length_le (by omega), List.drop_append_of_le_length (by omega), List.drop_of_length_le (by omega), List.nil_append]
        rw [hw, num_bl n _ hn hrange.1 hrange.2, ← hvi]
    · have hb : bodyv v = bytesOf v.f2 := by unfold bodyv; rw [if_neg (by omega)]
      have hk : (v.f0 = 3 ∧ kindv v = 12 + 2 * (v.f2.size : Int)) ∨ (v.f0 = 2 ∧ kindv v = 13 + 2 * (v.f2.size : Int)) := by
        unfold kindv
        rw [if_neg (by omega)]
        by_cases a3 : v.f0 = 3
        · rw [if_pos a3]; exact .inl ⟨a3, rfl⟩
        · rw [if_neg a3, if_pos (by omega)]; exact .inr ⟨by omega, rfl⟩
      have hn : ((kindv v - 12) / 2).toNat = v.f2.size := by rcases hk with ⟨_, e⟩ | ⟨_, e⟩ <;> rw [e] <;> omega
      have hlen := bytesOf_length v.f2
      rw [if_neg (by omega), if_neg (by omega), if_neg (by omega), if_neg (by omega), hn, hb, if_neg (by rw [List.length_append]; omega), List.take_append_of_le_length (by omega), List.take_of_length_le (by omega), List.drop_append_of_le_length (by omega), List.drop_of_length_le (by omega), List.nil_append, bytes_str]
      have hf0 : 3 - kindv v % 2 = v.f0 := by rcases hk with ⟨e1, e⟩ | ⟨e1, e⟩ <;> rw [e, e1] <;> omega
      rw [hf0]
      congr 2
      cases v; simp only at b0; rw [b0]
  unfold takev
  rw [key, some_bind, if_pos rfl]
end Go.Proofs.Ytekjibpkkgldgaa.R
