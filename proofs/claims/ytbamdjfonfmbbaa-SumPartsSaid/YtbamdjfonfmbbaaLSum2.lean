/-
  Layer 8: sums of parts, a turned byte, noughts behind.
-/
import Derived.Test.YtbamdjfonfmbbaaLSum
import Derived.Test.YtbamdjfonfmbbaaMx3
namespace Go.Proofs.Ytbamdjfonfmbbaa.M
open Go Go.RowKit Go.Proofs.YtbamdjfonfmbbaaW.PrintWords Go.Proofs.YtbamdjfonfmbbaaW.PrintLast Go.Proofs.YtbamdjfonfmbbaaG

/-- One block of eight bytes. -/
def blk (l : List Int) (j : Nat) (ab : Int × Int) : Int × Int :=
  ((ab.1 + wordAt l (8 * j) + ab.2) % 4294967296, (ab.2 + wordAt l (8 * j + 4) + (ab.1 + wordAt l (8 * j) + ab.2) % 4294967296) % 4294967296)
/-- n blocks from block s on. -/
def run (l : List Int) : Nat → Nat → Int × Int → Int × Int
  | 0, _, ab => ab
  | n + 1, s, ab => run l n (s + 1) (blk l s ab)

theorem sums_run (l : List Int) : ∀ (n s : Nat) (ab : Int × Int), (l.length + 7) / 8 ≤ s + n → sums l n ((8 * s : Nat) : Int) ab = run l ((l.length + 7) / 8 - s) s ab
  | 0, s, ab, h => by
    have : (l.length + 7) / 8 - s = 0 := by omega
    rw [this]; rfl
  | n + 1, s, ab, h => by
    by_cases hlt : ((8 * s : Nat) : Int) < (l.length : Int)
    · have e : (l.length + 7) / 8 - s = ((l.length + 7) / 8 - (s + 1)) + 1 := by omega
      rw [e]
      simp only [sums, if_pos hlt, run]
      have ih := sums_run l n (s + 1) (blk l s ab) (by omega)
      rw [← ih]
      have e2 : ((8 * (s + 1) : Nat) : Int) = ((8 * s : Nat) : Int) + 8 := by omega
      rw [e2]
      simp [blk]
    · have : (l.length + 7) / 8 - s = 0 := by omega
      rw [this]
      simp only [sums, if_neg hlt, run]
theorem sumOf_run (l : List Int) (a b : Int) : sumOf a b l = run l ((l.length + 7) / 8) 0 (a, b) := by
  unfold sumOf
  have := sums_run l (l.length + 1) 0 (a, b) (by omega)
  simpa using this
theorem run_add (l : List Int) : ∀ (m n s : Nat) (ab : Int × Int), run l (m + n) s ab = run l n (s + m) (run l m s ab)
  | 0, n, s, ab => by simp [run]
  | m + 1, n, s, ab => by
    have e : m + 1 + n = (m + n) + 1 := by omega
    rw [e]; simp only [run]; rw [run_add l m n (s + 1)]
    have e2 : s + 1 + m = s + (m + 1) := by omega
    rw [e2]
/-- The same words, the same run. -/
theorem run_congr (l l' : List Int) : ∀ (n s s' : Nat) (ab : Int × Int), (∀ j, j < n → wordAt l (8 * (s + j : Nat)) = wordAt l' (8 * (s' + j : Nat)) ∧ wordAt l (8 * (s + j : Nat) + 4) = wordAt l' (8 * (s' + j : Nat) + 4)) → run l n s ab = run l' n s' ab
  | 0, s, s', ab, _ => rfl
  | n + 1, s, s', ab, h => by
    simp only [run]
    have h0 := h 0 (by omega)
    simp only [Nat.add_zero] at h0
    have : blk l s ab = blk l' s' ab := by simp only [blk, h0.1, h0.2]
    rw [this]
    exact run_congr l l' n (s + 1) (s' + 1) _ (fun j hj => by
      have := h (j + 1) (by omega)
      have e : s + (j + 1) = s + 1 + j := by omega
      have e' : s' + (j + 1) = s' + 1 + j := by omega
      rwa [e, e'] at this)

theorem rd_take (l : List Int) (n : Nat) (i : Int) (h : i.toNat < n) : rd (l.take n) i = rd l i := by
  unfold rd; simp [List.getD_eq_getElem?_getD, h]
theorem rd_drop (l : List Int) (n : Nat) (i : Int) (h : 0 ≤ i) : rd (l.drop n) i = rd l (n + i) := by
  unfold rd
  have : ((n : Int) + i).toNat = n + i.toNat := by omega
  simp [List.getD_eq_getElem?_getD, List.getElem?_drop, this]
theorem rd_zeros (l : List Int) (n : Nat) (i : Int) : rd (l ++ List.replicate n 0) i = rd l i := by
  unfold rd
  simp only [List.getD_eq_getElem?_getD]
  by_cases h : i.toNat < l.length
  · rw [List.getElem?_append_left h]
  · rw [List.getElem?_append_right (by omega), List.getElem?_eq_none (l := l) (by omega)]
    by_cases h2 : i.toNat - l.length < n
    · simp [h2]
    · rw [List.getElem?_eq_none (by simpa using h2)]
theorem rd_set (l : List Int) (c : Nat) (v : Int) (hc : c < l.length) (i : Int) (hi : 0 ≤ i) : rd (l.set c v) i = if i = c then v else rd l i := by
  unfold rd
  simp only [List.getD_eq_getElem?_getD, List.getElem?_set]
  by_cases h : i = c
  · subst h; simp [hc]
  · rw [if_neg h, if_neg (by omega)]

theorem sum_parts (l : List Int) (m : Nat) (h : 8 * m ≤ l.length) (a b : Int) :
    sumOf a b l = sumOf (sumOf a b (l.take (8 * m))).1 (sumOf a b (l.take (8 * m))).2 (l.drop (8 * m)) := by
  rw [sumOf_run l, sumOf_run (l.take _), sumOf_run (l.drop _)]
  have e1 : ((l.take (8 * m)).length + 7) / 8 = m := by rw [List.length_take]; omega
  have e2 : ((l.drop (8 * m)).length + 7) / 8 = (l.length + 7) / 8 - m := by rw [List.length_drop]; omega
  rw [e1, e2]
  have e3 : (l.length + 7) / 8 = m + ((l.length + 7) / 8 - m) := by omega
  conv => lhs; rw [e3, run_add]
  have r1 : run (l.take (8 * m)) m 0 (a, b) = run l m 0 (a, b) := run_congr _ _ _ _ _ _ (fun j hj => by
    constructor <;> simp only [wordAt] <;> rw [rd_take _ _ _ (by omega), rd_take _ _ _ (by omega), rd_take _ _ _ (by omega), rd_take _ _ _ (by omega)])
  rw [r1]
  refine run_congr _ _ _ _ _ _ (fun j hj => ?_)
  have k1 : (((8 * m : Nat) : Int) + 8 * ((0 + j : Nat) : Int)) = 8 * ((0 + m + j : Nat) : Int) := by omega
  constructor <;> simp only [wordAt] <;> rw [rd_drop _ _ _ (by omega), rd_drop _ _ _ (by omega), rd_drop _ _ _ (by omega), rd_drop _ _ _ (by omega)] <;> simp only [← Int.add_assoc, k1]

def Rg (ab : Int × Int) : Prop := (0 ≤ ab.1 ∧ ab.1 < 4294967296) ∧ 0 ≤ ab.2 ∧ ab.2 < 4294967296
theorem blk_rg (l : List Int) (j : Nat) (ab : Int × Int) : Rg (blk l j ab) := by unfold Rg blk; simp only; omega
theorem blk_inj (l l' : List Int) (j : Nat) (hw : wordAt l (8 * j) = wordAt l' (8 * j)) (hw' : wordAt l (8 * j + 4) = wordAt l' (8 * j + 4)) (p q : Int × Int) (hp : Rg p) (hq : Rg q) (h : blk l j p = blk l' j q) : p = q := by
  obtain ⟨⟨p1, p2⟩, p3, p4⟩ := hp; obtain ⟨⟨q1, q2⟩, q3, q4⟩ := hq
  unfold blk at h
  rw [hw, hw'] at h
  have h1 := congrArg Prod.fst h; have h2 := congrArg Prod.snd h
  simp only at h1 h2
  rw [h1] at h2
  generalize wordAt l' (8 * j) = x at *
  generalize wordAt l' (8 * j + 4) = y at *
  apply Prod.ext <;> omega
theorem run_inj (l l' : List Int) : ∀ (n s : Nat) (p q : Int × Int), (∀ j, s ≤ j → wordAt l (8 * j) = wordAt l' (8 * j) ∧ wordAt l (8 * j + 4) = wordAt l' (8 * j + 4)) → Rg p → Rg q → run l n s p = run l' n s q → p = q
  | 0, s, p, q, _, _, _, h => h
  | n + 1, s, p, q, hw, hp, hq, h => by
    simp only [run] at h
    have := run_inj l l' n (s + 1) _ _ (fun j hj => hw j (by omega)) (blk_rg _ _ _) (blk_rg _ _ _) h
    exact blk_inj l l' s (hw s (Nat.le_refl _)).1 (hw s (Nat.le_refl _)).2 p q hp hq this

theorem sum_turned (l : List Int) (hl : IsB l) (c : Nat) (v : Int) (hc : c < l.length) (hv : 0 ≤ v ∧ v < 256) (hne : v ≠ rd l c) (a b : Int) (ha : 0 ≤ a ∧ a < 4294967296) (hb : 0 ≤ b ∧ b < 4294967296) :
    sumOf a b (l.set c v) ≠ sumOf a b l := by
  intro h
  rw [sumOf_run, sumOf_run, List.length_set] at h
  obtain ⟨s, hs⟩ : ∃ s, s = c / 8 := ⟨_, rfl⟩
  have e : (l.length + 7) / 8 = s + (1 + ((l.length + 7) / 8 - s - 1)) := by omega
  rw [e, run_add, run_add, run_add, run_add] at h
  simp only [Nat.zero_add] at h
  have r1 : run (l.set c v) s 0 (a, b) = run l s 0 (a, b) := run_congr _ _ _ _ _ _ (fun j hj => by
    constructor <;> simp only [wordAt] <;> rw [rd_set _ _ _ hc _ (by omega), rd_set _ _ _ hc _ (by omega), rd_set _ _ _ hc _ (by omega), rd_set _ _ _ hc _ (by omega), if_neg (by omega), if_neg (by omega), if_neg (by omega), if_neg (by omega)])
  rw [r1] at h
  have hr : Rg (run l s 0 (a, b)) := by
    cases s with
    | zero => exact ⟨ha, hb⟩
    | succ s => rw [show s + 1 = s + 1 from rfl, run_add]; exact blk_rg _ _ _
  generalize run l s 0 (a, b) = p at h hr
  have h2 := run_inj (l.set c v) l _ (s + 1) _ _ (fun j hj => by
    constructor <;> simp only [wordAt] <;> rw [rd_set _ _ _ hc _ (by omega), rd_set _ _ _ hc _ (by omega), rd_set _ _ _ hc _ (by omega), rd_set _ _ _ hc _ (by omega), if_neg (by omega), if_neg (by omega), if_neg (by omega), if_neg (by omega)]) (blk_rg _ _ _) (blk_rg _ _ _) h
  simp only [blk] at h2
  have h3 := congrArg Prod.fst h2; have h4 := congrArg Prod.snd h2
  simp only at h3 h4
  rw [h3] at h4
  have hl' : IsB (l.set c v) := fun y hy => by
    rcases List.mem_or_eq_of_mem_set hy with hy | rfl
    · exact hl y hy
    · exact hv
  have b1 := wordAt_range hl (8 * s); have b2 := wordAt_range hl (8 * s + 4); have b3 := wordAt_range hl' (8 * s); have b4 := wordAt_range hl' (8 * s + 4)
  have w1 : wordAt (l.set c v) (8 * s) = wordAt l (8 * s) := by omega
  have w2 : wordAt (l.set c v) (8 * s + 4) = wordAt l (8 * s + 4) := by omega
  clear h h2 h3 h4 r1 hr b1 b2 b3 b4
  simp only [wordAt] at w1 w2
  rw [rd_set _ _ _ hc _ (by omega), rd_set _ _ _ hc _ (by omega), rd_set _ _ _ hc _ (by omega), rd_set _ _ _ hc _ (by omega)] at w1 w2
  have y0 := rd_byte hl (8 * s); have y1 := rd_byte hl (8 * s + 1); have y2 := rd_byte hl (8 * s + 2); have y3 := rd_byte hl (8 * s + 3)
  have y4 := rd_byte hl (8 * s + 4); have y5 := rd_byte hl (8 * s + 4 + 1); have y6 := rd_byte hl (8 * s + 4 + 2); have y7 := rd_byte hl (8 * s + 4 + 3)
  have hcases : c = 8 * s ∨ c = 8 * s + 1 ∨ c = 8 * s + 2 ∨ c = 8 * s + 3 ∨ c = 8 * s + 4 ∨ c = 8 * s + 4 + 1 ∨ c = 8 * s + 4 + 2 ∨ c = 8 * s + 4 + 3 := by omega
  clear e hs
  rcases hcases with h | h | h | h | h | h | h | h
  · rw [if_pos (by omega), if_neg (by omega), if_neg (by omega), if_neg (by omega)] at w1; rw [show (c : Int) = 8 * (s : Int) by omega] at hne; omega
  · rw [if_neg (by omega), if_pos (by omega), if_neg (by omega), if_neg (by omega)] at w1; rw [show (c : Int) = 8 * (s : Int) + 1 by omega] at hne; omega
  · rw [if_neg (by omega), if_neg (by omega), if_pos (by omega), if_neg (by omega)] at w1; rw [show (c : Int) = 8 * (s : Int) + 2 by omega] at hne; omega
  · rw [if_neg (by omega), if_neg (by omega), if_neg (by omega), if_pos (by omega)] at w1; rw [show (c : Int) = 8 * (s : Int) + 3 by omega] at hne; omega
  · rw [if_pos (by omega), if_neg (by omega), if_neg (by omega), if_neg (by omega)] at w2; rw [show (c : Int) = 8 * (s : Int) + 4 by omega] at hne; omega
  · rw [if_neg (by omega), if_pos (by omega), if_neg (by omega), if_neg (by omega)] at w2; rw [show (c : Int) = 8 * (s : Int) + 4 + 1 by omega] at hne; omega
  · rw [if_neg (by omega), if_neg (by omega), if_pos (by omega), if_neg (by omega)] at w2; rw [show (c : Int) = 8 * (s : Int) + 4 + 2 by omega] at hne; omega
  · rw [if_neg (by omega), if_neg (by omega), if_neg (by omega), if_pos (by omega)] at w2; rw [show (c : Int) = 8 * (s : Int) + 4 + 3 by omega] at hne; omega

theorem sum_zeros (l : List Int) (n : Nat) (hn : (l.length + n + 7) / 8 = (l.length + 7) / 8) (a b : Int) : sumOf a b (l ++ List.replicate n 0) = sumOf a b l := by
  rw [sumOf_run, sumOf_run, List.length_append, List.length_replicate, hn]
  refine run_congr _ _ _ _ _ _ (fun j hj => ?_)
  constructor <;> simp only [wordAt] <;> rw [rd_zeros, rd_zeros, rd_zeros, rd_zeros]

theorem within_some (a m : Int) (h0 : 0 < m) (h1 : m < 9223372036854775808) : ∃ r, cadastrelaw0_Within.f a m = some r ∧ 0 ≤ r ∧ r < m := by
  have e : IntKind.u64.wrap m = m := by rw [wrap_u64]; omega
  have hp : 0 ≤ IntKind.u64.wrap a := by rw [wrap_u64]; omega
  have e2 : Int.tmod (IntKind.u64.wrap a) m = IntKind.u64.wrap a % m := Int.tmod_eq_emod_of_nonneg hp
  refine ⟨IntKind.u64.wrap a % m, ?_, Int.emod_nonneg _ (by omega), Int.emod_lt_of_pos _ h0⟩
  unfold cadastrelaw0_Within.f
  rw [e, if_neg (by omega), e2, w64 (by have := Int.emod_nonneg (IntKind.u64.wrap a) (b := m) (by omega); omega) (by have := Int.emod_lt_of_pos (IntKind.u64.wrap a) h0; omega)]
theorem xor_turns {x y : Int} (hx : 0 ≤ x ∧ x < 256) (hy : 0 < y ∧ y < 256) : (0 ≤ bits .xor .u8 x y ∧ bits .xor .u8 x y < 256) ∧ bits .xor .u8 x y ≠ x := by
  rw [u8_xor x y hx.1 hx.2 (by omega) hy.2]
  have h1 : x.toNat ^^^ y.toNat < 2 ^ 8 := Nat.xor_lt_two_pow (by omega) (by omega)
  refine ⟨by omega, fun h => ?_⟩
  have h2 : x.toNat ^^^ y.toNat = x.toNat := by omega
  have h3 : y.toNat = 0 := by
    have := congrArg (x.toNat ^^^ ·) h2
    simpa [← Nat.xor_assoc] using this
  omega
end Go.Proofs.Ytbamdjfonfmbbaa.M
