/-
  Layer 1: a number's bytes, whatever stands behind, are read as it; no beginning of them is.
-/
import Derived.Test.YtbamdjfonfmbbaaBLVar2
namespace Go.Proofs.Ytbamdjfonfmbbaa.B
open Go Go.RowKit Go.Proofs.YtbamdjfonfmbbaaW.PrintWords Go.Proofs.YtbamdjfonfmbbaaW.PrintLast Go.Proofs.YtbamdjfonfmbbaaW.PrintMore Go.Proofs.YtbamdjfonfmbbaaG

theorem rd_left {a r : List Int} {i : Nat} (h : i < a.length) : rd (a ++ r) i = rd a i := by
  unfold rd; simp only [List.getD_eq_getElem?_getD]
  rw [List.getElem?_append_left (by omega)]
theorem V_left (a r : List Int) : ∀ i, i ≤ a.length → V (a ++ r) i = V a i
  | 0, _ => rfl
  | i + 1, h => by simp only [V]; rw [V_left a r i (by omega), rd_left (by omega)]
theorem V_take (a : List Int) (n : Nat) : ∀ i, i ≤ n → V (a.take n) i = V a i
  | 0, _ => rfl
  | i + 1, h => by
    have : rd (a.take n) (i : Nat) = rd a (i : Nat) := by
      unfold rd; simp only [List.getD_eq_getElem?_getD]; rw [List.getElem?_take_of_lt (by omega)]
    simp only [V]; rw [V_take a n i (by omega), this]
theorem rd_last (a : List Int) (d : Int) (r : List Int) : rd (a ++ [d] ++ r) (a.length : Nat) = d := by
  unfold rd; simp
theorem V_hi : ∀ (f : Nat) (m : Int), 0 ≤ m → m < 128 ^ f → V (hi f m) (hi f m).length = m
  | 0, m, h0, h1 => by simp at h1; simp [hi, V]; omega
  | f + 1, m, h0, h1 => by
    rw [Int.pow_succ] at h1
    simp only [hi]
    split
    · simp [V]; omega
    · have ih := V_hi f (m / 128) (by omega) (by omega)
      rw [List.length_append, List.length_singleton]
      simp only [V]
      rw [V_left _ _ _ (Nat.le_refl _), ih]
      have := rd_last (hi f (m / 128)) (m % 128 + 128) []
      rw [List.append_nil] at this
      rw [this]; omega
theorem V_grp : ∀ (f : Nat) (m : Int), 0 ≤ m → m < 128 ^ f → V (grp f m) f = m
  | 0, m, h0, h1 => by simp at h1; simp [V]; omega
  | f + 1, m, h0, h1 => by
    rw [Int.pow_succ] at h1
    have ih := V_grp f (m / 128) (by omega) (by omega)
    have hl := grp_length f (m / 128)
    simp only [grp, V]
    rw [V_left _ _ _ (by omega), ih]
    have := rd_last (grp f (m / 128)) (m % 128 + 128) []
    rw [List.append_nil, hl] at this
    rw [this]; omega

theorem gs_skip (l : List Int) : ∀ (d f i : Nat), i + d ≤ l.length → i + d ≤ 8 → (∀ j, i ≤ j → j < i + d → 128 ≤ rd l (j : Nat)) → gs l (f + d) i = gs l f (i + d)
  | 0, f, i, _, _, _ => rfl
  | d + 1, f, i, h1, h2, hb => by
    have e : f + (d + 1) = (f + d) + 1 := by omega
    rw [e]
    have : gs l (f + d + 1) i = gs l (f + d) (i + 1) := by
      conv => lhs; unfold gs
      rw [if_neg (by omega), if_neg (by omega), if_pos (hb i (Nat.le_refl _) (by omega))]
    rw [this, gs_skip l d f (i + 1) (by omega) (by omega) (fun j h3 h4 => hb j (by omega) (by omega))]
    congr 1; omega

/-- All bytes but the last one of a number's bytes: so many, with the number's groups. -/
theorem put_parts (n : Int) (h0 : 0 ≤ n) (h1 : n < 18446744073709551616) :
    (n < 72057594037927936 ∧ ∃ h : List Int, put n = h ++ [n % 128] ∧ h.length ≤ 7 ∧ (∀ y ∈ h, 128 ≤ y) ∧ V h h.length = n / 128 ∧ n < 128 ^ (h.length + 1) ∧ (1 ≤ h.length → 128 ^ h.length ≤ n)) ∨
    (72057594037927936 ≤ n ∧ ∃ h : List Int, put n = h ++ [n % 256] ∧ h.length = 8 ∧ (∀ y ∈ h, 128 ≤ y) ∧ V h 8 = n / 256) := by
  by_cases hb : 72057594037927936 ≤ n
  · right
    refine ⟨hb, grp 8 (n / 256), by unfold put; rw [if_pos hb], grp_length _ _, fun y hy => (grp_byte _ _ y hy).1, V_grp 8 _ (by omega) ?_⟩
    have h8 : (128 : Int) ^ 8 = 72057594037927936 := by decide
    omega
  · left
    have h7 : (128 : Int) ^ 7 = 562949953421312 := by decide
    have h9 : (128 : Int) ^ 9 = 9223372036854775808 := by decide
    have hl := hi_length_le 9 7 (n / 128) (by omega) (by omega)
    refine ⟨by omega, hi 9 (n / 128), by unfold put; rw [if_neg hb], hl, fun y hy => (hi_byte _ _ y hy).1, V_hi 9 _ (by omega) (by omega), ?_, ?_⟩
    · have hv := V_hi 9 (n / 128) (by omega) (by omega)
      have hr := V_range (hi 9 (n / 128)) (hi 9 (n / 128)).length
      rw [hv] at hr
      rw [Int.pow_succ]
      omega
    · intro hs
      obtain ⟨s, hs'⟩ : ∃ s, (hi 9 (n / 128)).length = s + 1 := ⟨(hi 9 (n / 128)).length - 1, by omega⟩
      rw [hs', Int.pow_succ]
      by_cases hc : n / 128 < 128 ^ s
      · have := hi_length_le 9 s (n / 128) (by omega) hc
        omega
      · omega
theorem get_put (n : Int) (h0 : 0 ≤ n) (h1 : n < 18446744073709551616) (r : List Int) : gs (put n ++ r) 9 0 = (n, ((put n).length : Int), 0) := by
  rcases put_parts n h0 h1 with ⟨hn, h, e, hl, hb, hv, hlt, hge⟩ | ⟨hn, h, e, hl, hb, hv⟩
  · rw [e]
    have hrd : ∀ j, j < h.length → 128 ≤ rd (h ++ [n % 128] ++ r) (j : Nat) := fun j hj => by
      rw [rd_left (by simp; omega), rd_left hj, rd_get h j hj]; exact hb _ (List.getElem_mem hj)
    have e9 : 9 = (9 - h.length) + h.length := by omega
    have := gs_skip (h ++ [n % 128] ++ r) h.length (9 - h.length) 0 (by rw [List.length_append, List.length_append]; omega) (by omega) (fun j _ hj => hrd j (by omega))
    rw [← e9, Nat.zero_add] at this
    rw [this]
    obtain ⟨f, hf⟩ : ∃ f, 9 - h.length = f + 1 := ⟨8 - h.length, by omega⟩
    rw [hf]
    have hlast := rd_last h (n % 128) r
    have hV : V (h ++ [n % 128] ++ r) (h.length + 1) = n := by
      simp only [V]
      rw [List.append_assoc, V_left _ _ _ (Nat.le_refl _), hv, ← List.append_assoc, hlast]; omega
    simp only [gs]
    rw [if_neg (by simp), if_neg (by omega), hlast, if_neg (by omega), hV, if_neg (fun hc => by have := hge hc.1; omega)]
    simp
  · rw [e]
    have hrd : ∀ j, j < h.length → 128 ≤ rd (h ++ [n % 256] ++ r) (j : Nat) := fun j hj => by
      rw [rd_left (by simp; omega), rd_left hj, rd_get h j hj]; exact hb _ (List.getElem_mem hj)
    have := gs_skip (h ++ [n % 256] ++ r) 8 1 0 (by simp; omega) (by omega) (fun j _ hj => hrd j (by omega))
    rw [Nat.zero_add] at this
    rw [show (9 : Nat) = 1 + 8 from rfl, this]
    have hlast := rd_last h (n % 256) r
    rw [hl] at hlast
    have hV : V (h ++ [n % 256] ++ r) 8 = n / 256 := by rw [List.append_assoc, V_left _ _ _ (by omega), hv]
    have hlast' : rd (h ++ [n % 256] ++ r) 8 = n % 256 := hlast
    simp only [gs]
    rw [if_neg (by simp; omega), if_pos trivial, hV, hlast', if_neg (by omega)]
    simp [hl]; omega
theorem get_begin (n : Int) (h0 : 0 ≤ n) (h1 : n < 18446744073709551616) (j : Nat) (hj : j < (put n).length) : gs ((put n).take j) 9 0 = (0, 0, 1) := by
  obtain ⟨h, d, e, hl, hb⟩ : ∃ (h : List Int) (d : Int), put n = h ++ [d] ∧ h.length ≤ 8 ∧ ∀ y ∈ h, 128 ≤ y := by
    rcases put_parts n h0 h1 with ⟨hn, h, e, hl, hb, _⟩ | ⟨hn, h, e, hl, hb, hv⟩
    · exact ⟨h, _, e, by omega, hb⟩
    · exact ⟨h, _, e, by omega, hb⟩
  rw [e] at hj ⊢
  rw [List.length_append, List.length_singleton] at hj
  rw [List.take_append_of_le_length (by omega)]
  have hlen : (h.take j).length = j := by rw [List.length_take]; omega
  have hrd : ∀ i, i < j → 128 ≤ rd (h.take j) (i : Nat) := fun i hi => by
    rw [rd_get _ i (by omega)]; exact hb _ (List.mem_of_mem_take (List.getElem_mem _))
  have := gs_skip (h.take j) j (9 - j) 0 (by omega) (by omega) (fun i _ hi => hrd i (by omega))
  rw [Nat.zero_add, show 9 - j + j = 9 by omega] at this
  rw [this]
  obtain ⟨f, hf⟩ : ∃ f, 9 - j = f + 1 := ⟨8 - j, by omega⟩
  rw [hf]; simp only [gs]; rw [if_pos hlen.symm]
/-- How many bytes a number has. -/
theorem put_size (n : Int) (h0 : 0 ≤ n) (h1 : n < 18446744073709551616) :
    1 ≤ (put n).length ∧ (((put n).length ≤ 8 ∧ n < 128 ^ (put n).length ∧ (1 < (put n).length → 128 ^ ((put n).length - 1) ≤ n)) ∨ ((put n).length = 9 ∧ 72057594037927936 ≤ n)) := by
  rcases put_parts n h0 h1 with ⟨hn, h, e, hl, hb, hv, hlt, hge⟩ | ⟨hn, h, e, hl, hb, hv⟩
  · rw [e, List.length_append, List.length_singleton]
    exact ⟨by omega, .inl ⟨by omega, hlt, fun hc => hge (by omega)⟩⟩
  · rw [e, List.length_append, List.length_singleton]
    exact ⟨by omega, .inr ⟨by omega, hn⟩⟩

theorem spoil_loop : ∀ (d i : Nat) (L : List Int), i + d = L.length → L.length ≤ 140737488351232 → Ev (fun k => cadastrelaw0_Bytes.l0 k L i) ()
  | 0, i, L, h, hn => by
    refine Ev.step (fun k => by rw [cadastrelaw0_Bytes.l0]) ?_
    exact Ev.ifn (by omega) (Ev.ifp (by omega) (Ev.ret rfl))
  | d + 1, i, L, h, hn => by
    refine Ev.step (fun k => by rw [cadastrelaw0_Bytes.l0]) ?_
    refine Ev.ifp (by omega) (Ev.ifp (by omega) ?_)
    have e : wrap64 ((i : Int) + 1) = ((i + 1 : Nat) : Int) := by rw [w64 (by omega) (by omega)]; omega
    rw [e]
    exact spoil_loop d (i + 1) _ (by rw [List.length_set]; omega) (by rw [List.length_set]; exact hn)
theorem spoil_ev (L : List Int) (hn : L.length ≤ 140737488351232) : Ev (fun k => cadastrelaw0_Bytes.f k L) () :=
  Ev.congr (fun k => by rw [cadastrelaw0_Bytes.f]; rfl) (spoil_loop L.length 0 L (by omega) hn)
end Go.Proofs.Ytbamdjfonfmbbaa.B
