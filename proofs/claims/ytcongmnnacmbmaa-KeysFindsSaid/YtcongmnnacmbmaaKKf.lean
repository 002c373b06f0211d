/-
  Layer 7: where a key stands: what the printed functions come to.
-/
import Derived.Test.YtcongmnnacmbmaaKKc
namespace Go.Proofs.Ytcongmnnacmbmaa.K
open Go Go.AX
/-- A row of keys in order. -/
def sorted (l : List (List S41)) : Prop := ∀ j, 1 ≤ j → j < l.length → kcmp (l.getD (j - 1) []) (l.getD j []) < 0
theorem sorted_lt {l : List (List S41)} (h : sorted l) : ∀ d i, i + d + 1 < l.length → kcmp (l.getD i []) (l.getD (i + d + 1) []) < 0
  | 0, i, hi => h (i + 1) (by omega) hi
  | d + 1, i, hi => by
    have h1 := sorted_lt h d i (by omega)
    have h2 := h (i + (d + 1) + 1) (by omega) hi
    rw [show i + (d + 1) + 1 - 1 = i + d + 1 by omega] at h2
    exact (kcmp_trans _ _ _ (by omega) (by omega)).2 (.inl h1)
theorem sorted_pair {l : List (List S41)} (h : sorted l) {i j : Nat} (hij : i < j) (hj : j < l.length) : kcmp (l.getD i []) (l.getD j []) < 0 := by
  have := sorted_lt h (j - i - 1) i (by omega)
  rwa [show i + (j - i - 1) + 1 = j by omega] at this
section
variable {ρ : Type} (k : Nat) (l : List (List S41)) (key : List S41)
theorem below_eq (hk : 5000 ≤ k) (hg : ∀ y ∈ l, kgood y = true) (i : Nat) (hi : i < l.length) : keys_Find_1_r1_r2 k i l key = some (decide (kcmp (l.getD i []) key < 0)) := by
  unfold keys_Find_1_r1_r2
  rw [chk_pos (by omega), Int.toNat_natCast, korder_good k hk _ _ (hg _ (getD_mem hi)), some_bind]
theorem half (hlen : l.length ≤ 1000000000000000) {lo hi : Nat} (h1 : lo < hi) (h2 : hi ≤ l.length) : IntKind.i64.wrap (Int.tdiv (IntKind.i64.wrap ((lo : Int) + (hi : Int))) 2) = (((lo + hi) / 2 : Nat) : Int) := by
  rw [w64 (x := (lo : Int) + (hi : Int)) (by omega) (by omega), show ((lo : Int) + (hi : Int)) = ((lo + hi : Nat) : Int) by omega, Int.tdiv_eq_ediv_of_nonneg (by omega), w64 (by omega) (by omega)]
  omega
theorem place_j2 (hk : 5000 ≤ k) (hg : ∀ y ∈ l, kgood y = true) (hlen : l.length ≤ 1000000000000000) (kret : Int → Option ρ) (kg : List (List S41) → List S41 → Int → Int → Option ρ) {lo hi : Nat} (h1 : lo < hi) (h2 : hi ≤ l.length) :
    keys_Place_f14_j2 k kret kg l key lo hi = if kcmp (l.getD ((lo + hi) / 2) []) key < 0 then kg l key (((lo + hi) / 2 + 1 : Nat) : Int) hi else kg l key lo (((lo + hi) / 2 : Nat) : Int) := by
  unfold keys_Place_f14_j2
  rw [show ((lo : Int) == (hi : Int)) = false from beq_eq_false_iff_ne.2 (by omega), cond_false, half l hlen h1 h2, below_eq k l key hk hg _ (by omega), some_bind, w64n (by omega)]
  by_cases h : kcmp (l.getD ((lo + hi) / 2) []) key < 0
  · rw [if_pos h, decide_eq_true h]; rfl
  · rw [if_neg h, decide_eq_false h]; rfl
theorem place_j2_end (kret : Int → Option ρ) (kg : List (List S41) → List S41 → Int → Int → Option ρ) (lo : Nat) : keys_Place_f14_j2 k kret kg l key lo lo = kret lo := by
  unfold keys_Place_f14_j2
  rw [beq_self_eq_true, cond_true]
def placeAt (l : List (List S41)) (key : List S41) (r : Nat) : Prop := r ≤ l.length ∧ (r = 0 ∨ kcmp (l.getD (r - 1) []) key < 0) ∧ (r = l.length ∨ ¬ kcmp (l.getD r []) key < 0)
theorem place_loop (hk : 5000 ≤ k) (hg : ∀ y ∈ l, kgood y = true) (hlen : l.length ≤ 1000000000000000) (kret : Int → Option ρ) : ∀ (n lo hi : Nat), lo ≤ hi → hi ≤ l.length → hi - lo < n → (lo = 0 ∨ kcmp (l.getD (lo - 1) []) key < 0) → (hi = l.length ∨ ¬ kcmp (l.getD hi []) key < 0) →
    ∃ r : Nat, keys_Place_f14_g0 k kret n l key lo hi = kret r ∧ placeAt l key r
  | n + 1, lo, hi, h1, h2, h3, hl, hh => by
    simp only [keys_Place_f14_g0, keys_Place_f14_g0_b]
    by_cases e : lo = hi
    · subst e
      exact ⟨lo, place_j2_end k l key kret _ lo, h2, hl, hh⟩
    · rw [place_j2 k l key hk hg hlen kret _ (by omega) h2]
      by_cases h : kcmp (l.getD ((lo + hi) / 2) []) key < 0
      · rw [if_pos h]
        exact place_loop hk hg hlen kret n _ hi (by omega) h2 (by omega) (.inr (by rw [Nat.add_sub_cancel]; exact h)) hh
      · rw [if_neg h]
        exact place_loop hk hg hlen kret n lo _ (by omega) (by omega) (by omega) hl (.inr h)
theorem place_eq (hk : 5000 ≤ k) (hg : ∀ y ∈ l, kgood y = true) (hlen : l.length ≤ 1000000000000000) (hkl : l.length + 1 < k) : ∃ r : Nat, keys_Place_f14 k (l.length : Int) l key = some (r : Int) ∧ placeAt l key r := by
  unfold keys_Place_f14
  by_cases h0 : l.length = 0
  · refine ⟨0, ?_, by omega, .inl rfl, .inl (by omega)⟩
    rw [h0]; exact place_j2_end k l key _ _ 0
  · have e := place_j2 k l key hk hg hlen (fun t => some t) (fun c d lo hi => keys_Place_f14_g0 k (fun t => some t) k c d lo hi) (lo := 0) (hi := l.length) (by omega) (Nat.le_refl _)
    by_cases h : kcmp (l.getD ((0 + l.length) / 2) []) key < 0
    · rw [if_pos h] at e
      obtain ⟨r, hr, hp⟩ := place_loop k l key hk hg hlen (fun t => some t) k ((0 + l.length) / 2 + 1) l.length (by omega) (Nat.le_refl _) (by omega) (.inr (by rw [Nat.add_sub_cancel]; exact h)) (.inl rfl)
      exact ⟨r, e.trans hr, hp⟩
    · rw [if_neg h] at e
      obtain ⟨r, hr, hp⟩ := place_loop k l key hk hg hlen (fun t => some t) k 0 ((0 + l.length) / 2) (by omega) (by omega) (by omega) (.inl rfl) (.inr h)
      exact ⟨r, e.trans hr, hp⟩
theorem find_l5 (hk : 5000 ≤ k) (hg : ∀ y ∈ l, kgood y = true) (hlen : l.length ≤ 1000000000000000) (kret : Int → Int → Option ρ) (kexit : List (List S41) → List S41 → Option ρ) : ∀ (d i n : Nat), 1 ≤ i → l.length ≤ i + d → d < n →
    ((∀ j, i ≤ j → j < l.length → kcmp (l.getD (j - 1) []) (l.getD j []) < 0) ∧ keys_Find_l5 k kret kexit n i l key = kexit l key) ∨ (¬ (∀ j, i ≤ j → j < l.length → kcmp (l.getD (j - 1) []) (l.getD j []) < 0) ∧ keys_Find_l5 k kret kexit n i l key = kret 0 1)
  | d, i, n + 1, h1, h2, hn => by
    simp only [keys_Find_l5, keys_Find_l5_b]
    by_cases hi : i < l.length
    case neg =>
      rw [decide_eq_false (by omega), cond_false]
      exact .inl ⟨fun j h3 h4 => by omega, rfl⟩
    have w : IntKind.i64.wrap ((i : Int) - 1) = ((i - 1 : Nat) : Int) := by rw [w64 (by omega) (by omega)]; omega
    rw [decide_eq_true (by omega), cond_true, w, chk_pos (by omega), chk_pos (by omega), Int.toNat_natCast, Int.toNat_natCast, korder_good k hk _ _ (hg _ (getD_mem (by omega))), some_bind, w64n (by omega)]
    by_cases h : kcmp (l.getD (i - 1) []) (l.getD i []) < 0
    · rw [decide_eq_false (by omega), cond_false]
      match d, h2, hn with
      | d + 1, h2, hn =>
        rcases find_l5 hk hg hlen kret kexit d (i + 1) n (by omega) (by omega) (by omega) with ⟨a, b⟩ | ⟨a, b⟩
        · refine .inl ⟨fun j h3 h4 => ?_, b⟩
          by_cases e : j = i
          · rw [e]; exact h
          · exact a j (by omega) h4
        · exact .inr ⟨fun q => a fun j h3 h4 => q j (by omega) h4, b⟩
      | 0, h2, _ => omega
    · rw [decide_eq_true (by omega), cond_true]
      exact .inr ⟨fun q => h (q i (by omega) hi), rfl⟩
theorem find_eq (hk : 5000 ≤ k) (hlen : l.length * 24 ≤ 140737488351232) (hkl : l.length + 2 < k) (hy : ∀ y ∈ l, y.length < k ∧ y.length ≤ 9223372036854775807) (hkey : key.length < k ∧ key.length ≤ 9223372036854775807) :
    ∃ n e, keys_Find k l key = some (n, e) ∧ (e = 0 ↔ (∀ y ∈ l, kgood y = true) ∧ kgood key = true ∧ sorted l) ∧ (e = 0 → ∃ r : Nat, n = r ∧ placeAt l key r) := by
  unfold keys_Find
  have hm : ∀ y ∈ l ++ [key], y.length < k ∧ y.length ≤ 9223372036854775807 := by
    intro y h
    rcases List.mem_append.1 h with h | h
    · exact hy y h
    · rw [List.mem_singleton.1 h]; exact hkey
  have hg : chkR (l ++ [key]) = 0 ↔ (∀ y ∈ l, kgood y = true) ∧ kgood key = true := by
    rw [chkR_ok]
    exact ⟨fun h => ⟨fun y hy => h y (List.mem_append_left _ hy), h key (by simp)⟩, fun h y hy => by
      rcases List.mem_append.1 hy with q | q
      · exact h.1 y q
      · rw [List.mem_singleton.1 q]; exact h.2⟩
  rw [chk_pos (by omega), List.nil_append, chk_pos (by simp; omega), check_eq k (l ++ [key]) (by simp; omega) (by simp; omega) hm, some_bind]
  by_cases c : chkR (l ++ [key]) = 0
  · have cc := hg.1 c
    rw [c, show ((0 : Int) != 0) = false from rfl, cond_false]
    rcases find_l5 k l key hk cc.1 (by omega) (fun a b => some (a, b)) (fun a b => (keys_Place_f14 k (a.length : Int) a b).bind fun r => some (r, (0 : Int))) l.length 1 k (by omega) (by omega) (by omega) with ⟨s, e⟩ | ⟨s, e⟩
    · obtain ⟨r, hr, hp⟩ := place_eq k l key hk cc.1 (by omega) (by omega)
      refine ⟨r, 0, e.trans (by rw [hr, some_bind]), ⟨fun _ => ⟨cc.1, cc.2, s⟩, fun _ => rfl⟩, fun _ => ⟨r, rfl, hp⟩⟩
    · exact ⟨0, 1, e, ⟨fun h => absurd h (by decide), fun h => absurd h.2.2 s⟩, fun h => absurd h (by decide)⟩
  · rw [show (chkR (l ++ [key]) != 0) = true from bne_iff_ne.2 c, cond_true]
    exact ⟨0, _, rfl, ⟨fun h => absurd h c, fun h => absurd (hg.2 ⟨h.1, h.2.1⟩) c⟩, fun h => absurd h c⟩
end
/-- In a row in order all keys ahead of the place are below, and none behind it. -/
theorem place_all {l : List (List S41)} {key : List S41} {r : Nat} (h : sorted l) (hp : placeAt l key r) (i : Nat) (hi : i < l.length) : kcmp (l.getD i []) key < 0 ↔ i < r := by
  obtain ⟨h1, h2, h3⟩ := hp
  constructor
  · intro q
    refine Nat.lt_of_not_le fun hri => ?_
    rcases h3 with h3 | h3
    · omega
    · by_cases e : r = i
      · exact h3 (by rw [e]; exact q)
      · exact h3 ((kcmp_trans _ _ _ (by have := sorted_pair h (i := r) (j := i) (by omega) hi; omega) (by omega)).2 (.inr q))
  · intro q
    rcases h2 with h2 | h2
    · omega
    · by_cases e : i = r - 1
      · rw [e]; exact h2
      · exact (kcmp_trans _ _ _ (by have := sorted_pair h (i := i) (j := r - 1) (by omega) (by omega); omega) (by omega)).2 (.inr h2)
end Go.Proofs.Ytcongmnnacmbmaa.K
