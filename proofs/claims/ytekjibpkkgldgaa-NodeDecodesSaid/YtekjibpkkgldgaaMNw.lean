/-
  Layer 11: what a law looks at beside the program: its weight, what wakes it.
-/
import Derived.Test.YtekjibpkkgldgaaMOk
import Derived.Test.YtekjibpkkgldgaaMNr
namespace Go.Proofs.Ytekjibpkkgldgaa.M
open Go Go.AX
theorem ge_len {α : Type} {l : List α} {i : Nat} (h : ¬ ((i : Int) < (l.length : Int))) : l.length ≤ i := by omega
theorem heavy_some (k : Nat) (p : S26) (hl : p.f2.length ≤ 9000000000000) (hk : p.f2.length < k) : ∃ b, cadastrelaw11_heavy k p = some b := by
  have key : ∀ (kexit : Int → S26 → Option Bool), (∀ n, ∃ b, kexit n p = some b) → ∀ (d m i : Nat) (n : Int), i + d = p.f2.length → d < m → ∃ b, cadastrelaw11_heavy_l3 k kexit m n i p = some b := by
    intro kexit he d
    induction d with
    | zero =>
      intro m i n hi hm
      obtain ⟨m, rfl⟩ : ∃ q, m = q + 1 := ⟨m - 1, by omega⟩
      simp only [cadastrelaw11_heavy_l3, cadastrelaw11_heavy_l3_b]
      rw [decide_eq_false (by omega), cond_false]; exact he n
    | succ d ih =>
      intro m i n hi hm
      obtain ⟨m, rfl⟩ : ∃ q, m = q + 1 := ⟨m - 1, by omega⟩
      simp only [cadastrelaw11_heavy_l3, cadastrelaw11_heavy_l3_b]
      rw [decide_eq_true (by omega), cond_true]
      cases big (decide ((i : Int) < 300)) with
      | false => exact he n
      | true =>
        rw [cond_true]
        unfold cadastrelaw11_heavy_j5
        rw [chk_pos (by omega), w64n (by omega)]
        exact ih m (i + 1) _ (by omega) (by omega)
  unfold cadastrelaw11_heavy
  refine key _ (fun n => ?_) p.f2.length k 0 _ (by omega) hk
  cases big (decide (n > 3000)) with
  | true => exact ⟨_, rfl⟩
  | false => exact ⟨_, rfl⟩
theorem room_nil (k : Nat) (hk : 1 ≤ k) : node_Room k [] = some 505 := by
  obtain ⟨k, rfl⟩ : ∃ q, k = q + 1 := ⟨k - 1, by omega⟩
  rfl
theorem overL_len {l q : List Int} {n : Nat} (h1 : n ≤ l.length) (h2 : n ≤ q.length) : (overL l 0 n q).length = l.length := by
  unfold overL; simp only [List.length_append, List.length_take, List.length_drop]; omega
theorem overL_zero {l q : List Int} {n : Nat} {x : Int} (h : 0 < n) : (overL l 0 n (x :: q)).getD 0 0 = x := by
  obtain ⟨n, rfl⟩ : ∃ m, n = m + 1 := ⟨n - 1, by omega⟩
  rfl
theorem empty_page (k : Nat) (hk : 1 ≤ k) : ∃ p, node_Encode k 1 0 [] = some (p, 0) ∧ p.length = 512 ∧ p.getD 0 0 = 1 := by
  unfold node_Encode
  rw [show decide ((1 : Int) < 0) = false from rfl, cond_false, show decide ((1 : Int) > 255) = false from rfl, cond_false, show decide ((0 : Int) < 0) = false from rfl, cond_false, big_eq, show decide ((0 : Int) ≥ 4294967296) = false from rfl, cond_false]
  unfold node_Encode_j3
  rw [room_nil k hk, some_bind, show decide ((505 : Int) < 0) = false from rfl, cond_false, chk_pos (by decide)]
  obtain ⟨k, rfl⟩ : ∃ q, k = q + 1 := ⟨k - 1, by omega⟩
  dsimp only
  rw [chk_pos (by omega)]
  simp only [node_Encode_l10, node_Encode_l10_b]
  rw [show decide ((0 : Int) < (([] : List (List Int)).length : Int)) = false from rfl, cond_false]
  refine ⟨_, rfl, ?_, ?_⟩
  · rw [overL_len (Nat.min_le_right _ _) (Nat.min_le_left _ _), List.length_replicate]; rfl
  · rw [overL_zero (by rw [List.length_replicate]; decide)]; rfl
theorem wakes_eq (k : Nat) (hk : 1 ≤ k) : cadastrelaw11_wakes k = some true := by
  obtain ⟨p, he, h1, h2⟩ := empty_page k hk
  unfold cadastrelaw11_wakes cadastrelaw11_num
  rw [he, some_bind, some_bind, room_nil k hk, some_bind, big_eq, big_eq]
  dsimp only
  rw [h1, h2, chk_pos (by omega)]
  rfl
theorem eqb_l4 {ρ : Type} (k : Nat) (kret : Bool → Option ρ) (kexit : Option ρ) (a : List Int) (ha : a.length ≤ 140737488355328) : ∀ (d i n : Nat), i + d = a.length → d < n → cadastreref0_EqBytes_l4 k kret kexit n a a i = kexit
  | 0, i, n + 1, hi, _ => by
    simp only [cadastreref0_EqBytes_l4, cadastreref0_EqBytes_l4_b]
    rw [decide_eq_false (by omega), cond_false]
  | d + 1, i, n + 1, hi, hn => by
    simp only [cadastreref0_EqBytes_l4, cadastreref0_EqBytes_l4_b]
    rw [decide_eq_true (by omega), cond_true, chk_pos (by omega), chk_pos (by omega), bne_self_eq_false, cond_false, w64n (by omega)]
    exact eqb_l4 k kret kexit a ha d (i + 1) n (by omega) (by omega)
theorem eqb_refl (k : Nat) (a : List Int) (ha : a.length ≤ 140737488355328) (hk : a.length < k) : cadastreref0_EqBytes k a a = some true := by
  unfold cadastreref0_EqBytes
  rw [bne_self_eq_false, cond_false]
  exact eqb_l4 k _ _ a ha a.length 0 k (by omega) hk
theorem eqc_l4 {ρ : Type} (k : Nat) (kret : Bool → Option ρ) (kexit : Option ρ) (a : List (List Int)) (ha : a.length ≤ 140737488355328) (hb : ∀ y ∈ a, y.length ≤ 140737488355328 ∧ y.length < k) : ∀ (d i n : Nat), i + d = a.length → d < n → cadastreref0_EqCells_l4 k kret kexit n a a i = kexit
  | 0, i, n + 1, hi, _ => by
    simp only [cadastreref0_EqCells_l4, cadastreref0_EqCells_l4_b]
    rw [decide_eq_false (by omega), cond_false]
  | d + 1, i, n + 1, hi, hn => by
    simp only [cadastreref0_EqCells_l4, cadastreref0_EqCells_l4_b]
    have hm := hb _ (getD_mem (d := []) (show i < a.length by omega))
    rw [decide_eq_true (by omega), cond_true, chk_pos (by omega), chk_pos (by omega), Int.toNat_natCast, eqb_refl k _ hm.1 hm.2, some_bind, Bool.not_true, cond_false, w64n (by omega)]
    exact eqc_l4 k kret kexit a ha hb d (i + 1) n (by omega) (by omega)
theorem eqc_refl (k : Nat) (a : List (List Int)) (ha : a.length ≤ 140737488355328) (hb : ∀ y ∈ a, y.length ≤ 140737488355328 ∧ y.length < k) (hk : a.length < k) : cadastreref0_EqCells k a a = some true := by
  unfold cadastreref0_EqCells
  rw [bne_self_eq_false, cond_false]
  exact eqc_l4 k _ _ a ha hb a.length 0 k (by omega) hk
/-- What is read is no longer than the page. -/
theorem cellsR_small (p : List Int) (h512 : p.length = 512) (places : Nat) : ∀ (d i : Nat) (U : Nat → Bool) (acc l : List (List Int)), (∀ y ∈ acc, y.length ≤ 512) → cellsR p places d i U acc = some l → l.length = acc.length + d ∧ ∀ y ∈ l, y.length ≤ 512
  | 0, i, U, acc, l, ha, h => by
    simp only [cellsR, Option.some.injEq] at h; subst h; exact ⟨rfl, ha⟩
  | d + 1, i, U, acc, l, ha, h => by
    simp only [cellsR] at h
    split at h
    · cases h
    · rename_i U' c hc
      have hs : c.length ≤ 512 := by
        unfold stepR at hc
        split at hc
        · cases hc
        · split at hc
          · cases hc
          · split at hc
            · cases hc
            · cases hc
              rw [List.length_take, List.length_drop]; omega
      have := cellsR_small p h512 places d (i + 1) U' (acc ++ [c]) l (fun y hy => by
        rcases List.mem_append.1 hy with q | q
        · exact ha y q
        · rw [List.mem_singleton.1 q]; exact hs) h
      refine ⟨?_, this.2⟩
      rw [this.1]; simp; omega
theorem pageR_small {p : List Int} {a b : Int} {l : List (List Int)} (h : pageR p = some (a, b, l)) : p.length = 512 ∧ l.length ≤ 512 ∧ ∀ y ∈ l, y.length ≤ 512 := by
  unfold pageR at h
  split at h
  · rename_i hc
    cases hr : cellsR p (7 + 2 * word p 1) (word p 1) 0 (fun _ => false) [] with
    | none => rw [hr] at h; cases h
    | some q =>
      rw [hr] at h
      simp only [Option.map_some, Option.some.injEq, Prod.mk.injEq] at h
      obtain ⟨_, _, rfl⟩ := h
      have := cellsR_small p hc.1 _ _ 0 _ [] q (fun y hy => absurd hy (by simp)) hr
      exact ⟨hc.1, by rw [this.1]; simp; omega, this.2⟩
  · cases h
theorem pageR_none {p : List Int} (h : p.length ≠ 512) : pageR p = none := by unfold pageR; exact if_neg fun q => h q.1
end Go.Proofs.Ytekjibpkkgldgaa.M
