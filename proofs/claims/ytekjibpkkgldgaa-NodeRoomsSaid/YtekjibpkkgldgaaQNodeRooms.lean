/-
  cadastre/cadastrelaw11.NodeRooms: what its printed function answers is true, for every list. No condition beyond the numbers' own bounds.
-/
import Derived.Test.YtekjibpkkgldgaaNOk
import Derived.Test.YtekjibpkkgldgaaNVp
namespace Go.Proofs.Ytekjibpkkgldgaa.N
open Go Go.AX

theorem ge_len {α : Type} {l : List α} {i : Nat} (h : ¬ ((i : Int) < (l.length : Int))) : l.length ≤ i := by omega
theorem wq (x : Int) : ∃ q, IntKind.i64.wrap x = x - 18446744073709551616 * q := ⟨(x + 9223372036854775808) / 18446744073709551616, by rw [IntKind.wrap_i64]; omega⟩
theorem wm (x q : Int) : IntKind.i64.wrap (x + 18446744073709551616 * q) = IntKind.i64.wrap x := by
  rw [IntKind.wrap_i64, IntKind.wrap_i64, show x + 18446744073709551616 * q + 9223372036854775808 = x + 9223372036854775808 + 18446744073709551616 * q by omega, Int.add_mul_emod_self_left]
theorem step_eq (n p c : Int) : IntKind.i64.wrap (n - IntKind.i64.wrap (IntKind.i64.wrap (2 + p) + c)) = IntKind.i64.wrap (IntKind.i64.wrap (IntKind.i64.wrap (n - 2) - p) - c) := by
  obtain ⟨q2, h2⟩ := wq (2 + p)
  obtain ⟨q1, h1⟩ := wq (IntKind.i64.wrap (2 + p) + c)
  obtain ⟨r1, k1⟩ := wq (n - 2)
  obtain ⟨r2, k2⟩ := wq (IntKind.i64.wrap (n - 2) - p)
  rw [h1, h2, k2, k1]
  rw [show n - (2 + p - 18446744073709551616 * q2 + c - 18446744073709551616 * q1) = (n - 2 - p - c) + 18446744073709551616 * (q1 + q2) by rw [Int.mul_add]; omega, wm]
  rw [show n - 2 - 18446744073709551616 * r1 - p - 18446744073709551616 * r2 - c = (n - 2 - p - c) + 18446744073709551616 * (-(r1 + r2)) by rw [Int.mul_neg, Int.mul_add]; omega, wm]
theorem rooms (k : Nat) (hk : 40 ≤ k) {cells : List (List Int)} (hl : cells.length ≤ 9000000000000) (hc : ∀ y ∈ cells, y.length ≤ 140737488355328) (kexit : Int → Option Int) : ∀ (m i : Nat) (n : Int),
    node_Room_l3 k kexit m n cells (cells.length : Int) i = cadastreref6_Room_l3 k kexit m cells n i
  | 0, _, _ => rfl
  | m + 1, i, n => by
    simp only [node_Room_l3, node_Room_l3_b, cadastreref6_Room_l3, cadastreref6_Room_l3_b]
    by_cases hi : (i : Int) < (cells.length : Int)
    case neg => rw [decide_eq_false hi, cond_false, cond_false]
    rw [decide_eq_true hi, cond_true, cond_true, chk_pos (by omega), chk_pos (by omega), Int.toNat_natCast]
    have hlen := hc _ (getD_mem (d := []) (show i < cells.length by omega))
    generalize cells.getD i [] = c at *
    have e : IntKind.u64.wrap (c.length : Int) = (c.length : Int) := by rw [wrap_u64]; omega
    rw [e, put_eq k hk _ (by omega) (by omega), rput_eq k hk _ (by omega) (by omega), some_bind, some_bind, chk_pos (by omega)]
    have hp := put_length (c.length : Int)
    rw [w64n (by omega)]
    rw [rooms k hk hl hc kexit m (i + 1)]
    rw [step_eq]
theorem room_some (k : Nat) (hk : 40 ≤ k) {cells : List (List Int)} (hl : cells.length ≤ 9000000000000) (hc : ∀ y ∈ cells, y.length ≤ 140737488355328) : ∀ (d m i : Nat) (n : Int), i + d = cells.length → d < m →
    ∃ r, cadastreref6_Room_l3 k (fun n => some n) m cells n i = some r
  | 0, m + 1, i, n, hi, _ => by
    simp only [cadastreref6_Room_l3, cadastreref6_Room_l3_b]
    rw [decide_eq_false (by omega), cond_false]; exact ⟨_, rfl⟩
  | d + 1, m + 1, i, n, hi, hm => by
    simp only [cadastreref6_Room_l3, cadastreref6_Room_l3_b]
    rw [decide_eq_true (by omega), cond_true, chk_pos (by omega), Int.toNat_natCast]
    have hlen := hc _ (getD_mem (d := []) (show i < cells.length by omega))
    have e : IntKind.u64.wrap ((cells.getD i []).length : Int) = ((cells.getD i []).length : Int) := by rw [wrap_u64]; omega
    rw [e, rput_eq k hk _ (by omega) (by omega), some_bind, chk_pos (by omega), w64n (by omega)]
    exact room_some k hk hl hc d m (i + 1) _ (by omega) (by omega)
theorem room_eq (k : Nat) {cells : List (List Int)} (hl : cells.length ≤ 9000000000000) (hc : ∀ y ∈ cells, y.length ≤ 140737488355328) (hk : cells.length + 40 ≤ k) : ∃ r, node_Room k cells = some r ∧ cadastreref6_Room k cells = some r := by
  obtain ⟨r, hr⟩ := room_some k (by omega) hl hc cells.length k 0 505 (by omega) (by omega)
  exact ⟨r, (rooms k (by omega) hl hc (fun n => some n) k 0 505).trans hr, hr⟩
theorem heavy_some (k : Nat) (p : S26) (hl : p.f2.length ≤ 9000000000000) (hk : p.f2.length < k) : ∃ b, cadastrelaw11_heavy k p = some b := by
  have key : ∀ (kexit : Int → S26 → Option Bool), (∀ n, ∃ b, kexit n p = some b) → ∀ (d m i : Nat) (n : Int), i + d = p.f2.length → d < m → ∃ b, cadastrelaw11_heavy_l3 k kexit m n i p = some b := by
    intro kexit he d
    induction d with
    | zero =>
      intro m i n hi hm
      obtain ⟨m, rfl⟩ : ∃ q, m = q + 1 := ⟨m - 1, by omega⟩
      simp only [cadastrelaw11_heavy_l3, cadastrelaw11_heavy_l3_b]
      rw [decide_eq_false (by omega), cond_false]; exact he n
    | succ d ih =>
      intro m i n hi hm
      obtain ⟨m, rfl⟩ : ∃ q, m = q + 1 := ⟨m - 1, by omega⟩
      simp only [cadastrelaw11_heavy_l3, cadastrelaw11_heavy_l3_b]
      rw [decide_eq_true (by omega), cond_true]
      cases big (decide ((i : Int) < 300)) with
      | false => exact he n
      | true =>
        rw [cond_true]
        unfold cadastrelaw11_heavy_j5
        rw [chk_pos (by omega), w64n (by omega)]
        exact ih m (i + 1) _ (by omega) (by omega)
  unfold cadastrelaw11_heavy
  refine key _ (fun n => ?_) p.f2.length k 0 _ (by omega) hk
  cases big (decide (n > 3000)) with
  | true => exact ⟨_, rfl⟩
  | false => exact ⟨_, rfl⟩
theorem room_nil (k : Nat) (hk : 1 ≤ k) : node_Room k [] = some 505 := by
  obtain ⟨k, rfl⟩ : ∃ q, k = q + 1 := ⟨k - 1, by omega⟩
  rfl
theorem overL_len {l q : List Int} {n : Nat} (h1 : n ≤ l.length) (h2 : n ≤ q.length) : (overL l 0 n q).length = l.length := by
  unfold overL; simp only [List.length_append, List.length_take, List.length_drop]; omega
theorem overL_zero {l q : List Int} {n : Nat} {x : Int} (h : 0 < n) : (overL l 0 n (x :: q)).getD 0 0 = x := by
  obtain ⟨n, rfl⟩ : ∃ m, n = m + 1 := ⟨n - 1, by omega⟩
  rfl
theorem empty_page (k : Nat) (hk : 1 ≤ k) : ∃ p, node_Encode k 1 0 [] = some (p, 0) ∧ p.length = 512 ∧ p.getD 0 0 = 1 := by
  unfold node_Encode
  rw [show decide ((1 : Int) < 0) = false from rfl, cond_false, show decide ((1 : Int) > 255) = false from rfl, cond_false, show decide ((0 : Int) < 0) = false from rfl, cond_false, big_eq, show decide ((0 : Int) ≥ 4294967296) = false from rfl, cond_false]
  unfold node_Encode_j3
  rw [room_nil k hk, some_bind, show decide ((505 : Int) < 0) = false from rfl, cond_false, chk_pos (by decide)]
  obtain ⟨k, rfl⟩ : ∃ q, k = q + 1 := ⟨k - 1, by omega⟩
  dsimp only
  rw [chk_pos (by omega)]
  simp only [node_Encode_l10, node_Encode_l10_b]
  rw [show decide ((0 : Int) < (([] : List (List Int)).length : Int)) = false from rfl, cond_false]
  refine ⟨_, rfl, ?_, ?_⟩
  · rw [overL_len (Nat.min_le_right _ _) (Nat.min_le_left _ _), List.length_replicate]; rfl
  · rw [overL_zero (by rw [List.length_replicate]; decide)]; rfl
theorem wakes_eq (k : Nat) (hk : 1 ≤ k) : cadastrelaw11_wakes k = some true := by
  obtain ⟨p, he, h1, h2⟩ := empty_page k hk
  unfold cadastrelaw11_wakes cadastrelaw11_num
  rw [he, some_bind, some_bind, room_nil k hk, some_bind, big_eq, big_eq]
  dsimp only
  rw [h1, h2, chk_pos (by omega)]
  rfl
theorem NodeRooms_pure : ∀ l : List S26, (l.length * 64 ≤ 140737488351232 ∧ l.length ≤ 9223372036854775807 ∧ ∀ y ∈ l, (ok26 y)) → ∃ k, cadastrelaw11_NodeRooms k l = some true := by
  intro l ⟨h1, h2, h3⟩
  obtain ⟨M, hM⟩ : ∃ M : Nat, ∀ y ∈ l, y.f2.length ≤ M := ⟨6000000000000, fun y hy => by have := (h3 y hy).2.2.1.1; omega⟩
  obtain ⟨K, hK⟩ : ∃ K, K = l.length + M + 100 := ⟨_, rfl⟩
  refine ⟨K, ?_⟩
  unfold cadastrelaw11_NodeRooms
  refine law_run l.length (fun n i => cadastrelaw11_NodeRooms_l2 K (fun t => some t) ((cadastrelaw11_wakes K).bind fun r => some r) n l i) (fun n => ?_) (fun n i hi => ?_) l.length 0 K (by omega) (by omega)
  · simp only [cadastrelaw11_NodeRooms_l2, cadastrelaw11_NodeRooms_l2_b]
    rw [decide_eq_false (by omega), cond_false, wakes_eq _ (by omega)]; rfl
  · simp only [cadastrelaw11_NodeRooms_l2, cadastrelaw11_NodeRooms_l2_b]
    rw [decide_eq_true (show (i : Int) < (l.length : Int) by omega), cond_true]
    by_cases h6 : (i : Int) < 6
    case neg => right; rw [decide_eq_false h6, cond_false, wakes_eq _ (by omega)]; rfl
    rw [decide_eq_true h6, cond_true]
    unfold cadastrelaw11_NodeRooms_j4
    rw [chk_pos (by omega), Int.toNat_natCast]
    have ho := h3 _ (getD_mem (d := default) hi)
    have hm := hM _ (getD_mem (d := default) hi)
    generalize l.getD i default = p at *
    have hl : p.f2.length ≤ 9000000000000 := by have := ho.2.2.1.1; omega
    obtain ⟨b, hb⟩ := heavy_some K p hl (by omega)
    obtain ⟨r, hr1, hr2⟩ := room_eq K hl (fun y hy => by have := (ho.2.2.1.2.2 y hy).1; omega) (by omega)
    rw [hb, some_bind, hr1, hr2]
    cases b with
    | true => right; rfl
    | false =>
      left
      rw [cond_false, chk_pos (by omega), some_bind, chk_pos (by omega), some_bind, w64n (by omega)]
      simp
end Go.Proofs.Ytekjibpkkgldgaa.N
