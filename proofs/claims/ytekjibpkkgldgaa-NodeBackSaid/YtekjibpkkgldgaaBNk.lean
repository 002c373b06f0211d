/-
  Layer 11: what is written on a page is read from it.
-/
import Derived.Test.YtekjibpkkgldgaaBNe
import Derived.Test.YtekjibpkkgldgaaBNp
namespace Go.Proofs.Ytekjibpkkgldgaa.B
open Go Go.AX
theorem step_holds {P : List Int} (hP : P.length = 512) {places e i : Nat} {c : List Int} {r : List (List Int)} (hc : c.length ≤ 512) (he : e ≤ 512) (hpl : places + (cellB c).length ≤ e) (h : Holds P e i (c :: r)) {U : Nat → Bool} (hU : ∀ q, q < e → U q = false) :
    ∃ U', stepR P places i U = some (U', c) ∧ ∀ q, q < e - (cellB c).length → U' q = false := by
  obtain ⟨h1, h2, h3⟩ := h
  have hpos : 0 < (put (c.length : Int)).length := by
    unfold put
    split
    · simp
    · simp
  have hb : (cellB c).length = (put (c.length : Int)).length + c.length := by unfold cellB; rw [List.length_append]
  unfold stepR
  rw [h1, if_neg (by omega)]
  have hd : P.drop (e - (cellB c).length) = put (c.length : Int) ++ (c ++ P.drop e) := by
    have := (List.take_append_drop (cellB c).length (P.drop (e - (cellB c).length))).symm
    rw [h2, List.drop_drop, show e - (cellB c).length + (cellB c).length = e by omega] at this
    rw [this]; unfold cellB; rw [List.append_assoc]
  have hg : gs (P.drop (e - (cellB c).length)) 9 0 = ((c.length : Int), ((put (c.length : Int)).length : Int), 0) := by rw [hd]; exact get_put _ (by omega) (by omega) _
  rw [cellAt_some hg, if_pos (by omega)]
  have e1 : e - (cellB c).length + (put (c.length : Int)).length + (c.length : Int).toNat = e := by omega
  dsimp only
  rw [e1]
  have ha : anyU U (e - (cellB c).length) e = false := by
    rw [Bool.eq_false_iff]
    intro q
    obtain ⟨j, _, j2, j3⟩ := anyU_iff.1 q
    rw [hU j j2] at j3; cases j3
  rw [ha, if_neg (by decide)]
  refine ⟨addU U (e - (cellB c).length) e, ?_, ?_⟩
  · have : P.drop (e - (cellB c).length + (put (c.length : Int)).length) = c ++ P.drop e := by
      rw [← List.drop_drop, hd, List.drop_left']
      rfl
    rw [this, show e - (e - (cellB c).length + (put (c.length : Int)).length) = c.length by omega, List.take_left']
    rfl
  · intro q hq
    unfold addU
    rw [hU q (by omega)]
    simp; omega
theorem cells_holds {P : List Int} (hP : P.length = 512) (places : Nat) : ∀ (r : List (List Int)) (e i : Nat) (U : Nat → Bool) (acc : List (List Int)), (∀ c ∈ r, c.length ≤ 512) → e ≤ 512 → places + tot r ≤ e → Holds P e i r → (∀ q, q < e → U q = false) → cellsR P places r.length i U acc = some (acc ++ r)
  | [], e, i, U, acc, _, _, _, _, _ => by simp [cellsR]
  | c :: r, e, i, U, acc, hc, he, hpl, h, hU => by
    rw [tot_cons] at hpl
    obtain ⟨U', h1, h2⟩ := step_holds hP (hc c List.mem_cons_self) he (places := places) (by omega) h hU
    rw [List.length_cons]
    simp only [cellsR, h1]
    rw [cells_holds hP places r _ (i + 1) U' (acc ++ [c]) (fun x hx => hc x (List.mem_cons_of_mem _ hx)) (by omega) (by omega) h.2.2 h2, List.append_assoc]
    rfl
theorem headB_isB {kind next : Int} {n : Nat} (k0 : 0 ≤ kind) (k1 : kind < 256) (n0 : 0 ≤ next) (n1 : next < 4294967296) (hn : n < 65536) : IsB (headB kind next n) := by
  intro y hy
  unfold headB at hy
  simp only [List.mem_cons, List.not_mem_nil, or_false] at hy
  rcases hy with rfl | rfl | rfl | rfl | rfl | rfl | rfl <;> omega
theorem page_says (kind next : Int) {cells : List (List Int)} (h1 : cells.length ≤ 400) (hr : 0 ≤ roomR cells) (k0 : 0 ≤ kind) (k1 : kind < 256) (n0 : 0 ≤ next) (n1 : next < 4294967296) (hb : ∀ c ∈ cells, IsB c) :
    (page kind next cells).length = 512 ∧ IsB (page kind next cells) ∧ pageR (page kind next cells) = some (kind, next, cells) := by
  unfold roomR at hr
  have hz : (List.replicate 512 (0 : Int)).length = 512 := List.length_replicate
  have hl0 : (overL (List.replicate 512 0) 0 7 (headB kind next cells.length)).length = 512 := by rw [overL_len (l := List.replicate 512 0) (q := headB kind next cells.length) (lo := 0) (n := 7) (by rw [hz]; omega) (Nat.le_refl 7), hz]
  have hz0 : IsB (List.replicate 512 (0 : Int)) := fun y hy => by rw [List.eq_of_mem_replicate hy]; omega
  have hB0 := isB_overL hz0 (headB_isB k0 k1 n0 n1 (n := cells.length) (by omega)) 0 7
  have hlen := encR_len cells _ 512 0 hl0 (Nat.le_refl _) (by omega)
  have hB := encR_isB cells _ 512 0 hB0 (Nat.le_refl _) hb
  have hk := encR_keep cells _ 512 0 hl0 (Nat.le_refl _) (by omega)
  have hh := encR_holds cells _ 512 0 hl0 (Nat.le_refl _) (by omega)
  have hg : ∀ j, j < 7 → (page kind next cells).getD j 0 = (headB kind next cells.length).getD j 0 := fun j hj => by
    unfold page
    rw [hk j (.inl (by omega)), overL_get (l := List.replicate 512 0) (q := headB kind next cells.length) (lo := 0) (n := 7) (by rw [hz]; omega) rfl, if_pos (by omega), Nat.sub_zero]
  refine ⟨hlen, hB, ?_⟩
  have g0 := hg 0 (by omega); have g1 := hg 1 (by omega); have g2 := hg 2 (by omega); have g3 := hg 3 (by omega); have g4 := hg 4 (by omega); have g5 := hg 5 (by omega); have g6 := hg 6 (by omega)
  have g0 : (page kind next cells).getD 0 0 = kind := g0
  have g1 : (page kind next cells).getD 1 0 = (cells.length : Int) / 256 := g1
  have g2 : (page kind next cells).getD 2 0 = (cells.length : Int) % 256 := g2
  have g3 : (page kind next cells).getD 3 0 = next / 16777216 := g3
  have g4 : (page kind next cells).getD 4 0 = next / 65536 % 256 := g4
  have g5 : (page kind next cells).getD 5 0 = next / 256 % 256 := g5
  have g6 : (page kind next cells).getD 6 0 = next % 256 := g6
  have hw : word (page kind next cells) 1 = cells.length := by unfold word; rw [g1, g2]; omega
  have hn : nextR (page kind next cells) = next := by unfold nextR; rw [g3, g4, g5, g6]; omega
  unfold pageR
  rw [hw, hn, g0, if_pos ⟨hlen, by omega⟩]
  have hsm : ∀ c ∈ cells, c.length ≤ 512 := fun c hc => by
    have : ∀ (l : List (List Int)), c ∈ l → c.length ≤ tot l := by
      intro l hl
      induction l with
      | nil => cases hl
      | cons x r ih =>
        rw [tot_cons]
        rcases List.mem_cons.1 hl with rfl | hl
        · unfold cellB; rw [List.length_append]; omega
        · have := ih hl; omega
    have := this cells hc; omega
  have hcells : cellsR (page kind next cells) (7 + 2 * cells.length) cells.length 0 (fun _ => false) [] = some ([] ++ cells) := cells_holds hlen (7 + 2 * cells.length) cells 512 0 (fun _ => false) [] hsm (Nat.le_refl _) (by omega) hh (fun _ _ => rfl)
  rw [hcells]
  rfl
end Go.Proofs.Ytekjibpkkgldgaa.B
