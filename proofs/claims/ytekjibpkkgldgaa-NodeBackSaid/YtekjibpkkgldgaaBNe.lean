/-
  Layer 11: a page out of cells: what the printed functions that write it come to.
-/
import Derived.Test.YtekjibpkkgldgaaBNd
namespace Go.Proofs.Ytekjibpkkgldgaa.B
open Go Go.AX
/-- A cell's bytes on a page. -/
def cellB (c : List Int) : List Int := put (c.length : Int) ++ c
/-- How many bytes cells take on a page. -/
def tot (l : List (List Int)) : Nat := (l.map fun c => (cellB c).length).sum
def sumL (l : List (List Int)) : Nat := (l.map List.length).sum
theorem tot_cons (c : List Int) (l : List (List Int)) : tot (c :: l) = (cellB c).length + tot l := by simp [tot]
theorem sumL_cons (c : List Int) (l : List (List Int)) : sumL (c :: l) = c.length + sumL l := by simp [sumL]
theorem cellB_length (c : List Int) : (cellB c).length ≤ 10 + c.length := by unfold cellB; rw [List.length_append]; have := put_length (c.length : Int); omega
theorem tot_le : ∀ l, tot l ≤ 10 * l.length + sumL l
  | [] => by simp [tot]
  | c :: l => by rw [tot_cons, sumL_cons, List.length_cons]; have := tot_le l; have := cellB_length c; omega
theorem drop_tot {l : List (List Int)} {i : Nat} (h : i < l.length) : tot (l.drop i) = (cellB (l.getD i [])).length + tot (l.drop (i + 1)) := by
  rw [List.drop_eq_getElem_cons h, tot_cons, getD_get l i [] h]
theorem drop_sumL {l : List (List Int)} {i : Nat} (h : i < l.length) : sumL (l.drop i) = (l.getD i []).length + sumL (l.drop (i + 1)) := by
  rw [List.drop_eq_getElem_cons h, sumL_cons, getD_get l i [] h]
theorem put_len_eq (k : Nat) (hk : 40 ≤ k) (n : Nat) (hn : n ≤ 140737488355328) : varint_Put k (IntKind.u64.wrap (n : Int)) = some (put n) := by
  have e : IntKind.u64.wrap (n : Int) = (n : Int) := by rw [wrap_u64]; omega
  rw [e, put_eq k hk _ (by omega) (by omega)]
/-- How much room is left beside cells. -/
def roomR (l : List (List Int)) : Int := 505 - (2 * l.length + tot l : Nat)
theorem room_l3 (k : Nat) (hk : 40 ≤ k) {cells : List (List Int)} (h1 : cells.length ≤ 400) (h2 : sumL cells ≤ 10000) : ∀ (d i m : Nat) (n : Int), i + d = cells.length → d < m → -1000000 + (2 * d : Nat) + tot (cells.drop i) ≤ n → n ≤ 505 →
    node_Room_l3 k (fun n => some n) m n cells (cells.length : Int) i = some (n - (2 * d + tot (cells.drop i) : Nat))
  | 0, i, m + 1, n, hi, _, hn, hn2 => by
    simp only [node_Room_l3, node_Room_l3_b]
    rw [decide_eq_false (by omega), cond_false, List.drop_eq_nil_of_le (by omega)]
    simp [tot]
  | d + 1, i, m + 1, n, hi, hm, hn, hn2 => by
    have hil : i < cells.length := by omega
    have hs : sumL (cells.drop i) ≤ 10000 := by
      have : ∀ (l : List (List Int)) (i : Nat), sumL (l.drop i) ≤ sumL l := by
        intro l
        induction l with
        | nil => intro i; simp [sumL]
        | cons c r ih =>
          intro i
          cases i with
          | zero => exact Nat.le_refl _
          | succ i => rw [List.drop_succ_cons, sumL_cons]; have := ih i; omega
      exact Nat.le_trans (this cells i) h2
    have ht := drop_tot hil
    rw [drop_sumL hil] at hs
    simp only [node_Room_l3, node_Room_l3_b]
    rw [decide_eq_true (by omega), cond_true, chk_pos (by omega), Int.toNat_natCast, put_len_eq k hk _ (by omega), some_bind]
    have hp := put_length ((cells.getD i []).length : Int)
    have hb : (cellB (cells.getD i [])).length = (put ((cells.getD i []).length : Int)).length + (cells.getD i []).length := by unfold cellB; rw [List.length_append]
    have htl := tot_le (cells.drop (i + 1))
    rw [List.length_drop] at htl
    rw [w64 (x := 2 + ((put ((cells.getD i []).length : Int)).length : Int)) (by omega) (by omega), w64 (x := 2 + ((put ((cells.getD i []).length : Int)).length : Int) + ((cells.getD i []).length : Int)) (by omega) (by omega)]
    rw [w64 (x := n - (2 + ((put ((cells.getD i []).length : Int)).length : Int) + ((cells.getD i []).length : Int))) (by omega) (by omega), w64n (by omega)]
    rw [room_l3 k hk h1 h2 d (i + 1) m _ (by omega) (by omega) (by omega) (by omega), ht]
    congr 1
    omega
theorem room_eq (k : Nat) (hk : 500 ≤ k) {cells : List (List Int)} (h1 : cells.length ≤ 400) (h2 : sumL cells ≤ 10000) : node_Room k cells = some (roomR cells) := by
  unfold node_Room
  have ht := tot_le cells
  have := room_l3 k (by omega) h1 h2 cells.length 0 k 505 (by omega) (by omega) (by rw [List.drop_zero]; omega) (by omega)
  rw [List.drop_zero] at this
  exact this
theorem concat_eq (k : Nat) (hk : 5 ≤ k) (a b : List Int) (ha : a.length ≤ 1000000) (hb : b.length ≤ 1000000) : slices_Concat_byte_byte_ k [a, b] = some (a ++ b) := by
  obtain ⟨m, rfl⟩ : ∃ m, k = m + 3 := ⟨k - 3, by omega⟩
  unfold slices_Concat_byte_byte_
  have hlen : (([a, b] : List (List Int)).length : Int) = 2 := rfl
  have g0 : ([a, b] : List (List Int)).getD (0 : Int).toNat [] = a := rfl
  have g1 : ([a, b] : List (List Int)).getD (1 : Int).toNat [] = b := rfl
  simp only [slices_Concat_byte_byte__l3, slices_Concat_byte_byte__l3_b, hlen]
  rw [show decide ((0 : Int) < 2) = true from rfl, cond_true, chk_pos (by decide), g0, w64 (x := 0 + (a.length : Int)) (by omega) (by omega), decide_eq_false (by omega), cond_false, show IntKind.i64.wrap (0 + 1) = 1 from rfl]
  rw [show decide ((1 : Int) < 2) = true from rfl, cond_true, chk_pos (by decide), g1, w64 (x := 0 + (a.length : Int) + (b.length : Int)) (by omega) (by omega), decide_eq_false (by omega), cond_false, show IntKind.i64.wrap (1 + 1) = 2 from rfl]
  rw [show decide ((2 : Int) < 2) = false from rfl, cond_false]
  unfold slices_Grow_byte_byte__n0
  rw [chk_pos (by omega), some_bind]
  simp only [slices_Concat_byte_byte__l11, slices_Concat_byte_byte__l11_b, hlen]
  rw [show decide ((0 : Int) < 2) = true from rfl, cond_true, chk_pos (by decide), g0, chk_pos (by simp; omega), show IntKind.i64.wrap (0 + 1) = 1 from rfl]
  rw [show decide ((1 : Int) < 2) = true from rfl, cond_true, chk_pos (by decide), g1, chk_pos (by simp; omega), show IntKind.i64.wrap (1 + 1) = 2 from rfl]
  rw [show decide ((2 : Int) < 2) = false from rfl, cond_false, List.nil_append]
/-- Cells laid on a page, from its end on. -/
def encR : List Int → Nat → Nat → List (List Int) → List Int
  | p, _, _, [] => p
  | p, e, i, c :: r => encR (((overL p (e - (cellB c).length) (cellB c).length (cellB c)).set (7 + 2 * i) (((e - (cellB c).length : Nat) : Int) / 256)).set (7 + 2 * i + 1) (((e - (cellB c).length : Nat) : Int) % 256)) (e - (cellB c).length) (i + 1) r
theorem overL_len {l q : List Int} {lo n : Nat} (h1 : lo + n ≤ l.length) (h2 : n ≤ q.length) : (overL l lo n q).length = l.length := by
  unfold overL; simp only [List.length_append, List.length_take, List.length_drop]; omega
theorem overL_get {l q : List Int} {lo n : Nat} (h1 : lo + n ≤ l.length) (h2 : n = q.length) (j : Nat) : (overL l lo n q).getD j 0 = if lo ≤ j ∧ j < lo + n then q.getD (j - lo) 0 else l.getD j 0 := by
  unfold overL
  simp only [List.getD_eq_getElem?_getD]
  by_cases hlo : j < lo
  · rw [if_neg (by omega), List.getElem?_append_left (by simp; omega), List.getElem?_take_of_lt hlo]
  · rw [List.getElem?_append_right (by simp; omega)]
    have hl : (l.take lo).length = lo := by simp; omega
    rw [hl]
    by_cases hn : j < lo + n
    · rw [if_pos ⟨by omega, hn⟩, List.getElem?_append_left (by simp; omega), List.getElem?_take_of_lt (by omega)]
    · rw [if_neg (by omega), List.getElem?_append_right (by simp; omega), List.getElem?_drop]
      have : (q.take n).length = n := by simp; omega
      rw [this, show lo + n + (j - lo - n) = j by omega]
theorem set_get (l : List Int) (i j : Nat) (v : Int) (h : i < l.length) : (l.set i v).getD j 0 = if j = i then v else l.getD j 0 := by
  simp only [List.getD_eq_getElem?_getD]
  by_cases e : j = i
  · subst e; rw [if_pos rfl, List.getElem?_set_self h]; rfl
  · rw [if_neg e, List.getElem?_set_ne (fun h => e h.symm)]
theorem isB_overL {l q : List Int} (hl : IsB l) (hq : IsB q) (lo n : Nat) : IsB (overL l lo n q) := by
  intro y hy
  unfold overL at hy
  rcases List.mem_append.1 hy with h | h
  · exact hl y (List.mem_of_mem_take h)
  · rcases List.mem_append.1 h with h | h
    · exact hq y (List.mem_of_mem_take h)
    · exact hl y (List.mem_of_mem_drop h)
theorem isB_set {l : List Int} (hl : IsB l) (i : Nat) {v : Int} (h0 : 0 ≤ v) (h1 : v < 256) : IsB (l.set i v) := by
  intro y hy
  rcases List.mem_or_eq_of_mem_set hy with h | h
  · exact hl y h
  · rw [h]; exact ⟨h0, h1⟩
theorem isB_cellB {c : List Int} (hc : IsB c) : IsB (cellB c) := by
  intro y hy
  rcases List.mem_append.1 hy with h | h
  · exact put_byte _ y h
  · exact hc y h
section
variable {p : List Int} {e i : Nat} {c : List Int} {r : List (List Int)} (h512 : p.length = 512) (he : e ≤ 512) (hr : 7 + 2 * (i + (c :: r).length) + tot (c :: r) ≤ e)
include h512 he hr
theorem step_len : ((((overL p (e - (cellB c).length) (cellB c).length (cellB c)).set (7 + 2 * i) (((e - (cellB c).length : Nat) : Int) / 256)).set (7 + 2 * i + 1) (((e - (cellB c).length : Nat) : Int) % 256))).length = 512 := by
  rw [tot_cons, List.length_cons] at hr
  rw [List.length_set, List.length_set, overL_len (by omega) (Nat.le_refl _), h512]
theorem step_get (j : Nat) : ((((overL p (e - (cellB c).length) (cellB c).length (cellB c)).set (7 + 2 * i) (((e - (cellB c).length : Nat) : Int) / 256)).set (7 + 2 * i + 1) (((e - (cellB c).length : Nat) : Int) % 256))).getD j 0 =
    if j = 7 + 2 * i + 1 then ((e - (cellB c).length : Nat) : Int) % 256 else if j = 7 + 2 * i then ((e - (cellB c).length : Nat) : Int) / 256 else if e - (cellB c).length ≤ j ∧ j < e then (cellB c).getD (j - (e - (cellB c).length)) 0 else p.getD j 0 := by
  rw [tot_cons, List.length_cons] at hr
  have hl := overL_len (l := p) (q := cellB c) (lo := e - (cellB c).length) (n := (cellB c).length) (by omega) (Nat.le_refl _)
  rw [set_get _ _ _ _ (by rw [List.length_set, hl]; omega), set_get _ _ _ _ (by rw [hl]; omega), overL_get (by omega) rfl]
  have : e - (cellB c).length + (cellB c).length = e := by omega
  rw [this]
end
theorem encR_len : ∀ (r : List (List Int)) (p : List Int) (e i : Nat), p.length = 512 → e ≤ 512 → 7 + 2 * (i + r.length) + tot r ≤ e → (encR p e i r).length = 512
  | [], p, e, i, h, _, _ => h
  | c :: r, p, e, i, h, he, hr => by
    rw [encR]
    have hl := step_len h he hr
    rw [tot_cons, List.length_cons] at hr
    exact encR_len r _ _ (i + 1) hl (by omega) (by omega)
theorem encR_keep : ∀ (r : List (List Int)) (p : List Int) (e i : Nat), p.length = 512 → e ≤ 512 → 7 + 2 * (i + r.length) + tot r ≤ e → ∀ j, (j < 7 + 2 * i ∨ e ≤ j) → (encR p e i r).getD j 0 = p.getD j 0
  | [], p, e, i, h, _, _, j, hj => rfl
  | c :: r, p, e, i, h, he, hr, j, hj => by
    rw [encR]
    have hl := step_len h he hr
    have hg := step_get h he hr j
    rw [tot_cons, List.length_cons] at hr
    rw [encR_keep r _ _ (i + 1) hl (by omega) (by omega) j (by omega), hg, if_neg (by omega), if_neg (by omega), if_neg (by omega)]
theorem encR_isB : ∀ (r : List (List Int)) (p : List Int) (e i : Nat), IsB p → e ≤ 512 → (∀ c ∈ r, IsB c) → IsB (encR p e i r)
  | [], p, e, i, h, _, _ => h
  | c :: r, p, e, i, h, he, hc => by
    rw [encR]
    refine encR_isB r _ _ (i + 1) ?_ (by omega) (fun x hx => hc x (List.mem_cons_of_mem _ hx))
    exact isB_set (isB_set (isB_overL h (isB_cellB (hc c List.mem_cons_self)) _ _) _ (by omega) (by omega)) _ (by omega) (by omega)
/-- The cells stand on the page. -/
def Holds (P : List Int) : Nat → Nat → List (List Int) → Prop
  | _, _, [] => True
  | e, i, c :: r => word P (7 + 2 * i) = e - (cellB c).length ∧ (P.drop (e - (cellB c).length)).take (cellB c).length = cellB c ∧ Holds P (e - (cellB c).length) (i + 1) r
theorem encR_holds : ∀ (r : List (List Int)) (p : List Int) (e i : Nat), p.length = 512 → e ≤ 512 → 7 + 2 * (i + r.length) + tot r ≤ e → Holds (encR p e i r) e i r
  | [], p, e, i, _, _, _ => trivial
  | c :: r, p, e, i, h, he, hr => by
    rw [encR]
    have hl := step_len h he hr
    have hg := step_get h he hr
    rw [tot_cons, List.length_cons] at hr
    generalize hq : (((overL p (e - (cellB c).length) (cellB c).length (cellB c)).set (7 + 2 * i) (((e - (cellB c).length : Nat) : Int) / 256)).set (7 + 2 * i + 1) (((e - (cellB c).length : Nat) : Int) % 256)) = q at hl hg
    have hlen := encR_len r q (e - (cellB c).length) (i + 1) hl (by omega) (by omega)
    have hk := encR_keep r q (e - (cellB c).length) (i + 1) hl (by omega) (by omega)
    refine ⟨?_, ?_, encR_holds r q _ (i + 1) hl (by omega) (by omega)⟩
    · unfold word
      rw [hk _ (.inl (by omega)), hk _ (.inl (by omega)), hg, hg, if_neg (by omega), if_pos rfl, if_pos rfl]
      omega
    · apply List.ext_getElem
      · rw [List.length_take, List.length_drop, hlen]; omega
      · intro j h1 h2
        rw [List.getElem_take, List.getElem_drop]
        have := hk (e - (cellB c).length + j) (.inr (by omega))
        rw [hg, if_neg (by omega), if_neg (by omega), if_pos (by omega), getD_get _ _ _ (by rw [hlen]; omega), show e - (cellB c).length + j - (e - (cellB c).length) = j by omega, getD_get _ _ _ h2] at this
        exact this
theorem enc_l10 {ρ : Type} (k : Nat) (hk : 500 ≤ k) (kexit : List Int → Option ρ) {cells : List (List Int)} (h1 : cells.length ≤ 400) (hb : ∀ c ∈ cells, c.length ≤ 10000) : ∀ (d i n : Nat) (p : List Int) (e : Nat), i + d = cells.length → d < n → p.length = 512 → e ≤ 512 → 7 + 2 * cells.length + tot (cells.drop i) ≤ e →
    node_Encode_l10 k kexit n p e cells (cells.length : Int) i = kexit (encR p e i (cells.drop i))
  | 0, i, n + 1, p, e, hi, _, _, _, _ => by
    simp only [node_Encode_l10, node_Encode_l10_b]
    rw [decide_eq_false (by omega), cond_false, List.drop_eq_nil_of_le (by omega)]; rfl
  | d + 1, i, n + 1, p, e, hi, hn, h512, he, hr => by
    have hil : i < cells.length := by omega
    have ht := drop_tot hil
    have hcb := hb _ (getD_mem (d := []) hil)
    have hput := put_length ((cells.getD i []).length : Int)
    have hd : cells.drop i = cells.getD i [] :: cells.drop (i + 1) := by rw [List.drop_eq_getElem_cons hil, getD_get cells i [] hil]
    have hstep : 7 + 2 * (i + (cells.getD i [] :: cells.drop (i + 1)).length) + tot (cells.getD i [] :: cells.drop (i + 1)) ≤ e := by
      rw [← hd, List.length_drop]; omega
    have hl := step_len h512 he hstep
    simp only [node_Encode_l10, node_Encode_l10_b]
    rw [decide_eq_true (by omega), cond_true, chk_pos (by omega), Int.toNat_natCast, put_len_eq k (by omega) _ (by omega), some_bind, concat_eq k (by omega) _ _ (by omega) (by omega), some_bind]
    have hcell : put ((cells.getD i []).length : Int) ++ cells.getD i [] = cellB (cells.getD i []) := rfl
    have e1 : IntKind.i64.wrap ((e : Int) - ((cellB (cells.getD i [])).length : Int)) = ((e - (cellB (cells.getD i [])).length : Nat) : Int) := by rw [w64 (by omega) (by omega)]; omega
    have e2 : IntKind.i64.wrap (7 + IntKind.i64.wrap (2 * (i : Int))) = ((7 + 2 * i : Nat) : Int) := by rw [w64 (x := 2 * (i : Int)) (by omega) (by omega), w64 (by omega) (by omega)]; omega
    have e3 : IntKind.i64.wrap (((7 + 2 * i : Nat) : Int) + 1) = ((7 + 2 * i + 1 : Nat) : Int) := by rw [w64 (by omega) (by omega)]; omega
    have e4 : (p.length : Int).toNat = 512 := by omega
    have e5 : min (cellB (cells.getD i [])).length (512 - (e - (cellB (cells.getD i [])).length)) = (cellB (cells.getD i [])).length := Nat.min_eq_left (by omega)
    have e6 : IntKind.u8.wrap (Int.fdiv ((e - (cellB (cells.getD i [])).length : Nat) : Int) (2 ^ (min (8 : Int).toNat (IntKind.i64).bits))) = ((e - (cellB (cells.getD i [])).length : Nat) : Int) / 256 := by
      rw [show (2 : Int) ^ (min (8 : Int).toNat (IntKind.i64).bits) = 256 by decide, Int.fdiv_eq_ediv_of_nonneg _ (by omega), IntKind.wrap_u8]; omega
    have e7 : IntKind.u8.wrap ((e - (cellB (cells.getD i [])).length : Nat) : Int) = ((e - (cellB (cells.getD i [])).length : Nat) : Int) % 256 := by rw [IntKind.wrap_u8]
    rw [hcell, e1, e2, e3, e4, Int.toNat_natCast, Int.toNat_natCast, Int.toNat_natCast, e5, e6, e7]
    have hov := overL_len (l := p) (q := cellB (cells.getD i [])) (lo := e - (cellB (cells.getD i [])).length) (n := (cellB (cells.getD i [])).length) (by omega) (Nat.le_refl _)
    rw [chk_pos (by omega), chk_pos (by omega), chk_pos (by rw [hov]; omega), chk_pos (by rw [hov]; omega), chk_pos (by rw [List.length_set, hov]; omega), chk_pos (by rw [List.length_set, hov]; omega), w64n (by omega)]
    rw [enc_l10 k hk kexit h1 hb d (i + 1) n _ _ (by omega) (by omega) hl (by omega) (by omega), hd]
    rfl
/-- A page's beginning. -/
def headB (kind next : Int) (n : Nat) : List Int := [kind, (n : Int) / 256, (n : Int) % 256, next / 16777216, next / 65536 % 256, next / 256 % 256, next % 256]
def page (kind next : Int) (cells : List (List Int)) : List Int := encR (overL (List.replicate 512 0) 0 7 (headB kind next cells.length)) 512 0 cells
theorem enc_eq (k : Nat) (hk : 1000 ≤ k) (kind next : Int) {cells : List (List Int)} (h1 : cells.length ≤ 400) (h2 : sumL cells ≤ 10000) (hb : ∀ c ∈ cells, c.length ≤ 10000) (k0 : 0 ≤ kind) (k1 : kind < 256) (n0 : 0 ≤ next) (n1 : next < 4294967296) :
    node_Encode k kind next cells = some (if roomR cells < 0 then ([], 7) else (page kind next cells, 0)) := by
  unfold node_Encode
  rw [decide_eq_false (by omega), cond_false, decide_eq_false (by omega), cond_false, decide_eq_false (by omega), cond_false, big_eq, decide_eq_false (by omega), cond_false]
  unfold node_Encode_j3
  rw [room_eq k (by omega) h1 h2, some_bind]
  by_cases hr : roomR cells < 0
  · rw [decide_eq_true hr, cond_true, if_pos hr]
  rw [decide_eq_false hr, cond_false, if_neg hr, chk_pos (by decide)]
  have e16 : (2 : Int) ^ (min (16 : Int).toNat (IntKind.i64).bits) = 65536 := by decide
  have e8 : (2 : Int) ^ (min (8 : Int).toNat (IntKind.i64).bits) = 256 := by decide
  have e24 : (2 : Int) ^ (min (24 : Int).toNat (IntKind.i64).bits) = 16777216 := by decide
  have hh : [(IntKind.u8.wrap kind), (IntKind.u8.wrap (Int.fdiv (cells.length : Int) (2 ^ (min (8 : Int).toNat (IntKind.i64).bits)))), (IntKind.u8.wrap (cells.length : Int)), (IntKind.u8.wrap (Int.fdiv next (2 ^ (min (24 : Int).toNat (IntKind.i64).bits)))),
      (IntKind.u8.wrap (Int.fdiv next (2 ^ (min (16 : Int).toNat (IntKind.i64).bits)))), (IntKind.u8.wrap (Int.fdiv next (2 ^ (min (8 : Int).toNat (IntKind.i64).bits)))), (IntKind.u8.wrap next)] = headB kind next cells.length := by
    rw [e16, e8, e24]
    unfold headB
    rw [Int.fdiv_eq_ediv_of_nonneg _ (by omega), Int.fdiv_eq_ediv_of_nonneg _ (by omega), Int.fdiv_eq_ediv_of_nonneg _ (by omega), Int.fdiv_eq_ediv_of_nonneg _ (by omega)]
    simp only [IntKind.wrap_u8]
    congr 1
    · omega
    · congr 1
      · omega
      · congr 2
        omega
  dsimp only
  rw [hh]
  have hz : (List.replicate (512 : Int).toNat (0 : Int)).length = 512 := by rw [List.length_replicate]; rfl
  have hm : min (headB kind next cells.length).length (List.replicate (512 : Int).toNat (0 : Int)).length = 7 := by rw [hz]; rfl
  rw [hm, chk_pos (by omega)]
  unfold roomR at hr
  have hlen : (overL (List.replicate (512 : Int).toNat (0 : Int)) 0 7 (headB kind next cells.length)).length = 512 := by
    rw [overL_len (l := List.replicate (512 : Int).toNat (0 : Int)) (q := headB kind next cells.length) (lo := 0) (n := 7) (by rw [hz]; omega) (Nat.le_refl 7), hz]
  have := enc_l10 k (by omega) (fun p8 => some (p8, (0 : Int))) h1 hb cells.length 0 k (overL (List.replicate (512 : Int).toNat (0 : Int)) 0 7 (headB kind next cells.length)) 512 (by omega) (by omega) hlen (by omega) (by rw [List.drop_zero]; omega)
  rw [List.drop_zero] at this
  exact this
end Go.Proofs.Ytekjibpkkgldgaa.B
