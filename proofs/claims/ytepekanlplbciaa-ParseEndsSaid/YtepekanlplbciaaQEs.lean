/-
  Whether two statements are alike, part by part: what the printed functions answer, given time enough.
-/
import Derived.Test.YtepekanlplbciaaAxTxt
import Derived.Test.YtepekanlplbciaaQF
namespace Go.Proofs.Ytepekanlplbciaa.Q
open Go Go.AX
/-- Whether two are the same. -/
noncomputable def sameB {α : Type} (a b : α) : Bool := @decide (a = b) (Classical.propDecidable _)
theorem sameB_iff {α : Type} {a b : α} : sameB a b = true ↔ a = b := @decide_eq_true_iff (a = b) (Classical.propDecidable _)
theorem sameB_t {α : Type} {a b : α} (h : a = b) : sameB a b = true := sameB_iff.2 h
theorem sameB_f {α : Type} {a b : α} (h : ¬ a = b) : sameB a b = false := by cases e : sameB a b with | false => rfl | true => exact absurd (sameB_iff.1 e) h
theorem sameB_congr {α β : Type} {a b : α} {c d : β} (h : a = b ↔ c = d) : sameB a b = sameB c d := by rw [Bool.eq_iff_iff, sameB_iff, sameB_iff]; exact h
open Classical in
theorem eq_loop {α : Type} (a b : List α) (hl : a.length = b.length) (F : Nat → Int → Option Bool) (h0 : ∀ n, F (n + 1) (a.length : Int) = some true)
    (h1 : ∀ (n i : Nat) (h : i < a.length), F (n + 1) (i : Int) = if a[i] = b[i]'(by omega) then F n ((i + 1 : Nat) : Int) else some false) :
    ∀ (d i n : Nat), i + d = a.length → d < n → F n (i : Int) = some (sameB (a.drop i) (b.drop i))
  | 0, i, n + 1, hi, _ => by
    obtain rfl : i = a.length := by omega
    rw [h0, List.drop_length, hl, List.drop_length, sameB_t rfl]
  | d + 1, i, n + 1, hi, hn => by
    have h2 : i < a.length := by omega
    have h3 : i < b.length := by omega
    have ea := List.drop_eq_getElem_cons h2
    have eb := List.drop_eq_getElem_cons h3
    rw [h1 n i h2, ea, eb]
    by_cases he : a[i] = b[i]
    · rw [if_pos he, eq_loop a b hl F h0 h1 d (i + 1) n (by omega) (by omega)]
      congr 1
      exact sameB_congr ⟨fun h => by rw [he, h], fun h => (List.cons.inj h).2⟩
    · rw [if_neg he, sameB_f fun h => he (List.cons.inj h).1]
theorem len_ne {α : Type} {a b : List α} (h : ¬ a.length = b.length) : ((a.length : Int) != (b.length : Int)) = true := by
  rw [bne_iff_ne]; omega
theorem len_eq {α : Type} {a b : List α} (h : a.length = b.length) : ((a.length : Int) != (b.length : Int)) = false := by
  rw [h]; simp
theorem dec_ne {α : Type} {a b : List α} (h : ¬ a.length = b.length) : sameB a b = false := sameB_f fun e => h (by rw [e])
theorem eqColumns (k : Nat) (a b : List SColumn) (ha : a.length ≤ 1000000000000000) (hk : a.length < k) : cadastreref0_EqColumns k a b = some (sameB (a) (b)) := by
  unfold cadastreref0_EqColumns
  by_cases hl : a.length = b.length
  · rw [len_eq hl, cond_false]
    refine (eq_loop a b hl (fun n i => cadastreref0_EqColumns_l4 k (fun t => some t) (some true) n a b i) (fun n => ?_) (fun n i h => ?_) a.length 0 k (by omega) hk).trans (by rw [List.drop_zero, List.drop_zero])
    · simp only [cadastreref0_EqColumns_l4, cadastreref0_EqColumns_l4_b]
      rw [decide_eq_false (by omega), cond_false]
    · simp only [cadastreref0_EqColumns_l4, cadastreref0_EqColumns_l4_b]
      rw [decide_eq_true (by omega), cond_true, chk_pos (by omega), chk_pos (by omega), Int.toNat_natCast, getD_get a i _ h, getD_get b i _ (by omega), w64n (by omega)]
      have he : (!((a[i].f0 == b[i].f0) && ((a[i].f1 == b[i].f1) && (a[i].f2 == b[i].f2)))) = !(sameB a[i] b[i]) := by
        congr 1
        rw [Bool.eq_iff_iff, Bool.and_eq_true, Bool.and_eq_true, beq_iff_eq, beq_iff_eq, beq_iff_eq, sameB_iff]
        generalize a[i] = x
        generalize b[i] = y
        obtain ⟨x0, x1, x2⟩ := x
        obtain ⟨y0, y1, y2⟩ := y
        simp
      rw [he]
      by_cases h2 : a[i] = b[i]
      · rw [if_pos h2, sameB_t h2]; rfl
      · rw [if_neg h2, sameB_f h2]; rfl
  · rw [len_ne hl, cond_true, dec_ne hl]
theorem eqStrings (k : Nat) (a b : List ByteArray) (ha : a.length ≤ 1000000000000000) (hk : a.length < k) : cadastreref0_EqStrings k a b = some (sameB (a) (b)) := by
  unfold cadastreref0_EqStrings
  by_cases hl : a.length = b.length
  · rw [len_eq hl, cond_false]
    refine (eq_loop a b hl (fun n i => cadastreref0_EqStrings_l4 k (fun t => some t) (some true) n a b i) (fun n => ?_) (fun n i h => ?_) a.length 0 k (by omega) hk).trans (by rw [List.drop_zero, List.drop_zero])
    · simp only [cadastreref0_EqStrings_l4, cadastreref0_EqStrings_l4_b]
      rw [decide_eq_false (by omega), cond_false]
    · simp only [cadastreref0_EqStrings_l4, cadastreref0_EqStrings_l4_b]
      rw [decide_eq_true (by omega), cond_true, chk_pos (by omega), chk_pos (by omega), Int.toNat_natCast, getD_get a i _ h, getD_get b i _ (by omega), w64n (by omega), beq_bytes]
      by_cases h2 : a[i] = b[i]
      · rw [if_pos h2, h2, beq_self_eq_true]; rfl
      · rw [if_neg h2, beq_eq_false_iff_ne.2 h2]; rfl
  · rw [len_ne hl, cond_true, dec_ne hl]
/-- No part has too many parts. -/
inductive Lim : TExpr → Prop
  | mk {a : Int} {b : SValue} {c d : ByteArray} {l : List TExpr} : l.length ≤ 1000000000000000 → (∀ x ∈ l, Lim x) → Lim (.mk a b c d l)
theorem tE_s (x : TExpr) : x.s.t = x := by cases x; rfl
theorem tE_inj {x y : SExpr} : x.t = y.t ↔ x = y := by
  constructor
  · intro h
    obtain ⟨a, b, c, d, e⟩ := x
    obtain ⟨a', b', c', d', e'⟩ := y
    simp only [SExpr.t, TExpr.mk.injEq] at h
    simp [h]
  · intro h; rw [h]
theorem sE_inj {x y : TExpr} : x.s = y.s ↔ x = y := by
  constructor
  · intro h
    have := congrArg SExpr.t h
    rwa [tE_s, tE_s] at this
  · intro h; rw [h]
noncomputable abbrev EqRC (k d : Nat) := cadastreref0_EqExprs_R_it k d
theorem eqExprs_l {k : Nat} {rc : cadastreref0_EqExprs_R} {a : List TExpr} (ha : a.length ≤ 1000000000000000) (hk : a.length < k) (hrc : ∀ x ∈ a, ∀ y : TExpr, rc.cadastreref0_EqExpr x.s y.s = some (sameB (x) (y))) (b : List TExpr) :
    cadastreref0_EqExprs_r k rc a b = some (sameB (a) (b)) := by
  unfold cadastreref0_EqExprs_r
  by_cases hl : a.length = b.length
  · rw [len_eq hl, cond_false]
    refine (eq_loop a b hl (fun n i => cadastreref0_EqExprs_l4 k rc (fun t => some t) (some true) n a b i) (fun n => ?_) (fun n i h => ?_) a.length 0 k (by omega) hk).trans (by rw [List.drop_zero, List.drop_zero])
    · simp only [cadastreref0_EqExprs_l4, cadastreref0_EqExprs_l4_b]
      rw [decide_eq_false (by omega), cond_false]
    · simp only [cadastreref0_EqExprs_l4, cadastreref0_EqExprs_l4_b]
      rw [decide_eq_true (by omega), cond_true, chk_pos (by omega), chk_pos (by omega), Int.toNat_natCast, getD_get a i _ h, getD_get b i _ (by omega), w64n (by omega), hrc _ (List.getElem_mem h), some_bind]
      by_cases h2 : a[i] = b[i]
      · rw [if_pos h2, sameB_t h2]; rfl
      · rw [if_neg h2, sameB_f h2]; rfl
  · rw [len_ne hl, cond_true, dec_ne hl]
theorem eqExpr_1 {k : Nat} {rc : cadastreref0_EqExprs_R} {x : SExpr} (h : ∀ b, rc.cadastreref0_EqExprs x.f4 b = some (sameB (x.f4) (b))) (y : SExpr) : cadastreref0_EqExpr_r k rc x y = some (sameB (x) (y)) := by
  unfold cadastreref0_EqExpr_r
  rw [h, beq_bytes, beq_bytes]
  obtain ⟨a, ⟨b0, b1, b2⟩, c, d, e⟩ := x
  obtain ⟨a', ⟨b0', b1', b2'⟩, c', d', e'⟩ := y
  dsimp only
  by_cases h1 : a = a'
  · subst h1
    rw [beq_self_eq_true, cond_true]
    by_cases h2 : (b0 == b0' && (b1 == b1' && b2 == b2')) = true
    · rw [h2, cond_true]
      rw [Bool.and_eq_true, Bool.and_eq_true, beq_iff_eq, beq_iff_eq, beq_iff_eq] at h2
      obtain ⟨rfl, rfl, rfl⟩ := h2
      by_cases h3 : c = c'
      · subst h3
        rw [beq_self_eq_true, cond_true]
        by_cases h4 : d = d'
        · subst h4
          rw [beq_self_eq_true, cond_true, some_bind]
          by_cases h5 : e = e'
          · subst h5; rw [sameB_t rfl, sameB_t rfl]
          · rw [sameB_f h5, sameB_f (by simp [h5])]
        · rw [beq_eq_false_iff_ne.2 h4, cond_false, sameB_f (by simp [h4])]
      · rw [beq_eq_false_iff_ne.2 h3, cond_false, sameB_f (by simp [h3])]
    · rw [Bool.not_eq_true] at h2
      rw [h2, cond_false]
      have : ¬ (b0 = b0' ∧ b1 = b1' ∧ b2 = b2') := fun ⟨e1, e2, e3⟩ => by subst e1; subst e2; subst e3; simp at h2
      rw [sameB_f (by simp [this])]
  · rw [beq_eq_false_iff_ne.2 h1, cond_false, sameB_f (by simp [h1])]
theorem eqExpr_it {x : TExpr} (h : Lim x) : ∃ D, ∀ k d, D ≤ k → D ≤ d → ∀ y : TExpr, (EqRC k d).cadastreref0_EqExpr x.s y.s = some (sameB (x) (y)) := by
  induction h with
  | @mk a b c d l hl _ ih =>
    have hD : ∃ D, ∀ x ∈ l, ∀ k d, D ≤ k → D ≤ d → ∀ y : TExpr, (EqRC k d).cadastreref0_EqExpr x.s y.s = some (sameB (x) (y)) := by
      clear hl
      induction l with
      | nil => exact ⟨0, fun x hx => by cases hx⟩
      | cons x r ihr =>
        obtain ⟨D1, h1⟩ := ih x List.mem_cons_self
        obtain ⟨D2, h2⟩ := ihr (fun y hy => ‹∀ x ∈ _, Lim x› y (List.mem_cons_of_mem _ hy)) fun y hy => ih y (List.mem_cons_of_mem _ hy)
        refine ⟨D1 + D2, fun y hy k d hk hd => ?_⟩
        rcases List.mem_cons.1 hy with rfl | hy
        · exact h1 k d (by omega) (by omega)
        · exact h2 y hy k d (by omega) (by omega)
    obtain ⟨D, hD⟩ := hD
    refine ⟨D + l.length + 2, fun k d hk hd y => ?_⟩
    obtain ⟨d, rfl⟩ : ∃ d', d = d' + 2 := ⟨d - 2, by omega⟩
    rename_i c' _
    have hq : ∀ q, (EqRC k (d + 1)).cadastreref0_EqExprs l q = some (sameB l q) := fun q => eqExprs_l (k := k) hl (by omega) (fun x hx y => hD x hx k d (by omega) (by omega) y) q
    refine (eqExpr_1 (k := k) (rc := EqRC k (d + 1)) (x := ⟨a, b, c, c', l⟩) hq y.s).trans ?_
    congr 1
    exact sameB_congr (sE_inj (x := TExpr.mk a b c c' l) (y := y))
/-- Rows of expressions that may be gone through. -/
def LimL (l : List TExpr) : Prop := l.length ≤ 1000000000000000 ∧ ∀ x ∈ l, Lim x
theorem uni {α : Type} {p : α → Nat → Nat → Prop} : ∀ (l : List α), (∀ x ∈ l, ∃ D, ∀ k d, D ≤ k → D ≤ d → p x k d) → ∃ D, ∀ x ∈ l, ∀ k d, D ≤ k → D ≤ d → p x k d
  | [], _ => ⟨0, fun x hx => by cases hx⟩
  | x :: r, h => by
    obtain ⟨D1, h1⟩ := h x List.mem_cons_self
    obtain ⟨D2, h2⟩ := uni r fun y hy => h y (List.mem_cons_of_mem _ hy)
    refine ⟨D1 + D2, fun y hy k d hk hd => ?_⟩
    rcases List.mem_cons.1 hy with rfl | hy
    · exact h1 k d (by omega) (by omega)
    · exact h2 y hy k d (by omega) (by omega)
theorem eqExprs {a : List TExpr} (h : LimL a) : ∃ D, ∀ k, D ≤ k → ∀ b, cadastreref0_EqExprs k a b = some (sameB (a) (b)) := by
  obtain ⟨D, hD⟩ := uni a fun x hx => eqExpr_it (h.2 x hx)
  refine ⟨D + a.length + 2, fun k hk b => ?_⟩
  obtain ⟨d, hd⟩ : ∃ d', k = d' + 1 := ⟨k - 1, by omega⟩
  have : cadastreref0_EqExprs k a b = cadastreref0_EqExprs_r k (EqRC k d) a b := by
    unfold cadastreref0_EqExprs
    conv => lhs; arg 1; arg 2; rw [hd]
    rfl
  rw [this]
  exact eqExprs_l h.1 (by omega) (fun x hx y => hD x hx k d (by omega) (by omega) y) b
theorem eqExpr {a : SExpr} (h : Lim a.t) : ∃ D, ∀ k, D ≤ k → ∀ b, cadastreref0_EqExpr k a b = some (sameB (a) (b)) := by
  obtain ⟨D, hD⟩ := eqExpr_it h
  refine ⟨D, fun k hk b => ?_⟩
  have := hD k k hk hk b.t
  have e1 : a.t.s = a := rfl
  have e2 : b.t.s = b := rfl
  rw [e1, e2] at this
  refine this.trans ?_
  congr 1
  exact sameB_congr tE_inj
theorem eqLines {a : List (List TExpr)} (ha : a.length ≤ 1000000000000000) (h : ∀ x ∈ a, LimL x) : ∃ D, ∀ k, D ≤ k → ∀ b, cadastreref0_EqLines k a b = some (sameB (a) (b)) := by
  obtain ⟨D, hD⟩ := uni (p := fun x k _ => ∀ b, cadastreref0_EqExprs k x b = some (sameB (x) (b))) a fun x hx => by
    obtain ⟨D, hD⟩ := eqExprs (h x hx)
    exact ⟨D, fun k _ hk _ => hD k hk⟩
  refine ⟨D + a.length + 1, fun k hk b => ?_⟩
  unfold cadastreref0_EqLines
  by_cases hl : a.length = b.length
  · rw [len_eq hl, cond_false]
    refine (eq_loop a b hl (fun n i => cadastreref0_EqLines_l4 k (fun t => some t) (some true) n a b i) (fun n => ?_) (fun n i h => ?_) a.length 0 k (by omega) (by omega)).trans (by rw [List.drop_zero, List.drop_zero])
    · simp only [cadastreref0_EqLines_l4, cadastreref0_EqLines_l4_b]
      rw [decide_eq_false (by omega), cond_false]
    · simp only [cadastreref0_EqLines_l4, cadastreref0_EqLines_l4_b]
      rw [decide_eq_true (by omega), cond_true, chk_pos (by omega), chk_pos (by omega), Int.toNat_natCast, getD_get a i _ h, getD_get b i _ (by omega), w64n (by omega), hD _ (List.getElem_mem h) k k (by omega) (by omega), some_bind]
      by_cases h2 : a[i] = b[i]
      · rw [if_pos h2, sameB_t h2]; rfl
      · rw [if_neg h2, sameB_f h2]; rfl
  · rw [len_ne hl, cond_true, dec_ne hl]
theorem eqSets {a : List SSet} (ha : a.length ≤ 1000000000000000) (h : ∀ x ∈ a, Lim x.f1.t) : ∃ D, ∀ k, D ≤ k → ∀ b, cadastreref0_EqSets k a b = some (sameB (a) (b)) := by
  obtain ⟨D, hD⟩ := uni (p := fun x k _ => ∀ b, cadastreref0_EqExpr k x.f1 b = some (sameB (x.f1) (b))) a fun x hx => by
    obtain ⟨D, hD⟩ := eqExpr (h x hx)
    exact ⟨D, fun k _ hk _ => hD k hk⟩
  refine ⟨D + a.length + 1, fun k hk b => ?_⟩
  unfold cadastreref0_EqSets
  by_cases hl : a.length = b.length
  · rw [len_eq hl, cond_false]
    refine (eq_loop a b hl (fun n i => cadastreref0_EqSets_l4 k (fun t => some t) (some true) n a b i) (fun n => ?_) (fun n i h => ?_) a.length 0 k (by omega) (by omega)).trans (by rw [List.drop_zero, List.drop_zero])
    · simp only [cadastreref0_EqSets_l4, cadastreref0_EqSets_l4_b]
      rw [decide_eq_false (by omega), cond_false]
    · simp only [cadastreref0_EqSets_l4, cadastreref0_EqSets_l4_b]
      have h1 := hD _ (List.getElem_mem h) k k (by omega) (by omega) (b[i]'(by omega)).f1
      rw [decide_eq_true (by omega), cond_true, chk_pos (by omega), chk_pos (by omega), Int.toNat_natCast, getD_get a i _ h, getD_get b i _ (by omega), w64n (by omega)]
      unfold cadastreref0_EqSet
      rw [h1, beq_bytes]
      generalize a[i] = x
      generalize b[i] = y
      obtain ⟨x0, x1⟩ := x
      obtain ⟨y0, y1⟩ := y
      dsimp only
      by_cases h2 : x0 = y0
      · subst h2
        rw [beq_self_eq_true, cond_true, some_bind, some_bind]
        by_cases h3 : x1 = y1
        · subst h3; rw [sameB_t rfl, if_pos rfl]; rfl
        · rw [sameB_f h3, if_neg (by simp [h3])]; rfl
      · rw [beq_eq_false_iff_ne.2 h2, cond_false, if_neg (by simp [h2])]; rfl
  · rw [len_ne hl, cond_true, dec_ne hl]
theorem eqOrders {a : List SOrder} (ha : a.length ≤ 1000000000000000) (h : ∀ x ∈ a, Lim x.f0.t) : ∃ D, ∀ k, D ≤ k → ∀ b, cadastreref0_EqOrders k a b = some (sameB (a) (b)) := by
  obtain ⟨D, hD⟩ := uni (p := fun x k _ => ∀ b, cadastreref0_EqExpr k x.f0 b = some (sameB (x.f0) (b))) a fun x hx => by
    obtain ⟨D, hD⟩ := eqExpr (h x hx)
    exact ⟨D, fun k _ hk _ => hD k hk⟩
  refine ⟨D + a.length + 1, fun k hk b => ?_⟩
  unfold cadastreref0_EqOrders
  by_cases hl : a.length = b.length
  · rw [len_eq hl, cond_false]
    refine (eq_loop a b hl (fun n i => cadastreref0_EqOrders_l4 k (fun t => some t) (some true) n a b i) (fun n => ?_) (fun n i h => ?_) a.length 0 k (by omega) (by omega)).trans (by rw [List.drop_zero, List.drop_zero])
    · simp only [cadastreref0_EqOrders_l4, cadastreref0_EqOrders_l4_b]
      rw [decide_eq_false (by omega), cond_false]
    · simp only [cadastreref0_EqOrders_l4, cadastreref0_EqOrders_l4_b]
      have h1 := hD _ (List.getElem_mem h) k k (by omega) (by omega) (b[i]'(by omega)).f0
      rw [decide_eq_true (by omega), cond_true, chk_pos (by omega), chk_pos (by omega), Int.toNat_natCast, getD_get a i _ h, getD_get b i _ (by omega), w64n (by omega)]
      unfold cadastreref0_EqOrder
      rw [h1]
      generalize a[i] = x
      generalize b[i] = y
      obtain ⟨x0, x1⟩ := x
      obtain ⟨y0, y1⟩ := y
      dsimp only
      by_cases h2 : x1 = y1
      · subst h2
        rw [beq_self_eq_true, cond_true, some_bind, some_bind]
        by_cases h3 : x0 = y0
        · subst h3; rw [sameB_t rfl, if_pos rfl]; rfl
        · rw [sameB_f h3, if_neg (by simp [h3])]; rfl
      · rw [beq_eq_false_iff_ne.2 h2, cond_false, if_neg (by simp [h2])]; rfl
  · rw [len_ne hl, cond_true, dec_ne hl]
/-- Statements that may be gone through. -/
structure LimS (s : SStmt) : Prop where
  cols : s.f4.length ≤ 1000000000000000
  names : s.f5.length ≤ 1000000000000000
  rows : s.f6.length ≤ 1000000000000000 ∧ ∀ x ∈ s.f6, LimL x
  sets : s.f7.length ≤ 1000000000000000 ∧ ∀ x ∈ s.f7, Lim x.f1.t
  frm : s.f8.length ≤ 1000000000000000
  out : LimL s.f10
  wh : LimL s.f11
  ord : s.f12.length ≤ 1000000000000000 ∧ ∀ x ∈ s.f12, Lim x.f0.t
theorem eqStmt {a : SStmt} (h : LimS a) : ∃ D, ∀ k, D ≤ k → ∀ b, cadastreref0_EqStmt k a b = some (sameB (a) (b)) := by
  obtain ⟨D1, h1⟩ := eqLines h.rows.1 h.rows.2
  obtain ⟨D2, h2⟩ := eqSets h.sets.1 h.sets.2
  obtain ⟨D3, h3⟩ := eqExprs h.out
  obtain ⟨D4, h4⟩ := eqExprs h.wh
  obtain ⟨D5, h5⟩ := eqOrders h.ord.1 h.ord.2
  refine ⟨D1 + D2 + D3 + D4 + D5 + a.f4.length + a.f5.length + a.f8.length + 1, fun k hk b => ?_⟩
  unfold cadastreref0_EqStmt
  rw [eqColumns k _ _ h.cols (by omega), eqStrings k _ _ h.names (by omega), eqStrings k _ _ h.frm (by omega), h1 k (by omega), h2 k (by omega), h3 k (by omega), h4 k (by omega), h5 k (by omega), beq_bytes, beq_bytes]
  obtain ⟨a0, a1, a2, a3, a4, a5, a6, a7, a8, a9, a10, a11, a12⟩ := a
  obtain ⟨b0, b1, b2, b3, b4, b5, b6, b7, b8, b9, b10, b11, b12⟩ := b
  dsimp only
  by_cases e0 : a0 = b0
  · rw [beq_iff_eq.2 e0, cond_true]
    by_cases e1 : a1 = b1
    · rw [beq_iff_eq.2 e1, cond_true]
      by_cases e2 : a2 = b2
      · rw [beq_iff_eq.2 e2, cond_true]
        by_cases e3 : a3 = b3
        · rw [beq_iff_eq.2 e3, cond_true]
          by_cases e9 : a9 = b9
          · rw [beq_iff_eq.2 e9, cond_true, some_bind]
            by_cases e4 : a4 = b4
            · rw [sameB_t e4, cond_true, some_bind]
              by_cases e5 : a5 = b5
              · rw [sameB_t e5, cond_true, some_bind]
                by_cases e6 : a6 = b6
                · rw [sameB_t e6, cond_true, some_bind]
                  by_cases e7 : a7 = b7
                  · rw [sameB_t e7, cond_true, some_bind]
                    by_cases e8 : a8 = b8
                    · rw [sameB_t e8, cond_true, some_bind]
                      by_cases e10 : a10 = b10
                      · rw [sameB_t e10, cond_true, some_bind]
                        by_cases e11 : a11 = b11
                        · rw [sameB_t e11, cond_true, some_bind]
                          by_cases e12 : a12 = b12
                          · subst e0; subst e1; subst e2; subst e3; subst e4; subst e5; subst e6; subst e7; subst e8; subst e9; subst e10; subst e11; subst e12; rw [sameB_t rfl, sameB_t rfl]
                          · rw [sameB_f e12, sameB_f (by simp [e12])]
                        · rw [sameB_f e11, cond_false, sameB_f (by simp [e11])]
                      · rw [sameB_f e10, cond_false, sameB_f (by simp [e10])]
                    · rw [sameB_f e8, cond_false, sameB_f (by simp [e8])]
                  · rw [sameB_f e7, cond_false, sameB_f (by simp [e7])]
                · rw [sameB_f e6, cond_false, sameB_f (by simp [e6])]
              · rw [sameB_f e5, cond_false, sameB_f (by simp [e5])]
            · rw [sameB_f e4, cond_false, sameB_f (by simp [e4])]
          · rw [beq_eq_false_iff_ne.2 e9, cond_false, sameB_f (by simp [e9])]
        · rw [beq_eq_false_iff_ne.2 e3, cond_false, sameB_f (by simp [e3])]
      · rw [beq_eq_false_iff_ne.2 e2, cond_false, sameB_f (by simp [e2])]
    · rw [beq_eq_false_iff_ne.2 e1, cond_false, sameB_f (by simp [e1])]
  · rw [beq_eq_false_iff_ne.2 e0, cond_false, sameB_f (by simp [e0])]
theorem eqStmt_refl {a : SStmt} (h : LimS a) : ∃ D, ∀ k, D ≤ k → cadastreref0_EqStmt k a a = some true := by
  obtain ⟨D, h⟩ := eqStmt h
  exact ⟨D, fun k hk => by rw [h k hk, sameB_t rfl]⟩
end Go.Proofs.Ytepekanlplbciaa.Q
