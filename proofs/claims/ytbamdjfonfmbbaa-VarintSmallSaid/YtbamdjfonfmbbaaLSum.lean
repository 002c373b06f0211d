/-
  Layer 8: what the printed sums come to.
-/
import Derived.Test.YtbamdjfonfmbbaaLib
import Derived.Test.YtbamdjfonfmbbaaMOk
import Derived.Test.YtbamdjfonfmbbaaMx1
import Derived.Test.YtbamdjfonfmbbaaMx2
namespace Go.Proofs.Ytbamdjfonfmbbaa.M
open Go Go.RowKit Go.Proofs.YtbamdjfonfmbbaaW.PrintWords Go.Proofs.YtbamdjfonfmbbaaW.PrintLast Go.Proofs.YtbamdjfonfmbbaaG

/-- Bytes. -/
def IsB (l : List Int) : Prop := ∀ y ∈ l, 0 ≤ y ∧ y < 256

/-- Four bytes from a place on, the highest first. -/
def wordAt (l : List Int) (at_ : Int) : Int := ((rd l at_ * 256 + rd l (at_ + 1)) * 256 + rd l (at_ + 2)) * 256 + rd l (at_ + 3)

theorem wordAt_range {l : List Int} (hl : IsB l) (i : Int) : 0 ≤ wordAt l i ∧ wordAt l i < 4294967296 := by
  have a := rd_byte hl i; have b := rd_byte hl (i + 1); have c := rd_byte hl (i + 2); have d := rd_byte hl (i + 3)
  unfold wordAt; omega

theorem rd_out {l : List Int} {i : Int} (h0 : 0 ≤ i) (h : ¬ i < (l.length : Int)) : rd l i = 0 := by
  unfold rd; rw [List.getD_eq_getElem?_getD, List.getElem?_eq_none (by omega)]; rfl

/-- One byte more. -/
theorem sum_word_step {l : List Int} (hl : IsB l) (hn : l.length ≤ 140737488351232) (x i at_ : Int) (hx : 0 ≤ x) (hx1 : x < 16777216) (h0 : 0 ≤ at_) (hi : at_ ≤ i) (hi1 : i < at_ + 4) (ha : at_ ≤ 140737488351240) {r : Int}
    (H : Ev (fun k => sum_word.l0 k l at_ (x * 256 + rd l i) (i + 1)) r) : Ev (fun k => sum_word.l0 k l at_ x i) r := by
  have hb := rd_byte hl i
  have e1 : wrap64 (at_ + 4) = at_ + 4 := w64 (by omega) (by omega)
  have e2 : wrap64 (i + 1) = i + 1 := w64 (by omega) (by omega)
  have e3 : x * 256 % 4294967296 = x * 256 := by omega
  refine Ev.step (fun k => by rw [sum_word.l0]) ?_
  rw [e1, e2, e3]
  refine Ev.ifp (by omega) ?_
  by_cases h : i < (l.length : Int)
  · refine Ev.ifp h (Ev.ifp (by omega) ?_)
    have e4 : rd l i % 4294967296 = rd l i := by omega
    rw [e4, or_u32 (by omega) (by omega) (by omega) hb.1 hb.2]
    exact H
  · refine Ev.ifn h ?_
    rw [rd_out (by omega) h, Int.add_zero] at H
    exact H

theorem sum_word_ev {l : List Int} (hl : IsB l) (hn : l.length ≤ 140737488351232) (at_ : Int) (h0 : 0 ≤ at_) (ha : at_ ≤ 140737488351240) : Ev (fun k => sum_word.f k l at_) (wordAt l at_) := by
  have a := rd_byte hl at_; have b := rd_byte hl (at_ + 1); have c := rd_byte hl (at_ + 1 + 1); have d := rd_byte hl (at_ + 3)
  refine Ev.congr (fun k => by rw [sum_word.f]) ?_
  refine sum_word_step hl hn _ _ _ (by omega) (by omega) h0 (by omega) (by omega) ha ?_
  refine sum_word_step hl hn _ _ _ (by omega) (by omega) h0 (by omega) (by omega) ha ?_
  refine sum_word_step hl hn _ _ _ (by omega) (by omega) h0 (by omega) (by omega) ha ?_
  refine sum_word_step hl hn _ _ _ (by omega) (by omega) h0 (by omega) (by omega) ha ?_
  refine Ev.step (fun k => by rw [sum_word.l0]) ?_
  rw [w64 (x := at_ + 4) (by omega) (by omega)]
  refine Ev.ifn (by omega) (Ev.ret ?_)
  have e1 : at_ + 1 + 1 = at_ + 2 := by omega
  have e2 : at_ + 2 + 1 = at_ + 3 := by omega
  simp only [wordAt, e1, e2]; omega

theorem ref_word_step {l : List Int} (hl : IsB l) (hn : l.length ≤ 140737488351232) (x i at_ : Int) (hx : 0 ≤ x) (hx1 : x < 16777216) (h0 : 0 ≤ at_) (hi : 0 ≤ i) (hi1 : i < 4) (ha : at_ ≤ 140737488351240) {r : Int}
    (H : Ev (fun k => cadastreref1_word.l0 k l at_ (x * 256 + rd l (at_ + i)) (i + 1)) r) : Ev (fun k => cadastreref1_word.l0 k l at_ x i) r := by
  have hb := rd_byte hl (at_ + i)
  have e1 : wrap64 (at_ + i) = at_ + i := w64 (by omega) (by omega)
  have e2 : wrap64 (i + 1) = i + 1 := w64 (by omega) (by omega)
  have e3 : x * 256 % 4294967296 = x * 256 := by omega
  refine Ev.step (fun k => by rw [cadastreref1_word.l0]) ?_
  rw [e1, e2, e3]
  refine Ev.ifp (by omega) ?_
  by_cases h : at_ + i < (l.length : Int)
  · refine Ev.ifp h (Ev.ifp (by omega) ?_)
    have e4 : rd l (at_ + i) % 4294967296 = rd l (at_ + i) := by omega
    rw [e4, or_u32 (by omega) (by omega) (by omega) hb.1 hb.2]
    exact H
  · refine Ev.ifn h ?_
    rw [or_u32 (by omega) (by omega) (by omega) (by omega) (by omega), ← rd_out (l := l) (i := at_ + i) (by omega) h]
    exact H

theorem ref_word_ev {l : List Int} (hl : IsB l) (hn : l.length ≤ 140737488351232) (at_ : Int) (h0 : 0 ≤ at_) (ha : at_ ≤ 140737488351240) : Ev (fun k => cadastreref1_word.f k l at_) (wordAt l at_) := by
  have a := rd_byte hl at_; have b := rd_byte hl (at_ + (0 + 1)); have c := rd_byte hl (at_ + (0 + 1 + 1)); have d := rd_byte hl (at_ + 3)
  refine Ev.congr (fun k => by rw [cadastreref1_word.f]) ?_
  refine ref_word_step hl hn _ _ _ (by omega) (by omega) h0 (by omega) (by omega) ha ?_
  rw [Int.add_zero]
  refine ref_word_step hl hn _ _ _ (by omega) (by omega) h0 (by omega) (by omega) ha ?_
  refine ref_word_step hl hn _ _ _ (by omega) (by omega) h0 (by omega) (by omega) ha ?_
  refine ref_word_step hl hn _ _ _ (by omega) (by omega) h0 (by omega) (by omega) ha ?_
  refine Ev.step (fun k => by rw [cadastreref1_word.l0]) ?_
  refine Ev.ifn (by omega) (Ev.ret ?_)
  have e1 : (0 : Int) + 1 = 1 := by omega
  have e2 : (1 : Int) + 1 = 2 := by omega
  have e3 : (2 : Int) + 1 = 3 := by omega
  simp only [wordAt, e1, e2, e3]; omega

/-- The page's sum: of the blocks of eight bytes from a place on. -/
def sums (l : List Int) : Nat → Int → Int × Int → Int × Int
  | 0, _, ab => ab
  | n + 1, at_, ab => if at_ < (l.length : Int) then sums l n (at_ + 8) ((ab.1 + wordAt l at_ + ab.2) % 4294967296, (ab.2 + wordAt l (at_ + 4) + (ab.1 + wordAt l at_ + ab.2) % 4294967296) % 4294967296) else ab

/-- Of the whole row. -/
def sumOf (a b : Int) (l : List Int) : Int × Int := sums l (l.length + 1) 0 (a, b)

theorem sum_loop {l : List Int} (hl : IsB l) (hn : l.length ≤ 140737488351232) : ∀ (n : Nat) (at_ a b : Int), 0 ≤ at_ → at_ ≤ l.length + 8 → (l.length : Int) + 8 < at_ + 8 * n + 8 →
    Ev (fun k => sum_Sum.l0 k a b l at_) (sums l n at_ (a, b)) ∧ Ev (fun k => cadastreref1_Sum.l0 k a b l at_) (sums l n at_ (a, b))
  | 0, at_, a, b, h0, h1, h2 => by
    constructor
    · refine Ev.step (fun k => by rw [sum_Sum.l0]) ?_; refine (Ev.ifn (by omega) (Ev.ret rfl))
    · refine Ev.step (fun k => by rw [cadastreref1_Sum.l0]) ?_; refine (Ev.ifn (by omega) (Ev.ret rfl))
  | n + 1, at_, a, b, h0, h1, h2 => by
    by_cases h : at_ < (l.length : Int)
    · have e1 : wrap64 (at_ + 4) = at_ + 4 := w64 (by omega) (by omega)
      have e2 : wrap64 (at_ + 8) = at_ + 8 := w64 (by omega) (by omega)
      have ih := sum_loop hl hn n (at_ + 8) ((a + wordAt l at_ + b) % 4294967296) ((b + wordAt l (at_ + 4) + (a + wordAt l at_ + b) % 4294967296) % 4294967296) (by omega) (by omega) (by omega)
      simp only [sums, if_pos h]
      constructor
      · refine Ev.step (fun k => by rw [sum_Sum.l0]) (Ev.ifp h (Ev.bind (sum_word_ev hl hn at_ h0 (by omega)) ?_))
        rw [e1, e2]
        refine Ev.bind (sum_word_ev hl hn (at_ + 4) (by omega) (by omega)) ?_
        have e3 : (a + (wordAt l at_ + b) % 4294967296) % 4294967296 = (a + wordAt l at_ + b) % 4294967296 := by omega
        rw [e3]
        have e4 : (b + (wordAt l (at_ + 4) + (a + wordAt l at_ + b) % 4294967296) % 4294967296) % 4294967296 = (b + wordAt l (at_ + 4) + (a + wordAt l at_ + b) % 4294967296) % 4294967296 := by omega
        rw [e4]
        exact ih.1
      · refine Ev.step (fun k => by rw [cadastreref1_Sum.l0]) (Ev.ifp h (Ev.bind (ref_word_ev hl hn at_ h0 (by omega)) ?_))
        rw [e1, e2]
        refine Ev.bind (ref_word_ev hl hn (at_ + 4) (by omega) (by omega)) ?_
        have e3 : ((a + wordAt l at_) % 4294967296 + b) % 4294967296 = (a + wordAt l at_ + b) % 4294967296 := by omega
        rw [e3]
        have e4 : ((b + wordAt l (at_ + 4)) % 4294967296 + (a + wordAt l at_ + b) % 4294967296) % 4294967296 = (b + wordAt l (at_ + 4) + (a + wordAt l at_ + b) % 4294967296) % 4294967296 := by omega
        rw [e4]
        exact ih.2
    · simp only [sums, if_neg h]
      constructor
      · refine Ev.step (fun k => by rw [sum_Sum.l0]) ?_; refine (Ev.ifn h (Ev.ret rfl))
      · refine Ev.step (fun k => by rw [cadastreref1_Sum.l0]) ?_; refine (Ev.ifn h (Ev.ret rfl))

theorem sum_ev {l : List Int} (hl : IsB l) (hn : l.length ≤ 140737488351232) (a b : Int) : Ev (fun k => sum_Sum.f k a b l) (sumOf a b l) :=
  Ev.congr (fun k => by rw [sum_Sum.f]) (sum_loop hl hn (l.length + 1) 0 a b (by omega) (by omega) (by omega)).1
theorem ref_sum_ev {l : List Int} (hl : IsB l) (hn : l.length ≤ 140737488351232) (a b : Int) : Ev (fun k => cadastreref1_Sum.f k a b l) (sumOf a b l) :=
  Ev.congr (fun k => by rw [cadastreref1_Sum.f]) (sum_loop hl hn (l.length + 1) 0 a b (by omega) (by omega) (by omega)).2

theorem eq_loop {a b : List Int} (hab : a.length = b.length) (hn : a.length ≤ 9223372036854775807) : ∀ (d : Nat) (i : Nat), i + d = a.length → Ev (fun k => cadastreref0_EqBytes.l0 k a b i) (decide (a.drop i = b.drop i))
  | 0, i, hi => by
    refine Ev.step (fun k => by rw [cadastreref0_EqBytes.l0]) (Ev.ifn (by omega) (Ev.ret ?_))
    rw [List.drop_eq_nil_of_le (by omega), List.drop_eq_nil_of_le (by omega)]; simp
  | d + 1, i, hi => by
    have h1 : i < a.length := by omega
    have h2 : i < b.length := by omega
    have e1 : wrap64 ((i : Int) + 1) = ((i + 1 : Nat) : Int) := by rw [w64 (by omega) (by omega)]; simp
    refine Ev.step (fun k => by rw [cadastreref0_EqBytes.l0]) (Ev.ifp (by omega) (Ev.ifp (by omega) (Ev.ifp (by omega) ?_)))
    rw [rd_get a i h1, rd_get b i h2, e1]
    rw [List.drop_eq_getElem_cons h1, List.drop_eq_getElem_cons h2]
    by_cases h : a[i] = b[i]
    · refine Ev.ifp h ?_
      refine Ev.cast ?_ (eq_loop hab hn d (i + 1) (by omega))
      simp only [h, List.cons.injEq, true_and]
    · refine Ev.ifn h (Ev.ret ?_)
      exact (decide_eq_false fun e => h (List.cons.inj e).1).symm
theorem eq_ev (a b : List Int) (hn : a.length ≤ 9223372036854775807) : Ev (fun k => cadastreref0_EqBytes.f k a b) (decide (a = b)) := by
  refine Ev.congr (fun k => by rw [cadastreref0_EqBytes.f]) ?_
  by_cases h : (a.length : Int) = (b.length : Int)
  · refine Ev.ifp h ?_
    have := eq_loop (a := a) (b := b) (by omega) hn a.length 0 (by omega)
    simpa using this
  · refine Ev.ifn h (Ev.ret ?_)
    have : ¬ a = b := fun e => h (by rw [e])
    simp [this]

theorem copy_loop {a : List Int} (hn : a.length ≤ 140737488351232) : ∀ (d : Nat) (i : Nat), i + d = a.length → Ev (fun k => cadastreref0_CopyBytes.l0 k a (a.take i) i) a
  | 0, i, hi => by
    refine Ev.step (fun k => by rw [cadastreref0_CopyBytes.l0]) (Ev.ifn (by omega) (Ev.ret ?_))
    rw [List.take_of_length_le (by omega)]
  | d + 1, i, hi => by
    have h1 : i < a.length := by omega
    have e1 : wrap64 ((i : Int) + 1) = ((i + 1 : Nat) : Int) := by rw [w64 (by omega) (by omega)]; simp
    refine Ev.step (fun k => by rw [cadastreref0_CopyBytes.l0]) (Ev.ifp (by omega) (Ev.ifp (by omega) (Ev.ifp (by rw [List.length_take]; omega) ?_)))
    rw [rd_get a i h1, e1, ← List.take_succ_eq_append_getElem h1]
    exact copy_loop hn d (i + 1) (by omega)
theorem copy_ev {a : List Int} (hn : a.length ≤ 140737488351232) : Ev (fun k => cadastreref0_CopyBytes.f k a) a :=
  Ev.congr (fun k => by rw [cadastreref0_CopyBytes.f]) (by simpa using copy_loop hn a.length 0 (by omega))

theorem wakes_ev : Ev (fun k => cadastrelaw8_wakes.f k) true := by
  refine Ev.congr (fun k => by rw [cadastrelaw8_wakes.f]) ?_
  refine Ev.bind (sum_ev (l := [0, 0, 0, 1, 0, 0, 0, 2]) (by unfold IsB; decide) (by decide) 0 0) ?_
  have e : sumOf 0 0 [0, 0, 0, 1, 0, 0, 0, 2] = (1, 3) := by decide
  rw [e]
  exact Ev.pure rfl
end Go.Proofs.Ytbamdjfonfmbbaa.M
