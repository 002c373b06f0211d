/-
  Layers 2 to 4: an operation of one or two good values: the program and the page come to the same.
-/
import Derived.Test.YtnoeedkbadoogaaDoorETx
import Derived.Test.YtnoeedkbadoogaaDoorELog
namespace Go.Proofs.YtnoeedkbadoogaaDoor.E
open Go Go.AX

def negS (v : S23) : S23 × Int := doS 13 (vint 0) v
theorem neg_eq (k : Nat) (v : S23) (gv : good v = true) (hv : inr v.f1 = true) : arith_Neg k v = some (negS v) := by
  unfold arith_Neg negS doS
  rw [good_eq, some_bind, gv]
  simp only [bif_ite, beq_iff_eq, bne_iff_ne, ne_eq, Bool.not_true, Bool.false_eq_true, if_false, show ¬ ((vint 0).f0 = 0) by decide, false_or, show ((vint 0).f0 = 1) from rfl, true_and, big_eq]
  by_cases h0 : v.f0 = 0
  · simp only [h0, if_true]
    rcases gcases gv with rfl | ⟨n, rfl⟩ | ⟨s, rfl, _⟩ | ⟨s, rfl, _⟩
    · rfl
    · cases h0
    · cases h0
    · cases h0
  simp only [h0, if_false]
  by_cases h1 : v.f0 = 1
  case neg => simp only [h1, if_false, not_false_eq_true, if_true]; rfl
  simp only [h1, if_true, not_true, if_false, show ¬ ((13 : Int) = 10 ∨ (13 : Int) = 11) by decide, false_and]
  have e : opZ 13 (vint 0).f1 v.f1 = 0 - v.f1 := rfl
  rw [e]
  have hx' := inr_iff.mp hv
  by_cases hm : v.f1 = -9223372036854775808
  · rw [hm]; rfl
  · have h : inr (0 - v.f1) = true := inr_iff.mpr (by omega)
    rw [if_neg hm, h, if_pos rfl, w64i h]; rfl

/-- What an operation of one value comes to. -/
def unS (op : Int) (v : S23) : S23 × Int :=
  if op = 3 then negS v else if op = 4 then notR v else if op = 7 then (lenS v, 0) else if op = 8 then (kindS v, 0) else (vtruth ((v.f0 == 0) == (op == 5)), 0)
theorem un_eq (k : Nat) (op : Int) (v : S23) (h1 : 3 ≤ op) (h2 : op ≤ 8) (gv : good v = true) (hv : inr v.f1 = true) : eval_Un k op v = some (unS op v) := by
  unfold eval_Un unS
  rw [neg_eq k v gv hv, not_eq, length_eq k v hv, typeof_eq, gv]
  simp only [bif_ite, beq_iff_eq, some_bind, if_true]
  by_cases o3 : op = 3
  · simp only [o3, if_true]
  by_cases o4 : op = 4
  · simp only [o4, if_true, show ¬ ((4 : Int) = 3) by decide, if_false]
  by_cases o7 : op = 7
  · simp only [o7, if_true, show ¬ ((7 : Int) = 3) by decide, show ¬ ((7 : Int) = 4) by decide, if_false]
  by_cases o8 : op = 8
  · simp only [o8, if_true, show ¬ ((8 : Int) = 3) by decide, show ¬ ((8 : Int) = 4) by decide, show ¬ ((8 : Int) = 7) by decide, if_false]
  simp only [o3, o4, o7, o8, if_false]
  rw [null_eq k op v (by omega) gv]; rfl
/-- What an operation of two values comes to. -/
noncomputable def binS (op : Int) (a b : S23) : S23 × Int :=
  if op = 14 then concatS a b else if op ≤ 13 then doS op a b else if op ≤ 20 then (testR op a b, 0) else joinR op a b
theorem bin_eq (k : Nat) (hk : 4097 ≤ k) (op : Int) (a b : S23) (h1 : 9 ≤ op) (h2 : op ≤ 22) (ga : good a = true) (gb : good b = true) (ha : inr a.f1 = true) (hb : inr b.f1 = true) : eval_Bin k op a b = some (binS op a b) := by
  unfold eval_Bin binS
  simp only [bif_ite, beq_iff_eq, decide_eq_true_eq]
  by_cases o14 : op = 14
  · simp only [o14, if_true]
    rw [concat_eq k a b (by omega) ha hb, if_pos ⟨ga, gb⟩]; rfl
  simp only [o14, if_false]
  by_cases o13 : op ≤ 13
  · simp only [o13, if_true]
    rw [do_eq k op a b (by omega) (by unfold okop; omega) ga gb ha hb]; rfl
  simp only [o13, if_false]
  by_cases o20 : op ≤ 20
  · simp only [o20, if_true]
    rw [test_eq k op (by omega) o20 a b hk]; unfold testA; rw [if_pos ⟨ga, gb⟩]; rfl
  simp only [o20, if_false]
  rw [join_eq k op (by omega) a b (by omega)]; unfold joinA; rw [if_pos ⟨ga, gb⟩]; rfl
/-- A value that is good and whose number is one of 64 bits. -/
def gd (v : S23) : Prop := good v = true ∧ inr v.f1 = true
theorem gd_null : gd vnull := ⟨by decide +kernel, by rfl⟩
theorem gd_int {n : Int} (h : inr n = true) : gd (vint n) := ⟨good_vint n, h⟩
theorem gd_truth (b : Bool) : gd (vtruth b) := by unfold vtruth; cases b <;> exact gd_int (by rfl)
theorem gd_ans {t : Int} : gd (ansV t) := by
  unfold ansV
  split
  · exact gd_int (by rfl)
  split
  · exact gd_null
  · exact gd_int (by rfl)
theorem gd_do (op : Int) (a b : S23) : gd (doS op a b).1 := by
  unfold doS
  split
  · exact gd_null
  split
  · split
    · exact gd_null
    split
    · rename_i h; exact gd_int h
    · exact gd_null
  · exact gd_null
theorem gd_txt {s : ByteArray} (h : s.size ≤ 4096) : gd (vtxt s) := ⟨good_vtxt h, by rfl⟩
theorem gd_un (op : Int) {v : S23} (h : gd v) : gd (unS op v).1 := by
  unfold unS
  split
  · exact gd_do _ _ _
  split
  · unfold notR
    split
    · exact gd_ans
    · exact gd_null
  split
  · unfold lenS
    dsimp only
    split
    · exact gd_null
    · exact gd_int (inr_iff.2 (by have := textS_size h.2 h.1; omega))
  split
  · unfold kindS
    dsimp only
    refine gd_txt ?_
    split
    · decide
    split
    · decide
    split <;> decide
  · exact gd_truth _
theorem gd_bin (op : Int) {a b : S23} (ha : gd a) (hb : gd b) : gd (binS op a b).1 := by
  unfold binS
  split
  · unfold concatS
    split
    · exact gd_null
    split
    · exact gd_null
    split
    · exact gd_null
    · rename_i h
      refine gd_txt ?_
      rw [cat_size]; omega
  split
  · exact gd_do _ _ _
  split
  · unfold testR
    dsimp only
    split
    · exact gd_null
    · exact gd_truth _
  · unfold joinR
    split
    · exact gd_ans
    · exact gd_null
end Go.Proofs.YtnoeedkbadoogaaDoor.E
