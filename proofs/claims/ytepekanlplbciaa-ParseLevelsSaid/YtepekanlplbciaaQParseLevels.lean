/-
  cadastre/cadastrelaw20.ParseLevels: what its printed function answers is true, for every list. No condition beyond the numbers' own bounds.
-/
import Derived.Test.YtepekanlplbciaaQQa
import Derived.Test.YtepekanlplbciaaQOk
namespace Go.Proofs.Ytepekanlplbciaa.Q
open Go Go.AX

/-- The operations of each level. -/
def lvT : List (List By) := [[[32, 111, 114, 32]], [[32, 97, 110, 100, 32]], [[32, 61, 32], [32, 60, 62, 32], [32, 60, 32], [32, 60, 61, 32], [32, 62, 32], [32, 62, 61, 32]], [[32, 43, 32], [32, 45, 32]], [[32, 42, 32], [32, 47, 32], [32, 37, 32]], [[32, 124, 124, 32]]]
def sx : By := [115, 101, 108, 101, 99, 116, 32, 120]
def spx : By := [115, 101, 108, 101, 99, 116, 32, 40, 120]
def wt : By := [119, 32, 102, 114, 111, 109, 32, 116]
def wpt : By := [119, 41, 32, 102, 114, 111, 109, 32, 116]
/-- One pair of operations: without parentheses as with them. -/
noncomputable def okL (i j : Nat) (a b : By) : Bool := sameP (sx ++ a ++ [121] ++ b ++ wt) (bif decide ((j : Int) > (i : Int)) then sx ++ a ++ [40, 121] ++ b ++ wpt else spx ++ a ++ [121, 41] ++ b ++ wt)
noncomputable def okI (i : Nat) : Bool := (List.range 6).all fun j => (lvT.getD i []).all fun a => (lvT.getD j []).all fun b => okL i j a b
theorem ok_0 : okI 0 = true := by kernel_rfl
theorem ok_1 : okI 1 = true := by kernel_rfl
theorem ok_2 : okI 2 = true := by kernel_rfl
theorem ok_3 : okI 3 = true := by kernel_rfl
theorem ok_4 : okI 4 = true := by kernel_rfl
theorem ok_5 : okI 5 = true := by kernel_rfl
theorem ok_all {i j : Nat} (hi : i < 6) (hj : j < 6) {a b : By} (ha : a ∈ lvT.getD i []) (hb : b ∈ lvT.getD j []) : okL i j a b = true := by
  have h : okI i = true := by
    rcases (by omega : i = 0 ∨ i = 1 ∨ i = 2 ∨ i = 3 ∨ i = 4 ∨ i = 5) with rfl | rfl | rfl | rfl | rfl | rfl
    · exact ok_0
    · exact ok_1
    · exact ok_2
    · exact ok_3
    · exact ok_4
    · exact ok_5
  unfold okI at h
  have h1 := List.all_eq_true.1 h j (List.mem_range.2 hj)
  exact List.all_eq_true.1 (List.all_eq_true.1 h1 a ha) b hb
theorem within (k : Nat) (x : Int) (n : Nat) (h1 : 1 ≤ n) (h2 : n ≤ 6) : ∃ p : Nat, p < n ∧ cadastrelaw0_Within k x (n : Int) = some (p : Int) := by
  unfold cadastrelaw0_Within
  have wu : ∀ y : Int, IntKind.u64.wrap y = y % 18446744073709551616 := fun y => by simp [IntKind.wrap, IntKind.bits, IntKind.signed]
  have hn : IntKind.u64.wrap (n : Int) = (n : Int) := by rw [wu]; omega
  rw [hn, if_neg (by omega), wu]
  have hx : 0 ≤ x % 18446744073709551616 := by omega
  generalize x % 18446744073709551616 = y at hx
  rw [Int.tmod_eq_emod_of_nonneg hx]
  have g1 : 0 ≤ y % (n : Int) := Int.emod_nonneg _ (by omega)
  have g2 : y % (n : Int) < n := Int.emod_lt_of_pos _ (by omega)
  rw [w64 (by omega) (by omega)]
  exact ⟨(y % (n : Int)).toNat, by omega, by dsimp only; congr 1; omega⟩
/-- The levels, as the function has them. -/
def lvB : List (List ByteArray) := [[(⟨#[32, 111, 114, 32]⟩ : ByteArray)], [(⟨#[32, 97, 110, 100, 32]⟩ : ByteArray)], [(⟨#[32, 61, 32]⟩ : ByteArray), (⟨#[32, 60, 62, 32]⟩ : ByteArray), (⟨#[32, 60, 32]⟩ : ByteArray), (⟨#[32, 60, 61, 32]⟩ : ByteArray), (⟨#[32, 62, 32]⟩ : ByteArray), (⟨#[32, 62, 61, 32]⟩ : ByteArray)], [(⟨#[32, 43, 32]⟩ : ByteArray), (⟨#[32, 45, 32]⟩ : ByteArray)], [(⟨#[32, 42, 32]⟩ : ByteArray), (⟨#[32, 47, 32]⟩ : ByteArray), (⟨#[32, 37, 32]⟩ : ByteArray)], [(⟨#[32, 124, 124, 32]⟩ : ByteArray)]]
theorem lv_row {i : Nat} (hi : i < 6) : lvB.getD i [] = (lvT.getD i []).map txt ∧ 1 ≤ (lvT.getD i []).length ∧ (lvT.getD i []).length ≤ 6 ∧ ∀ a ∈ lvT.getD i [], a.length ≤ 10 := by
  rcases (by omega : i = 0 ∨ i = 1 ∨ i = 2 ∨ i = 3 ∨ i = 4 ∨ i = 5) with rfl | rfl | rfl | rfl | rfl | rfl <;> exact ⟨rfl, by decide, by decide, by decide⟩
theorem lev_j14 (k : Nat) {kret : Bool → Option Bool} {knxt : List ByteArray → List (List ByteArray) → Int → Int → Option Bool} {l0 : List ByteArray} {i4 k5 : Int} {s t : S28} {b : By} (h2 : readP b = some (t, 0)) (h3 : cadastreref0_EqStmt 9000 s t = some true) :
    cadastrelaw20_ParseLevels_j14 9000 kret knxt l0 lvB i4 k5 0 (txt b) s = knxt l0 lvB i4 k5 := by
  unfold cadastrelaw20_ParseLevels_j14 cadastrelaw20_num
  rw [read_eq, h2]
  simp only [some_bind]
  rw [h3, some_bind]
  rfl
theorem lev_step (kret : Bool → Option Bool) (kx : List ByteArray → List (List ByteArray) → Int → Option Bool) (l0 : List ByteArray) (i j n : Nat) (hi : i < 6) (hj : j < 6) :
    cadastrelaw20_ParseLevels_l6 9000 kret kx (n + 1) l0 lvB (i : Int) (j : Int) = cadastrelaw20_ParseLevels_l6 9000 kret kx n l0 lvB (i : Int) ((j + 1 : Nat) : Int) := by
  simp only [cadastrelaw20_ParseLevels_l6, cadastrelaw20_ParseLevels_l6_b]
  obtain ⟨r1, l1, m1, n1⟩ := lv_row hi
  obtain ⟨r2, l2, m2, n2⟩ := lv_row hj
  have hL : (lvB.length : Int) = 6 := rfl
  rw [decide_eq_true (by omega), cond_true, hL, chk_pos (by omega), chk_pos (by omega), Int.toNat_natCast, Int.toNat_natCast, r1, r2, List.length_map, List.length_map]
  obtain ⟨p, hp, hp'⟩ := within 9000 (IntKind.i64.wrap ((l0.length : Int) + (j : Int))) _ l1 m1
  obtain ⟨q, hq, hq'⟩ := within 9000 (IntKind.i64.wrap ((l0.length : Int) + (i : Int))) _ l2 m2
  rw [hp', some_bind, chk_pos (by omega), chk_pos (by omega), chk_pos (by omega), hq', some_bind, chk_pos (by omega), Int.toNat_natCast, Int.toNat_natCast]
  have ga : ((lvT.getD i []).map txt).getD p ByteArray.empty = txt ((lvT.getD i []).getD p []) := by
    rw [getD_get _ p _ (by rw [List.length_map]; exact hp), getD_get _ p _ hp, List.getElem_map]
  have gb : ((lvT.getD j []).map txt).getD q ByteArray.empty = txt ((lvT.getD j []).getD q []) := by
    rw [getD_get _ q _ (by rw [List.length_map]; exact hq), getD_get _ q _ hq, List.getElem_map]
  have ha : (lvT.getD i []).getD p [] ∈ lvT.getD i [] := getD_mem hp
  have hb : (lvT.getD j []).getD q [] ∈ lvT.getD j [] := getD_mem hq
  rw [ga, gb]
  have hok := ok_all hi hj ha hb
  have na := n1 _ ha
  have nb := n2 _ hb
  generalize (lvT.getD i []).getD p [] = a at hok na
  generalize (lvT.getD j []).getD q [] = b at hok nb
  have c1 : (⟨#[115, 101, 108, 101, 99, 116, 32, 120]⟩ : ByteArray) = txt sx := rfl
  have c2 : (⟨#[121]⟩ : ByteArray) = txt [121] := rfl
  have c3 : (⟨#[119, 32, 102, 114, 111, 109, 32, 116]⟩ : ByteArray) = txt wt := rfl
  have c4 : (⟨#[115, 101, 108, 101, 99, 116, 32, 40, 120]⟩ : ByteArray) = txt spx := rfl
  have c5 : (⟨#[121, 41]⟩ : ByteArray) = txt [121, 41] := rfl
  have c6 : (⟨#[40, 121]⟩ : ByteArray) = txt [40, 121] := rfl
  have c7 : (⟨#[119, 41, 32, 102, 114, 111, 109, 32, 116]⟩ : ByteArray) = txt wpt := rfl
  have z1 : sx.length = 8 := rfl
  have z2 : wt.length = 8 := rfl
  have z3 : spx.length = 9 := rfl
  have z4 : wpt.length = 9 := rfl
  obtain ⟨s, t, h1, h2, h3⟩ := same_of hok
  rw [c1, c2, c3, c4, c5, c6, c7]
  simp only [cat_txt]
  iterate 4 refine (chk_txt (by (try simp only [List.length_append, List.length_cons, List.length_nil]); omega) _).trans ?_
  rw [read_eq, h1, some_bind]
  iterate 4 refine (chk_txt (by (try simp only [List.length_append, List.length_cons, List.length_nil]); omega) _).trans ?_
  by_cases hg : (j : Int) > (i : Int)
  · rw [decide_eq_true hg, cond_true] at h2 ⊢
    iterate 4 refine (chk_txt (by (try simp only [List.length_append, List.length_cons, List.length_nil]); omega) _).trans ?_
    rw [lev_j14 9000 h2 h3, w64n (by omega)]
  · rw [decide_eq_false hg, Bool.cond_false] at h2 ⊢
    rw [lev_j14 9000 h2 h3, w64n (by omega)]
theorem lev_in (kret : Bool → Option Bool) (kx : List ByteArray → List (List ByteArray) → Int → Option Bool) (l0 : List ByteArray) (i : Nat) (hi : i < 6) : cadastrelaw20_ParseLevels_l6 9000 kret kx 9000 l0 lvB (i : Int) 0 = kx l0 lvB (i : Int) := by
  have hend : ∀ n, cadastrelaw20_ParseLevels_l6 9000 kret kx (n + 1) l0 lvB (i : Int) ((6 : Nat) : Int) = kx l0 lvB (i : Int) := fun n => by
    simp only [cadastrelaw20_ParseLevels_l6, cadastrelaw20_ParseLevels_l6_b]
    rw [decide_eq_false (by omega), Bool.cond_false]
  exact (lev_step kret kx l0 i 0 8999 hi (by omega)).trans <| (lev_step kret kx l0 i 1 8998 hi (by omega)).trans <| (lev_step kret kx l0 i 2 8997 hi (by omega)).trans <|
    (lev_step kret kx l0 i 3 8996 hi (by omega)).trans <| (lev_step kret kx l0 i 4 8995 hi (by omega)).trans <| (lev_step kret kx l0 i 5 8994 hi (by omega)).trans (hend 8993)
def notA : By := [115, 101, 108, 101, 99, 116, 32, 110, 111, 116, 32, 120, 32, 61, 32, 121, 32, 97, 110, 100, 32, 45, 32, 120, 32, 124, 124, 32, 121, 32, 105, 115, 32, 110, 117, 108, 108, 32, 102, 114, 111, 109, 32, 116]
def notB : By := [115, 101, 108, 101, 99, 116, 32, 40, 110, 111, 116, 32, 40, 120, 32, 61, 32, 121, 41, 41, 32, 97, 110, 100, 32, 40, 40, 40, 45, 32, 120, 41, 32, 124, 124, 32, 121, 41, 32, 105, 115, 32, 110, 117, 108, 108, 41, 32, 102, 114, 111, 109, 32, 116]
theorem not_ok : sameP notA notB = true := by kernel_rfl
theorem ParseLevels_pure : ∀ l : List ByteArray, (l.length * 16 ≤ 140737488351232 ∧ l.length ≤ 9223372036854775807 ∧ ∀ y ∈ l, (y.size ≤ 140737488351232)) → ∃ k, cadastrelaw20_ParseLevels k l = some true := by
  intro l _
  refine ⟨9000, ?_⟩
  unfold cadastrelaw20_ParseLevels
  rw [show (⟨#[115, 101, 108, 101, 99, 116, 32, 110, 111, 116, 32, 120, 32, 61, 32, 121, 32, 97, 110, 100, 32, 45, 32, 120, 32, 124, 124, 32, 121, 32, 105, 115, 32, 110, 117, 108, 108, 32, 102, 114, 111, 109, 32, 116]⟩ : ByteArray) = txt notA from rfl,
    show (⟨#[115, 101, 108, 101, 99, 116, 32, 40, 110, 111, 116, 32, 40, 120, 32, 61, 32, 121, 41, 41, 32, 97, 110, 100, 32, 40, 40, 40, 45, 32, 120, 41, 32, 124, 124, 32, 121, 41, 32, 105, 115, 32, 110, 117, 108, 108, 41, 32, 102, 114, 111, 109, 32, 116]⟩ : ByteArray) = txt notB from rfl,
    read_eq, read_eq]
  obtain ⟨s, t, h1, h2, h3⟩ := same_of not_ok
  rw [h1, h2]
  unfold cadastrelaw20_num
  simp only [some_bind]
  rw [h3, wakes_eq]
  have hst : ∀ (kx : Option Bool) (i n : Nat), i < 6 → cadastrelaw20_ParseLevels_l3 9000 (fun t => some t) kx (n + 1) l lvB (i : Int) = cadastrelaw20_ParseLevels_l3 9000 (fun t => some t) kx n l lvB ((i + 1 : Nat) : Int) := fun kx i n hi => by
    simp only [cadastrelaw20_ParseLevels_l3, cadastrelaw20_ParseLevels_l3_b]
    rw [decide_eq_true (by omega), cond_true, lev_in _ _ l i hi, w64n (by omega)]
  have hend : ∀ (kx : Option Bool) n, cadastrelaw20_ParseLevels_l3 9000 (fun t => some t) kx (n + 1) l lvB ((6 : Nat) : Int) = kx := fun kx n => by
    simp only [cadastrelaw20_ParseLevels_l3, cadastrelaw20_ParseLevels_l3_b]
    rw [decide_eq_false (by omega), Bool.cond_false]
  exact (hst _ 0 8999 (by omega)).trans <| (hst _ 1 8998 (by omega)).trans <| (hst _ 2 8997 (by omega)).trans <| (hst _ 3 8996 (by omega)).trans <| (hst _ 4 8995 (by omega)).trans <| (hst _ 5 8994 (by omega)).trans <| (hend _ 8993).trans rfl
end Go.Proofs.Ytepekanlplbciaa.Q
