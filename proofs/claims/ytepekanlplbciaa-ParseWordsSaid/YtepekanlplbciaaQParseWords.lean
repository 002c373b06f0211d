/-
  cadastre/cadastrelaw20.ParseWords: what its printed function answers is true, for every list. No condition beyond the numbers' own bounds.
-/
import Derived.Test.YtepekanlplbciaaQQa
import Derived.Test.YtepekanlplbciaaQOk
namespace Go.Proofs.Ytepekanlplbciaa.Q
open Go Go.AX

/-- The key words. -/
def kwT : List By := [[97, 110, 121], [97, 110, 100], [98, 101, 103, 105, 110], [98, 108, 111, 98], [98, 121], [99, 111, 109, 109, 105, 116], [99, 111, 117, 110, 116], [99, 114, 101, 97, 116, 101], [100, 101, 108, 101, 116, 101], [100, 101, 115, 99], [100, 114, 111, 112], [102, 114, 111, 109], [105, 110, 100, 101, 120], [105, 110, 115, 101, 114, 116], [105, 110, 116, 101, 103, 101, 114], [105, 110, 116, 111], [105, 115], [108, 101, 110, 103, 116, 104], [109, 97, 120], [109, 105, 110], [110, 111, 116], [110, 117, 108, 108], [111, 110], [111, 114], [111, 114, 100, 101, 114], [114, 111, 108, 108, 98, 97, 99, 107], [114, 116, 114, 101, 101], [115, 101, 108, 101, 99, 116], [115, 101, 116], [115, 117, 109], [116, 97, 98, 108, 101], [116, 101, 120, 116], [116, 121, 112, 101, 111, 102], [117, 110, 105, 113, 117, 101], [117, 112, 100, 97, 116, 101], [117, 115, 105, 110, 103], [118, 97, 108, 117, 101, 115], [118, 105, 114, 116, 117, 97, 108], [119, 104, 101, 114, 101]]
/-- The key words, as the function has them. -/
def kwB : List ByteArray := [(⟨#[97, 110, 121]⟩ : ByteArray), (⟨#[97, 110, 100]⟩ : ByteArray), (⟨#[98, 101, 103, 105, 110]⟩ : ByteArray), (⟨#[98, 108, 111, 98]⟩ : ByteArray), (⟨#[98, 121]⟩ : ByteArray), (⟨#[99, 111, 109, 109, 105, 116]⟩ : ByteArray), (⟨#[99, 111, 117, 110, 116]⟩ : ByteArray), (⟨#[99, 114, 101, 97, 116, 101]⟩ : ByteArray), (⟨#[100, 101, 108, 101, 116, 101]⟩ : ByteArray), (⟨#[100, 101, 115, 99]⟩ : ByteArray), (⟨#[100, 114, 111, 112]⟩ : ByteArray), (⟨#[102, 114, 111, 109]⟩ : ByteArray), (⟨#[105, 110, 100, 101, 120]⟩ : ByteArray), (⟨#[105, 110, 115, 101, 114, 116]⟩ : ByteArray), (⟨#[105, 110, 116, 101, 103, 101, 114]⟩ : ByteArray), (⟨#[105, 110, 116, 111]⟩ : ByteArray), (⟨#[105, 115]⟩ : ByteArray), (⟨#[108, 101, 110, 103, 116, 104]⟩ : ByteArray), (⟨#[109, 97, 120]⟩ : ByteArray), (⟨#[109, 105, 110]⟩ : ByteArray), (⟨#[110, 111, 116]⟩ : ByteArray), (⟨#[110, 117, 108, 108]⟩ : ByteArray), (⟨#[111, 110]⟩ : ByteArray), (⟨#[111, 114]⟩ : ByteArray), (⟨#[111, 114, 100, 101, 114]⟩ : ByteArray), (⟨#[114, 111, 108, 108, 98, 97, 99, 107]⟩ : ByteArray), (⟨#[114, 116, 114, 101, 101]⟩ : ByteArray), (⟨#[115, 101, 108, 101, 99, 116]⟩ : ByteArray), (⟨#[115, 101, 116]⟩ : ByteArray), (⟨#[115, 117, 109]⟩ : ByteArray), (⟨#[116, 97, 98, 108, 101]⟩ : ByteArray), (⟨#[116, 101, 120, 116]⟩ : ByteArray), (⟨#[116, 121, 112, 101, 111, 102]⟩ : ByteArray), (⟨#[117, 110, 105, 113, 117, 101]⟩ : ByteArray), (⟨#[117, 112, 100, 97, 116, 101]⟩ : ByteArray), (⟨#[117, 115, 105, 110, 103]⟩ : ByteArray), (⟨#[118, 97, 108, 117, 101, 115]⟩ : ByteArray), (⟨#[118, 105, 114, 116, 117, 97, 108]⟩ : ByteArray), (⟨#[119, 104, 101, 114, 101]⟩ : ByteArray)]
def dt : By := [100, 114, 111, 112, 32, 116, 97, 98, 108, 101, 32]
def ct : By := [99, 114, 101, 97, 116, 101, 32, 116, 97, 98, 108, 101, 32, 116, 32, 40, 97, 44, 32]
/-- A text that is refused. -/
noncomputable def noP (b : By) : Bool := match readP b with | some (_, e) => e == 1 | none => false
/-- A text that is read as a statement of this name. -/
noncomputable def nameP (b n : By) : Bool := match readP b with | some (s, e) => e == 0 && by_ s.f1 == n | none => false
noncomputable def okW (w : By) : Bool := noP (dt ++ w) && (noP (ct ++ w ++ [41]) && nameP (dt ++ w ++ [115]) (w ++ [115]))
theorem okW_all : kwT.all okW = true := by kernel_rfl
theorem no_of {b : By} (h : noP b = true) : ∃ s, readP b = some (s, 1) := by
  unfold noP at h
  split at h
  · rename_i s e h1
    rw [beq_iff_eq] at h
    subst h
    exact ⟨s, h1⟩
  · cases h
theorem name_of {b n : By} (h : nameP b n = true) : ∃ s, readP b = some (s, 0) ∧ by_ s.f1 = n := by
  unfold nameP at h
  split at h
  · rename_i s e h1
    rw [Bool.and_eq_true, beq_iff_eq, beq_iff_eq] at h
    obtain ⟨rfl, h2⟩ := h
    exact ⟨s, h1, h2⟩
  · cases h
theorem by_txt2 (a : By) : by_ (txt a) = a := by simp [by_, txt]
theorem kw_get (i : Nat) (hi : i < 39) : kwB.getD i ByteArray.empty = txt (kwT.getD i []) ∧ kwT.getD i [] ∈ kwT ∧ (kwT.getD i []).length ≤ 20 := by
  have h1 : kwB = kwT.map txt := rfl
  have h2 : kwT.length = 39 := rfl
  have h3 : ∀ a ∈ kwT, a.length ≤ 20 := by decide
  refine ⟨?_, getD_mem (by omega), h3 _ (getD_mem (by omega))⟩
  rw [h1, getD_get _ i _ (by rw [List.length_map]; omega), getD_get _ i _ (by omega), List.getElem_map]
theorem kw_step (kret : Bool → Option Bool) (kx : List ByteArray → Option Bool) (l0 : List ByteArray) (i n : Nat) (hi : i < 39) :
    cadastrelaw20_ParseWords_l3 9000 kret kx (n + 1) l0 kwB (i : Int) = cadastrelaw20_ParseWords_l3 9000 kret kx n l0 kwB ((i + 1 : Nat) : Int) := by
  simp only [cadastrelaw20_ParseWords_l3, cadastrelaw20_ParseWords_l3_b]
  have hL : (kwB.length : Int) = 39 := rfl
  obtain ⟨r1, r2, r3⟩ := kw_get i hi
  have hok := List.all_eq_true.1 okW_all _ r2
  rw [hL, decide_eq_true (by omega), cond_true, chk_pos (by omega), Int.toNat_natCast, r1]
  generalize kwT.getD i [] = w at r3 hok
  have c1 : (⟨#[100, 114, 111, 112, 32, 116, 97, 98, 108, 101, 32]⟩ : ByteArray) = txt dt := rfl
  have c2 : (⟨#[99, 114, 101, 97, 116, 101, 32, 116, 97, 98, 108, 101, 32, 116, 32, 40, 97, 44, 32]⟩ : ByteArray) = txt ct := rfl
  have c3 : (⟨#[41]⟩ : ByteArray) = txt [41] := rfl
  have c4 : (⟨#[115]⟩ : ByteArray) = txt [115] := rfl
  have z1 : dt.length = 11 := rfl
  have z2 : ct.length = 19 := rfl
  unfold okW at hok
  rw [Bool.and_eq_true, Bool.and_eq_true] at hok
  obtain ⟨s1, h1⟩ := no_of hok.1
  obtain ⟨s2, h2⟩ := no_of hok.2.1
  obtain ⟨s3, h3, h4⟩ := name_of hok.2.2
  rw [c1, c2, c3, c4]
  simp only [cat_txt]
  refine (chk_txt (by (try simp only [List.length_append, List.length_cons, List.length_nil]); omega) _).trans ?_
  rw [read_eq, h1, some_bind, chk_pos (by omega)]
  refine (chk_txt (by (try simp only [List.length_append, List.length_cons, List.length_nil]); omega) _).trans ?_
  refine (chk_txt (by (try simp only [List.length_append, List.length_cons, List.length_nil]); omega) _).trans ?_
  rw [read_eq, h2, some_bind, chk_pos (by omega)]
  refine (chk_txt (by (try simp only [List.length_append, List.length_cons, List.length_nil]); omega) _).trans ?_
  refine (chk_txt (by (try simp only [List.length_append, List.length_cons, List.length_nil]); omega) _).trans ?_
  rw [read_eq, h3, some_bind]
  unfold cadastrelaw20_num
  simp only [some_bind]
  have e1 : ((1 : Int) != 1) = false := rfl
  have e2 : ((0 : Int) != 0) = false := rfl
  rw [e1, e2, Bool.cond_false, Bool.cond_false, Bool.cond_false, chk_pos (by omega)]
  refine (chk_txt (by (try simp only [List.length_append, List.length_cons, List.length_nil]); omega) _).trans ?_
  rw [by_toList, by_toList, h4, by_txt2, beq_self_eq_true, Bool.not_true, Bool.cond_false, w64n (by omega)]
theorem kw_run (kret : Bool → Option Bool) (kx : List ByteArray → Option Bool) (l0 : List ByteArray) : ∀ d i n : Nat, i + d = 39 → d < n → cadastrelaw20_ParseWords_l3 9000 kret kx n l0 kwB (i : Int) = kx l0
  | 0, i, n + 1, hi, _ => by
    obtain rfl : i = 39 := by omega
    simp only [cadastrelaw20_ParseWords_l3, cadastrelaw20_ParseWords_l3_b]
    have hL : (kwB.length : Int) = 39 := rfl
    rw [hL, decide_eq_false (by omega), Bool.cond_false]
  | d + 1, i, n + 1, hi, hn => (kw_step kret kx l0 i n (by omega)).trans (kw_run kret kx l0 d (i + 1) n (by omega) (by omega))
def tA : By := [83, 69, 76, 69, 67, 84, 32, 65, 44, 32, 99, 111, 117, 110, 116, 32, 70, 82, 79, 77, 32, 116]
def tB : By := [67, 82, 69, 65, 84, 69, 32, 85, 78, 73, 81, 85, 69, 32, 73, 78, 68, 69, 88, 32, 73, 32, 79, 78, 32, 84, 32, 40, 65, 41]
def tD : By := [99, 114, 101, 97, 116, 101, 32, 117, 110, 105, 113, 117, 101, 32, 105, 110, 100, 101, 120, 32, 105, 32, 111, 110, 32, 116, 32, 40, 97, 41]
noncomputable def noOut (b : By) : Bool := match readP b with | some (s, e) => e == 1 && s.f10.length == 0 | none => false
theorem out_ok : noOut tA = true := by kernel_rfl
theorem same_ok : sameP tB tD = true := by kernel_rfl
theorem out_of {b : By} (h : noOut b = true) : ∃ s, readP b = some (s, 1) ∧ s.f10.length = 0 := by
  unfold noOut at h
  split at h
  · rename_i s e h1
    rw [Bool.and_eq_true, beq_iff_eq, beq_iff_eq] at h
    obtain ⟨rfl, h2⟩ := h
    exact ⟨s, h1, h2⟩
  · cases h
theorem up_step (kret : Bool → Option Bool) (knxt : List ByteArray → Int → Option Bool) (l0 : List ByteArray) (i : Int) : cadastrelaw20_ParseWords_j13 9000 kret knxt l0 i = knxt l0 (IntKind.i64.wrap (i + 1)) := by
  unfold cadastrelaw20_ParseWords_j13
  have c1 : (⟨#[83, 69, 76, 69, 67, 84, 32, 65, 44, 32, 99, 111, 117, 110, 116, 32, 70, 82, 79, 77, 32, 116]⟩ : ByteArray) = txt tA := rfl
  have c2 : (⟨#[67, 82, 69, 65, 84, 69, 32, 85, 78, 73, 81, 85, 69, 32, 73, 78, 68, 69, 88, 32, 73, 32, 79, 78, 32, 84, 32, 40, 65, 41]⟩ : ByteArray) = txt tB := rfl
  have c3 : (⟨#[99, 114, 101, 97, 116, 101, 32, 117, 110, 105, 113, 117, 101, 32, 105, 110, 100, 101, 120, 32, 105, 32, 111, 110, 32, 116, 32, 40, 97, 41]⟩ : ByteArray) = txt tD := rfl
  obtain ⟨s1, h1, h2⟩ := out_of out_ok
  obtain ⟨s, t, h3, h4, h5⟩ := same_of same_ok
  have e1 : ((1 : Int) != 1) = false := rfl
  have e2 : ((0 : Int) != 0) = false := rfl
  rw [c1, c2, c3, read_eq, h1, some_bind, read_eq, h3, some_bind, read_eq, h4, some_bind]
  unfold cadastrelaw20_num
  simp only [some_bind]
  rw [e1, e2, h2, Bool.cond_false, decide_eq_false (by omega), Bool.cond_false, Bool.cond_false, Bool.cond_false, h5, some_bind, Bool.not_true, Bool.cond_false]
theorem up_run (kret : Bool → Option Bool) (kx : Option Bool) (l0 : List ByteArray) : ∀ d i n : Nat, i + d = 3 → d < n → cadastrelaw20_ParseWords_l11 9000 kret kx n l0 (i : Int) = kx
  | 0, i, n + 1, hi, _ => by
    obtain rfl : i = 3 := by omega
    simp only [cadastrelaw20_ParseWords_l11, cadastrelaw20_ParseWords_l11_b]
    rw [decide_eq_false (p := (((3 : Nat) : Int) < 3)) (by omega), Bool.cond_false]
    cases (decide (((3 : Nat) : Int) < (l0.length : Int))) <;> rfl
  | d + 1, i, n + 1, hi, hn => by
    simp only [cadastrelaw20_ParseWords_l11, cadastrelaw20_ParseWords_l11_b]
    rw [decide_eq_true (p := ((i : Int) < 3)) (by omega), cond_true, up_step, w64n (by omega)]
    cases (decide ((i : Int) < (l0.length : Int)))
    · rfl
    · exact up_run kret kx l0 d (i + 1) n (by omega) (by omega)
theorem ParseWords_pure : ∀ l : List ByteArray, (l.length * 16 ≤ 140737488351232 ∧ l.length ≤ 9223372036854775807 ∧ ∀ y ∈ l, (y.size ≤ 140737488351232)) → ∃ k, cadastrelaw20_ParseWords k l = some true := by
  intro l _
  refine ⟨9000, ?_⟩
  unfold cadastrelaw20_ParseWords
  refine (kw_run _ _ l 39 0 9000 (by omega) (by omega)).trans ?_
  refine (up_run _ _ l 3 0 9000 (by omega) (by omega)).trans ?_
  rw [wakes_eq]
  rfl
end Go.Proofs.Ytepekanlplbciaa.Q
