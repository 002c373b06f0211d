/-
  cadastre/cadastrelaw23.EvalLets: what its printed function answers is true, for every list. No condition beyond the numbers' own bounds.
-/
import Derived.Test.YtnoeedkbadoogaaDoorEEm
namespace Go.Proofs.YtnoeedkbadoogaaDoor.E
open Go Go.AX

/-! ### what weighs much is let go -/
theorem weight_it (k : Nat) : ∀ (d deep : Nat) (l : List T25) (n : Int), 41 ≤ deep + d → deep ≤ 41 → szL l < k → l.length ≤ 9223372036854775806 → (∀ c ∈ l, T25.ok c) →
    ∃ r, (cadastrelaw21_Weight_R_it k (d + 1)).cadastrelaw21_Weight l n (deep : Int) = some r := by
  intro d
  induction d with
  | zero =>
    intro deep l n h1 h2 _ _ _
    refine ⟨10000, ?_⟩
    show cadastrelaw21_Weight_r k _ l n (deep : Int) = _
    unfold cadastrelaw21_Weight_r
    rw [decide_eq_true (show (deep : Int) > 40 by omega)]; rfl
  | succ d ih =>
    intro deep l n h1 h2 hs hl ho
    show ∃ r, cadastrelaw21_Weight_r k (cadastrelaw21_Weight_R_it k (d + 1)) l n (deep : Int) = some r
    unfold cadastrelaw21_Weight_r
    by_cases h40 : (deep : Int) > 40
    · rw [decide_eq_true h40]; exact ⟨_, rfl⟩
    rw [decide_eq_false h40, Bool.cond_false]
    have hlen := len_szL l
    suffices H : ∀ (m i q : Nat) (s : Int), i + m = l.length → m < q → ∃ r, cadastrelaw21_Weight_l4 k (cadastrelaw21_Weight_R_it k (d + 1)) (fun t => some t) q l s (deep : Int) (i : Int) = some r by
      exact H l.length 0 k n (by omega) (by omega)
    intro m
    induction m with
    | zero =>
      intro i q s hi hq
      obtain ⟨q, rfl⟩ : ∃ p, q = p + 1 := ⟨q - 1, by omega⟩
      simp only [cadastrelaw21_Weight_l4, cadastrelaw21_Weight_l4_b]
      rw [decide_eq_false (show ¬ (i : Int) < (l.length : Int) by omega)]
      exact ⟨_, rfl⟩
    | succ m ihm =>
      intro i q s hi hq
      obtain ⟨q, rfl⟩ : ∃ p, q = p + 1 := ⟨q - 1, by omega⟩
      have hil : i < l.length := by omega
      simp only [cadastrelaw21_Weight_l4, cadastrelaw21_Weight_l4_b]
      rw [decide_eq_true (show (i : Int) < (l.length : Int) by omega), cond_true, big_eq]
      cases decide (s < 10000)
      · exact ⟨_, rfl⟩
      rw [cond_true]
      unfold cadastrelaw21_Weight_j6
      have hm : l[i] ∈ l := List.getElem_mem hil
      have hoc := ho _ hm
      rw [chk_pos (by omega), chk_pos (by omega), show ((i : Int)).toNat = i from rfl, getD_get l i _ hil, show IntKind.i64.wrap ((deep : Int) + 1) = ((deep + 1 : Nat) : Int) from w64n (by omega)]
      dsimp only
      obtain ⟨r, hr⟩ := ih (deep + 1) l[i].s.f4 (IntKind.i64.wrap ((IntKind.i64.wrap (s + 1)) + (IntKind.i64.wrap (Int.tdiv (l[i].s.f1.f2.size : Int) 50)))) (by omega) (by omega) (Nat.lt_trans (szL_lt _) (Nat.lt_trans (sz_mem hm) hs)) (by have := ok_len hoc; omega) (fun c hc => ok_child hoc hc)
      rw [hr, some_bind, w64n (by omega)]
      exact ihm (i + 1) q r (by omega) (by omega)
theorem light_tot (k : Nat) (l : List S23) (hk : 201 ≤ k) : ∃ b, cadastrelaw0_Light k l 20000 = some b ∧ (b = true → l.length ≤ 200) := by
  unfold cadastrelaw0_Light
  by_cases h2 : (l.length : Int) > 200
  · rw [decide_eq_true h2]; exact ⟨false, rfl, by simp⟩
  rw [decide_eq_false h2, Bool.cond_false]
  suffices H : ∀ (d i n : Nat) (s : Int), i + d = l.length → d < n → ∃ b, cadastrelaw0_Light_l5 k (fun most n5 => some (decide (n5 ≤ most))) n l 20000 s (i : Int) = some b by
    obtain ⟨b, hb⟩ := H l.length 0 k 0 (by omega) (by omega)
    exact ⟨b, hb, fun _ => by omega⟩
  intro d
  induction d with
  | zero =>
    intro i n s hi hn
    obtain ⟨n, rfl⟩ : ∃ m, n = m + 1 := ⟨n - 1, by omega⟩
    obtain rfl : i = l.length := by omega
    simp [cadastrelaw0_Light_l5, cadastrelaw0_Light_l5_b]
  | succ d ih =>
    intro i n s hi hn
    obtain ⟨n, rfl⟩ : ∃ m, n = m + 1 := ⟨n - 1, by omega⟩
    simp only [cadastrelaw0_Light_l5, cadastrelaw0_Light_l5_b]
    rw [decide_eq_true (show (i : Int) < (l.length : Int) by omega), cond_true, chk_pos (by omega), w64n (by omega)]
    exact ih (i + 1) n _ (by omega) (by omega)
theorem heavy_tot (k : Nat) (p : S37) (hk : 201 ≤ k) (hs : sz p.f0.t + 10 < k) (ho : T25.ok p.f0.t) : ∃ b, cadastrelaw23_Heavy k p = some b ∧ (b = false → p.f1.length ≤ 200) := by
  unfold cadastrelaw23_Heavy
  have hs1 : szL [p.f0.t] < k := by
    simp only [szL, List.cons.sizeOf_spec, List.nil.sizeOf_spec]
    unfold sz at hs
    omega
  obtain ⟨r, hr⟩ := weight_it k (k - 1) 0 [p.f0.t] 0 (by omega) (by omega) hs1 (by simp) (by intro c hc; rw [List.mem_singleton.1 hc]; exact ho)
  have hr' : cadastrelaw21_Weight k [p.f0.t] 0 0 = some r := by
    rw [show k - 1 + 1 = k by omega] at hr
    exact hr
  rw [hr', some_bind, big_eq]
  cases decide (r > 1500)
  · rw [Bool.cond_false]
    obtain ⟨b, h1, h2⟩ := light_tot k p.f1 hk
    rw [h1, some_bind]
    refine ⟨!b, rfl, fun hb => h2 (by simpa using hb)⟩
  · exact ⟨true, rfl, by simp⟩

/-! ### one expression -/
def notE (t : T25) : S25 := ⟨4, (⟨0, 0, ByteArray.empty⟩ : S23), ByteArray.empty, ByteArray.empty, [t]⟩
noncomputable def szN : Nat := 3 + SizeOf.sizeOf (4 : Int) + SizeOf.sizeOf (⟨0, 0, ByteArray.empty⟩ : S23) + SizeOf.sizeOf ByteArray.empty + SizeOf.sizeOf ByteArray.empty
theorem sz_not (t : T25) : sz (notE t).t ≤ sz t + szN := by
  unfold sz szN notE S25.t
  simp only [T25.mk.sizeOf_spec, List.cons.sizeOf_spec, List.nil.sizeOf_spec]
  omega
theorem ok_not {t : T25} (h : T25.ok t) : T25.ok (notE t).t := by
  refine .mk _ ⟨?_, ?_, ?_, ?_, ?_⟩ ?_
  · show -9223372036854775808 ≤ (4 : Int) ∧ (4 : Int) < 9223372036854775808; omega
  · show ok23 ⟨0, 0, ByteArray.empty⟩
    unfold ok23
    exact ⟨by decide, by decide, by show 0 ≤ _; omega⟩
  · show (0 : Nat) ≤ _; omega
  · show (0 : Nat) ≤ _; omega
  · show ([t] : List T25).length * 96 ≤ 140737488351232 ∧ ([t] : List T25).length ≤ 9223372036854775807
    simp
  · intro y hy
    have hy' : y ∈ [t] := hy
    rw [List.mem_singleton.1 hy']; exact h
/-- Whether a value is true. -/
def isTrue (v : S23) : Bool := (v.f0 == 1) && (v.f1 != 0)
theorem true_gd (k : Nat) {v : S23} (h : gd v) : logic_True k v = some (isTrue v, (tr v).2) := by
  rw [true_eq]
  unfold tr isTrue
  rw [if_pos h.1]
  by_cases h0 : v.f0 = 0
  · simp [h0]
  by_cases h1 : v.f0 = 1
  · by_cases h2 : v.f1 = 0 <;> simp [h1, h2]
  simp [h0, h1]
/-- What lets a row go: its value. -/
def letsS (x : S23 × Int) : Bool := (x.2 == 0) && isTrue x.1
theorem etrue_eq (k : Nat) (e : S25) (row : List S23) {x : S23 × Int} (h : eval_Value k e row = some x) (hg : gd x.1) : eval_True k e row = some (letsS x) := by
  unfold eval_True letsS
  rw [h, some_bind]
  by_cases h0 : x.2 = 0
  · rw [show (x.2 != 0) = false by simp [h0], Bool.cond_false, true_gd k hg, some_bind, h0]; rfl
  · rw [show (x.2 != 0) = true by simp [h0], cond_true, beq_eq_false_iff_ne.2 h0]; rfl
theorem gd_row {row : List S23} (h1 : row.all good = true) (h2 : ∀ v ∈ row, inr v.f1 = true) : ∀ v ∈ row, gd v := fun v hv => ⟨List.all_eq_true.1 h1 v hv, h2 v hv⟩
theorem not_lets (row : List S23) (h : Nat) (t : T25) (hl : letsS (valS row h t) = true) : letsS (valS row (h + 1) (notE t).t) = false := by
  unfold letsS at hl
  rw [Bool.and_eq_true, beq_iff_eq] at hl
  have e : valS row (h + 1) (notE t).t = unS 4 (valS row h t).1 := by
    show (if (4 : Int) = 1 then _ else if (4 : Int) = 2 then _ else if (valS row h t).2 ≠ 0 then (vnull, (valS row h t).2) else unS 4 (valS row h t).1) = _
    rw [if_neg (by omega), if_neg (by omega), if_neg (fun hn => hn hl.1)]
  rw [e]
  have hv := hl.2
  generalize (valS row h t).1 = v at hv
  unfold isTrue at hv
  rw [Bool.and_eq_true, beq_iff_eq, bne_iff_ne] at hv
  unfold unS
  rw [if_neg (by omega), if_pos rfl]
  unfold notR letsS isTrue
  by_cases hg : good v = true
  · have ht : tr v = (2, 0) := by
      unfold tr
      rw [if_pos hg, if_neg (by omega), if_pos hv.1, if_neg hv.2]
    rw [ht]
    rfl
  · rw [tr_bad hg]
    rfl
theorem one_ask (k : Nat) (hk : 8194 < k) (l : List S37) (i : Nat) (hi : i < l.length) (hl : l.length ≤ 9223372036854775806) (h : ok37 (l.getD i default)) (hs : sz (l.getD i default).f0.t + 10 + szN < k) (kn : List S37 → Int → Option Bool) :
    cadastrelaw23_EvalLets_j4 k (fun t => some t) kn l (i : Int) = some true ∨ cadastrelaw23_EvalLets_j4 k (fun t => some t) kn l (i : Int) = kn l ((i + 1 : Nat) : Int) := by
  unfold cadastrelaw23_EvalLets_j4
  rw [chk_pos (by omega), show ((i : Int)).toNat = i from rfl]
  generalize l.getD i default = p at h hs ⊢
  have hw : kn l (IntKind.i64.wrap ((i : Int) + 1)) = kn l ((i + 1 : Nat) : Int) := congrArg (kn l) (w64n (by omega))
  unfold ok37 at h
  have ho : T25.ok p.f0.t := h.1
  have hin : ∀ v ∈ p.f1, inr v.f1 = true := fun v hv => inr_iff.2 (h.2.2.2 v hv).2.1
  obtain ⟨b, hb, hp⟩ := heavy_tot k p (by omega) (by omega) ho
  rw [hb, some_bind]
  cases b
  case true => exact .inl rfl
  have hp2 := hp rfl
  right
  rw [Bool.cond_false]
  obtain ⟨m, hm1, hm2⟩ := may_tot k hk p.f0 p.f1 hp2 (by omega) ho
  unfold eval_Eval eval_Lets
  rw [hm1, some_bind, some_bind]
  unfold cadastrelaw23_num
  cases m
  · exact hw
  obtain ⟨hrow, hvt⟩ := hm2 rfl
  have hgr := gd_row hrow hin
  obtain ⟨v1, v2, v3⟩ := val_it k hk p.f1 hgr 20 k p.f0 (by omega) hvt ho
  have v1' : eval_Value k p.f0 p.f1 = some (valS p.f1 20 p.f0.t) := v1
  rw [etrue_eq k p.f0 p.f1 v1' v2, v1']
  have hnl := not_lets p.f1 20 p.f0.t
  have j14 : ∀ (kn2 : List S37 → Int → Option Bool), cadastrelaw23_EvalLets_j14 k (fun t => some t) kn2 l (i : Int) (letsS (valS p.f1 20 p.f0.t)) p = kn2 l (i : Int) := by
    intro kn2
    unfold cadastrelaw23_EvalLets_j14 eval_Lets cadastrelaw23_num
    obtain ⟨m2, hm3, hm4⟩ := may_tot k hk (notE p.f0.t) p.f1 hp2 (by have := sz_not p.f0.t; omega) (ok_not ho)
    have hm3' : eval_may k (⟨4, (⟨0, 0, ByteArray.empty⟩ : S23), ByteArray.empty, ByteArray.empty, [p.f0.t]⟩ : S25) p.f1 = some m2 := hm3
    rw [hm3', some_bind]
    cases m2
    · rfl
    have hvt2 : VT p.f1.length 21 (notE p.f0.t).t := .inr (.inr (.inl ⟨by show (3 : Int) ≤ 4; omega, by show (4 : Int) ≤ 8; omega, p.f0.t, rfl, hvt⟩))
    obtain ⟨q1, q2, q3⟩ := val_it k hk p.f1 hgr 21 k (notE p.f0.t) (by omega) hvt2 (ok_not ho)
    have q1' : eval_Value k (⟨4, (⟨0, 0, ByteArray.empty⟩ : S23), ByteArray.empty, ByteArray.empty, [p.f0.t]⟩ : S25) p.f1 = some (valS p.f1 21 (notE p.f0.t).t) := q1
    rw [etrue_eq k _ p.f1 q1' q2]
    cases hl' : letsS (valS p.f1 20 p.f0.t)
    · rfl
    · rw [hnl hl']; rfl
  generalize hL : letsS (valS p.f1 20 p.f0.t) = L at j14 ⊢
  generalize valS p.f1 20 p.f0.t = x at hL v3 ⊢
  simp only [some_bind, Bool.not_true, Bool.cond_false]
  rw [beq_eq_false_iff_ne.2 v3, Bool.cond_false, bne_self_eq_false, Bool.cond_false]
  unfold letsS isTrue at hL
  by_cases h0 : x.2 = 0
  · rw [beq_iff_eq.2 h0, cond_true]
    by_cases h1 : x.1.f0 = 1
    · rw [beq_iff_eq.2 h1, cond_true]
      have : L = (x.1.f1 != 0) := by rw [← hL, beq_iff_eq.2 h0, beq_iff_eq.2 h1]; simp
      rw [this] at j14 ⊢
      rw [beq_self_eq_true, Bool.not_true, Bool.cond_false]
      exact (j14 (fun l0 i3 => kn l0 (IntKind.i64.wrap (i3 + 1)))).trans hw
    · rw [beq_eq_false_iff_ne.2 h1, Bool.cond_false]
      have : L = false := by rw [← hL, beq_eq_false_iff_ne.2 h1]; simp
      rw [this] at j14 ⊢
      exact (j14 (fun l0 i3 => kn l0 (IntKind.i64.wrap (i3 + 1)))).trans hw
  · rw [beq_eq_false_iff_ne.2 h0, Bool.cond_false]
    have : L = false := by rw [← hL, beq_eq_false_iff_ne.2 h0]; simp
    rw [this] at j14 ⊢
    exact (j14 (fun l0 i3 => kn l0 (IntKind.i64.wrap (i3 + 1)))).trans hw

/-! ### a beginning -/
def oneE : S25 := ⟨1, (⟨1, 1, ByteArray.empty⟩ : S23), ByteArray.empty, ByteArray.empty, []⟩
noncomputable def sumE : S25 := ⟨12, (⟨0, 0, ByteArray.empty⟩ : S23), ByteArray.empty, ByteArray.empty, [oneE.t, oneE.t]⟩
theorem ok_one : T25.ok oneE.t := by
  refine .mk _ ⟨?_, ?_, ?_, ?_, ?_⟩ ?_
  · show -9223372036854775808 ≤ (1 : Int) ∧ (1 : Int) < 9223372036854775808; omega
  · show ok23 ⟨1, 1, ByteArray.empty⟩
    unfold ok23
    exact ⟨by decide, by decide, by show 0 ≤ _; omega⟩
  · show (0 : Nat) ≤ _; omega
  · show (0 : Nat) ≤ _; omega
  · show ([] : List T25).length * 96 ≤ 140737488351232 ∧ ([] : List T25).length ≤ 9223372036854775807
    simp
  · intro y hy
    have hy' : y ∈ ([] : List T25) := hy
    simp at hy'
theorem ok_sum : T25.ok sumE.t := by
  refine .mk _ ⟨?_, ?_, ?_, ?_, ?_⟩ ?_
  · show -9223372036854775808 ≤ (12 : Int) ∧ (12 : Int) < 9223372036854775808; omega
  · show ok23 ⟨0, 0, ByteArray.empty⟩
    unfold ok23
    exact ⟨by decide, by decide, by show 0 ≤ _; omega⟩
  · show (0 : Nat) ≤ _; omega
  · show (0 : Nat) ≤ _; omega
  · show ([oneE.t, oneE.t] : List T25).length * 96 ≤ 140737488351232 ∧ ([oneE.t, oneE.t] : List T25).length ≤ 9223372036854775807
    simp
  · intro y hy
    have hy' : y ∈ [oneE.t, oneE.t] := hy
    simp at hy'
    rw [hy']; exact ok_one
theorem one_one (k : Nat) : print_one k oneE = some true := by
  unfold print_one
  rw [args_eq, some_bind]
  show (bif ((0 : Int) != 0) then some false else _) = _
  rw [bne_self_eq_false, Bool.cond_false]
  show (bif ((1 : Int) == 1) then _ else _) = _
  rw [beq_self_eq_true, cond_true]
  unfold print_literal
  rw [good_eq, show good oneE.f1 = true from good_vint 1]
  simp [oneE, some_bind]
theorem one_sum (k : Nat) : print_one k sumE = some true := by
  unfold print_one
  rw [args_eq, some_bind]
  show (bif ((2 : Int) != 2) then some false else _) = _
  rw [bne_self_eq_false, Bool.cond_false]
  simp [sumE]
theorem count_one (k d h : Nat) (hh : h ≤ 100) (hk : 1 ≤ k) : (print_count_R_it k (d + 1)).print_count oneE ((h + 1 : Nat) : Int) = some 1 := by
  show print_count_r k (print_count_R_it k d) oneE ((h + 1 : Nat) : Int) = some 1
  unfold print_count_r
  rw [beq_eq_false_iff_ne.2 (show ((h + 1 : Nat) : Int) ≠ 0 by omega), Bool.cond_false, one_one, some_bind]
  obtain ⟨k, rfl⟩ : ∃ m, k = m + 1 := ⟨k - 1, by omega⟩
  rfl
theorem count_sum (k : Nat) (hk : 4 ≤ k) : print_count k sumE 20 = some 3 := by
  obtain ⟨k, rfl⟩ : ∃ m, k = m + 4 := ⟨k - 4, by omega⟩
  show print_count_r (k + 4) (print_count_R_it (k + 4) (k + 3)) sumE ((20 : Nat) : Int) = some 3
  unfold print_count_r
  rw [beq_eq_false_iff_ne.2 (show ((20 : Nat) : Int) ≠ 0 by omega), Bool.cond_false, one_sum, some_bind]
  unfold print_count_j3
  have c1 : (print_count_R_it (k + 4) (k + 3)).print_count oneE (IntKind.i64.wrap (((20 : Nat) : Int) - 1)) = some 1 := count_one (k + 4) (k + 2) 18 (by omega) (by omega)
  have e1 : ((sumE.f4.getD ((0 : Int)).toNat default).s) = oneE := rfl
  have e2 : ((sumE.f4.getD ((1 : Int)).toNat default).s) = oneE := rfl
  have w1 : IntKind.i64.wrap ((0 : Int) + 1) = 1 := by decide
  have w2 : IntKind.i64.wrap ((1 : Int) + 1) = 2 := by decide
  have l1 : ((sumE.f4.length : Int)) = 2 := rfl
  rw [l1]
  unfold print_count_l5 print_count_l5_b
  rw [decide_eq_true (show (0 : Int) < 2 by omega), cond_true, chk_pos (by rw [l1]; omega), e1, c1, some_bind, w1, w2, decide_eq_false (show ¬ (1 : Int) < 0 by omega)]
  rw [Bool.not_true, Bool.cond_false, Bool.cond_false]
  unfold print_count_l5 print_count_l5_b
  rw [decide_eq_true (show (1 : Int) < 2 by omega), cond_true, chk_pos (by rw [l1]; omega), e2, c1, some_bind, w2, decide_eq_false (show ¬ (1 : Int) < 0 by omega), Bool.cond_false]
  rfl
theorem may_sum (k : Nat) (hk : 8194 < k) (hs : sz sumE.t < k) : eval_may k sumE [] = some true := by
  unfold eval_may
  rw [all_eq k [] (by simp) (by simp; omega), some_bind]
  show (eval_Good k sumE 0).bind _ = _
  unfold eval_Good
  have hl : lowS 20 sumE.t = true := by rfl
  have h1 : bind_Low k sumE 20 = some (lowS 20 sumE.t) := low_it k k 20 sumE (by omega) (by omega) ok_sum hs
  have h2 : eval_places k sumE 0 = some (plS 0 20 sumE.t) := places_it k 0 20 k sumE (by omega) hl ok_sum hs
  have h3 : bind_Plain k sumE = some (plainS 20 sumE.t).s := plain_it k 20 k sumE (by omega) hl ok_sum hs
  have e3 : (plainS 20 sumE.t).s = sumE := by rfl
  rw [h1, hl, some_bind, cond_true, h2, show plS 0 20 sumE.t = true by rfl, some_bind, cond_true, h3, e3, some_bind]
  unfold print_Good
  rw [count_sum k (by omega), some_bind]
  rfl
theorem wakes_eq (k : Nat) (hk : 8194 < k) (hs : sz sumE.t < k) : cadastrelaw23_wakes k = some true := by
  unfold cadastrelaw23_wakes
  have hm := may_sum k hk hs
  obtain ⟨b, h1, h2⟩ := may_tot k hk sumE [] (by simp) hs ok_sum
  rw [hm] at h1
  cases h1
  obtain ⟨_, hvt⟩ := h2 rfl
  obtain ⟨v1, v2, v3⟩ := val_it k hk [] (by simp) 20 k sumE (by omega) hvt ok_sum
  have v1' : eval_Value k sumE [] = some (valS [] 20 sumE.t) := v1
  have he : eval_Eval k sumE [] = some (vint 2, 0) := by
    unfold eval_Eval
    rw [hm, some_bind, v1', some_bind]
    rfl
  have he' : eval_Eval k (⟨12, (⟨0, 0, ByteArray.empty⟩ : S23), ByteArray.empty, ByteArray.empty, [(⟨1, (⟨1, 1, ByteArray.empty⟩ : S23), ByteArray.empty, ByteArray.empty, []⟩ : S25).t, (⟨1, (⟨1, 1, ByteArray.empty⟩ : S23), ByteArray.empty, ByteArray.empty, []⟩ : S25).t]⟩ : S25) [] = some (vint 2, 0) := he
  rw [he', some_bind]
  rfl
theorem bound : ∀ l : List S37, ∃ B, ∀ y ∈ l, sz y.f0.t ≤ B
  | [] => ⟨0, by simp⟩
  | a :: r => by
    obtain ⟨B, hB⟩ := bound r
    refine ⟨B + sz a.f0.t, fun y hy => ?_⟩
    rcases List.mem_cons.1 hy with rfl | hy
    · omega
    · have := hB y hy; omega
theorem EvalLets_pure : ∀ l : List S37, (l.length * 120 ≤ 140737488351232 ∧ l.length ≤ 9223372036854775807 ∧ ∀ y ∈ l, (ok37 y)) → ∃ k, cadastrelaw23_EvalLets k l = some true := by
  intro l hl
  obtain ⟨B, hB⟩ := bound l
  refine ⟨10000 + B + szN + sz sumE.t, ?_⟩
  unfold cadastrelaw23_EvalLets
  rw [wakes_eq _ (by omega) (by omega)]
  generalize hK : 10000 + B + szN + sz sumE.t = K
  suffices H : ∀ (d i n : Nat), i + d = 13 → d < n → cadastrelaw23_EvalLets_l2 K (fun t => some t) ((some true).bind fun r => some r) n l (i : Int) = some true by
    exact H 13 0 K (by omega) (by omega)
  intro d
  induction d with
  | zero =>
    intro i n hi hn
    obtain ⟨n, rfl⟩ : ∃ m, n = m + 1 := ⟨n - 1, by omega⟩
    simp only [cadastrelaw23_EvalLets_l2, cadastrelaw23_EvalLets_l2_b]
    rw [decide_eq_false (show ¬ (i : Int) < 12 by omega)]
    cases decide ((i : Int) < (l.length : Int)) <;> rfl
  | succ d ih =>
    intro i n hi hn
    obtain ⟨n, rfl⟩ : ∃ m, n = m + 1 := ⟨n - 1, by omega⟩
    simp only [cadastrelaw23_EvalLets_l2, cadastrelaw23_EvalLets_l2_b]
    by_cases h1 : (i : Int) < (l.length : Int)
    case neg => rw [decide_eq_false h1]; rfl
    by_cases h2 : (i : Int) < 12
    case neg => rw [decide_eq_true h1, decide_eq_false h2]; rfl
    rw [decide_eq_true h1, decide_eq_true h2, cond_true, cond_true]
    have hm : l.getD i default ∈ l := getD_mem (by omega)
    rcases one_ask K (by omega) l i (by omega) (by omega) (hl.2.2 _ hm) (by have := hB _ hm; omega) (cadastrelaw23_EvalLets_l2 K (fun t => some t) ((some true).bind fun r => some r) n) with h | h
    · exact h
    · exact h.trans (ih (i + 1) n (by omega) (by omega))
end Go.Proofs.YtnoeedkbadoogaaDoor.E
