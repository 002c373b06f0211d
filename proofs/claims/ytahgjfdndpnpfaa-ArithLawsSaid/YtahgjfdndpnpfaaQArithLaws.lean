/-
  cadastre/cadastrelaw4.ArithLaws: what its printed function answers is true, for every list. No condition beyond the numbers' own bounds.
-/
import Derived.Test.YtahgjfdndpnpfaaTOk
import Derived.Test.YtahgjfdndpnpfaaTAri
namespace Go.Proofs.Ytahgjfdndpnpfaa.T
open Go Go.AX

theorem doS1 {op : Int} {a b : S23} (ha : a.f0 = 1) (hb : b.f0 = 1) : doS op a b = if (op = 10 ∨ op = 11) ∧ b.f1 = 0 then (vnull, 0) else if inr (opZ op a.f1 b.f1) = true then (vint (opZ op a.f1 b.f1), 0) else (vnull, 5) := by
  unfold doS; simp [ha, hb]
theorem good1 {a : S23} (h : good a = true) (ha : a.f0 = 1) : a = vint a.f1 := by
  unfold good at h
  simp only [ha, show ¬ ((1 : Int) = 0) by decide, if_false, if_true, decide_eq_true_eq] at h
  cases a
  simp only at ha h
  subst ha
  rw [empty_of_size h]; rfl
theorem good_vint (n : Int) : good (vint n) = true := by simp [good, vint]
theorem n9 (z : Int) : ((((9 : Int) = 10 ∨ (9 : Int) = 11) ∧ z = 0)) = False := by simp
theorem n12 (z : Int) : ((((12 : Int) = 10 ∨ (12 : Int) = 11) ∧ z = 0)) = False := by simp
theorem n13 (z : Int) : ((((13 : Int) = 10 ∨ (13 : Int) = 11) ∧ z = 0)) = False := by simp
theorem same_false (a : S23) : (!((a.f0 == a.f0) && ((a.f1 == a.f1) && (a.f2 == a.f2)))) = false := by simp
theorem same_iff (a b : S23) : ((a.f0 == b.f0) && ((a.f1 == b.f1) && (a.f2 == b.f2))) = true ↔ a = b := by
  cases a; cases b; simp [beq_iff_eq]
theorem isnull_iff (a : S23) : ((a.f0 == 0) && ((a.f1 == 0) && (a.f2 == ByteArray.empty))) = true ↔ a = vnull := same_iff a vnull

theorem wakes4 (k : Nat) (hk : 3 ≤ k) : cadastrelaw4_wakes k = some true := by
  unfold cadastrelaw4_wakes
  have := do_eq k 10 (vint 7) (vint 2) hk (by simp [okop]) (good_vint _) (good_vint _) rfl rfl
  unfold vint at this
  rw [this]
  simp only [some_bind, cadastrelaw4_num]
  decide +kernel

section
variable {ρ : Type} {k : Nat} (hk : 3 ≤ k) {l : List S25} {i : Int} {p : S25} (a0 : p.f0.f0 = 1) (b0 : p.f1.f0 = 1) (ga : good p.f0 = true) (gb : good p.f1 = true) (ha : inr p.f0.f1 = true) (hb : inr p.f1.f1 = true)
include hk a0 b0 ga gb ha hb
theorem l7_step (kret : Bool → Option ρ) (kexit : List S25 → Int → S25 → Option ρ) (rec : List S25 → Int → Int → S25 → Option ρ) (q : Nat) (hq : q < 2) :
    cadastrelaw4_ArithLaws_l7_b k kret kexit rec l i q p = rec l i ((q + 1 : Nat) : Int) p := by
  have key : ∀ op : Int, op = 12 ∨ op = 9 → doS op p.f1 p.f0 = doS op p.f0 p.f1 := by
    intro op ho
    have e : opZ op p.f1.f1 p.f0.f1 = opZ op p.f0.f1 p.f1.f1 := by
      rcases ho with rfl | rfl
      · simp [opZ, Int.add_comm]
      · simp [opZ, Int.mul_comm]
    have hno : ¬ (op = 10 ∨ op = 11) := by omega
    rw [doS1 b0 a0, doS1 a0 b0, e]
    simp only [hno, false_and, if_false]
  have code : ∀ op : Int, op = 12 ∨ op = 9 → (doS op p.f0 p.f1).2 = 0 ∨ (doS op p.f0 p.f1).2 = 5 := by
    intro op ho
    have hno : ¬ (op = 10 ∨ op = 11) := by omega
    rw [doS1 a0 b0]
    simp only [hno, false_and, if_false]
    split
    · exact .inl rfl
    · exact .inr rfl
  have main : ∀ op : Int, op = 12 ∨ op = 9 → [(12 : Int), 9].getD q 0 = op → cadastrelaw4_ArithLaws_l7_b k kret kexit rec l i q p = rec l i ((q + 1 : Nat) : Int) p := by
    intro op ho hop
    unfold cadastrelaw4_ArithLaws_l7_b
    have hlt : decide ((q : Int) < 2) = true := by simp; omega
    rw [hlt, cond_true, chk_pos (by simp; omega), Int.toNat_natCast, hop]
    rw [do_eq k op _ _ hk (by unfold okop; omega) ga gb ha hb, some_bind, do_eq k op _ _ hk (by unfold okop; omega) gb ga hb ha, some_bind, key op ho]
    simp only [cadastrelaw4_num, some_bind, bne_self_eq_false, cond_false, same_false]
    rw [w64n (by omega)]
    rcases code op ho with h | h <;> simp [h]
  rcases (show q = 0 ∨ q = 1 by omega) with rfl | rfl
  · exact main 12 (.inl rfl) rfl
  · exact main 9 (.inr rfl) rfl
theorem l7_all (kret : Bool → Option ρ) (kexit : List S25 → Int → S25 → Option ρ) : cadastrelaw4_ArithLaws_l7 k kret kexit k l i 0 p = kexit l i p := by
  obtain ⟨n, rfl⟩ : ∃ n, k = n + 1 + 1 + 1 := ⟨k - 3, by omega⟩
  have s0 := l7_step hk (l := l) (i := i) a0 b0 ga gb ha hb kret kexit (cadastrelaw4_ArithLaws_l7 (n + 1 + 1 + 1) kret kexit (n + 1 + 1)) 0 (by omega)
  have s1 := l7_step hk (l := l) (i := i) a0 b0 ga gb ha hb kret kexit (cadastrelaw4_ArithLaws_l7 (n + 1 + 1 + 1) kret kexit (n + 1)) 1 (by omega)
  refine Eq.trans s0 (Eq.trans s1 ?_)
  rfl
theorem j25_ok (kret : Bool → Option ρ) (knxt : List S25 → Int → Option ρ) (hz : p.f1.f1 ≠ 0) (hq : inr (Int.tdiv p.f0.f1 p.f1.f1) = true) :
    cadastrelaw4_ArithLaws_j25 k kret knxt l i p (vint (Int.tdiv p.f0.f1 p.f1.f1)) (vint (Int.tmod p.f0.f1 p.f1.f1)) = knxt l i := by
  have hx' := inr_iff.mp ha; have hy' := inr_iff.mp hb
  generalize hX : p.f0.f1 = x at *
  generalize hY : p.f1.f1 = y at *
  have tm := Int.tmod_add_mul_tdiv x y
  have hm : inr (Int.tdiv x y * y) = true := by
    have e : Int.tdiv x y * y = x - Int.tmod x y := by rw [Int.mul_comm]; omega
    have b1 : 0 ≤ x → 0 ≤ Int.tmod x y := fun h => Int.tmod_nonneg _ h
    have b2 : x ≤ 0 → Int.tmod x y ≤ 0 := fun h => by
      have := Int.tmod_nonneg y (a := -x) (by omega)
      rw [Int.neg_tmod] at this; omega
    have nb := Int.natAbs_tmod x y
    have nb2 : x.natAbs % y.natAbs ≤ x.natAbs := Nat.mod_le _ _
    rw [inr_iff, e]; omega
  unfold cadastrelaw4_ArithLaws_j25
  rw [do_eq k 9 (vint (Int.tdiv x y)) p.f1 hk (by simp [okop]) (good_vint _) gb hq (by rw [hY]; exact hb), some_bind, doS1 rfl b0]
  simp only [n9, if_false, hY]
  have o9 : opZ 9 (vint (Int.tdiv x y)).f1 y = Int.tdiv x y * y := rfl
  rw [o9, hm, if_pos rfl]
  have hr : inr (Int.tmod x y) = true := tmod_in ha
  rw [do_eq k 12 (vint (Int.tdiv x y * y)) (vint (Int.tmod x y)) hk (by simp [okop]) (good_vint _) (good_vint _) hm hr, some_bind, doS1 rfl rfl]
  have o12 : opZ 12 (vint (Int.tdiv x y * y)).f1 (vint (Int.tmod x y)).f1 = x := by
    show Int.tdiv x y * y + Int.tmod x y = x
    rw [Int.mul_comm]; omega
  simp only [o12, ha, if_true, n12, if_false, cadastrelaw4_num, some_bind, bne_self_eq_false, cond_false]
  have hself : p.f0 = vint x := by rw [good1 ga a0, hX]
  have hs : (!(((vint x).f0 == p.f0.f0) && (((vint x).f1 == p.f0.f1) && ((vint x).f2 == p.f0.f2)))) = false := by
    rw [hself]; exact same_false (vint x)
  rw [hs]
  have hv1 : (vint (Int.tmod x y)).f1 = Int.tmod x y := rfl
  have hneg : Int.tmod x y ≠ 0 → (decide (Int.tmod x y < 0) == decide (x < 0)) = true := by
    intro h0
    have b1 : 0 ≤ x → 0 ≤ Int.tmod x y := fun h => Int.tmod_nonneg _ h
    have b2 : x ≤ 0 → Int.tmod x y ≤ 0 := fun h => by
      have := Int.tmod_nonneg y (a := -x) (by omega)
      rw [Int.neg_tmod] at this; omega
    rw [beq_iff_eq, decide_eq_decide]; omega
  have habs : y ≠ -9223372036854775808 → ∀ u v : Int, u = (if (IntKind.i64.wrap (0 - Int.tmod x y)) > Int.tmod x y then (IntKind.i64.wrap (0 - Int.tmod x y)) else Int.tmod x y) →
      v = (if (IntKind.i64.wrap (0 - y)) > y then (IntKind.i64.wrap (0 - y)) else y) → decide (u ≥ v) = false := by
    intro hy u v hu hv
    have nb := Int.natAbs_tmod x y
    have nb2 : x.natAbs % y.natAbs < y.natAbs := Nat.mod_lt _ (by omega)
    rw [← nb] at nb2
    have hr' := inr_iff.mp hr
    rw [w64 (by omega) (by omega)] at hv
    have : Int.tmod x y ≠ -9223372036854775808 := by omega
    rw [w64 (by omega) (by omega)] at hu
    rw [decide_eq_false_iff_not]
    split at hu <;> split at hv <;> omega
  simp only [hv1, hX, cond_false]
  by_cases h0 : Int.tmod x y = 0
  · rw [h0] at habs ⊢
    simp only [bne_self_eq_false, cond_false]
    by_cases hy : y = -9223372036854775808
    · simp [hy]
    · rw [show (y != -9223372036854775808) = true by simpa using hy, cond_true, habs hy _ _ rfl rfl, cond_false]
  · rw [show (Int.tmod x y != 0) = true by simpa using h0, cond_true, hneg h0, Bool.not_true, cond_false]
    by_cases hy : y = -9223372036854775808
    · simp [hy]
    · rw [show (y != -9223372036854775808) = true by simpa using hy, cond_true, habs hy _ _ rfl rfl, cond_false]
theorem j19_ok (kret : Bool → Option ρ) (knxt : List S25 → Int → Option ρ) : cadastrelaw4_ArithLaws_j19 k kret knxt l i p = knxt l i := by
  unfold cadastrelaw4_ArithLaws_j19
  have hz0 : good (⟨0, 0, ByteArray.empty⟩ : S23) = true := by decide +kernel
  rw [do_eq k 10 _ _ hk (by simp [okop]) ga gb ha hb, some_bind, do_eq k 11 _ _ hk (by simp [okop]) ga gb ha hb, some_bind, do_eq k 12 _ _ hk (by simp [okop]) ga hz0 ha (by decide +kernel), some_bind]
  have d12 : doS 12 p.f0 (⟨0, 0, ByteArray.empty⟩ : S23) = (vnull, 0) := by unfold doS; simp
  have hno : ∀ b : Bool, (b == b) = true := fun b => by cases b <;> rfl
  rw [d12, doS1 a0 b0, doS1 a0 b0]
  simp only [true_or, or_true, true_and, cadastrelaw4_num, some_bind]
  by_cases h0 : p.f1.f1 = 0
  · simp only [h0, if_true]
    unfold cadastrelaw4_ArithLaws_j24
    simp only [cadastrelaw4_num, some_bind, h0]
    rfl
  · have hm : inr (Int.tmod p.f0.f1 p.f1.f1) = true := tmod_in ha
    have o11 : opZ 11 p.f0.f1 p.f1.f1 = Int.tmod p.f0.f1 p.f1.f1 := rfl
    have o10 : opZ 10 p.f0.f1 p.f1.f1 = Int.tdiv p.f0.f1 p.f1.f1 := rfl
    simp only [h0, if_false, o11, o10]
    simp only [hm, if_true]
    have e1 : (((vnull : S23).f0 == 0) && (((vnull : S23).f1 == 0) && ((vnull : S23).f2 == ByteArray.empty))) = true := (isnull_iff vnull).2 rfl
    have e2 : ∀ n, (((vint n).f0 == 0) && (((vint n).f1 == 0) && ((vint n).f2 == ByteArray.empty))) = false := fun n => by simp [vint]
    have e3 : (p.f1.f1 == 0) = false := by simpa using h0
    simp only [bne_self_eq_false, cond_false, e1, e2, e3, Bool.not_true, hno]
    unfold cadastrelaw4_ArithLaws_j24
    by_cases hq : inr (Int.tdiv p.f0.f1 p.f1.f1) = true
    · simp only [hq, if_true, cadastrelaw4_num, some_bind]
      rw [show (p.f1.f1 != 0) = true by simpa using h0, cond_true]
      exact j25_ok hk a0 b0 ga gb ha hb kret knxt h0 hq
    · simp only [hq, cadastrelaw4_num, some_bind]
      rfl
theorem j6_ok (kret : Bool → Option ρ) (knxt : List S25 → Int → Option ρ) : cadastrelaw4_ArithLaws_j6 k kret knxt l i p = knxt l i := by
  unfold cadastrelaw4_ArithLaws_j6
  rw [l7_all hk a0 b0 ga gb ha hb]
  rw [do_eq k 13 _ _ hk (by simp [okop]) ga gb ha hb, some_bind, doS1 a0 b0]
  simp only [n13, if_false, cadastrelaw4_num, some_bind]
  have e13 : opZ 13 p.f0.f1 p.f1.f1 = p.f0.f1 - p.f1.f1 := rfl
  rw [e13]
  by_cases hd : inr (p.f0.f1 - p.f1.f1) = true
  · simp only [hd, if_true, beq_self_eq_true, cond_true]
    rw [do_eq k 12 (vint (p.f0.f1 - p.f1.f1)) p.f1 hk (by simp [okop]) (good_vint _) gb hd hb, some_bind, doS1 rfl b0]
    have o12 : opZ 12 (vint (p.f0.f1 - p.f1.f1)).f1 p.f1.f1 = p.f0.f1 := by show p.f0.f1 - p.f1.f1 + p.f1.f1 = p.f0.f1; omega
    simp only [o12, ha, if_true, n12, if_false, bne_self_eq_false, cond_false]
    have hs : (!(((vint p.f0.f1).f0 == p.f0.f0) && (((vint p.f0.f1).f1 == p.f0.f1) && ((vint p.f0.f1).f2 == p.f0.f2)))) = false := by
      have := same_false (vint p.f0.f1)
      rw [Bool.not_eq_false'] at this ⊢
      rw [same_iff]; exact (good1 ga a0).symm
    rw [hs, cond_false]
    exact j19_ok hk a0 b0 ga gb ha hb kret knxt
  · simp only [hd, show ((5 : Int) == 0) = false by decide, cond_false]
    exact j19_ok hk a0 b0 ga gb ha hb kret knxt
end

theorem j4_ok {ρ : Type} {k : Nat} (hk : 3 ≤ k) (l : List S25) (i : Nat) (hi : i < l.length) (hn : l.length ≤ 9223372036854775807) (hok : ∀ y ∈ l, ok25 y) (kret : Bool → Option ρ) (knxt : List S25 → Int → Option ρ) :
    cadastrelaw4_ArithLaws_j4 k knxt kret l i = knxt l ((i + 1 : Nat) : Int) := by
  unfold cadastrelaw4_ArithLaws_j4
  rw [chk_pos (by omega), w64n (by omega)]
  simp only [Int.toNat_natCast]
  obtain ⟨⟨_, ha, _⟩, ⟨_, hb, _⟩, _⟩ := hok _ (getD_mem (d := default) hi)
  have ha := inr_iff.mpr ha
  have hb := inr_iff.mpr hb
  generalize l.getD i default = p at *
  simp only [may_eq, some_bind, bif_ite, bne_iff_ne, ne_eq, Bool.not_eq_true']
  by_cases a0 : p.f0.f0 = 1
  case neg => simp [a0]
  by_cases b0 : p.f1.f0 = 1
  case neg => simp [a0, b0]
  by_cases ga : good p.f0 = true
  case neg => simp [a0, b0, ga]
  by_cases gb : good p.f1 = true
  case neg => simp [a0, b0, ga, gb]
  simp only [a0, b0, ga, gb, not_true, if_false, Bool.true_eq_false]
  rw [j6_ok hk a0 b0 ga gb ha hb, w64n (by omega)]

theorem l2_ok {ρ : Type} {k : Nat} (hk : 3 ≤ k) (l : List S25) (hn : l.length ≤ 9223372036854775807) (hok : ∀ y ∈ l, ok25 y) (kret : Bool → Option ρ) (kexit : Option ρ) :
    ∀ (d i n : Nat), i + d = l.length → d < n → cadastrelaw4_ArithLaws_l2 k kret kexit n l i = kexit
  | 0, i, n + 1, hi, _ => by
    simp only [cadastrelaw4_ArithLaws_l2, cadastrelaw4_ArithLaws_l2_b]
    rw [show decide ((i : Int) < (l.length : Int)) = false by simp; omega, cond_false]
  | d + 1, i, n + 1, hi, hlt => by
    simp only [cadastrelaw4_ArithLaws_l2, cadastrelaw4_ArithLaws_l2_b]
    rw [show decide ((i : Int) < (l.length : Int)) = true by simp; omega, cond_true]
    by_cases h30 : (i : Int) < 30
    · rw [decide_eq_true h30, cond_true]
      refine Eq.trans (j4_ok hk l i (by omega) hn hok kret _) ?_
      exact l2_ok hk l hn hok kret kexit d (i + 1) n (by omega) (by omega)
    · rw [decide_eq_false h30, cond_false]

theorem ArithLaws_pure : ∀ l : List S25, (l.length * 72 ≤ 140737488351232 ∧ l.length ≤ 9223372036854775807 ∧ ∀ y ∈ l, (ok25 y)) → ∃ k, cadastrelaw4_ArithLaws k l = some true := by
  rintro l ⟨-, hn, hok⟩
  refine ⟨l.length + 4, ?_⟩
  unfold cadastrelaw4_ArithLaws
  refine Eq.trans (l2_ok (by omega) l hn hok _ _ l.length 0 (l.length + 4) (by omega) (by omega)) ?_
  rw [wakes4 _ (by omega)]; rfl
end Go.Proofs.Ytahgjfdndpnpfaa.T
