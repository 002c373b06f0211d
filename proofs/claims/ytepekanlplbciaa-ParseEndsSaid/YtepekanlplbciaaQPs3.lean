/-
  Layer 20: what is read by the rules of expressions is what the printed functions answer, given time enough.
-/
import Derived.Test.YtepekanlplbciaaQPs2
namespace Go.Proofs.Ytepekanlplbciaa.Q
open Go Go.AX
noncomputable abbrev RC (k d : Nat) : parse_reader_expr_p0_R := parse_reader_expr_p0_R_it k d
abbrev RP := parse_reader_expr_p0_R
/-! ### a level's operations -/
section
variable {ρ : Type} (k : Nat) (nx : Sreader → Option (SExpr × Sreader))
noncomputable def gL (kgoto0 : List Soper → SExpr → SExpr → Sreader → Option ρ) (kexit0 : SExpr → SExpr → Sreader → Option ρ) : Nat → List Soper → List Soper → Int → Int → SExpr → SExpr → Sreader → Option ρ
  | 0, _, _, _, _, _, _, _ => none
  | n + 1, l2, t17, t18, t19, t6, e7, t1000 =>
    bif (decide (t19 < t18)) then
    chk (0 ≤ t19 ∧ t19 < (t17.length : Int)) <|
    (parse_reader_got_p0 k (t17.getD t19.toNat default).f0 t1000).bind fun r_2 =>
    bif r_2.1 then
    (nx r_2.2).bind fun r_3 =>
    (parse_reader_node_p0 k (⟨(t17.getD t19.toNat default).f1, (⟨0, 0, ByteArray.empty⟩ : SValue), ByteArray.empty, ByteArray.empty, [e7.t, r_3.1.t]⟩ : SExpr) r_3.2).bind fun r_4 =>
    kgoto0 l2 t6 r_4.1 r_4.2
    else
    gL kgoto0 kexit0 n l2 t17 t18 (IntKind.i64.wrap (t19 + 1)) t6 e7 r_2.2
    else
    kexit0 t6 e7 t1000
noncomputable def gG (kret : SExpr → Sreader → Option ρ) : Nat → List Soper → SExpr → SExpr → Sreader → Option ρ
  | 0, _, _, _, _ => none
  | n + 1, l2, t6, e7, t1000 =>
    bif t1000.f1 then
    kret e7 t1000
    else
    gL k nx (gG kret n) (fun _ e7_10 t1000_11 => kret e7_10 t1000_11) k l2 l2 (l2.length : Int) 0 t6 e7 t1000
theorem gL_eq (kg : List Soper → SExpr → SExpr → Sreader → Option ρ) (kx : SExpr → SExpr → Sreader → Option ρ) (l2 l : List Soper) (hl : l.length < 1000) (t6 e : SExpr) (r : Sreader) : ∀ (d n i : Nat), i + d = l.length → d < n →
    gL k nx kg kx n l2 l (l.length : Int) (i : Int) t6 e r = match findOp (l.drop i) r with | none => kx t6 e r | some op => (nx (tl r)).bind fun x => kg l2 t6 (mkE op [e, x.1]) (nodeR x.2)
  | 0, n + 1, i, hi, _ => by
    simp only [gL]
    rw [decide_eq_false (by omega), cond_false, List.drop_eq_nil_of_le (by omega)]; rfl
  | d + 1, n + 1, i, hi, hn => by
    simp only [gL]
    have hlt : i < l.length := by omega
    rw [decide_eq_true (by omega), cond_true, chk_pos (by omega), Int.toNat_natCast, got_eq, some_bind, List.drop_eq_getElem_cons hlt, getD_get _ i _ hlt]
    simp only [findOp]
    cases hd r l[i].f0 with
    | true => simp only [cond_true]; rfl
    | false => simp only [cond_false]; rw [w64n (by omega)]; exact gL_eq kg kx l2 l hl t6 e r d n (i + 1) (by omega) (by omega)
theorem gG_eq (kret : SExpr → Sreader → Option ρ) (n : Nat) (l : List Soper) (hl : l.length < 1000) (hk : l.length < k) (t6 e : SExpr) (r : Sreader) :
    gG k nx kret (n + 1) l t6 e r = match opAt l r with | none => kret e r | some op => (nx (tl r)).bind fun x => gG k nx kret n l t6 (mkE op [e, x.1]) (nodeR x.2) := by
  simp only [gG, opAt]
  cases r.f1 with
  | true => rfl
  | false => rw [cond_false, cond_false]; exact gL_eq k nx (gG k nx kret n) _ l l hl t6 e r l.length k 0 (by omega) hk
end
section
variable {ρ : Type} (k : Nat) (rc : RP)

theorem L_and (kg : List Soper → SExpr → SExpr → Sreader → Option ρ) (kx : SExpr → SExpr → Sreader → Option ρ) : ∀ n, parse_reader_left_p0_fand_l5 k rc kg kx n = gL k rc.parse_reader_and_p0 kg kx n
  | 0 => rfl
  | n + 1 => by funext l2 a b c d e r; simp only [parse_reader_left_p0_fand_l5, gL, ← L_and kg kx n]; rfl
theorem G_and (kr : SExpr → Sreader → Option ρ) : ∀ n, parse_reader_left_p0_fand_g0 k rc kr n = gG k rc.parse_reader_and_p0 kr n
  | 0 => rfl
  | n + 1 => by funext l2 t e r; simp only [parse_reader_left_p0_fand_g0, parse_reader_left_p0_fand_g0_b, parse_reader_left_p0_fand_j2, gG, L_and, G_and kr n]
theorem L_not (kg : List Soper → SExpr → SExpr → Sreader → Option ρ) (kx : SExpr → SExpr → Sreader → Option ρ) : ∀ n, parse_reader_left_p0_fnot_l5 k rc kg kx n = gL k rc.parse_reader_not_p0 kg kx n
  | 0 => rfl
  | n + 1 => by funext l2 a b c d e r; simp only [parse_reader_left_p0_fnot_l5, gL, ← L_not kg kx n]; rfl
theorem G_not (kr : SExpr → Sreader → Option ρ) : ∀ n, parse_reader_left_p0_fnot_g0 k rc kr n = gG k rc.parse_reader_not_p0 kr n
  | 0 => rfl
  | n + 1 => by funext l2 t e r; simp only [parse_reader_left_p0_fnot_g0, parse_reader_left_p0_fnot_g0_b, parse_reader_left_p0_fnot_j2, gG, L_not, G_not kr n]
theorem L_product (kg : List Soper → SExpr → SExpr → Sreader → Option ρ) (kx : SExpr → SExpr → Sreader → Option ρ) : ∀ n, parse_reader_left_p0_fproduct_l5 k rc kg kx n = gL k rc.parse_reader_product_p0 kg kx n
  | 0 => rfl
  | n + 1 => by funext l2 a b c d e r; simp only [parse_reader_left_p0_fproduct_l5, gL, ← L_product kg kx n]; rfl
theorem G_product (kr : SExpr → Sreader → Option ρ) : ∀ n, parse_reader_left_p0_fproduct_g0 k rc kr n = gG k rc.parse_reader_product_p0 kr n
  | 0 => rfl
  | n + 1 => by funext l2 t e r; simp only [parse_reader_left_p0_fproduct_g0, parse_reader_left_p0_fproduct_g0_b, parse_reader_left_p0_fproduct_j2, gG, L_product, G_product kr n]
theorem L_concat (kg : List Soper → SExpr → SExpr → Sreader → Option ρ) (kx : SExpr → SExpr → Sreader → Option ρ) : ∀ n, parse_reader_left_p0_fconcat_l5 k rc kg kx n = gL k rc.parse_reader_concat_p0 kg kx n
  | 0 => rfl
  | n + 1 => by funext l2 a b c d e r; simp only [parse_reader_left_p0_fconcat_l5, gL, ← L_concat kg kx n]; rfl
theorem G_concat (kr : SExpr → Sreader → Option ρ) : ∀ n, parse_reader_left_p0_fconcat_g0 k rc kr n = gG k rc.parse_reader_concat_p0 kr n
  | 0 => rfl
  | n + 1 => by funext l2 t e r; simp only [parse_reader_left_p0_fconcat_g0, parse_reader_left_p0_fconcat_g0_b, parse_reader_left_p0_fconcat_j2, gG, L_concat, G_concat kr n]
theorem L_negative (kg : List Soper → SExpr → SExpr → Sreader → Option ρ) (kx : SExpr → SExpr → Sreader → Option ρ) : ∀ n, parse_reader_left_p0_fnegative_l5 k rc kg kx n = gL k rc.parse_reader_negative_p0 kg kx n
  | 0 => rfl
  | n + 1 => by funext l2 a b c d e r; simp only [parse_reader_left_p0_fnegative_l5, gL, ← L_negative kg kx n]; rfl
theorem G_negative (kr : SExpr → Sreader → Option ρ) : ∀ n, parse_reader_left_p0_fnegative_g0 k rc kr n = gG k rc.parse_reader_negative_p0 kr n
  | 0 => rfl
  | n + 1 => by funext l2 t e r; simp only [parse_reader_left_p0_fnegative_g0, parse_reader_left_p0_fnegative_g0_b, parse_reader_left_p0_fnegative_j2, gG, L_negative, G_negative kr n]
end
/-- What follows a level's operation, a level, as the printed functions have them. -/
noncomputable def NextF : Nat → RP → Sreader → Option (SExpr × Sreader)
  | 0, rc => rc.parse_reader_and_p0
  | 1, rc => rc.parse_reader_not_p0
  | 2, rc => rc.parse_reader_product_p0
  | 3, rc => rc.parse_reader_concat_p0
  | _, rc => rc.parse_reader_negative_p0
noncomputable def LeftF : Nat → RP → List Soper → Sreader → Option (SExpr × Sreader)
  | 0, rc => rc.parse_reader_left_p0_fand
  | 1, rc => rc.parse_reader_left_p0_fnot
  | 2, rc => rc.parse_reader_left_p0_fproduct
  | 3, rc => rc.parse_reader_left_p0_fconcat
  | _, rc => rc.parse_reader_left_p0_fnegative
abbrev ret2 : SExpr → Sreader → Option (SExpr × Sreader) := fun e r => some (e, r)
theorem left_unf (k d : Nat) (l : List Soper) (r : Sreader) : ∀ j, LeftF j (RC k (d + 1)) l r = (NextF j (RC k d) r).bind fun x => gG k (NextF j (RC k d)) ret2 (k + 1) l e0 x.1 x.2
  | 0 => by
    have e : gG k (NextF 0 (RC k d)) ret2 (k + 1) = parse_reader_left_p0_fand_g0 k (RC k d) ret2 (k + 1) := (G_and k (RC k d) ret2 (k + 1)).symm
    rw [e]; rfl
  | 1 => by
    have e : gG k (NextF 1 (RC k d)) ret2 (k + 1) = parse_reader_left_p0_fnot_g0 k (RC k d) ret2 (k + 1) := (G_not k (RC k d) ret2 (k + 1)).symm
    rw [e]; rfl
  | 2 => by
    have e : gG k (NextF 2 (RC k d)) ret2 (k + 1) = parse_reader_left_p0_fproduct_g0 k (RC k d) ret2 (k + 1) := (G_product k (RC k d) ret2 (k + 1)).symm
    rw [e]; rfl
  | 3 => by
    have e : gG k (NextF 3 (RC k d)) ret2 (k + 1) = parse_reader_left_p0_fconcat_g0 k (RC k d) ret2 (k + 1) := (G_concat k (RC k d) ret2 (k + 1)).symm
    rw [e]; rfl
  | j + 4 => by
    have e : gG k (NextF (j + 4) (RC k d)) ret2 (k + 1) = parse_reader_left_p0_fnegative_g0 k (RC k d) ret2 (k + 1) := (G_negative k (RC k d) ret2 (k + 1)).symm
    rw [e]; rfl
/-- What the printed functions answer, given time enough. -/
def Ev2 (p : Nat → Nat → Prop) : Prop := ∃ D, ∀ k d, D ≤ k → D ≤ d → p k d
noncomputable def Sem : Nt → Sreader → SExpr → Sreader → Prop
  | .left j, r, e, r' => Ev2 fun k d => LeftF j (RC k d) (opsT j) r = some (e, r')
  | .more j a, r, e, r' => ∃ D, ∀ k d n, D ≤ k → D ≤ d → D ≤ n → ∀ t6, gG k (NextF j (RC k d)) ret2 n (opsT j) t6 a r = some (e, r')
  | .not, r, e, r' => Ev2 fun k d => (RC k d).parse_reader_not_p0 r = some (e, r')
  | .test, r, e, r' => Ev2 fun k d => (RC k d).parse_reader_test_p0 r = some (e, r')
  | .tmore a, r, e, r' => ∃ D, ∀ k d n, D ≤ k → D ≤ d → D ≤ n → ∀ t2, parse_reader_test_p0_g0 k (RC k d) ret2 n t2 a r = some (e, r')
  | .neg, r, e, r' => Ev2 fun k d => (RC k d).parse_reader_negative_p0 r = some (e, r')
  | .close, r, e, r' => Ev2 fun k d => (RC k d).parse_reader_closest_p0 r = some (e, r')
  | .inside, r, e, r' => Ev2 fun k d => (RC k d).parse_reader_inside_p0 r = some (e, r')
theorem opsT_len (j : Nat) : (opsT j).length ≤ 3 := by
  match j with
  | 0 => decide
  | 1 => decide
  | 2 => decide
  | 3 => decide
  | _ + 4 => exact (by decide : (opsT 4).length ≤ 3)
theorem step (d : Nat) (h : 1 ≤ d) : ∃ d', d = d' + 1 := ⟨d - 1, by omega⟩
/-- A level's next kind of expression, one turn later. -/
theorem next_sem {r r' : Sreader} {e : SExpr} : ∀ {j : Nat}, Sem (nextT j) r e r' → Ev2 fun k d => NextF j (RC k d) r = some (e, r')
  | 0, ⟨D, h⟩ => ⟨D + 1, fun k d hk hd => by
    obtain ⟨d, rfl⟩ := step d (by omega)
    exact (congrArg (fun z => Option.bind z _) (h k d (by omega) (by omega))).trans rfl⟩
  | 1, ⟨D, h⟩ => ⟨D, h⟩
  | 2, ⟨D, h⟩ => ⟨D + 1, fun k d hk hd => by
    obtain ⟨d, rfl⟩ := step d (by omega)
    exact (congrArg (fun z => Option.bind z _) (h k d (by omega) (by omega))).trans rfl⟩
  | 3, ⟨D, h⟩ => ⟨D + 1, fun k d hk hd => by
    obtain ⟨d, rfl⟩ := step d (by omega)
    exact (congrArg (fun z => Option.bind z _) (h k d (by omega) (by omega))).trans rfl⟩
  | _ + 4, ⟨D, h⟩ => ⟨D, h⟩
/-- A level, as those above look at it: sums, expressions. -/
theorem sum_sem {r r' : Sreader} {e : SExpr} : Sem (.left 2) r e r' → Ev2 fun k d => (RC k d).parse_reader_sum_p0 r = some (e, r') := fun ⟨D, h⟩ => ⟨D + 1, fun k d hk hd => by
    obtain ⟨d, rfl⟩ := step d (by omega)
    exact (congrArg (fun z => Option.bind z _) (h k d (by omega) (by omega))).trans rfl⟩
theorem expr_sem {r r' : Sreader} {e : SExpr} : Sem (.left 0) r e r' → Ev2 fun k d => (RC k d).parse_reader_expr_p0 r = some (e, r') := fun ⟨D, h⟩ => ⟨D + 1, fun k d hk hd => by
    obtain ⟨d, rfl⟩ := step d (by omega)
    exact (congrArg (fun z => Option.bind z _) (h k d (by omega) (by omega))).trans rfl⟩
theorem value_eq (k : Nat) (t : SToken) : lex_Value k t = some (valT t) := by
  unfold lex_Value valT value_Int value_Text
  cases t.f0 == 2 <;> cases t.f0 == 3 <;> rfl
/-! ### comparisons -/
theorem test_l11 {ρ : Type} (k : Nat) (rc : RP) (kg kx : SExpr → SExpr → Sreader → Option ρ) (l : List Soper) (hl : l.length < 1000) (t2 e : SExpr) (r : Sreader) : ∀ (d n i : Nat), i + d = l.length → d < n →
    parse_reader_test_p0_l11 k rc kg kx n l (l.length : Int) (i : Int) t2 e r = match findOp (l.drop i) r with | none => kx t2 e r | some op => (rc.parse_reader_sum_p0 (tl r)).bind fun x => kg t2 (mkE op [e, x.1]) (nodeR x.2)
  | 0, n + 1, i, hi, _ => by
    simp only [parse_reader_test_p0_l11, parse_reader_test_p0_l11_b]
    rw [decide_eq_false (by omega), cond_false, List.drop_eq_nil_of_le (by omega)]; rfl
  | d + 1, n + 1, i, hi, hn => by
    simp only [parse_reader_test_p0_l11, parse_reader_test_p0_l11_b]
    have hlt : i < l.length := by omega
    rw [decide_eq_true (by omega), cond_true, chk_pos (by omega), Int.toNat_natCast, got_eq, some_bind, List.drop_eq_getElem_cons hlt, getD_get _ i _ hlt]
    simp only [findOp]
    cases hd r l[i].f0 with
    | true => simp only [cond_true]; rfl
    | false => simp only [cond_false]; rw [w64n (by omega)]; exact test_l11 k rc kg kx l hl t2 e r d n (i + 1) (by omega) (by omega)
theorem test_g0 (k : Nat) (hk : 10 ≤ k) (rc : RP) (n : Nat) (t2 e : SExpr) (r : Sreader) : parse_reader_test_p0_g0 k rc ret2 (n + 1) t2 e r = match testAt r with
    | .stop => some (e, r)
    | .is => parse_reader_test_p0_g0 k rc ret2 n t2 (mkE (isOp (tl r)) [e]) (nodeR (mustR [kNull] (isRest (tl r))))
    | .op op => (rc.parse_reader_sum_p0 (tl r)).bind fun x => parse_reader_test_p0_g0 k rc ret2 n t2 (mkE op [e, x.1]) (nodeR x.2) := by
  simp only [parse_reader_test_p0_g0, parse_reader_test_p0_g0_b, parse_reader_test_p0_j2, testAt]
  cases r.f1 with
  | true => rfl
  | false =>
    rw [cond_false, cond_false, got_eq, some_bind]
    cases hd r kIs with
    | true =>
      simp only [cond_true, got_eq, some_bind, parse_reader_test_p0_j8, isOp, isRest]
      cases hd (tl r) kNot with
      | true => simp only [cond_true]; rw [must_eq k _ (by decide) (by simp only [List.length_cons, List.length_nil]; omega)]; rfl
      | false => simp only [cond_false]; rw [must_eq k _ (by decide) (by simp only [List.length_cons, List.length_nil]; omega)]; rfl
    | false =>
      simp only [cond_false]
      rw [show parse_tests k = some testsB from rfl, some_bind]
      have := test_l11 k rc (fun t2 e r => parse_reader_test_p0_g0 k rc ret2 n t2 e r) (fun t2_19 e3_20 t1000_21 => ret2 e3_20 t1000_21) testsB (by decide) t2 e r 6 k 0 rfl (by omega)
      refine this.trans ?_
      rw [List.drop_zero]
      cases findOp testsB r <;> rfl
/-! ### the closest expressions -/
theorem closest_eq (k : Nat) (hk : 60 ≤ k) (rc : RP) (r : Sreader) : parse_reader_closest_p0_r k rc r = match closeAt r with
    | .bad => some (e0, badR r)
    | .lit t => some (⟨1, valT t, ByteArray.empty, ByteArray.empty, []⟩, nodeR (tl r))
    | .null => some (⟨1, v0, ByteArray.empty, ByteArray.empty, []⟩, nodeR (tl r))
    | .par => rc.parse_reader_inside_p0 r
    | .count => some (mkE 23 [], countR r)
    | .fn op => (rc.parse_reader_inside_p0 (tl r)).bind fun x => some (mkE op [x.1], nodeR x.2)
    | .col => some (colR r) := by
  unfold parse_reader_closest_p0_r closeAt
  cases hb : r.f1 with
  | true => rfl
  | false =>
    rw [cond_false, cond_false]
    obtain ⟨l, a, b, c, d⟩ := r
    cases l with
    | nil => rfl
    | cons t l =>
      dsimp only at hb ⊢
      subst hb
      have hl : ∀ {p : Prop} [Decidable p] (x : Option (SExpr × Sreader)), p → chk p x = x := fun x h => chk_pos h x
      rw [show (((t :: l).length : Int) == 0) = false by rw [beq_eq_false_iff_ne]; simp only [List.length_cons]; omega, cond_false]
      unfold parse_reader_closest_p0_j4
      dsimp only
      rw [chk_pos (by simp only [List.length_cons]; omega), List.getD_cons_zero]
      have hlit : parse_reader_closest_p0_j6 k rc (fun t2_41 t1000_42 => some (t2_41, t1000_42)) e0 t ⟨t :: l, false, b, c, d⟩ = some (⟨1, valT t, ByteArray.empty, ByteArray.empty, []⟩, nodeR (tl ⟨t :: l, false, b, c, d⟩)) := by
        unfold parse_reader_closest_p0_j6
        rw [chk_pos (by simp only [List.length_cons]; omega), value_eq, some_bind, take_tail]
        rfl
      cases h2 : (t.f0 == 2) with
      | true => rw [cond_true, Bool.true_or, cond_true]; exact hlit
      | false =>
        rw [cond_false, Bool.false_or]
        cases h3 : (t.f0 == 3) with
        | true => rw [cond_true, Bool.true_or, cond_true]; exact hlit
        | false =>
          rw [cond_false, Bool.false_or]
          cases h4 : (t.f0 == 4) with
          | true => rw [cond_true, cond_true]; exact hlit
          | false =>
            rw [cond_false, cond_false]
            unfold parse_reader_closest_p0_j8
            rw [got_eq, some_bind]
            cases h5 : hd ⟨t :: l, false, b, c, d⟩ kNull with
            | true => rfl
            | false =>
              simp only [cond_false]
              rw [is_eq, some_bind]
              dsimp only
              cases h6 : hd ⟨t :: l, false, b, c, d⟩ kOpen with
              | true =>
                rw [cond_true, cond_true]
                dsimp only
                cases rc.parse_reader_inside_p0 ⟨t :: l, false, b, c, d⟩ <;> rfl
              | false =>
                rw [cond_false, cond_false, got_eq, some_bind]
                dsimp only
                cases h7 : hd ⟨t :: l, false, b, c, d⟩ kCount with
                | true =>
                  simp only [cond_true]
                  rw [most_eq, some_bind, must_eq k _ (by decide) (by simp only [List.length_cons, List.length_nil]; omega)]
                  rfl
                | false =>
                  simp only [cond_false]
                  unfold parse_reader_closest_p0_j16
                  rw [show parse_functions k = some () from rfl, some_bind]
                  have hcol : parse_reader_closest_p0_j20 k rc (fun t2_41 t1000_42 => some (t2_41, t1000_42)) e0 ⟨t :: l, false, b, c, d⟩ = some (colR ⟨t :: l, false, b, c, d⟩) := by
                    unfold parse_reader_closest_p0_j20 colR
                    rw [name_eq k (by omega), some_bind, got_eq, some_bind]
                    cases hd (nameR ⟨t :: l, false, b, c, d⟩).2 kDot with
                    | true =>
                      simp only [cond_true]
                      rw [name_eq k (by omega)]; rfl
                    | false => rfl
                  show (bif t.f0 == 1 then bif (fnOp t.f1 != 0) then _ else _ else _) = _
                  cases h8 : (t.f0 == 1) with
                  | false => rw [cond_false, Bool.false_and, cond_false]; exact hcol
                  | true =>
                    rw [cond_true, Bool.true_and]
                    cases h9 : (fnOp t.f1 != 0) with
                    | false => rw [cond_false, cond_false]; exact hcol
                    | true =>
                      rw [cond_true, cond_true]
                      unfold parse_reader_closest_p0_j18
                      rw [chk_pos (by simp only [List.length_cons]; omega), take_tail]
                      rfl
theorem inside_eq (k : Nat) (hk : 10 ≤ k) (d : Nat) (r : Sreader) : (RC k (d + 2)).parse_reader_inside_p0 r = ((RC k d).parse_reader_expr_p0 (mustR [kOpen] (deepR r))).bind fun x => some (x.1, upR (mustR [kClose] x.2)) := by
  show parse_reader_inside_p0_r k (RC k (d + 1)) r = _
  unfold parse_reader_inside_p0_r
  rw [most_eq, some_bind]
  show ((parse_in_api_Expr__p0_fexpr_r k (RC k d) (deepR r)).bind fun r_2 => _) = _
  unfold parse_in_api_Expr__p0_fexpr_r
  rw [must_eq k _ (by decide) (by simp only [List.length_cons, List.length_nil]; omega), some_bind]
  dsimp only
  cases (RC k d).parse_reader_expr_p0 (mustR [kOpen] (deepR r)) with
  | none => rfl
  | some x =>
    simp only [some_bind]
    rw [must_eq k _ (by decide) (by simp only [List.length_cons, List.length_nil]; omega)]
    rfl
theorem not_unf (k d : Nat) (r : Sreader) : (RC k (d + 1)).parse_reader_not_p0 r = bif hd r kNot then ((RC k d).parse_reader_not_p0 (tl r)).bind fun x => some (mkE 4 [x.1], nodeR x.2) else (RC k d).parse_reader_test_p0 r := by
  show parse_reader_not_p0_r k (RC k d) r = _
  unfold parse_reader_not_p0_r
  rw [got_eq, some_bind]
  cases hd r kNot with
  | true => rfl
  | false =>
    simp only [cond_false]
    cases (RC k d).parse_reader_test_p0 r <;> rfl
theorem neg_unf (k d : Nat) (r : Sreader) : (RC k (d + 1)).parse_reader_negative_p0 r = bif hd r kMinus then ((RC k d).parse_reader_negative_p0 (tl r)).bind fun x => some (mkE 3 [x.1], nodeR x.2) else (RC k d).parse_reader_closest_p0 r := by
  show parse_reader_negative_p0_r k (RC k d) r = _
  unfold parse_reader_negative_p0_r
  rw [got_eq, some_bind]
  cases hd r kMinus with
  | true => rfl
  | false =>
    simp only [cond_false]
    cases (RC k d).parse_reader_closest_p0 r <;> rfl
theorem test_unf (k d : Nat) (r : Sreader) : (RC k (d + 1)).parse_reader_test_p0 r = ((RC k d).parse_reader_sum_p0 r).bind fun x => parse_reader_test_p0_g0 k (RC k d) ret2 (k + 1) e0 x.1 x.2 := rfl
theorem close_unf (k d : Nat) (r : Sreader) : (RC k (d + 1)).parse_reader_closest_p0 r = parse_reader_closest_p0_r k (RC k d) r := rfl
/-- What is read by the rules is what the printed functions answer. -/
theorem PE_sem {g : Nt} {r r' : Sreader} {e : SExpr} (h : PE g r e r') : Sem g r e r' := by
  induction h with
  | @left j r r1 r2 e e' _ _ ih1 ih2 =>
    obtain ⟨D1, h1⟩ := next_sem ih1
    obtain ⟨D2, h2⟩ := ih2
    refine ⟨D1 + D2 + 1, fun k d hk hd => ?_⟩
    obtain ⟨d, rfl⟩ := step d (by omega)
    rw [left_unf, h1 k d (by omega) (by omega), some_bind]
    exact h2 k d (k + 1) (by omega) (by omega) (by omega) e0
  | @mnone j r e ho =>
    refine ⟨10, fun k d n hk hd hn t6 => ?_⟩
    obtain ⟨n, rfl⟩ := step n (by omega)
    have := opsT_len j
    rw [gG_eq k _ _ n _ (by omega) (by omega), ho]
  | @msome j r r2 r3 e e2 e' op ho _ _ ih1 ih2 =>
    obtain ⟨D1, h1⟩ := next_sem ih1
    obtain ⟨D2, h2⟩ := ih2
    refine ⟨D1 + D2 + 10, fun k d n hk hd hn t6 => ?_⟩
    obtain ⟨n, rfl⟩ := step n (by omega)
    have := opsT_len j
    rw [gG_eq k _ _ n _ (by omega) (by omega), ho]
    dsimp only
    rw [h1 k d (by omega) (by omega), some_bind]
    exact h2 k d n (by omega) (by omega) (by omega) t6
  | @not1 r r1 e hh _ ih =>
    obtain ⟨D, h⟩ := ih
    refine ⟨D + 1, fun k d hk hd => ?_⟩
    obtain ⟨d, rfl⟩ := step d (by omega)
    rw [not_unf, hh, cond_true, h k d (by omega) (by omega)]; rfl
  | @not0 r r1 e hh _ ih =>
    obtain ⟨D, h⟩ := ih
    refine ⟨D + 1, fun k d hk hd => ?_⟩
    obtain ⟨d, rfl⟩ := step d (by omega)
    rw [not_unf, hh, cond_false, h k d (by omega) (by omega)]
  | @test r r1 r2 e e' _ _ ih1 ih2 =>
    obtain ⟨D1, h1⟩ := sum_sem ih1
    obtain ⟨D2, h2⟩ := ih2
    refine ⟨D1 + D2 + 1, fun k d hk hd => ?_⟩
    obtain ⟨d, rfl⟩ := step d (by omega)
    rw [test_unf, h1 k d (by omega) (by omega), some_bind]
    exact h2 k d (k + 1) (by omega) (by omega) (by omega) e0
  | @tnone r e ho =>
    refine ⟨10, fun k d n hk hd hn t2 => ?_⟩
    obtain ⟨n, rfl⟩ := step n (by omega)
    rw [test_g0 k (by omega), ho]
  | @tis r r' e e' ho _ ih =>
    obtain ⟨D, h⟩ := ih
    refine ⟨D + 10, fun k d n hk hd hn t2 => ?_⟩
    obtain ⟨n, rfl⟩ := step n (by omega)
    rw [test_g0 k (by omega), ho]
    exact h k d n (by omega) (by omega) (by omega) t2
  | @tsome r r2 r3 e e2 e' op ho _ _ ih1 ih2 =>
    obtain ⟨D1, h1⟩ := sum_sem ih1
    obtain ⟨D2, h2⟩ := ih2
    refine ⟨D1 + D2 + 10, fun k d n hk hd hn t2 => ?_⟩
    obtain ⟨n, rfl⟩ := step n (by omega)
    rw [test_g0 k (by omega), ho]
    dsimp only
    rw [h1 k d (by omega) (by omega), some_bind]
    exact h2 k d n (by omega) (by omega) (by omega) t2
  | @neg1 r r1 e hh _ ih =>
    obtain ⟨D, h⟩ := ih
    refine ⟨D + 1, fun k d hk hd => ?_⟩
    obtain ⟨d, rfl⟩ := step d (by omega)
    rw [neg_unf, hh, cond_true, h k d (by omega) (by omega)]; rfl
  | @neg0 r r1 e hh _ ih =>
    obtain ⟨D, h⟩ := ih
    refine ⟨D + 1, fun k d hk hd => ?_⟩
    obtain ⟨d, rfl⟩ := step d (by omega)
    rw [neg_unf, hh, cond_false, h k d (by omega) (by omega)]
  | @cbad r hc =>
    refine ⟨60, fun k d hk hd => ?_⟩
    obtain ⟨d, rfl⟩ := step d (by omega)
    rw [close_unf, closest_eq k hk, hc]
  | @clit r t hc =>
    refine ⟨60, fun k d hk hd => ?_⟩
    obtain ⟨d, rfl⟩ := step d (by omega)
    rw [close_unf, closest_eq k hk, hc]
  | @cnull r hc =>
    refine ⟨60, fun k d hk hd => ?_⟩
    obtain ⟨d, rfl⟩ := step d (by omega)
    rw [close_unf, closest_eq k hk, hc]
  | @cpar r r1 e hc _ ih =>
    obtain ⟨D, h⟩ := ih
    refine ⟨D + 60, fun k d hk hd => ?_⟩
    obtain ⟨d, rfl⟩ := step d (by omega)
    rw [close_unf, closest_eq k (by omega), hc]
    exact h k d (by omega) (by omega)
  | @ccount r hc =>
    refine ⟨60, fun k d hk hd => ?_⟩
    obtain ⟨d, rfl⟩ := step d (by omega)
    rw [close_unf, closest_eq k hk, hc]
  | @cfun r r1 e op hc _ ih =>
    obtain ⟨D, h⟩ := ih
    refine ⟨D + 60, fun k d hk hd => ?_⟩
    obtain ⟨d, rfl⟩ := step d (by omega)
    rw [close_unf, closest_eq k (by omega), hc]
    dsimp only
    rw [h k d (by omega) (by omega)]; rfl
  | @ccol r hc =>
    refine ⟨60, fun k d hk hd => ?_⟩
    obtain ⟨d, rfl⟩ := step d (by omega)
    rw [close_unf, closest_eq k hk, hc]
  | @inside r r3 e _ ih =>
    obtain ⟨D, h⟩ := expr_sem ih
    refine ⟨D + 10, fun k d hk hd => ?_⟩
    obtain ⟨d, rfl⟩ : ∃ d', d = d' + 2 := ⟨d - 2, by omega⟩
    rw [inside_eq k (by omega), h k d (by omega) (by omega)]; rfl
/-- Two readings of the same are alike. -/
theorem PE_expr {r r' : Sreader} {e : SExpr} (h : PE (.left 0) r e r') : ∃ D, ∀ k, D ≤ k → parse_reader_expr_p0 k r = some (e, r') := by
  obtain ⟨D, h⟩ := expr_sem (PE_sem h)
  exact ⟨D, fun k hk => h k k hk hk⟩
end Go.Proofs.Ytepekanlplbciaa.Q
