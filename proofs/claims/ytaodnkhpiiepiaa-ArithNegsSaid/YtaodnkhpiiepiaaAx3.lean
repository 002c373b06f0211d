-- Made by a program of this session (gprint.py, over the kit's printing program).
import Derived.Test.YtaodnkhpiiepiaaAx0
namespace Go.Proofs.Ytaodnkhpiiepiaa.A
open Go.RowKit Go.Proofs.YtaodnkhpiiepiaaG Go.Proofs.YtaodnkhpiiepiaaW.PrintWords Go.Proofs.YtaodnkhpiiepiaaW.PrintLast Go.Proofs.YtaodnkhpiiepiaaW.PrintMore
attribute [local go_sem] max2_int min2_int max_two min_two max_three min_three max_four min_four   -- for this text's walks alone
set_option linter.unusedVariables false
set_option linter.unusedSimpArgs false

/-! ### arith_reckon: function 78 -/
def arith_reckon.j0 : Nat → Int → Int → Bool → Option (Int × Int)
  | 0, _, _, _ => none
  | k + 1, x1, x2, x67 => if x67 = true then (some (0, 0)) else (if x1 = (-1) then (if x2 = (-9223372036854775808) then (some (0, 5)) else (if x2 = (-1) then (if x1 = (-9223372036854775808) then (some (0, 5)) else (if x2 = 0 then (none) else (if (wrap64 (Int.tdiv (wrap64 (x1 * x2)) x2)) = x1 then (some (wrap64 (x1 * x2), 0)) else (some (0, 5))))) else (if x2 = 0 then (none) else (if (wrap64 (Int.tdiv (wrap64 (x1 * x2)) x2)) = x1 then (some (wrap64 (x1 * x2), 0)) else (some (0, 5)))))) else (if x2 = (-1) then (if x1 = (-9223372036854775808) then (some (0, 5)) else (if x2 = 0 then (none) else (if (wrap64 (Int.tdiv (wrap64 (x1 * x2)) x2)) = x1 then (some (wrap64 (x1 * x2), 0)) else (some (0, 5))))) else (if x2 = 0 then (none) else (if (wrap64 (Int.tdiv (wrap64 (x1 * x2)) x2)) = x1 then (some (wrap64 (x1 * x2), 0)) else (some (0, 5))))))
def arith_reckon.f (k : Nat) (a0 : Int) (a1 : Int) (a2 : Int) : Option (Int × Int) := if a0 = 12 then (if a2 > 0 then (if a1 > (wrap64 (9223372036854775807 - a2)) then (some (0, 5)) else (if a2 < 0 then (if a1 < (wrap64 ((-9223372036854775808) - a2)) then (some (0, 5)) else (some (wrap64 (a1 + a2), 0))) else (some (wrap64 (a1 + a2), 0)))) else (if a2 < 0 then (if a1 < (wrap64 ((-9223372036854775808) - a2)) then (some (0, 5)) else (some (wrap64 (a1 + a2), 0))) else (some (wrap64 (a1 + a2), 0)))) else (if a0 = 13 then (if a2 < 0 then (if a1 > (wrap64 (9223372036854775807 + a2)) then (some (0, 5)) else (if a2 > 0 then (if a1 < (wrap64 ((-9223372036854775808) + a2)) then (some (0, 5)) else (some (wrap64 (a1 - a2), 0))) else (some (wrap64 (a1 - a2), 0)))) else (if a2 > 0 then (if a1 < (wrap64 ((-9223372036854775808) + a2)) then (some (0, 5)) else (some (wrap64 (a1 - a2), 0))) else (some (wrap64 (a1 - a2), 0)))) else (if a0 = 9 then (if a1 = 0 then (arith_reckon.j0 k a1 a2 true) else (arith_reckon.j0 k a1 a2 (a2 == 0))) else (if a0 = 10 then (if a1 = (-9223372036854775808) then (if a2 = (-1) then (some (0, 5)) else (if a2 = 0 then (none) else (some (wrap64 (Int.tdiv a1 a2), 0)))) else (if a2 = 0 then (none) else (some (wrap64 (Int.tdiv a1 a2), 0)))) else (if a2 = (-1) then (some (0, 0)) else (if a2 = 0 then (none) else (some (Int.tmod a1 a2, 0)))))))
theorem arith_reckon.mono_l : ∀ k, (∀ y0 y1 y2, LeO (arith_reckon.j0 k y0 y1 y2) (arith_reckon.j0 (k + 1) y0 y1 y2))
  | 0 => fun _ _ _ r h => by simp [arith_reckon.j0] at h
  | k + 1 => by
    have ih0 := arith_reckon.mono_l k
    · intro y0 y1 y2
      unfold arith_reckon.j0
      repeat' first
      | (with_reducible exact ih0 _ _ _)
      | (with_reducible exact LeO.refl _)
      | (with_reducible exact LeO.none _)
      | (with_reducible refine LeO.ite ?_ ?_)
      | (with_reducible refine LeO.bind ?_ (fun _ => ?_))
      | exact ih0 _ _ _
      | exact LeO.none _
      | refine LeO.ite ?_ ?_
      | refine LeO.bind ?_ (fun _ => ?_)
theorem arith_reckon.mono : ∀ a0 a1 a2 k, LeO (arith_reckon.f k a0 a1 a2) (arith_reckon.f (k + 1) a0 a1 a2) := by
  intro a0 a1 a2 k
  have ih0 := arith_reckon.mono_l k
  unfold arith_reckon.f
  repeat' first
      | (with_reducible exact ih0 _ _ _)
      | (with_reducible exact LeO.refl _)
      | (with_reducible exact LeO.none _)
      | (with_reducible refine LeO.ite ?_ ?_)
      | (with_reducible refine LeO.bind ?_ (fun _ => ?_))
      | exact ih0 _ _ _
      | exact LeO.none _
      | refine LeO.ite ?_ ?_
      | refine LeO.bind ?_ (fun _ => ?_)
noncomputable def arith_reckon.C0 : Code := (sub1 (sub2 (Try.f78.body.getD .skip)))
set_option maxHeartbeats 8000000 in
set_option maxRecDepth 100000 in
theorem arith_reckon.calls (k : Nat) (a0 : Int) (a1 : Int) (a2 : Int) (r1 : Int) (r2 : Int) (w : World) (h : arith_reckon.f k a0 a1 a2 = some (r1, r2)) :
    Calls Try.prog 78 #[.int .i64 a0, .int .i64 a1, .int .i64 a2] w fun e w' => e = .returned (.tuple #[.int .i64 r1, .int .i64 r2]) ∧ Drawn0 w w' := by
  have H : (if a0 = 12 then (if a2 > 0 then (if a1 > (wrap64 (9223372036854775807 - a2)) then (some (0, 5)) else (if a2 < 0 then (if a1 < (wrap64 ((-9223372036854775808) - a2)) then (some (0, 5)) else (some (wrap64 (a1 + a2), 0))) else (some (wrap64 (a1 + a2), 0)))) else (if a2 < 0 then (if a1 < (wrap64 ((-9223372036854775808) - a2)) then (some (0, 5)) else (some (wrap64 (a1 + a2), 0))) else (some (wrap64 (a1 + a2), 0)))) else (if a0 = 13 then (if a2 < 0 then (if a1 > (wrap64 (9223372036854775807 + a2)) then (some (0, 5)) else (if a2 > 0 then (if a1 < (wrap64 ((-9223372036854775808) + a2)) then (some (0, 5)) else (some (wrap64 (a1 - a2), 0))) else (some (wrap64 (a1 - a2), 0)))) else (if a2 > 0 then (if a1 < (wrap64 ((-9223372036854775808) + a2)) then (some (0, 5)) else (some (wrap64 (a1 - a2), 0))) else (some (wrap64 (a1 - a2), 0)))) else (if a0 = 9 then (if a1 = 0 then (arith_reckon.j0 k a1 a2 true) else (arith_reckon.j0 k a1 a2 (a2 == 0))) else (if a0 = 10 then (if a1 = (-9223372036854775808) then (if a2 = (-1) then (some (0, 5)) else (if a2 = 0 then (none) else (some (wrap64 (Int.tdiv a1 a2), 0)))) else (if a2 = 0 then (none) else (some (wrap64 (Int.tdiv a1 a2), 0)))) else (if a2 = (-1) then (some (0, 0)) else (if a2 = 0 then (none) else (some (Int.tmod a1 a2, 0)))))))) = some (r1, r2) := h
  clear h
  by_cases c4 : a0 = 12
  · rw [if_pos c4] at H
    have c4b0 : (a0 == 12) = true := beq_iff_eq.mpr c4
    have c4b1 : (a0 != 12) = false := bne_eq_false_iff_eq.mpr c4
    clear c4
    by_cases c5 : a2 > 0
    rotate_left
    · rw [if_neg c5] at H
      have c5b0 : decide (0 < a2) = false := decide_eq_false c5
      clear c5
      by_cases c6 : a2 < 0
      rotate_left
      · rw [if_neg c6] at H
        have c6b0 : decide (a2 < 0) = false := decide_eq_false c6
        clear c6
        simp only [Option.some.injEq, Prod.mk.injEq] at H
        obtain ⟨rfl, rfl⟩ := H
        go_enter Try.func78, Try.ntmps78
        go_wp2
        repeat ((first | (refine wp_scope_in arith_reckon.C0 rfl (fun Gs_ => ?_)) | (refine wp_label (l := 0) ?_; try simp only [Exit.then]) | (refine wp_goto (l := 0) (hop (l := 0) (c := arith_reckon.C0) rfl ?_))); try go_wp2)
        (try ((try simp only [Exit.inBlock, Exit.then]); refine post_ret ?_))
        go_ret2
        exact ⟨by first | rfl | (simp; done) | (simp [*]; done), by repeat (first | exact Drawn0.refl _ | apply Drawn0.step)⟩
      rw [if_pos c6] at H
      have c6b0 : decide (a2 < 0) = true := decide_eq_true c6
      clear c6
      by_cases c7 : a1 < (wrap64 ((-9223372036854775808) - a2))
      · rw [if_pos c7] at H
        have c7b0 : decide (a1 < (wrap64 ((-9223372036854775808) - a2))) = true := decide_eq_true c7
        clear c7
        simp only [Option.some.injEq, Prod.mk.injEq] at H
        obtain ⟨rfl, rfl⟩ := H
        go_enter Try.func78, Try.ntmps78
        go_wp2
        repeat ((first | (refine wp_scope_in arith_reckon.C0 rfl (fun Gs_ => ?_)) | (refine wp_label (l := 0) ?_; try simp only [Exit.then]) | (refine wp_goto (l := 0) (hop (l := 0) (c := arith_reckon.C0) rfl ?_))); try go_wp2)
        (try ((try simp only [Exit.inBlock, Exit.then]); refine post_ret ?_))
        go_ret2
        exact ⟨by first | rfl | (simp; done) | (simp [*]; done), by repeat (first | exact Drawn0.refl _ | apply Drawn0.step)⟩
      rw [if_neg c7] at H
      have c7b0 : decide (a1 < (wrap64 ((-9223372036854775808) - a2))) = false := decide_eq_false c7
      clear c7
      simp only [Option.some.injEq, Prod.mk.injEq] at H
      obtain ⟨rfl, rfl⟩ := H
      go_enter Try.func78, Try.ntmps78
      go_wp2
      repeat ((first | (refine wp_scope_in arith_reckon.C0 rfl (fun Gs_ => ?_)) | (refine wp_label (l := 0) ?_; try simp only [Exit.then]) | (refine wp_goto (l := 0) (hop (l := 0) (c := arith_reckon.C0) rfl ?_))); try go_wp2)
      (try ((try simp only [Exit.inBlock, Exit.then]); refine post_ret ?_))
      go_ret2
      exact ⟨by first | rfl | (simp; done) | (simp [*]; done), by repeat (first | exact Drawn0.refl _ | apply Drawn0.step)⟩
    rw [if_pos c5] at H
    have c5b0 : decide (0 < a2) = true := decide_eq_true c5
    clear c5
    by_cases c8 : a1 > (wrap64 (9223372036854775807 - a2))
    · rw [if_pos c8] at H
      have c8b0 : decide ((wrap64 (9223372036854775807 - a2)) < a1) = true := decide_eq_true c8
      clear c8
      simp only [Option.some.injEq, Prod.mk.injEq] at H
      obtain ⟨rfl, rfl⟩ := H
      go_enter Try.func78, Try.ntmps78
      go_wp2
      repeat ((first | (refine wp_scope_in arith_reckon.C0 rfl (fun Gs_ => ?_)) | (refine wp_label (l := 0) ?_; try simp only [Exit.then]) | (refine wp_goto (l := 0) (hop (l := 0) (c := arith_reckon.C0) rfl ?_))); try go_wp2)
      (try ((try simp only [Exit.inBlock, Exit.then]); refine post_ret ?_))
      go_ret2
      exact ⟨by first | rfl | (simp; done) | (simp [*]; done), by repeat (first | exact Drawn0.refl _ | apply Drawn0.step)⟩
    rw [if_neg c8] at H
    have c8b0 : decide ((wrap64 (9223372036854775807 - a2)) < a1) = false := decide_eq_false c8
    clear c8
    by_cases c9 : a2 < 0
    rotate_left
    · rw [if_neg c9] at H
      have c9b0 : decide (a2 < 0) = false := decide_eq_false c9
      clear c9
      simp only [Option.some.injEq, Prod.mk.injEq] at H
      obtain ⟨rfl, rfl⟩ := H
      go_enter Try.func78, Try.ntmps78
      go_wp2
      repeat ((first | (refine wp_scope_in arith_reckon.C0 rfl (fun Gs_ => ?_)) | (refine wp_label (l := 0) ?_; try simp only [Exit.then]) | (refine wp_goto (l := 0) (hop (l := 0) (c := arith_reckon.C0) rfl ?_))); try go_wp2)
      (try ((try simp only [Exit.inBlock, Exit.then]); refine post_ret ?_))
      go_ret2
      exact ⟨by first | rfl | (simp; done) | (simp [*]; done), by repeat (first | exact Drawn0.refl _ | apply Drawn0.step)⟩
    rw [if_pos c9] at H
    exact absurd c9 (by have h_ := c5b0; simp only [decide_eq_true_eq, decide_eq_false_iff_not, beq_iff_eq, beq_eq_false_iff_ne] at h_; omega)
  rw [if_neg c4] at H
  have c4b0 : (a0 == 12) = false := beq_eq_false_iff_ne.mpr c4
  have c4b1 : (a0 != 12) = true := bne_iff_ne.mpr c4
  by_cases c10 : a0 = 13
  · rw [if_pos c10] at H
    have c10b0 : (a0 == 13) = true := beq_iff_eq.mpr c10
    have c10b1 : (a0 != 13) = false := bne_eq_false_iff_eq.mpr c10
    clear c10
    by_cases c11 : a2 < 0
    rotate_left
    · rw [if_neg c11] at H
      have c11b0 : decide (a2 < 0) = false := decide_eq_false c11
      clear c11
      by_cases c12 : a2 > 0
      rotate_left
      · rw [if_neg c12] at H
        have c12b0 : decide (0 < a2) = false := decide_eq_false c12
        clear c12
        simp only [Option.some.injEq, Prod.mk.injEq] at H
        obtain ⟨rfl, rfl⟩ := H
        go_enter Try.func78, Try.ntmps78
        go_wp2
        repeat ((first | (refine wp_scope_in arith_reckon.C0 rfl (fun Gs_ => ?_)) | (refine wp_label (l := 0) ?_; try simp only [Exit.then]) | (refine wp_goto (l := 0) (hop (l := 0) (c := arith_reckon.C0) rfl ?_))); try go_wp2)
        (try ((try simp only [Exit.inBlock, Exit.then]); refine post_ret ?_))
        go_ret2
        exact ⟨by first | rfl | (simp; done) | (simp [*]; done), by repeat (first | exact Drawn0.refl _ | apply Drawn0.step)⟩
      rw [if_pos c12] at H
      have c12b0 : decide (0 < a2) = true := decide_eq_true c12
      clear c12
      by_cases c13 : a1 < (wrap64 ((-9223372036854775808) + a2))
      · rw [if_pos c13] at H
        have c13b0 : decide (a1 < (wrap64 ((-9223372036854775808) + a2))) = true := decide_eq_true c13
        clear c13
        simp only [Option.some.injEq, Prod.mk.injEq] at H
        obtain ⟨rfl, rfl⟩ := H
        go_enter Try.func78, Try.ntmps78
        go_wp2
        repeat ((first | (refine wp_scope_in arith_reckon.C0 rfl (fun Gs_ => ?_)) | (refine wp_label (l := 0) ?_; try simp only [Exit.then]) | (refine wp_goto (l := 0) (hop (l := 0) (c := arith_reckon.C0) rfl ?_))); try go_wp2)
        (try ((try simp only [Exit.inBlock, Exit.then]); refine post_ret ?_))
        go_ret2
        exact ⟨by first | rfl | (simp; done) | (simp [*]; done), by repeat (first | exact Drawn0.refl _ | apply Drawn0.step)⟩
      rw [if_neg c13] at H
      have c13b0 : decide (a1 < (wrap64 ((-9223372036854775808) + a2))) = false := decide_eq_false c13
      clear c13
      simp only [Option.some.injEq, Prod.mk.injEq] at H
      obtain ⟨rfl, rfl⟩ := H
      go_enter Try.func78, Try.ntmps78
      go_wp2
      repeat ((first | (refine wp_scope_in arith_reckon.C0 rfl (fun Gs_ => ?_)) | (refine wp_label (l := 0) ?_; try simp only [Exit.then]) | (refine wp_goto (l := 0) (hop (l := 0) (c := arith_reckon.C0) rfl ?_))); try go_wp2)
      (try ((try simp only [Exit.inBlock, Exit.then]); refine post_ret ?_))
      go_ret2
      exact ⟨by first | rfl | (simp; done) | (simp [*]; done), by repeat (first | exact Drawn0.refl _ | apply Drawn0.step)⟩
    rw [if_pos c11] at H
    have c11b0 : decide (a2 < 0) = true := decide_eq_true c11
    clear c11
    by_cases c14 : a1 > (wrap64 (9223372036854775807 + a2))
    · rw [if_pos c14] at H
      have c14b0 : decide ((wrap64 (9223372036854775807 + a2)) < a1) = true := decide_eq_true c14
      clear c14
      simp only [Option.some.injEq, Prod.mk.injEq] at H
      obtain ⟨rfl, rfl⟩ := H
      go_enter Try.func78, Try.ntmps78
      go_wp2
      repeat ((first | (refine wp_scope_in arith_reckon.C0 rfl (fun Gs_ => ?_)) | (refine wp_label (l := 0) ?_; try simp only [Exit.then]) | (refine wp_goto (l := 0) (hop (l := 0) (c := arith_reckon.C0) rfl ?_))); try go_wp2)
      (try ((try simp only [Exit.inBlock, Exit.then]); refine post_ret ?_))
      go_ret2
      exact ⟨by first | rfl | (simp; done) | (simp [*]; done), by repeat (first | exact Drawn0.refl _ | apply Drawn0.step)⟩
    rw [if_neg c14] at H
    have c14b0 : decide ((wrap64 (9223372036854775807 + a2)) < a1) = false := decide_eq_false c14
    clear c14
    by_cases c15 : a2 > 0
    rotate_left
    · rw [if_neg c15] at H
      have c15b0 : decide (0 < a2) = false := decide_eq_false c15
      clear c15
      simp only [Option.some.injEq, Prod.mk.injEq] at H
      obtain ⟨rfl, rfl⟩ := H
      go_enter Try.func78, Try.ntmps78
      go_wp2
      repeat ((first | (refine wp_scope_in arith_reckon.C0 rfl (fun Gs_ => ?_)) | (refine wp_label (l := 0) ?_; try simp only [Exit.then]) | (refine wp_goto (l := 0) (hop (l := 0) (c := arith_reckon.C0) rfl ?_))); try go_wp2)
      (try ((try simp only [Exit.inBlock, Exit.then]); refine post_ret ?_))
      go_ret2
      exact ⟨by first | rfl | (simp; done) | (simp [*]; done), by repeat (first | exact Drawn0.refl _ | apply Drawn0.step)⟩
    rw [if_pos c15] at H
    exact absurd c15 (by have h_ := c11b0; simp only [decide_eq_true_eq, decide_eq_false_iff_not, beq_iff_eq, beq_eq_false_iff_ne] at h_; omega)
  rw [if_neg c10] at H
  have c10b0 : (a0 == 13) = false := beq_eq_false_iff_ne.mpr c10
  have c10b1 : (a0 != 13) = true := bne_iff_ne.mpr c10
  by_cases c16 : a0 = 9
  · rw [if_pos c16] at H
    have c16b0 : (a0 == 9) = true := beq_iff_eq.mpr c16
    have c16b1 : (a0 != 9) = false := bne_eq_false_iff_eq.mpr c16
    clear c16
    have HC17 := Aside0.mk H
    clear H
    go_enter Try.func78, Try.ntmps78
    go_upto_region 11 with (fail)
    repeat ((first | (refine wp_scope_in arith_reckon.C0 rfl (fun Gs_ => ?_)) | (refine wp_label (l := 0) ?_; try simp only [Exit.then]) | (refine wp_goto (l := 0) (hop (l := 0) (c := arith_reckon.C0) rfl ?_))); try go_upto_region 11 with (fail))
    go_cut [67] (fun v67 wc => ∃ (kq : Nat) (x67_16 : Bool), v67 = .bool x67_16 ∧ Aside0 (arith_reckon.j0 kq a1 a2 x67_16 = some (r1, r2)) ∧ Aside0 (kq ≤ k) ∧ Drawn0 w wc)
    case first =>
      have H := HC17.out
      clear HC17
      by_cases c18 : a1 = 0
      · rw [if_pos c18] at H
        have c18b0 : (a1 == 0) = true := beq_iff_eq.mpr c18
        have c18b1 : (a1 != 0) = false := bne_eq_false_iff_eq.mpr c18
        clear c18
        (first | rw [c18b0] | (simp only [i64_w, i32_w]; rw [c18b0]) | skip)
        have H' := Aside0.mk H
        clear H
        go_wp2
        repeat ((first | (refine wp_scope_in arith_reckon.C0 rfl (fun Gs_ => ?_)) | (refine wp_label (l := 0) ?_; try simp only [Exit.then]) | (refine wp_goto (l := 0) (hop (l := 0) (c := arith_reckon.C0) rfl ?_))); try go_wp2)
        go_meet
        case rel => exact ⟨_, (true), (by first | rfl | (simp; done) | (simp [*]; done)), H', ⟨by first | omega | exact Nat.le_refl _⟩, by repeat (first | exact Drawn0.refl _ | apply Drawn0.step)⟩
      rw [if_neg c18] at H
      have c18b0 : (a1 == 0) = false := beq_eq_false_iff_ne.mpr c18
      have c18b1 : (a1 != 0) = true := bne_iff_ne.mpr c18
      (first | rw [c18b0] | (simp only [i64_w, i32_w]; rw [c18b0]) | skip)
      have H' := Aside0.mk H
      clear H
      go_wp2
      repeat ((first | (refine wp_scope_in arith_reckon.C0 rfl (fun Gs_ => ?_)) | (refine wp_label (l := 0) ?_; try simp only [Exit.then]) | (refine wp_goto (l := 0) (hop (l := 0) (c := arith_reckon.C0) rfl ?_))); try go_wp2)
      go_meet
      case rel => exact ⟨_, ((a2 == 0)), (by first | rfl | (simp; done) | (simp [*]; done)), H', ⟨by first | omega | exact Nat.le_refl _⟩, by repeat (first | exact Drawn0.refl _ | apply Drawn0.step)⟩
    case rest =>
      clear HC17
      try clear c1
      try clear p2
      try clear c4
      try clear c4b0
      try clear c4b1
      try clear c5
      try clear c5b0
      try clear c6
      try clear c6b0
      try clear p6
      try clear c7
      try clear c7b0
      try clear c8
      try clear c8b0
      try clear c9
      try clear c9b0
      try clear c10
      try clear c10b0
      try clear c10b1
      try clear c11
      try clear c11b0
      try clear c12
      try clear c12b0
      try clear c13
      try clear c13b0
      try clear c14
      try clear c14b0
      try clear c15
      try clear c15b0
      try clear c16
      try clear c16b0
      try clear c16b1
      try clear c18
      try clear c18b0
      try clear c18b1
      obtain ⟨kq, x67_16, rfl, HA, HJ16, ⟨mc16, rfl⟩⟩ := hcut
      cases kq with
      | zero => exact absurd HA.out (by simp [arith_reckon.j0])
      | succ kj16 =>
        have H := HA.out
        clear HA
        simp only [arith_reckon.j0] at H
        by_cases c19 : x67_16 = true
        · subst c19
          have H1 : (some (0, 0)) = some (r1, r2) := by rw [if_pos rfl] at H; exact H
          clear H
          have H := H1
          clear H1
          simp only [Option.some.injEq, Prod.mk.injEq] at H
          obtain ⟨rfl, rfl⟩ := H
          go_wp2
          repeat ((first | (refine wp_scope_in arith_reckon.C0 rfl (fun Gs_ => ?_)) | (refine wp_label (l := 0) ?_; try simp only [Exit.then]) | (refine wp_goto (l := 0) (hop (l := 0) (c := arith_reckon.C0) rfl ?_))); try go_wp2)
          (try ((try simp only [Exit.inBlock, Exit.then]); refine post_ret ?_))
          go_ret2
          exact ⟨by first | rfl | (simp; done) | (simp [*]; done), by repeat (first | exact Drawn0.refl _ | apply Drawn0.step)⟩
        · replace c19 := Bool.eq_false_iff.mpr c19
          subst c19
          have H1 : (if a1 = (-1) then (if a2 = (-9223372036854775808) then (some (0, 5)) else (if a2 = (-1) then (if a1 = (-9223372036854775808) then (some (0, 5)) else (if a2 = 0 then (none) else (if (wrap64 (Int.tdiv (wrap64 (a1 * a2)) a2)) = a1 then (some (wrap64 (a1 * a2), 0)) else (some (0, 5))))) else (if a2 = 0 then (none) else (if (wrap64 (Int.tdiv (wrap64 (a1 * a2)) a2)) = a1 then (some (wrap64 (a1 * a2), 0)) else (some (0, 5)))))) else (if a2 = (-1) then (if a1 = (-9223372036854775808) then (some (0, 5)) else (if a2 = 0 then (none) else (if (wrap64 (Int.tdiv (wrap64 (a1 * a2)) a2)) = a1 then (some (wrap64 (a1 * a2), 0)) else (some (0, 5))))) else (if a2 = 0 then (none) else (if (wrap64 (Int.tdiv (wrap64 (a1 * a2)) a2)) = a1 then (some (wrap64 (a1 * a2), 0)) else (some (0, 5)))))) = some (r1, r2) := by rw [if_neg (show ¬ (false = true) by decide)] at H; exact H
          clear H
          have H := H1
          clear H1
          by_cases c20 : a1 = (-1)
          rotate_left
          · rw [if_neg c20] at H
            have c20b0 : (a1 == (-1)) = false := beq_eq_false_iff_ne.mpr c20
            have c20b1 : (a1 != (-1)) = true := bne_iff_ne.mpr c20
            by_cases c21 : a2 = (-1)
            rotate_left
            · rw [if_neg c21] at H
              have c21b0 : (a2 == (-1)) = false := beq_eq_false_iff_ne.mpr c21
              have c21b1 : (a2 != (-1)) = true := bne_iff_ne.mpr c21
              by_cases c22 : a2 = 0
              · rw [if_pos c22] at H
                exact absurd H (by simp)
              rw [if_neg c22] at H
              have c22b0 : (a2 == 0) = false := beq_eq_false_iff_ne.mpr c22
              have c22b1 : (a2 != 0) = true := bne_iff_ne.mpr c22
              by_cases c23 : (wrap64 (Int.tdiv (wrap64 (a1 * a2)) a2)) = a1
              · rw [if_pos c23] at H
                have c23b0 : ((wrap64 (Int.tdiv (wrap64 (a1 * a2)) a2)) == a1) = true := beq_iff_eq.mpr c23
                have c23b1 : ((wrap64 (Int.tdiv (wrap64 (a1 * a2)) a2)) != a1) = false := bne_eq_false_iff_eq.mpr c23
                clear c23
                simp only [Option.some.injEq, Prod.mk.injEq] at H
                obtain ⟨rfl, rfl⟩ := H
                go_wp2
                repeat ((first | (refine wp_scope_in arith_reckon.C0 rfl (fun Gs_ => ?_)) | (refine wp_label (l := 0) ?_; try simp only [Exit.then]) | (refine wp_goto (l := 0) (hop (l := 0) (c := arith_reckon.C0) rfl ?_))); try go_wp2)
                (try ((try simp only [Exit.inBlock, Exit.then]); refine post_ret ?_))
                go_ret2
                exact ⟨by first | rfl | (simp; done) | (simp [*]; done), by repeat (first | exact Drawn0.refl _ | apply Drawn0.step)⟩
              rw [if_neg c23] at H
              have c23b0 : ((wrap64 (Int.tdiv (wrap64 (a1 * a2)) a2)) == a1) = false := beq_eq_false_iff_ne.mpr c23
              have c23b1 : ((wrap64 (Int.tdiv (wrap64 (a1 * a2)) a2)) != a1) = true := bne_iff_ne.mpr c23
              simp only [Option.some.injEq, Prod.mk.injEq] at H
              obtain ⟨rfl, rfl⟩ := H
              go_wp2
              repeat ((first | (refine wp_scope_in arith_reckon.C0 rfl (fun Gs_ => ?_)) | (refine wp_label (l := 0) ?_; try simp only [Exit.then]) | (refine wp_goto (l := 0) (hop (l := 0) (c := arith_reckon.C0) rfl ?_))); try go_wp2)
              (try ((try simp only [Exit.inBlock, Exit.then]); refine post_ret ?_))
              go_ret2
              exact ⟨by first | rfl | (simp; done) | (simp [*]; done), by repeat (first | exact Drawn0.refl _ | apply Drawn0.step)⟩
            rw [if_pos c21] at H
            have c21b0 : (a2 == (-1)) = true := beq_iff_eq.mpr c21
            have c21b1 : (a2 != (-1)) = false := bne_eq_false_iff_eq.mpr c21
            clear c21
            by_cases c24 : a1 = (-9223372036854775808)
            · rw [if_pos c24] at H
              have c24b0 : (a1 == (-9223372036854775808)) = true := beq_iff_eq.mpr c24
              have c24b1 : (a1 != (-9223372036854775808)) = false := bne_eq_false_iff_eq.mpr c24
              clear c24
              simp only [Option.some.injEq, Prod.mk.injEq] at H
              obtain ⟨rfl, rfl⟩ := H
              go_wp2
              repeat ((first | (refine wp_scope_in arith_reckon.C0 rfl (fun Gs_ => ?_)) | (refine wp_label (l := 0) ?_; try simp only [Exit.then]) | (refine wp_goto (l := 0) (hop (l := 0) (c := arith_reckon.C0) rfl ?_))); try go_wp2)
              (try ((try simp only [Exit.inBlock, Exit.then]); refine post_ret ?_))
              go_ret2
              exact ⟨by first | rfl | (simp; done) | (simp [*]; done), by repeat (first | exact Drawn0.refl _ | apply Drawn0.step)⟩
            rw [if_neg c24] at H
            have c24b0 : (a1 == (-9223372036854775808)) = false := beq_eq_false_iff_ne.mpr c24
            have c24b1 : (a1 != (-9223372036854775808)) = true := bne_iff_ne.mpr c24
            by_cases c25 : a2 = 0
            · rw [if_pos c25] at H
              exact absurd H (by simp)
            rw [if_neg c25] at H
            have c25b0 : (a2 == 0) = false := beq_eq_false_iff_ne.mpr c25
            have c25b1 : (a2 != 0) = true := bne_iff_ne.mpr c25
            by_cases c26 : (wrap64 (Int.tdiv (wrap64 (a1 * a2)) a2)) = a1
            · rw [if_pos c26] at H
              have c26b0 : ((wrap64 (Int.tdiv (wrap64 (a1 * a2)) a2)) == a1) = true := beq_iff_eq.mpr c26
              have c26b1 : ((wrap64 (Int.tdiv (wrap64 (a1 * a2)) a2)) != a1) = false := bne_eq_false_iff_eq.mpr c26
              clear c26
              simp only [Option.some.injEq, Prod.mk.injEq] at H
              obtain ⟨rfl, rfl⟩ := H
              go_wp2
              repeat ((first | (refine wp_scope_in arith_reckon.C0 rfl (fun Gs_ => ?_)) | (refine wp_label (l := 0) ?_; try simp only [Exit.then]) | (refine wp_goto (l := 0) (hop (l := 0) (c := arith_reckon.C0) rfl ?_))); try go_wp2)
              (try ((try simp only [Exit.inBlock, Exit.then]); refine post_ret ?_))
              go_ret2
              exact ⟨by first | rfl | (simp; done) | (simp [*]; done), by repeat (first | exact Drawn0.refl _ | apply Drawn0.step)⟩
            rw [if_neg c26] at H
            have c26b0 : ((wrap64 (Int.tdiv (wrap64 (a1 * a2)) a2)) == a1) = false := beq_eq_false_iff_ne.mpr c26
            have c26b1 : ((wrap64 (Int.tdiv (wrap64 (a1 * a2)) a2)) != a1) = true := bne_iff_ne.mpr c26
            simp only [Option.some.injEq, Prod.mk.injEq] at H
            obtain ⟨rfl, rfl⟩ := H
            go_wp2
            repeat ((first | (refine wp_scope_in arith_reckon.C0 rfl (fun Gs_ => ?_)) | (refine wp_label (l := 0) ?_; try simp only [Exit.then]) | (refine wp_goto (l := 0) (hop (l := 0) (c := arith_reckon.C0) rfl ?_))); try go_wp2)
            (try ((try simp only [Exit.inBlock, Exit.then]); refine post_ret ?_))
            go_ret2
            exact ⟨by first | rfl | (simp; done) | (simp [*]; done), by repeat (first | exact Drawn0.refl _ | apply Drawn0.step)⟩
          rw [if_pos c20] at H
          have c20b0 : (a1 == (-1)) = true := beq_iff_eq.mpr c20
          have c20b1 : (a1 != (-1)) = false := bne_eq_false_iff_eq.mpr c20
          clear c20
          by_cases c27 : a2 = (-9223372036854775808)
          · rw [if_pos c27] at H
            have c27b0 : (a2 == (-9223372036854775808)) = true := beq_iff_eq.mpr c27
            have c27b1 : (a2 != (-9223372036854775808)) = false := bne_eq_false_iff_eq.mpr c27
            clear c27
            simp only [Option.some.injEq, Prod.mk.injEq] at H
            obtain ⟨rfl, rfl⟩ := H
            go_wp2
            repeat ((first | (refine wp_scope_in arith_reckon.C0 rfl (fun Gs_ => ?_)) | (refine wp_label (l := 0) ?_; try simp only [Exit.then]) | (refine wp_goto (l := 0) (hop (l := 0) (c := arith_reckon.C0) rfl ?_))); try go_wp2)
            (try ((try simp only [Exit.inBlock, Exit.then]); refine post_ret ?_))
            go_ret2
            exact ⟨by first | rfl | (simp; done) | (simp [*]; done), by repeat (first | exact Drawn0.refl _ | apply Drawn0.step)⟩
          rw [if_neg c27] at H
          have c27b0 : (a2 == (-9223372036854775808)) = false := beq_eq_false_iff_ne.mpr c27
          have c27b1 : (a2 != (-9223372036854775808)) = true := bne_iff_ne.mpr c27
          by_cases c28 : a2 = (-1)
          rotate_left
          · rw [if_neg c28] at H
            have c28b0 : (a2 == (-1)) = false := beq_eq_false_iff_ne.mpr c28
            have c28b1 : (a2 != (-1)) = true := bne_iff_ne.mpr c28
            by_cases c29 : a2 = 0
            · rw [if_pos c29] at H
              exact absurd H (by simp)
            rw [if_neg c29] at H
            have c29b0 : (a2 == 0) = false := beq_eq_false_iff_ne.mpr c29
            have c29b1 : (a2 != 0) = true := bne_iff_ne.mpr c29
            by_cases c30 : (wrap64 (Int.tdiv (wrap64 (a1 * a2)) a2)) = a1
            · rw [if_pos c30] at H
              have c30b0 : ((wrap64 (Int.tdiv (wrap64 (a1 * a2)) a2)) == a1) = true := beq_iff_eq.mpr c30
              have c30b1 : ((wrap64 (Int.tdiv (wrap64 (a1 * a2)) a2)) != a1) = false := bne_eq_false_iff_eq.mpr c30
              clear c30
              simp only [Option.some.injEq, Prod.mk.injEq] at H
              obtain ⟨rfl, rfl⟩ := H
              go_wp2
              repeat ((first | (refine wp_scope_in arith_reckon.C0 rfl (fun Gs_ => ?_)) | (refine wp_label (l := 0) ?_; try simp only [Exit.then]) | (refine wp_goto (l := 0) (hop (l := 0) (c := arith_reckon.C0) rfl ?_))); try go_wp2)
              (try ((try simp only [Exit.inBlock, Exit.then]); refine post_ret ?_))
              go_ret2
              exact ⟨by first | rfl | (simp; done) | (simp [*]; done), by repeat (first | exact Drawn0.refl _ | apply Drawn0.step)⟩
            rw [if_neg c30] at H
            have c30b0 : ((wrap64 (Int.tdiv (wrap64 (a1 * a2)) a2)) == a1) = false := beq_eq_false_iff_ne.mpr c30
            have c30b1 : ((wrap64 (Int.tdiv (wrap64 (a1 * a2)) a2)) != a1) = true := bne_iff_ne.mpr c30
            simp only [Option.some.injEq, Prod.mk.injEq] at H
            obtain ⟨rfl, rfl⟩ := H
            go_wp2
            repeat ((first | (refine wp_scope_in arith_reckon.C0 rfl (fun Gs_ => ?_)) | (refine wp_label (l := 0) ?_; try simp only [Exit.then]) | (refine wp_goto (l := 0) (hop (l := 0) (c := arith_reckon.C0) rfl ?_))); try go_wp2)
            (try ((try simp only [Exit.inBlock, Exit.then]); refine post_ret ?_))
            go_ret2
            exact ⟨by first | rfl | (simp; done) | (simp [*]; done), by repeat (first | exact Drawn0.refl _ | apply Drawn0.step)⟩
          rw [if_pos c28] at H
          have c28b0 : (a2 == (-1)) = true := beq_iff_eq.mpr c28
          have c28b1 : (a2 != (-1)) = false := bne_eq_false_iff_eq.mpr c28
          clear c28
          by_cases c31 : a1 = (-9223372036854775808)
          · rw [if_pos c31] at H
            exact absurd c31 (by have h_ := c20b0; simp only [decide_eq_true_eq, decide_eq_false_iff_not, beq_iff_eq, beq_eq_false_iff_ne] at h_; omega)
          rw [if_neg c31] at H
          have c31b0 : (a1 == (-9223372036854775808)) = false := beq_eq_false_iff_ne.mpr c31
          have c31b1 : (a1 != (-9223372036854775808)) = true := bne_iff_ne.mpr c31
          by_cases c32 : a2 = 0
          · rw [if_pos c32] at H
            exact absurd H (by simp)
          rw [if_neg c32] at H
          have c32b0 : (a2 == 0) = false := beq_eq_false_iff_ne.mpr c32
          have c32b1 : (a2 != 0) = true := bne_iff_ne.mpr c32
          by_cases c33 : (wrap64 (Int.tdiv (wrap64 (a1 * a2)) a2)) = a1
          · rw [if_pos c33] at H
            have c33b0 : ((wrap64 (Int.tdiv (wrap64 (a1 * a2)) a2)) == a1) = true := beq_iff_eq.mpr c33
            have c33b1 : ((wrap64 (Int.tdiv (wrap64 (a1 * a2)) a2)) != a1) = false := bne_eq_false_iff_eq.mpr c33
            clear c33
            simp only [Option.some.injEq, Prod.mk.injEq] at H
            obtain ⟨rfl, rfl⟩ := H
            go_wp2
            repeat ((first | (refine wp_scope_in arith_reckon.C0 rfl (fun Gs_ => ?_)) | (refine wp_label (l := 0) ?_; try simp only [Exit.then]) | (refine wp_goto (l := 0) (hop (l := 0) (c := arith_reckon.C0) rfl ?_))); try go_wp2)
            (try ((try simp only [Exit.inBlock, Exit.then]); refine post_ret ?_))
            go_ret2
            exact ⟨by first | rfl | (simp; done) | (simp [*]; done), by repeat (first | exact Drawn0.refl _ | apply Drawn0.step)⟩
          rw [if_neg c33] at H
          have c33b0 : ((wrap64 (Int.tdiv (wrap64 (a1 * a2)) a2)) == a1) = false := beq_eq_false_iff_ne.mpr c33
          have c33b1 : ((wrap64 (Int.tdiv (wrap64 (a1 * a2)) a2)) != a1) = true := bne_iff_ne.mpr c33
          simp only [Option.some.injEq, Prod.mk.injEq] at H
          obtain ⟨rfl, rfl⟩ := H
          go_wp2
          repeat ((first | (refine wp_scope_in arith_reckon.C0 rfl (fun Gs_ => ?_)) | (refine wp_label (l := 0) ?_; try simp only [Exit.then]) | (refine wp_goto (l := 0) (hop (l := 0) (c := arith_reckon.C0) rfl ?_))); try go_wp2)
          (try ((try simp only [Exit.inBlock, Exit.then]); refine post_ret ?_))
          go_ret2
          exact ⟨by first | rfl | (simp; done) | (simp [*]; done), by repeat (first | exact Drawn0.refl _ | apply Drawn0.step)⟩
  rw [if_neg c16] at H
  have c16b0 : (a0 == 9) = false := beq_eq_false_iff_ne.mpr c16
  have c16b1 : (a0 != 9) = true := bne_iff_ne.mpr c16
  by_cases c34 : a0 = 10
  rotate_left
  · rw [if_neg c34] at H
    have c34b0 : (a0 == 10) = false := beq_eq_false_iff_ne.mpr c34
    have c34b1 : (a0 != 10) = true := bne_iff_ne.mpr c34
    by_cases c35 : a2 = (-1)
    · rw [if_pos c35] at H
      have c35b0 : (a2 == (-1)) = true := beq_iff_eq.mpr c35
      have c35b1 : (a2 != (-1)) = false := bne_eq_false_iff_eq.mpr c35
      clear c35
      simp only [Option.some.injEq, Prod.mk.injEq] at H
      obtain ⟨rfl, rfl⟩ := H
      go_enter Try.func78, Try.ntmps78
      go_wp2
      repeat ((first | (refine wp_scope_in arith_reckon.C0 rfl (fun Gs_ => ?_)) | (refine wp_label (l := 0) ?_; try simp only [Exit.then]) | (refine wp_goto (l := 0) (hop (l := 0) (c := arith_reckon.C0) rfl ?_))); try go_wp2)
      (try ((try simp only [Exit.inBlock, Exit.then]); refine post_ret ?_))
      go_ret2
      exact ⟨by first | rfl | (simp; done) | (simp [*]; done), by repeat (first | exact Drawn0.refl _ | apply Drawn0.step)⟩
    rw [if_neg c35] at H
    have c35b0 : (a2 == (-1)) = false := beq_eq_false_iff_ne.mpr c35
    have c35b1 : (a2 != (-1)) = true := bne_iff_ne.mpr c35
    by_cases c36 : a2 = 0
    · rw [if_pos c36] at H
      exact absurd H (by simp)
    rw [if_neg c36] at H
    have c36b0 : (a2 == 0) = false := beq_eq_false_iff_ne.mpr c36
    have c36b1 : (a2 != 0) = true := bne_iff_ne.mpr c36
    simp only [Option.some.injEq, Prod.mk.injEq] at H
    obtain ⟨rfl, rfl⟩ := H
    go_enter Try.func78, Try.ntmps78
    go_wp2
    repeat ((first | (refine wp_scope_in arith_reckon.C0 rfl (fun Gs_ => ?_)) | (refine wp_label (l := 0) ?_; try simp only [Exit.then]) | (refine wp_goto (l := 0) (hop (l := 0) (c := arith_reckon.C0) rfl ?_))); try go_wp2)
    (try ((try simp only [Exit.inBlock, Exit.then]); refine post_ret ?_))
    go_ret2
    exact ⟨by first | rfl | (simp; done) | (simp [*]; done), by repeat (first | exact Drawn0.refl _ | apply Drawn0.step)⟩
  rw [if_pos c34] at H
  have c34b0 : (a0 == 10) = true := beq_iff_eq.mpr c34
  have c34b1 : (a0 != 10) = false := bne_eq_false_iff_eq.mpr c34
  clear c34
  by_cases c37 : a1 = (-9223372036854775808)
  rotate_left
  · rw [if_neg c37] at H
    have c37b0 : (a1 == (-9223372036854775808)) = false := beq_eq_false_iff_ne.mpr c37
    have c37b1 : (a1 != (-9223372036854775808)) = true := bne_iff_ne.mpr c37
    by_cases c38 : a2 = 0
    · rw [if_pos c38] at H
      exact absurd H (by simp)
    rw [if_neg c38] at H
    have c38b0 : (a2 == 0) = false := beq_eq_false_iff_ne.mpr c38
    have c38b1 : (a2 != 0) = true := bne_iff_ne.mpr c38
    simp only [Option.some.injEq, Prod.mk.injEq] at H
    obtain ⟨rfl, rfl⟩ := H
    go_enter Try.func78, Try.ntmps78
    go_wp2
    repeat ((first | (refine wp_scope_in arith_reckon.C0 rfl (fun Gs_ => ?_)) | (refine wp_label (l := 0) ?_; try simp only [Exit.then]) | (refine wp_goto (l := 0) (hop (l := 0) (c := arith_reckon.C0) rfl ?_))); try go_wp2)
    (try ((try simp only [Exit.inBlock, Exit.then]); refine post_ret ?_))
    go_ret2
    exact ⟨by first | rfl | (simp; done) | (simp [*]; done), by repeat (first | exact Drawn0.refl _ | apply Drawn0.step)⟩
  rw [if_pos c37] at H
  have c37b0 : (a1 == (-9223372036854775808)) = true := beq_iff_eq.mpr c37
  have c37b1 : (a1 != (-9223372036854775808)) = false := bne_eq_false_iff_eq.mpr c37
  clear c37
  by_cases c39 : a2 = (-1)
  · rw [if_pos c39] at H
    have c39b0 : (a2 == (-1)) = true := beq_iff_eq.mpr c39
    have c39b1 : (a2 != (-1)) = false := bne_eq_false_iff_eq.mpr c39
    clear c39
    simp only [Option.some.injEq, Prod.mk.injEq] at H
    obtain ⟨rfl, rfl⟩ := H
    go_enter Try.func78, Try.ntmps78
    go_wp2
    repeat ((first | (refine wp_scope_in arith_reckon.C0 rfl (fun Gs_ => ?_)) | (refine wp_label (l := 0) ?_; try simp only [Exit.then]) | (refine wp_goto (l := 0) (hop (l := 0) (c := arith_reckon.C0) rfl ?_))); try go_wp2)
    (try ((try simp only [Exit.inBlock, Exit.then]); refine post_ret ?_))
    go_ret2
    exact ⟨by first | rfl | (simp; done) | (simp [*]; done), by repeat (first | exact Drawn0.refl _ | apply Drawn0.step)⟩
  rw [if_neg c39] at H
  have c39b0 : (a2 == (-1)) = false := beq_eq_false_iff_ne.mpr c39
  have c39b1 : (a2 != (-1)) = true := bne_iff_ne.mpr c39
  by_cases c40 : a2 = 0
  · rw [if_pos c40] at H
    exact absurd H (by simp)
  rw [if_neg c40] at H
  have c40b0 : (a2 == 0) = false := beq_eq_false_iff_ne.mpr c40
  have c40b1 : (a2 != 0) = true := bne_iff_ne.mpr c40
  simp only [Option.some.injEq, Prod.mk.injEq] at H
  obtain ⟨rfl, rfl⟩ := H
  go_enter Try.func78, Try.ntmps78
  go_wp2
  repeat ((first | (refine wp_scope_in arith_reckon.C0 rfl (fun Gs_ => ?_)) | (refine wp_label (l := 0) ?_; try simp only [Exit.then]) | (refine wp_goto (l := 0) (hop (l := 0) (c := arith_reckon.C0) rfl ?_))); try go_wp2)
  (try ((try simp only [Exit.inBlock, Exit.then]); refine post_ret ?_))
  go_ret2
  exact ⟨by first | rfl | (simp; done) | (simp [*]; done), by repeat (first | exact Drawn0.refl _ | apply Drawn0.step)⟩

/-! ### value_Int: function 79 -/
def value_Int.f (a0 : Int) : Option (Int × Int × ByteArray) := some (1, a0, (⟨#[]⟩ : ByteArray))
set_option maxHeartbeats 8000000 in
set_option maxRecDepth 100000 in
theorem value_Int.calls (a0 : Int) (r1 : Int) (r2 : Int) (r3 : ByteArray) (w : World) (h : value_Int.f a0 = some (r1, r2, r3)) :
    Calls Try.prog 79 #[.int .i64 a0] w fun e w' => e = .returned (.agg #[.int .i64 r1, .int .i64 r2, .string r3]) ∧ Below w.heap.size w w' := by
  have hu24 := Try.underlying24
  have HB := Aside0.mk (Below.refl w.heap.size w)
  have H : (some (1, a0, (⟨#[]⟩ : ByteArray))) = some (r1, r2, r3) := h
  clear h
  simp only [Option.some.injEq, Prod.mk.injEq] at H
  obtain ⟨rfl, rfl, rfl⟩ := H
  go_enter Try.func79, Try.ntmps79
  go_wp2_with (first | ((with_reducible refine gate_dst (N := 2) rfl ?_); refine box_event ?hg (N := 2) ?hd (cs := #[.int .i64 0, .int .i64 0, .string (⟨#[]⟩ : ByteArray)]) (t := 24) ?hr ?_; (case hd => rfl); (case hg => rfl); (case hr => first | (go_simp; done) | (go_simp; rfl)); intro gb105 hg w2 hbox hb; have n0_ := Aside0.mk (below_step (by repeat (first | (with_reducible first | exact HB.out | apply below_alloc | apply pw_below_drewN | apply below_drew1) | exact HB.out)) hb); have n1_ := Aside0.mk (hbox); have n2_ := Aside0.mk ((by rw [hg]; exact (below_size (by repeat (first | (with_reducible first | exact HB.out | apply below_alloc | apply pw_below_drewN | apply below_drew1) | exact HB.out))) : w.heap.size ≤ gb105)); have n3_ := Aside0.mk ((by rw [hg]; exact (below_size (by repeat (first | (with_reducible first | exact HB.out | apply below_alloc | apply pw_below_drewN | apply below_drew1) | exact HB.out))) : w.heap.size ≤ gb105)); clear HB; have HB := n0_; have BK105 := n1_; have GW105 := n2_; have GE105 := n3_; clear n0_ n1_ n2_ n3_; clear hb hbox hg; have hcz3_0 : w2.cell? ⟨gb105, 0, none⟩ = some (.int .i64 0) := (blk_cell BK105.out 0).trans rfl; have hcz3_1 : w2.cell? ⟨gb105, 1, none⟩ = some (.int .i64 0) := (blk_cell BK105.out 1).trans rfl; have hcz3_2 : w2.cell? ⟨gb105, 2, none⟩ = some (.string (⟨#[]⟩ : ByteArray)) := (blk_cell BK105.out 2).trans rfl; have hfz3_0 := blk_frozen BK105.out 0; have hfz3_1 := blk_frozen BK105.out 1; have hfz3_2 := blk_frozen BK105.out 2))
  refine bodyPost_ret (results_cell_row rfl _ _ gb105 24 #[.int .i64 1, .int .i64 a0, .string (⟨#[]⟩ : ByteArray)] (0, 0) _ rfl (by (with_reducible repeat (first | refine blk_drewN ?_ _ | refine blk_drew ?_ | refine blk_alloc ?_ _)); refine blk_put (cs := #[.int .i64 1, .int .i64 a0, .string (⟨#[]⟩ : ByteArray)]) ?_ 2 _ rfl; (with_reducible repeat (first | refine blk_drewN ?_ _ | refine blk_drew ?_ | refine blk_alloc ?_ _)); refine blk_put (cs := #[.int .i64 1, .int .i64 0, .string (⟨#[]⟩ : ByteArray)]) ?_ 1 _ rfl; (with_reducible repeat (first | refine blk_drewN ?_ _ | refine blk_drew ?_ | refine blk_alloc ?_ _)); refine blk_put (cs := #[.int .i64 0, .int .i64 0, .string (⟨#[]⟩ : ByteArray)]) ?_ 0 _ rfl; (with_reducible repeat (first | refine blk_drewN ?_ _ | refine blk_drew ?_ | refine blk_alloc ?_ _)); exact BK105.out) Try.underlying24 rfl (by kernel_rfl)) rfl ?_
  exact ⟨by first | rfl | (simp [errW_none, errW_some] <;> rfl) | (simp [*, errW_none, errW_some] <;> rfl), by repeat (first | (with_reducible first | exact HB.out | apply below_alloc | apply pw_below_drewN | apply below_drew1 | refine below_set ?_ GE105.out) | exact HB.out)⟩

end Go.Proofs.Ytaodnkhpiiepiaa.A
