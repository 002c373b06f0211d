-- Made by a program of this session (gprint.py, over the kit's printing program).
import Derived.Test.YtaodnkhpiiepiaaCx0
namespace Go.Proofs.Ytaodnkhpiiepiaa.C
open Go.RowKit Go.Proofs.YtaodnkhpiiepiaaG Go.Proofs.YtaodnkhpiiepiaaW.PrintWords Go.Proofs.YtaodnkhpiiepiaaW.PrintLast Go.Proofs.YtaodnkhpiiepiaaW.PrintMore
attribute [local go_sem] max2_int min2_int max_two min_two max_three min_three max_four min_four   -- for this text's walks alone
set_option linter.unusedVariables false
set_option linter.unusedSimpArgs false

/-! ### cast_Int: function 26 -/
mutual
def cast_Int.j0 : Nat → ByteArray → Bool → Option (Int × Int)
  | 0, _, _ => none
  | k + 1, x0, x4 => if x4 = true then (cast_Int.j1 k x0 x4 true) else (if (x0.size : Int) > 0 then (if 0 < (x0.size : Int) then (cast_Int.j1 k x0 x4 ((bt x0 0) == 43)) else (none)) else (cast_Int.j1 k x0 x4 false))
def cast_Int.j1 : Nat → ByteArray → Bool → Bool → Option (Int × Int)
  | 0, _, _, _ => none
  | k + 1, x0, x4, x27 => if x27 = true then (if 1 ≤ (x0.size : Int) then (cast_Int.j2 k (x0.extract 1 x0.size) x4) else (none)) else (cast_Int.j2 k x0 x4)
def cast_Int.j2 : Nat → ByteArray → Bool → Option (Int × Int)
  | 0, _, _ => none
  | k + 1, x0, x4 => if x0.toList = ([] : List UInt8) then (some (0, 4)) else (cast_Int.l0 k x0 x4 0 false 0)
def cast_Int.l0 : Nat → ByteArray → Bool → Int → Bool → Int → Option (Int × Int)
  | 0, _, _, _, _, _ => none
  | k + 1, x0, x4, x5, x6, x7 => if x7 = (x0.size : Int) then (if x6 = true then (cast_Int.j4 k x4 x5 true) else (if x4 = true then (cast_Int.j4 k x4 x5 false) else (cast_Int.j4 k x4 x5 (x5 == (-9223372036854775808))))) else (if 0 ≤ x7 then (if x7 < (x0.size : Int) then (if (bt x0 x7) < 48 then (cast_Int.j5 k x0 x4 x5 x6 x7 true) else (cast_Int.j5 k x0 x4 x5 x6 x7 (decide ((bt x0 x7) > 57)))) else (none)) else (none))
def cast_Int.j4 : Nat → Bool → Int → Bool → Option (Int × Int)
  | 0, _, _, _ => none
  | k + 1, x4, x5, x65 => if x65 = true then (some (0, 5)) else (if x4 = true then (some (x5, 0)) else (some (wrap64 (-x5), 0)))
def cast_Int.j5 : Nat → ByteArray → Bool → Int → Bool → Int → Bool → Option (Int × Int)
  | 0, _, _, _, _, _, _ => none
  | k + 1, x0, x4, x5, x6, x7, x45 => if x45 = true then (some (0, 4)) else (if 0 ≤ x7 then (if x7 < (x0.size : Int) then (if x6 = true then (cast_Int.j6 k x0 x4 x5 x6 x7 (((bt x0 x7) - 48) % 256) true) else (cast_Int.j6 k x0 x4 x5 x6 x7 (((bt x0 x7) - 48) % 256) (decide (x5 < (Int.tdiv ((-9223372036854775808) + (((bt x0 x7) - 48) % 256)) 10))))) else (none)) else (none))
def cast_Int.j6 : Nat → ByteArray → Bool → Int → Bool → Int → Int → Bool → Option (Int × Int)
  | 0, _, _, _, _, _, _, _ => none
  | k + 1, x0, x4, x5, x6, x7, x8, x58 => if x58 = true then (cast_Int.j7 k x0 x4 x5 true x7) else (cast_Int.j7 k x0 x4 (wrap64 ((wrap64 (10 * x5)) - x8)) x6 x7)
def cast_Int.j7 : Nat → ByteArray → Bool → Int → Bool → Int → Option (Int × Int)
  | 0, _, _, _, _, _ => none
  | k + 1, x0, x4, x5, x6, x7 => cast_Int.l0 k x0 x4 x5 x6 (wrap64 (x7 + 1))
end
def cast_Int.f (k : Nat) (a0 : ByteArray) : Option (Int × Int) := if (a0.size : Int) > 0 then (if 0 < (a0.size : Int) then (cast_Int.j0 k a0 ((bt a0 0) == 45)) else (none)) else (cast_Int.j0 k a0 false)
theorem cast_Int.mono_l : ∀ k, (∀ y0 y1, LeO (cast_Int.j0 k y0 y1) (cast_Int.j0 (k + 1) y0 y1)) ∧ (∀ y0 y1 y2, LeO (cast_Int.j1 k y0 y1 y2) (cast_Int.j1 (k + 1) y0 y1 y2)) ∧ (∀ y0 y1, LeO (cast_Int.j2 k y0 y1) (cast_Int.j2 (k + 1) y0 y1)) ∧ (∀ y0 y1 y2 y3 y4, LeO (cast_Int.l0 k y0 y1 y2 y3 y4) (cast_Int.l0 (k + 1) y0 y1 y2 y3 y4)) ∧ (∀ y0 y1 y2, LeO (cast_Int.j4 k y0 y1 y2) (cast_Int.j4 (k + 1) y0 y1 y2)) ∧ (∀ y0 y1 y2 y3 y4 y5, LeO (cast_Int.j5 k y0 y1 y2 y3 y4 y5) (cast_Int.j5 (k + 1) y0 y1 y2 y3 y4 y5)) ∧ (∀ y0 y1 y2 y3 y4 y5 y6, LeO (cast_Int.j6 k y0 y1 y2 y3 y4 y5 y6) (cast_Int.j6 (k + 1) y0 y1 y2 y3 y4 y5 y6)) ∧ (∀ y0 y1 y2 y3 y4, LeO (cast_Int.j7 k y0 y1 y2 y3 y4) (cast_Int.j7 (k + 1) y0 y1 y2 y3 y4))
  | 0 => ⟨fun _ _ r h => by simp [cast_Int.j0] at h, fun _ _ _ r h => by simp [cast_Int.j1] at h, fun _ _ r h => by simp [cast_Int.j2] at h, fun _ _ _ _ _ r h => by simp [cast_Int.l0] at h, fun _ _ _ r h => by simp [cast_Int.j4] at h, fun _ _ _ _ _ _ r h => by simp [cast_Int.j5] at h, fun _ _ _ _ _ _ _ r h => by simp [cast_Int.j6] at h, fun _ _ _ _ _ r h => by simp [cast_Int.j7] at h⟩
  | k + 1 => by
    obtain ⟨ih0, ih1, ih2, ih3, ih4, ih5, ih6, ih7⟩ := cast_Int.mono_l k
    refine ⟨?_, ?_, ?_, ?_, ?_, ?_, ?_, ?_⟩
    · intro y0 y1
      unfold cast_Int.j0
      repeat' first
      | (with_reducible exact ih0 _ _)
      | (with_reducible exact ih1 _ _ _)
      | (with_reducible exact ih2 _ _)
      | (with_reducible exact ih3 _ _ _ _ _)
      | (with_reducible exact ih4 _ _ _)
      | (with_reducible exact ih5 _ _ _ _ _ _)
      | (with_reducible exact ih6 _ _ _ _ _ _ _)
      | (with_reducible exact ih7 _ _ _ _ _)
      | (with_reducible exact LeO.refl _)
      | (with_reducible exact LeO.none _)
      | (with_reducible refine LeO.ite ?_ ?_)
      | (with_reducible refine LeO.bind ?_ (fun _ => ?_))
      | exact ih0 _ _
      | exact ih1 _ _ _
      | exact ih2 _ _
      | exact ih3 _ _ _ _ _
      | exact ih4 _ _ _
      | exact ih5 _ _ _ _ _ _
      | exact ih6 _ _ _ _ _ _ _
      | exact ih7 _ _ _ _ _
      | exact LeO.none _
      | refine LeO.ite ?_ ?_
      | refine LeO.bind ?_ (fun _ => ?_)
    · intro y0 y1 y2
      unfold cast_Int.j1
      repeat' first
      | (with_reducible exact ih0 _ _)
      | (with_reducible exact ih1 _ _ _)
      | (with_reducible exact ih2 _ _)
      | (with_reducible exact ih3 _ _ _ _ _)
      | (with_reducible exact ih4 _ _ _)
      | (with_reducible exact ih5 _ _ _ _ _ _)
      | (with_reducible exact ih6 _ _ _ _ _ _ _)
      | (with_reducible exact ih7 _ _ _ _ _)
      | (with_reducible exact LeO.refl _)
      | (with_reducible exact LeO.none _)
      | (with_reducible refine LeO.ite ?_ ?_)
      | (with_reducible refine LeO.bind ?_ (fun _ => ?_))
      | exact ih0 _ _
      | exact ih1 _ _ _
      | exact ih2 _ _
      | exact ih3 _ _ _ _ _
      | exact ih4 _ _ _
      | exact ih5 _ _ _ _ _ _
      | exact ih6 _ _ _ _ _ _ _
      | exact ih7 _ _ _ _ _
      | exact LeO.none _
      | refine LeO.ite ?_ ?_
      | refine LeO.bind ?_ (fun _ => ?_)
    · intro y0 y1
      unfold cast_Int.j2
      repeat' first
      | (with_reducible exact ih0 _ _)
      | (with_reducible exact ih1 _ _ _)
      | (with_reducible exact ih2 _ _)
      | (with_reducible exact ih3 _ _ _ _ _)
      | (with_reducible exact ih4 _ _ _)
      | (with_reducible exact ih5 _ _ _ _ _ _)
      | (with_reducible exact ih6 _ _ _ _ _ _ _)
      | (with_reducible exact ih7 _ _ _ _ _)
      | (with_reducible exact LeO.refl _)
      | (with_reducible exact LeO.none _)
      | (with_reducible refine LeO.ite ?_ ?_)
      | (with_reducible refine LeO.bind ?_ (fun _ => ?_))
      | exact ih0 _ _
      | exact ih1 _ _ _
      | exact ih2 _ _
      | exact ih3 _ _ _ _ _
      | exact ih4 _ _ _
      | exact ih5 _ _ _ _ _ _
      | exact ih6 _ _ _ _ _ _ _
      | exact ih7 _ _ _ _ _
      | exact LeO.none _
      | refine LeO.ite ?_ ?_
      | refine LeO.bind ?_ (fun _ => ?_)
    · intro y0 y1 y2 y3 y4
      unfold cast_Int.l0
      repeat' first
      | (with_reducible exact ih0 _ _)
      | (with_reducible exact ih1 _ _ _)
      | (with_reducible exact ih2 _ _)
      | (with_reducible exact ih3 _ _ _ _ _)
      | (with_reducible exact ih4 _ _ _)
      | (with_reducible exact ih5 _ _ _ _ _ _)
      | (with_reducible exact ih6 _ _ _ _ _ _ _)
      | (with_reducible exact ih7 _ _ _ _ _)
      | (with_reducible exact LeO.refl _)
      | (with_reducible exact LeO.none _)
      | (with_reducible refine LeO.ite ?_ ?_)
      | (with_reducible refine LeO.bind ?_ (fun _ => ?_))
      | exact ih0 _ _
      | exact ih1 _ _ _
      | exact ih2 _ _
      | exact ih3 _ _ _ _ _
      | exact ih4 _ _ _
      | exact ih5 _ _ _ _ _ _
      | exact ih6 _ _ _ _ _ _ _
      | exact ih7 _ _ _ _ _
      | exact LeO.none _
      | refine LeO.ite ?_ ?_
      | refine LeO.bind ?_ (fun _ => ?_)
    · intro y0 y1 y2
      unfold cast_Int.j4
      repeat' first
      | (with_reducible exact ih0 _ _)
      | (with_reducible exact ih1 _ _ _)
      | (with_reducible exact ih2 _ _)
      | (with_reducible exact ih3 _ _ _ _ _)
      | (with_reducible exact ih4 _ _ _)
      | (with_reducible exact ih5 _ _ _ _ _ _)
      | (with_reducible exact ih6 _ _ _ _ _ _ _)
      | (with_reducible exact ih7 _ _ _ _ _)
      | (with_reducible exact LeO.refl _)
      | (with_reducible exact LeO.none _)
      | (with_reducible refine LeO.ite ?_ ?_)
      | (with_reducible refine LeO.bind ?_ (fun _ => ?_))
      | exact ih0 _ _
      | exact ih1 _ _ _
      | exact ih2 _ _
      | exact ih3 _ _ _ _ _
      | exact ih4 _ _ _
      | exact ih5 _ _ _ _ _ _
      | exact ih6 _ _ _ _ _ _ _
      | exact ih7 _ _ _ _ _
      | exact LeO.none _
      | refine LeO.ite ?_ ?_
      | refine LeO.bind ?_ (fun _ => ?_)
    · intro y0 y1 y2 y3 y4 y5
      unfold cast_Int.j5
      repeat' first
      | (with_reducible exact ih0 _ _)
      | (with_reducible exact ih1 _ _ _)
      | (with_reducible exact ih2 _ _)
      | (with_reducible exact ih3 _ _ _ _ _)
      | (with_reducible exact ih4 _ _ _)
      | (with_reducible exact ih5 _ _ _ _ _ _)
      | (with_reducible exact ih6 _ _ _ _ _ _ _)
      | (with_reducible exact ih7 _ _ _ _ _)
      | (with_reducible exact LeO.refl _)
      | (with_reducible exact LeO.none _)
      | (with_reducible refine LeO.ite ?_ ?_)
      | (with_reducible refine LeO.bind ?_ (fun _ => ?_))
      | exact ih0 _ _
      | exact ih1 _ _ _
      | exact ih2 _ _
      | exact ih3 _ _ _ _ _
      | exact ih4 _ _ _
      | exact ih5 _ _ _ _ _ _
      | exact ih6 _ _ _ _ _ _ _
      | exact ih7 _ _ _ _ _
      | exact LeO.none _
      | refine LeO.ite ?_ ?_
      | refine LeO.bind ?_ (fun _ => ?_)
    · intro y0 y1 y2 y3 y4 y5 y6
      unfold cast_Int.j6
      repeat' first
      | (with_reducible exact ih0 _ _)
      | (with_reducible exact ih1 _ _ _)
      | (with_reducible exact ih2 _ _)
      | (with_reducible exact ih3 _ _ _ _ _)
      | (with_reducible exact ih4 _ _ _)
      | (with_reducible exact ih5 _ _ _ _ _ _)
      | (with_reducible exact ih6 _ _ _ _ _ _ _)
      | (with_reducible exact ih7 _ _ _ _ _)
      | (with_reducible exact LeO.refl _)
      | (with_reducible exact LeO.none _)
      | (with_reducible refine LeO.ite ?_ ?_)
      | (with_reducible refine LeO.bind ?_ (fun _ => ?_))
      | exact ih0 _ _
      | exact ih1 _ _ _
      | exact ih2 _ _
      | exact ih3 _ _ _ _ _
      | exact ih4 _ _ _
      | exact ih5 _ _ _ _ _ _
      | exact ih6 _ _ _ _ _ _ _
      | exact ih7 _ _ _ _ _
      | exact LeO.none _
      | refine LeO.ite ?_ ?_
      | refine LeO.bind ?_ (fun _ => ?_)
    · intro y0 y1 y2 y3 y4
      unfold cast_Int.j7
      repeat' first
      | (with_reducible exact ih0 _ _)
      | (with_reducible exact ih1 _ _ _)
      | (with_reducible exact ih2 _ _)
      | (with_reducible exact ih3 _ _ _ _ _)
      | (with_reducible exact ih4 _ _ _)
      | (with_reducible exact ih5 _ _ _ _ _ _)
      | (with_reducible exact ih6 _ _ _ _ _ _ _)
      | (with_reducible exact ih7 _ _ _ _ _)
      | (with_reducible exact LeO.refl _)
      | (with_reducible exact LeO.none _)
      | (with_reducible refine LeO.ite ?_ ?_)
      | (with_reducible refine LeO.bind ?_ (fun _ => ?_))
      | exact ih0 _ _
      | exact ih1 _ _ _
      | exact ih2 _ _
      | exact ih3 _ _ _ _ _
      | exact ih4 _ _ _
      | exact ih5 _ _ _ _ _ _
      | exact ih6 _ _ _ _ _ _ _
      | exact ih7 _ _ _ _ _
      | exact LeO.none _
      | refine LeO.ite ?_ ?_
      | refine LeO.bind ?_ (fun _ => ?_)
theorem cast_Int.mono : ∀ a0 k, LeO (cast_Int.f k a0) (cast_Int.f (k + 1) a0) := by
  intro a0 k
  obtain ⟨ih0, ih1, ih2, ih3, ih4, ih5, ih6, ih7⟩ := cast_Int.mono_l k
  unfold cast_Int.f
  repeat' first
      | (with_reducible exact ih0 _ _)
      | (with_reducible exact ih1 _ _ _)
      | (with_reducible exact ih2 _ _)
      | (with_reducible exact ih3 _ _ _ _ _)
      | (with_reducible exact ih4 _ _ _)
      | (with_reducible exact ih5 _ _ _ _ _ _)
      | (with_reducible exact ih6 _ _ _ _ _ _ _)
      | (with_reducible exact ih7 _ _ _ _ _)
      | (with_reducible exact LeO.refl _)
      | (with_reducible exact LeO.none _)
      | (with_reducible refine LeO.ite ?_ ?_)
      | (with_reducible refine LeO.bind ?_ (fun _ => ?_))
      | exact ih0 _ _
      | exact ih1 _ _ _
      | exact ih2 _ _
      | exact ih3 _ _ _ _ _
      | exact ih4 _ _ _
      | exact ih5 _ _ _ _ _ _
      | exact ih6 _ _ _ _ _ _ _
      | exact ih7 _ _ _ _ _
      | exact LeO.none _
      | refine LeO.ite ?_ ?_
      | refine LeO.bind ?_ (fun _ => ?_)
noncomputable def cast_Int.C0 : Code := (sub1 (sub2 (Try.f26.body.getD .skip)))
set_option maxHeartbeats 8000000 in
set_option maxRecDepth 100000 in
theorem cast_Int.calls (k : Nat) (a0 : ByteArray) (r1 : Int) (r2 : Int) (w : World) (h : cast_Int.f k a0 = some (r1, r2)) :
    Calls Try.prog 26 #[.string a0] w fun e w' => e = .returned (.tuple #[.int .i64 r1, .int .i64 r2]) ∧ Drawn0 w w' := by
  have H : (if (a0.size : Int) > 0 then (if 0 < (a0.size : Int) then (cast_Int.j0 k a0 ((bt a0 0) == 45)) else (none)) else (cast_Int.j0 k a0 false)) = some (r1, r2) := h
  clear h
  have HC2 := Aside0.mk H
  clear H
  go_enter Try.func26, Try.ntmps26
  go_upto_region 1 with (fail)
  repeat ((first | (refine wp_scope_in cast_Int.C0 rfl (fun Gs_ => ?_)) | (refine wp_label (l := 0) ?_; try simp only [Exit.then]) | (refine wp_goto (l := 0) (hop (l := 0) (c := cast_Int.C0) rfl ?_))); try go_upto_region 1 with (fail))
  go_cut [4] (fun v4 wc => ∃ (kq : Nat) (x4_1 : Bool), v4 = .bool x4_1 ∧ Aside0 (cast_Int.j0 kq a0 x4_1 = some (r1, r2)) ∧ Aside0 (kq ≤ k) ∧ Drawn0 w wc)
  case first =>
    have H := HC2.out
    clear HC2
    by_cases c3 : (a0.size : Int) > 0
    rotate_left
    · rw [if_neg c3] at H
      have c3b0 : decide (0 < (a0.size : Int)) = false := decide_eq_false c3
      have c3b1 : decide (0 < a0.size) = false := decide_eq_false (by omega)
      clear c3
      (first | rw [c3b0] | (simp only [i64_w, i32_w]; rw [c3b0]) | skip)
      have H' := Aside0.mk H
      clear H
      go_wp2
      repeat ((first | (refine wp_scope_in cast_Int.C0 rfl (fun Gs_ => ?_)) | (refine wp_label (l := 0) ?_; try simp only [Exit.then]) | (refine wp_goto (l := 0) (hop (l := 0) (c := cast_Int.C0) rfl ?_))); try go_wp2)
      go_meet
      case rel => exact ⟨_, (false), (by first | rfl | (simp; done) | (simp [*]; done)), H', ⟨by first | omega | exact Nat.le_refl _⟩, by repeat (first | exact Drawn0.refl _ | apply Drawn0.step)⟩
    rw [if_pos c3] at H
    have c3b0 : decide (0 < (a0.size : Int)) = true := decide_eq_true c3
    have c3b1 : decide (0 < a0.size) = true := decide_eq_true (by omega)
    clear c3
    (first | rw [c3b0] | (simp only [i64_w, i32_w]; rw [c3b0]) | skip)
    by_cases c4 : 0 < (a0.size : Int)
    rotate_left
    · rw [if_neg c4] at H
      exact absurd H (by simp)
    rw [if_pos c4] at H
    have c4b0 : decide (0 < (a0.size : Int)) = true := decide_eq_true c4
    have c4b1 : decide (0 < a0.size) = true := decide_eq_true (by omega)
    clear c4
    have H' := Aside0.mk H
    clear H
    have p5 : 0 ≤ (0 : Int) := (by omega)
    have q5 : 0 < a0.size := (by have : (0 : Int) < (a0.size : Int) := of_decide_eq_true (by first | (with_reducible assumption) | assumption); omega)
    have hx5 : ∀ h : 0 < a0.size, ((a0[0]'h).toNat : Int) = bt a0 0 := bt_at a0 0
    clear p5
    have qi5 : (0 < (a0.size : Int)) = True := eq_true (of_decide_eq_true (by first | (with_reducible assumption) | assumption))
    replace q5 := eq_true q5
    go_wp2
    repeat ((first | (refine wp_scope_in cast_Int.C0 rfl (fun Gs_ => ?_)) | (refine wp_label (l := 0) ?_; try simp only [Exit.then]) | (refine wp_goto (l := 0) (hop (l := 0) (c := cast_Int.C0) rfl ?_))); try go_wp2)
    go_meet
    case rel => exact ⟨_, (((bt a0 0) == 45)), (by first | rfl | (simp; done) | (simp [*]; done)), H', ⟨by first | omega | exact Nat.le_refl _⟩, by repeat (first | exact Drawn0.refl _ | apply Drawn0.step)⟩
  case rest =>
    clear HC2
    try clear c2
    try clear p2
    try clear c3
    try clear c3b0
    try clear c3b1
    try clear c4
    try clear c4b0
    try clear c4b1
    try clear p5
    try clear q5
    try clear hx5
    try clear qi5
    try clear p5
    try clear q5
    obtain ⟨kq, x4_1, rfl, HA, HJ1, ⟨mc1, rfl⟩⟩ := hcut
    cases kq with
    | zero => exact absurd HA.out (by simp [cast_Int.j0])
    | succ kj1 =>
      have H := HA.out
      clear HA
      simp only [cast_Int.j0] at H
      have HC6 := Aside0.mk H
      clear H
      go_upto_region 2 with (fail)
      repeat ((first | (refine wp_scope_in cast_Int.C0 rfl (fun Gs_ => ?_)) | (refine wp_label (l := 0) ?_; try simp only [Exit.then]) | (refine wp_goto (l := 0) (hop (l := 0) (c := cast_Int.C0) rfl ?_))); try go_upto_region 2 with (fail))
      go_cut [27] (fun v27 wc => ∃ (kq : Nat) (x27_5 : Bool), v27 = .bool x27_5 ∧ Aside0 (cast_Int.j1 kq a0 x4_1 x27_5 = some (r1, r2)) ∧ Aside0 (kq ≤ kj1) ∧ Drawn0 w wc)
      case first =>
        have H := HC6.out
        clear HC6
        by_cases c7 : x4_1 = true
        · subst c7
          have H1 : (cast_Int.j1 kj1 a0 true true) = some (r1, r2) := by rw [if_pos rfl] at H; exact H
          clear H
          have H := H1
          clear H1
          have H' := Aside0.mk H
          clear H
          go_wp2
          repeat ((first | (refine wp_scope_in cast_Int.C0 rfl (fun Gs_ => ?_)) | (refine wp_label (l := 0) ?_; try simp only [Exit.then]) | (refine wp_goto (l := 0) (hop (l := 0) (c := cast_Int.C0) rfl ?_))); try go_wp2)
          go_meet
          case rel => exact ⟨_, (true), (by first | rfl | (simp; done) | (simp [*]; done)), H', ⟨by have := HJ1.out; first | omega | exact Nat.le_refl _⟩, by repeat (first | exact Drawn0.refl _ | apply Drawn0.step)⟩
        · replace c7 := Bool.eq_false_iff.mpr c7
          subst c7
          have H1 : (if (a0.size : Int) > 0 then (if 0 < (a0.size : Int) then (cast_Int.j1 kj1 a0 false ((bt a0 0) == 43)) else (none)) else (cast_Int.j1 kj1 a0 false false)) = some (r1, r2) := by rw [if_neg (show ¬ (false = true) by decide)] at H; exact H
          clear H
          have H := H1
          clear H1
          by_cases c8 : (a0.size : Int) > 0
          rotate_left
          · rw [if_neg c8] at H
            have c8b0 : decide (0 < (a0.size : Int)) = false := decide_eq_false c8
            have c8b1 : decide (0 < a0.size) = false := decide_eq_false (by omega)
            clear c8
            (first | rw [c8b0] | (simp only [i64_w, i32_w]; rw [c8b0]) | skip)
            have H' := Aside0.mk H
            clear H
            go_wp2
            repeat ((first | (refine wp_scope_in cast_Int.C0 rfl (fun Gs_ => ?_)) | (refine wp_label (l := 0) ?_; try simp only [Exit.then]) | (refine wp_goto (l := 0) (hop (l := 0) (c := cast_Int.C0) rfl ?_))); try go_wp2)
            go_meet
            case rel => exact ⟨_, (false), (by first | rfl | (simp; done) | (simp [*]; done)), H', ⟨by have := HJ1.out; first | omega | exact Nat.le_refl _⟩, by repeat (first | exact Drawn0.refl _ | apply Drawn0.step)⟩
          rw [if_pos c8] at H
          have c8b0 : decide (0 < (a0.size : Int)) = true := decide_eq_true c8
          have c8b1 : decide (0 < a0.size) = true := decide_eq_true (by omega)
          clear c8
          (first | rw [c8b0] | (simp only [i64_w, i32_w]; rw [c8b0]) | skip)
          by_cases c9 : 0 < (a0.size : Int)
          rotate_left
          · rw [if_neg c9] at H
            exact absurd H (by simp)
          rw [if_pos c9] at H
          have c9b0 : decide (0 < (a0.size : Int)) = true := decide_eq_true c9
          have c9b1 : decide (0 < a0.size) = true := decide_eq_true (by omega)
          clear c9
          have H' := Aside0.mk H
          clear H
          have p10 : 0 ≤ (0 : Int) := (by omega)
          have q10 : 0 < a0.size := (by have : (0 : Int) < (a0.size : Int) := of_decide_eq_true (by first | (with_reducible assumption) | assumption); omega)
          have hx10 : ∀ h : 0 < a0.size, ((a0[0]'h).toNat : Int) = bt a0 0 := bt_at a0 0
          clear p10
          have qi10 : (0 < (a0.size : Int)) = True := eq_true (of_decide_eq_true (by first | (with_reducible assumption) | assumption))
          replace q10 := eq_true q10
          go_wp2
          repeat ((first | (refine wp_scope_in cast_Int.C0 rfl (fun Gs_ => ?_)) | (refine wp_label (l := 0) ?_; try simp only [Exit.then]) | (refine wp_goto (l := 0) (hop (l := 0) (c := cast_Int.C0) rfl ?_))); try go_wp2)
          go_meet
          case rel => exact ⟨_, (((bt a0 0) == 43)), (by first | rfl | (simp; done) | (simp [*]; done)), H', ⟨by have := HJ1.out; first | omega | exact Nat.le_refl _⟩, by repeat (first | exact Drawn0.refl _ | apply Drawn0.step)⟩
      case rest =>
        clear HC6
        try clear c1
        try clear p1
        try clear q1
        try clear hx1
        try clear qi1
        try clear c2
        try clear p2
        try clear c3
        try clear c3b0
        try clear c3b1
        try clear c4
        try clear c4b0
        try clear c4b1
        try clear p5
        try clear q5
        try clear hx5
        try clear qi5
        try clear c7
        try clear c8
        try clear c8b0
        try clear c8b1
        try clear c9
        try clear c9b0
        try clear c9b1
        try clear p10
        try clear q10
        try clear hx10
        try clear qi10
        try clear p10
        try clear p2
        try clear p5
        try clear q10
        try clear q5
        obtain ⟨kq, x27_5, rfl, HA, HJ5, ⟨mc5, rfl⟩⟩ := hcut
        cases kq with
        | zero => exact absurd HA.out (by simp [cast_Int.j1])
        | succ kj5 =>
          have H := HA.out
          clear HA
          simp only [cast_Int.j1] at H
          have HC11 := Aside0.mk H
          clear H
          go_upto_if 27 with (fail)
          repeat ((first | (refine wp_scope_in cast_Int.C0 rfl (fun Gs_ => ?_)) | (refine wp_label (l := 0) ?_; try simp only [Exit.then]) | (refine wp_goto (l := 0) (hop (l := 0) (c := cast_Int.C0) rfl ?_))); try go_upto_if 27 with (fail))
          go_cut [0] (fun v0 wc => ∃ (kq : Nat) (x0_10 : ByteArray), v0 = .string x0_10 ∧ Aside0 (cast_Int.j2 kq x0_10 x4_1 = some (r1, r2)) ∧ Aside0 (kq ≤ kj5) ∧ Drawn0 w wc)
          case first =>
            have H := HC11.out
            clear HC11
            by_cases c12 : x27_5 = true
            · subst c12
              have H1 : (if 1 ≤ (a0.size : Int) then (cast_Int.j2 kj5 (a0.extract 1 a0.size) x4_1) else (none)) = some (r1, r2) := by rw [if_pos rfl] at H; exact H
              clear H
              have H := H1
              clear H1
              by_cases c13 : 1 ≤ (a0.size : Int)
              rotate_left
              · rw [if_neg c13] at H
                exact absurd H (by simp)
              rw [if_pos c13] at H
              have c13b0 := eq_true c13
              have c13b1 : decide (1 ≤ (a0.size : Int)) = true := decide_eq_true c13
              clear c13
              have H' := Aside0.mk H
              clear H
              go_wp2
              repeat ((first | (refine wp_scope_in cast_Int.C0 rfl (fun Gs_ => ?_)) | (refine wp_label (l := 0) ?_; try simp only [Exit.then]) | (refine wp_goto (l := 0) (hop (l := 0) (c := cast_Int.C0) rfl ?_))); try go_wp2)
              go_meet
              case rel => exact ⟨_, (a0.extract 1 a0.size), (by first | rfl | (simp; done) | (simp [*]; done)), H', ⟨by have := HJ1.out; have := HJ5.out; first | omega | exact Nat.le_refl _⟩, by repeat (first | exact Drawn0.refl _ | apply Drawn0.step)⟩
            · replace c12 := Bool.eq_false_iff.mpr c12
              subst c12
              have H1 : (cast_Int.j2 kj5 a0 x4_1) = some (r1, r2) := by rw [if_neg (show ¬ (false = true) by decide)] at H; exact H
              clear H
              have H := H1
              clear H1
              have H' := Aside0.mk H
              clear H
              go_wp2
              repeat ((first | (refine wp_scope_in cast_Int.C0 rfl (fun Gs_ => ?_)) | (refine wp_label (l := 0) ?_; try simp only [Exit.then]) | (refine wp_goto (l := 0) (hop (l := 0) (c := cast_Int.C0) rfl ?_))); try go_wp2)
              go_meet
              case rel => exact ⟨_, (a0), (by first | rfl | (simp; done) | (simp [*]; done)), H', ⟨by have := HJ1.out; have := HJ5.out; first | omega | exact Nat.le_refl _⟩, by repeat (first | exact Drawn0.refl _ | apply Drawn0.step)⟩
          case rest =>
            clear HC11
            try clear c1
            try clear p1
            try clear q1
            try clear hx1
            try clear qi1
            try clear c2
            try clear p2
            try clear c3
            try clear c3b0
            try clear c3b1
            try clear c4
            try clear c4b0
            try clear c4b1
            try clear c5
            try clear p5
            try clear q5
            try clear hx5
            try clear qi5
            try clear c7
            try clear c8
            try clear c8b0
            try clear c8b1
            try clear c9
            try clear c9b0
            try clear c9b1
            try clear p10
            try clear q10
            try clear hx10
            try clear qi10
            try clear c12
            try clear c13
            try clear c13b0
            try clear c13b1
            try clear p1
            try clear p10
            try clear p2
            try clear p5
            try clear q1
            try clear q10
            try clear q5
            obtain ⟨kq, x0_10, rfl, HA, HJ10, ⟨mc10, rfl⟩⟩ := hcut
            cases kq with
            | zero => exact absurd HA.out (by simp [cast_Int.j2])
            | succ kj10 =>
              have H := HA.out
              clear HA
              simp only [cast_Int.j2] at H
              by_cases c14 : x0_10.toList = ([] : List UInt8)
              · rw [if_pos c14] at H
                have c14b0 : (x0_10.toList == ([] : List UInt8)) = true := beq_iff_eq.mpr c14
                have c14b1 : (x0_10.toList != ([] : List UInt8)) = false := bne_eq_false_iff_eq.mpr c14
                clear c14
                simp only [Option.some.injEq, Prod.mk.injEq] at H
                obtain ⟨rfl, rfl⟩ := H
                go_wp2
                repeat ((first | (refine wp_scope_in cast_Int.C0 rfl (fun Gs_ => ?_)) | (refine wp_label (l := 0) ?_; try simp only [Exit.then]) | (refine wp_goto (l := 0) (hop (l := 0) (c := cast_Int.C0) rfl ?_))); try go_wp2)
                (try ((try simp only [Exit.inBlock, Exit.then]); refine post_ret ?_))
                go_ret2
                exact ⟨by first | rfl | (simp; done) | (simp [*]; done), by repeat (first | exact Drawn0.refl _ | apply Drawn0.step)⟩
              rw [if_neg c14] at H
              have c14b0 : (x0_10.toList == ([] : List UInt8)) = false := beq_eq_false_iff_ne.mpr c14
              have c14b1 : (x0_10.toList != ([] : List UInt8)) = true := bne_iff_ne.mpr c14
              have H' := Aside0.mk H
              clear H
              go_wp2
              repeat ((first | (refine wp_scope_in cast_Int.C0 rfl (fun Gs_ => ?_)) | (refine wp_label (l := 0) ?_; try simp only [Exit.then]) | (refine wp_goto (l := 0) (hop (l := 0) (c := cast_Int.C0) rfl ?_))); try go_wp2)
              (first | (go_step3; go_step; go_step) | refine wp_skip_seq ?_)
              refine wp_label_loop (c := cast_Int.C0) 1 rfl rfl (fun el kq a_ w' => ∃ u2 u3 v5 v6 v7 u8 u9 u10 u11 u12 u13 u14 u15 u16 u17 u18 u19 u20 u21 u22 u23 u24 u25 u26 u27 u28 u29 u30 u31 u32 u33 u34 u35 u36 u37 u38 u39 u40 u41 u42 u43 u44 u45 u46 u47 u48 u49 u50 u51 u52 u53 u54 u55 u56 u57 u58 u59 u60 u61 u62 u63 u64 u65 u66 u67 u68 u69 u70 u71 u72 u73 u74 u75 u76 u77 u78 u79 : Value, (∃ (x5_4 : Int) (x6_4 : Bool) (x7_4 : Int), v5 = .int .i64 x5_4 ∧ v6 = .bool x6_4 ∧ v7 = .int .i64 x7_4 ∧ Aside0 (cast_Int.l0 kq x0_10 x4_1 x5_4 x6_4 x7_4 = some (r1, r2)) ∧ Aside0 (kq ≤ kj10) ∧ Drawn0 w w') ∧ a_ = ⟨[gt el 0, gt el 1, u2, u3, gt el 4, v5, v6, v7, u8, u9, u10, u11, u12, u13, u14, u15, u16, u17, u18, u19, u20, u21, u22, u23, u24, u25, u26, u27, u28, u29, u30, u31, u32, u33, u34, u35, u36, u37, u38, u39, u40, u41, u42, u43, u44, u45, u46, u47, u48, u49, u50, u51, u52, u53, u54, u55, u56, u57, u58, u59, u60, u61, u62, u63, u64, u65, u66, u67, u68, u69, u70, u71, u72, u73, u74, u75, u76, u77, u78, u79].toArray, []⟩) kj10 ?_ ?_
              · (repeat apply Exists.intro)
                refine ⟨?_, rfl⟩
                exact ⟨(0), (false), (0), (by first | rfl | (simp; done) | (simp [*]; done)), (by first | rfl | (simp; done) | (simp [*]; done)), (by first | rfl | (simp; done) | (simp [*]; done)), H', ⟨Nat.le_refl _⟩, by repeat (first | exact Drawn0.refl _ | apply Drawn0.step)⟩
              · intro gk a_ wr hinv Jq_ HJ_ Gs_ HG_ HL_
                obtain ⟨u2, u3, u5, u6, u7, u8, u9, u10, u11, u12, u13, u14, u15, u16, u17, u18, u19, u20, u21, u22, u23, u24, u25, u26, u27, u28, u29, u30, u31, u32, u33, u34, u35, u36, u37, u38, u39, u40, u41, u42, u43, u44, u45, u46, u47, u48, u49, u50, u51, u52, u53, u54, u55, u56, u57, u58, u59, u60, u61, u62, u63, u64, u65, u66, u67, u68, u69, u70, u71, u72, u73, u74, u75, u76, u77, u78, u79, hrel, rfl⟩ := hinv
                try simp only [gt_zero, gt_succ]
                have HJ1 := Aside0.mk HJ_
                have HG1 := Aside0.mk HG_
                clear HJ_ HG_ HL_
                clear H'
                try clear c1
                try clear p1
                try clear q1
                try clear hx1
                try clear qi1
                try clear c2
                try clear p2
                try clear c3
                try clear c3b0
                try clear c3b1
                try clear p3
                try clear c4
                try clear c4b0
                try clear c4b1
                try clear c5
                try clear p5
                try clear q5
                try clear hx5
                try clear qi5
                try clear c7
                try clear c8
                try clear c8b0
                try clear c8b1
                try clear c9
                try clear c9b0
                try clear c9b1
                try clear c10
                try clear p10
                try clear q10
                try clear hx10
                try clear qi10
                try clear c12
                try clear c13
                try clear c13b0
                try clear c13b1
                try clear c14
                try clear c14b0
                try clear c14b1
                try clear p1
                try clear p10
                try clear p2
                try clear p5
                try clear q1
                try clear q10
                try clear q5
                obtain ⟨x5_4, x6_4, x7_4, rfl, rfl, rfl, HA, HK4, ⟨m4, rfl⟩⟩ := hrel
                cases gk with
                | zero => exact absurd HA.out (by simp [cast_Int.l0])
                | succ k4 =>
                  have H := HA.out
                  clear HA
                  simp only [cast_Int.l0] at H
                  by_cases c15 : x7_4 = (x0_10.size : Int)
                  · rw [if_pos c15] at H
                    have c15b0 : (x7_4 == (x0_10.size : Int)) = true := beq_iff_eq.mpr c15
                    have c15b1 : (x7_4 != (x0_10.size : Int)) = false := bne_eq_false_iff_eq.mpr c15
                    clear c15
                    have HC16 := Aside0.mk H
                    clear H
                    go_upto_region 16 with (fail)
                    repeat ((first | (refine wp_scope_in cast_Int.C0 rfl (fun Gs_ => ?_)) | (refine wp_label (l := 0) ?_; try simp only [Exit.then]) | (refine wp_goto (l := 0) (hop (l := 0) (c := cast_Int.C0) rfl ?_))); try go_upto_region 16 with (fail))
                    go_cut [65] (fun v65 wc => ∃ (kq : Nat) (x65_15 : Bool), v65 = .bool x65_15 ∧ Aside0 (cast_Int.j4 kq x4_1 x5_4 x65_15 = some (r1, r2)) ∧ Aside0 (kq ≤ k4) ∧ Drawn0 w wc)
                    case first =>
                      have H := HC16.out
                      clear HC16
                      by_cases c17 : x6_4 = true
                      · subst c17
                        have H1 : (cast_Int.j4 k4 x4_1 x5_4 true) = some (r1, r2) := by rw [if_pos rfl] at H; exact H
                        clear H
                        have H := H1
                        clear H1
                        have H' := Aside0.mk H
                        clear H
                        go_wp2
                        repeat ((first | (refine wp_scope_in cast_Int.C0 rfl (fun Gs_ => ?_)) | (refine wp_label (l := 0) ?_; try simp only [Exit.then]) | (refine wp_goto (l := 0) (hop (l := 0) (c := cast_Int.C0) rfl ?_))); try go_wp2)
                        go_meet
                        case rel => exact ⟨_, (true), (by first | rfl | (simp; done) | (simp [*]; done)), H', ⟨by have := HJ1.out; have := HJ5.out; have := HJ10.out; have := HK4.out; first | omega | exact Nat.le_refl _⟩, by repeat (first | exact Drawn0.refl _ | apply Drawn0.step)⟩
                      · replace c17 := Bool.eq_false_iff.mpr c17
                        subst c17
                        have H1 : (if x4_1 = true then (cast_Int.j4 k4 x4_1 x5_4 false) else (cast_Int.j4 k4 x4_1 x5_4 (x5_4 == (-9223372036854775808)))) = some (r1, r2) := by rw [if_neg (show ¬ (false = true) by decide)] at H; exact H
                        clear H
                        have H := H1
                        clear H1
                        by_cases c18 : x4_1 = true
                        · subst c18
                          have H1 : (cast_Int.j4 k4 true x5_4 false) = some (r1, r2) := by rw [if_pos rfl] at H; exact H
                          clear H
                          have H := H1
                          clear H1
                          have H' := Aside0.mk H
                          clear H
                          go_wp2
                          repeat ((first | (refine wp_scope_in cast_Int.C0 rfl (fun Gs_ => ?_)) | (refine wp_label (l := 0) ?_; try simp only [Exit.then]) | (refine wp_goto (l := 0) (hop (l := 0) (c := cast_Int.C0) rfl ?_))); try go_wp2)
                          go_meet
                          case rel => exact ⟨_, (false), (by first | rfl | (simp; done) | (simp [*]; done)), H', ⟨by have := HJ1.out; have := HJ5.out; have := HJ10.out; have := HK4.out; first | omega | exact Nat.le_refl _⟩, by repeat (first | exact Drawn0.refl _ | apply Drawn0.step)⟩
                        · replace c18 := Bool.eq_false_iff.mpr c18
                          subst c18
                          have H1 : (cast_Int.j4 k4 false x5_4 (x5_4 == (-9223372036854775808))) = some (r1, r2) := by rw [if_neg (show ¬ (false = true) by decide)] at H; exact H
                          clear H
                          have H := H1
                          clear H1
                          have H' := Aside0.mk H
                          clear H
                          go_wp2
                          repeat ((first | (refine wp_scope_in cast_Int.C0 rfl (fun Gs_ => ?_)) | (refine wp_label (l := 0) ?_; try simp only [Exit.then]) | (refine wp_goto (l := 0) (hop (l := 0) (c := cast_Int.C0) rfl ?_))); try go_wp2)
                          go_meet
                          case rel => exact ⟨_, ((x5_4 == (-9223372036854775808))), (by first | rfl | (simp; done) | (simp [*]; done)), H', ⟨by have := HJ1.out; have := HJ5.out; have := HJ10.out; have := HK4.out; first | omega | exact Nat.le_refl _⟩, by repeat (first | exact Drawn0.refl _ | apply Drawn0.step)⟩
                    case rest =>
                      clear HC16
                      try clear c1
                      try clear p1
                      try clear q1
                      try clear hx1
                      try clear qi1
                      try clear c2
                      try clear p2
                      try clear c3
                      try clear c3b0
                      try clear c3b1
                      try clear p3
                      try clear c4
                      try clear c4b0
                      try clear c4b1
                      try clear c5
                      try clear p5
                      try clear q5
                      try clear hx5
                      try clear qi5
                      try clear c7
                      try clear c8
                      try clear c8b0
                      try clear c8b1
                      try clear c9
                      try clear c9b0
                      try clear c9b1
                      try clear c10
                      try clear p10
                      try clear q10
                      try clear hx10
                      try clear qi10
                      try clear c12
                      try clear c13
                      try clear c13b0
                      try clear c13b1
                      try clear c14
                      try clear c14b0
                      try clear c14b1
                      try clear c15
                      try clear c15b0
                      try clear c15b1
                      try clear c17
                      try clear c18
                      try clear p1
                      try clear p10
                      try clear p2
                      try clear p3
                      try clear p5
                      try clear q1
                      try clear q10
                      try clear q5
                      obtain ⟨kq, x65_15, rfl, HA, HJ15, ⟨mc15, rfl⟩⟩ := hcut
                      cases kq with
                      | zero => exact absurd HA.out (by simp [cast_Int.j4])
                      | succ kj15 =>
                        have H := HA.out
                        clear HA
                        simp only [cast_Int.j4] at H
                        by_cases c19 : x65_15 = true
                        · subst c19
                          have H1 : (some (0, 5)) = some (r1, r2) := by rw [if_pos rfl] at H; exact H
                          clear H
                          have H := H1
                          clear H1
                          simp only [Option.some.injEq, Prod.mk.injEq] at H
                          obtain ⟨rfl, rfl⟩ := H
                          go_wp2
                          repeat ((first | (refine wp_scope_in cast_Int.C0 rfl (fun Gs_ => ?_)) | (refine wp_label (l := 0) ?_; try simp only [Exit.then]) | (refine wp_goto (l := 0) (hop (l := 0) (c := cast_Int.C0) rfl ?_))); try go_wp2)
                          (try ((try simp only [Exit.inBlock, Exit.then]); refine post_ret ?_))
                          go_ret2
                          exact ⟨by first | rfl | (simp; done) | (simp [*]; done), by repeat (first | exact Drawn0.refl _ | apply Drawn0.step)⟩
                        · replace c19 := Bool.eq_false_iff.mpr c19
                          subst c19
                          have H1 : (if x4_1 = true then (some (x5_4, 0)) else (some (wrap64 (-x5_4), 0))) = some (r1, r2) := by rw [if_neg (show ¬ (false = true) by decide)] at H; exact H
                          clear H
                          have H := H1
                          clear H1
                          by_cases c20 : x4_1 = true
                          · subst c20
                            have H1 : (some (x5_4, 0)) = some (r1, r2) := by rw [if_pos rfl] at H; exact H
                            clear H
                            have H := H1
                            clear H1
                            simp only [Option.some.injEq, Prod.mk.injEq] at H
                            obtain ⟨rfl, rfl⟩ := H
                            go_wp2
                            repeat ((first | (refine wp_scope_in cast_Int.C0 rfl (fun Gs_ => ?_)) | (refine wp_label (l := 0) ?_; try simp only [Exit.then]) | (refine wp_goto (l := 0) (hop (l := 0) (c := cast_Int.C0) rfl ?_))); try go_wp2)
                            (try ((try simp only [Exit.inBlock, Exit.then]); refine post_ret ?_))
                            go_ret2
                            exact ⟨by first | rfl | (simp; done) | (simp [*]; done), by repeat (first | exact Drawn0.refl _ | apply Drawn0.step)⟩
                          · replace c20 := Bool.eq_false_iff.mpr c20
                            subst c20
                            have H1 : (some (wrap64 (-x5_4), 0)) = some (r1, r2) := by rw [if_neg (show ¬ (false = true) by decide)] at H; exact H
                            clear H
                            have H := H1
                            clear H1
                            simp only [Option.some.injEq, Prod.mk.injEq] at H
                            obtain ⟨rfl, rfl⟩ := H
                            go_wp2
                            repeat ((first | (refine wp_scope_in cast_Int.C0 rfl (fun Gs_ => ?_)) | (refine wp_label (l := 0) ?_; try simp only [Exit.then]) | (refine wp_goto (l := 0) (hop (l := 0) (c := cast_Int.C0) rfl ?_))); try go_wp2)
                            (try ((try simp only [Exit.inBlock, Exit.then]); refine post_ret ?_))
                            go_ret2
                            exact ⟨by first | rfl | (simp; done) | (simp [*]; done), by repeat (first | exact Drawn0.refl _ | apply Drawn0.step)⟩
                  rw [if_neg c15] at H
                  have c15b0 : (x7_4 == (x0_10.size : Int)) = false := beq_eq_false_iff_ne.mpr c15
                  have c15b1 : (x7_4 != (x0_10.size : Int)) = true := bne_iff_ne.mpr c15
                  have HC21 := Aside0.mk H
                  clear H
                  go_upto_region 9 with (fail)
                  repeat ((first | (refine wp_scope_in cast_Int.C0 rfl (fun Gs_ => ?_)) | (refine wp_label (l := 0) ?_; try simp only [Exit.then]) | (refine wp_goto (l := 0) (hop (l := 0) (c := cast_Int.C0) rfl ?_))); try go_upto_region 9 with (fail))
                  go_cut [45] (fun v45 wc => ∃ (kq : Nat) (x45_20 : Bool), v45 = .bool x45_20 ∧ Aside0 (cast_Int.j5 kq x0_10 x4_1 x5_4 x6_4 x7_4 x45_20 = some (r1, r2)) ∧ Aside0 (kq ≤ k4) ∧ Drawn0 w wc)
                  case first =>
                    have H := HC21.out
                    clear HC21
                    by_cases c22 : 0 ≤ x7_4
                    rotate_left
                    · rw [if_neg c22] at H
                      exact absurd H (by simp)
                    rw [if_pos c22] at H
                    have c22b0 : decide (0 ≤ x7_4) = true := decide_eq_true c22
                    clear c22
                    (first | rw [c22b0] | (simp only [i64_w, i32_w]; rw [c22b0]) | skip)
                    by_cases c23 : x7_4 < (x0_10.size : Int)
                    rotate_left
                    · rw [if_neg c23] at H
                      exact absurd H (by simp)
                    rw [if_pos c23] at H
                    have c23b0 : decide (x7_4 < (x0_10.size : Int)) = true := decide_eq_true c23
                    clear c23
                    by_cases c25 : (bt x0_10 x7_4) < 48
                    · rw [if_pos c25] at H
                      have c25b0 : decide ((bt x0_10 x7_4) < 48) = true := decide_eq_true c25
                      clear c25
                      have H' := Aside0.mk H
                      clear H
                      have p24 : 0 ≤ (x7_4 : Int) := of_decide_eq_true (by first | (with_reducible assumption) | assumption)
                      have q24 : x7_4 < (x0_10.size : Int) := of_decide_eq_true (by first | (with_reducible assumption) | assumption)
                      have hx24 := bt_at x0_10 x7_4
                      replace p24 := eq_true p24
                      replace q24 := eq_true q24
                      go_wp2
                      repeat ((first | (refine wp_scope_in cast_Int.C0 rfl (fun Gs_ => ?_)) | (refine wp_label (l := 0) ?_; try simp only [Exit.then]) | (refine wp_goto (l := 0) (hop (l := 0) (c := cast_Int.C0) rfl ?_))); try go_wp2)
                      go_meet
                      case rel => exact ⟨_, (true), (by first | rfl | (simp; done) | (simp [*]; done)), H', ⟨by have := HJ1.out; have := HJ5.out; have := HJ10.out; have := HK4.out; first | omega | exact Nat.le_refl _⟩, by repeat (first | exact Drawn0.refl _ | apply Drawn0.step)⟩
                    rw [if_neg c25] at H
                    have c25b0 : decide ((bt x0_10 x7_4) < 48) = false := decide_eq_false c25
                    clear c25
                    have H' := Aside0.mk H
                    clear H
                    have p24 : 0 ≤ (x7_4 : Int) := of_decide_eq_true (by first | (with_reducible assumption) | assumption)
                    have q24 : x7_4 < (x0_10.size : Int) := of_decide_eq_true (by first | (with_reducible assumption) | assumption)
                    have hx24 := bt_at x0_10 x7_4
                    replace p24 := eq_true p24
                    replace q24 := eq_true q24
                    have p26 : 0 ≤ (x7_4 : Int) := of_decide_eq_true (by first | (with_reducible assumption) | assumption)
                    have q26 : x7_4 < (x0_10.size : Int) := of_decide_eq_true (by first | (with_reducible assumption) | assumption)
                    have hx26 := bt_at x0_10 x7_4
                    replace p26 := eq_true p26
                    replace q26 := eq_true q26
                    go_wp2
                    repeat ((first | (refine wp_scope_in cast_Int.C0 rfl (fun Gs_ => ?_)) | (refine wp_label (l := 0) ?_; try simp only [Exit.then]) | (refine wp_goto (l := 0) (hop (l := 0) (c := cast_Int.C0) rfl ?_))); try go_wp2)
                    go_meet
                    case rel => exact ⟨_, (decide ((bt x0_10 x7_4) > 57)), (by first | rfl | (simp; done) | (simp [*]; done)), H', ⟨by have := HJ1.out; have := HJ5.out; have := HJ10.out; have := HK4.out; first | omega | exact Nat.le_refl _⟩, by repeat (first | exact Drawn0.refl _ | apply Drawn0.step)⟩
                  case rest =>
                    clear HC21
                    try clear c1
                    try clear p1
                    try clear q1
                    try clear hx1
                    try clear qi1
                    try clear c2
                    try clear p2
                    try clear q2
                    try clear hx2
                    try clear c3
                    try clear c3b0
                    try clear c3b1
                    try clear p3
                    try clear c4
                    try clear c4b0
                    try clear c4b1
                    try clear c5
                    try clear p5
                    try clear q5
                    try clear hx5
                    try clear qi5
                    try clear p6
                    try clear c7
                    try clear c8
                    try clear c8b0
                    try clear c8b1
                    try clear c9
                    try clear c9b0
                    try clear c9b1
                    try clear c10
                    try clear p10
                    try clear q10
                    try clear hx10
                    try clear qi10
                    try clear c12
                    try clear c13
                    try clear c13b0
                    try clear c13b1
                    try clear c14
                    try clear c14b0
                    try clear c14b1
                    try clear c15
                    try clear c15b0
                    try clear c15b1
                    try clear c17
                    try clear c18
                    try clear c19
                    try clear c20
                    try clear c22
                    try clear c22b0
                    try clear c23
                    try clear c23b0
                    try clear p24
                    try clear q24
                    try clear hx24
                    try clear c25
                    try clear c25b0
                    try clear c26
                    try clear p26
                    try clear q26
                    try clear hx26
                    try clear p1
                    try clear p10
                    try clear p2
                    try clear p24
                    try clear p26
                    try clear p3
                    try clear p5
                    try clear q1
                    try clear q10
                    try clear q24
                    try clear q26
                    try clear q5
                    obtain ⟨kq, x45_20, rfl, HA, HJ20, ⟨mc20, rfl⟩⟩ := hcut
                    cases kq with
                    | zero => exact absurd HA.out (by simp [cast_Int.j5])
                    | succ kj20 =>
                      have H := HA.out
                      clear HA
                      simp only [cast_Int.j5] at H
                      by_cases c27 : x45_20 = true
                      · subst c27
                        have H1 : (some (0, 4)) = some (r1, r2) := by rw [if_pos rfl] at H; exact H
                        clear H
                        have H := H1
                        clear H1
                        simp only [Option.some.injEq, Prod.mk.injEq] at H
                        obtain ⟨rfl, rfl⟩ := H
                        go_wp2
                        repeat ((first | (refine wp_scope_in cast_Int.C0 rfl (fun Gs_ => ?_)) | (refine wp_label (l := 0) ?_; try simp only [Exit.then]) | (refine wp_goto (l := 0) (hop (l := 0) (c := cast_Int.C0) rfl ?_))); try go_wp2)
                        (try ((try simp only [Exit.inBlock, Exit.then]); refine post_ret ?_))
                        go_ret2
                        exact ⟨by first | rfl | (simp; done) | (simp [*]; done), by repeat (first | exact Drawn0.refl _ | apply Drawn0.step)⟩
                      · replace c27 := Bool.eq_false_iff.mpr c27
                        subst c27
                        have H1 : (if 0 ≤ x7_4 then (if x7_4 < (x0_10.size : Int) then (if x6_4 = true then (cast_Int.j6 kj20 x0_10 x4_1 x5_4 x6_4 x7_4 (((bt x0_10 x7_4) - 48) % 256) true) else (cast_Int.j6 kj20 x0_10 x4_1 x5_4 x6_4 x7_4 (((bt x0_10 x7_4) - 48) % 256) (decide (x5_4 < (Int.tdiv ((-9223372036854775808) + (((bt x0_10 x7_4) - 48) % 256)) 10))))) else (none)) else (none)) = some (r1, r2) := by rw [if_neg (show ¬ (false = true) by decide)] at H; exact H
                        clear H
                        have H := H1
                        clear H1
                        by_cases c28 : 0 ≤ x7_4
                        rotate_left
                        · rw [if_neg c28] at H
                          exact absurd H (by simp)
                        rw [if_pos c28] at H
                        have c28b0 : decide (0 ≤ x7_4) = true := decide_eq_true c28
                        clear c28
                        by_cases c29 : x7_4 < (x0_10.size : Int)
                        rotate_left
                        · rw [if_neg c29] at H
                          exact absurd H (by simp)
                        rw [if_pos c29] at H
                        have c29b0 : decide (x7_4 < (x0_10.size : Int)) = true := decide_eq_true c29
                        clear c29
                        have HC31 := Aside0.mk H
                        clear H
                        have p30 : 0 ≤ (x7_4 : Int) := of_decide_eq_true (by first | (with_reducible assumption) | assumption)
                        have q30 : x7_4 < (x0_10.size : Int) := of_decide_eq_true (by first | (with_reducible assumption) | assumption)
                        have hx30 := bt_at x0_10 x7_4
                        replace p30 := eq_true p30
                        replace q30 := eq_true q30
                        go_upto_region 12 with (fail)
                        repeat ((first | (refine wp_scope_in cast_Int.C0 rfl (fun Gs_ => ?_)) | (refine wp_label (l := 0) ?_; try simp only [Exit.then]) | (refine wp_goto (l := 0) (hop (l := 0) (c := cast_Int.C0) rfl ?_))); try go_upto_region 12 with (fail))
                        go_cut [58] (fun v58 wc => ∃ (kq : Nat) (x58_30 : Bool), v58 = .bool x58_30 ∧ Aside0 (cast_Int.j6 kq x0_10 x4_1 x5_4 x6_4 x7_4 (((bt x0_10 x7_4) - 48) % 256) x58_30 = some (r1, r2)) ∧ Aside0 (kq ≤ kj20) ∧ Drawn0 w wc)
                        case first =>
                          have H := HC31.out
                          clear HC31
                          by_cases c32 : x6_4 = true
                          · subst c32
                            have H1 : (cast_Int.j6 kj20 x0_10 x4_1 x5_4 true x7_4 (((bt x0_10 x7_4) - 48) % 256) true) = some (r1, r2) := by rw [if_pos rfl] at H; exact H
                            clear H
                            have H := H1
                            clear H1
                            have H' := Aside0.mk H
                            clear H
                            go_wp2
                            repeat ((first | (refine wp_scope_in cast_Int.C0 rfl (fun Gs_ => ?_)) | (refine wp_label (l := 0) ?_; try simp only [Exit.then]) | (refine wp_goto (l := 0) (hop (l := 0) (c := cast_Int.C0) rfl ?_))); try go_wp2)
                            go_meet
                            case rel => exact ⟨_, (true), (by first | rfl | (simp; done) | (simp [*]; done)), H', ⟨by have := HJ1.out; have := HJ5.out; have := HJ10.out; have := HK4.out; have := HJ20.out; first | omega | exact Nat.le_refl _⟩, by repeat (first | exact Drawn0.refl _ | apply Drawn0.step)⟩
                          · replace c32 := Bool.eq_false_iff.mpr c32
                            subst c32
                            have H1 : (cast_Int.j6 kj20 x0_10 x4_1 x5_4 false x7_4 (((bt x0_10 x7_4) - 48) % 256) (decide (x5_4 < (Int.tdiv ((-9223372036854775808) + (((bt x0_10 x7_4) - 48) % 256)) 10)))) = some (r1, r2) := by rw [if_neg (show ¬ (false = true) by decide)] at H; exact H
                            clear H
                            have H := H1
                            clear H1
                            have H' := Aside0.mk H
                            clear H
                            go_wp2
                            repeat ((first | (refine wp_scope_in cast_Int.C0 rfl (fun Gs_ => ?_)) | (refine wp_label (l := 0) ?_; try simp only [Exit.then]) | (refine wp_goto (l := 0) (hop (l := 0) (c := cast_Int.C0) rfl ?_))); try go_wp2)
                            go_meet
                            case rel => exact ⟨_, (decide (x5_4 < (Int.tdiv ((-9223372036854775808) + (((bt x0_10 x7_4) - 48) % 256)) 10))), (by first | rfl | (simp; done) | (simp [*]; done)), H', ⟨by have := HJ1.out; have := HJ5.out; have := HJ10.out; have := HK4.out; have := HJ20.out; first | omega | exact Nat.le_refl _⟩, by repeat (first | exact Drawn0.refl _ | apply Drawn0.step)⟩
                        case rest =>
                          clear HC31
                          try clear c1
                          try clear p1
                          try clear q1
                          try clear hx1
                          try clear qi1
                          try clear c2
                          try clear p2
                          try clear q2
                          try clear hx2
                          try clear c3
                          try clear c3b0
                          try clear c3b1
                          try clear p3
                          try clear q3
                          try clear hx3
                          try clear c4
                          try clear c4b0
                          try clear c4b1
                          try clear c5
                          try clear p5
                          try clear q5
                          try clear hx5
                          try clear qi5
                          try clear p6
                          try clear c7
                          try clear c8
                          try clear c8b0
                          try clear c8b1
                          try clear c9
                          try clear c9b0
                          try clear c9b1
                          try clear c10
                          try clear p10
                          try clear q10
                          try clear hx10
                          try clear qi10
                          try clear c12
                          try clear c13
                          try clear c13b0
                          try clear c13b1
                          try clear c14
                          try clear c14b0
                          try clear c14b1
                          try clear c15
                          try clear c15b0
                          try clear c15b1
                          try clear c17
                          try clear c18
                          try clear c19
                          try clear c20
                          try clear c22
                          try clear c22b0
                          try clear c23
                          try clear c23b0
                          try clear p24
                          try clear q24
                          try clear hx24
                          try clear c25
                          try clear c25b0
                          try clear c26
                          try clear p26
                          try clear q26
                          try clear hx26
                          try clear c27
                          try clear c28
                          try clear c28b0
                          try clear c29
                          try clear c29b0
                          try clear p30
                          try clear q30
                          try clear hx30
                          try clear c32
                          try clear p1
                          try clear p10
                          try clear p2
                          try clear p24
                          try clear p26
                          try clear p3
                          try clear p30
                          try clear p5
                          try clear p6
                          try clear q1
                          try clear q10
                          try clear q2
                          try clear q24
                          try clear q26
                          try clear q30
                          try clear q5
                          obtain ⟨kq, x58_30, rfl, HA, HJ30, ⟨mc30, rfl⟩⟩ := hcut
                          cases kq with
                          | zero => exact absurd HA.out (by simp [cast_Int.j6])
                          | succ kj30 =>
                            have H := HA.out
                            clear HA
                            simp only [cast_Int.j6] at H
                            have HC33 := Aside0.mk H
                            clear H
                            go_upto_if 58 with (fail)
                            repeat ((first | (refine wp_scope_in cast_Int.C0 rfl (fun Gs_ => ?_)) | (refine wp_label (l := 0) ?_; try simp only [Exit.then]) | (refine wp_goto (l := 0) (hop (l := 0) (c := cast_Int.C0) rfl ?_))); try go_upto_if 58 with (fail))
                            go_cut [5, 6] (fun v5 v6 wc => ∃ (kq : Nat) (x5_32 : Int) (x6_32 : Bool), v5 = .int .i64 x5_32 ∧ v6 = .bool x6_32 ∧ Aside0 (cast_Int.j7 kq x0_10 x4_1 x5_32 x6_32 x7_4 = some (r1, r2)) ∧ Aside0 (kq ≤ kj30) ∧ Drawn0 w wc)
                            case first =>
                              have H := HC33.out
                              clear HC33
                              by_cases c34 : x58_30 = true
                              · subst c34
                                have H1 : (cast_Int.j7 kj30 x0_10 x4_1 x5_4 true x7_4) = some (r1, r2) := by rw [if_pos rfl] at H; exact H
                                clear H
                                have H := H1
                                clear H1
                                have H' := Aside0.mk H
                                clear H
                                go_wp2
                                repeat ((first | (refine wp_scope_in cast_Int.C0 rfl (fun Gs_ => ?_)) | (refine wp_label (l := 0) ?_; try simp only [Exit.then]) | (refine wp_goto (l := 0) (hop (l := 0) (c := cast_Int.C0) rfl ?_))); try go_wp2)
                                go_meet
                                case rel => exact ⟨_, (x5_4), (true), (by first | rfl | (simp; done) | (simp [*]; done)), (by first | rfl | (simp; done) | (simp [*]; done)), H', ⟨by have := HJ1.out; have := HJ5.out; have := HJ10.out; have := HK4.out; have := HJ20.out; have := HJ30.out; first | omega | exact Nat.le_refl _⟩, by repeat (first | exact Drawn0.refl _ | apply Drawn0.step)⟩
                              · replace c34 := Bool.eq_false_iff.mpr c34
                                subst c34
                                have H1 : (cast_Int.j7 kj30 x0_10 x4_1 (wrap64 ((wrap64 (10 * x5_4)) - (((bt x0_10 x7_4) - 48) % 256))) x6_4 x7_4) = some (r1, r2) := by rw [if_neg (show ¬ (false = true) by decide)] at H; exact H
                                clear H
                                have H := H1
                                clear H1
                                have H' := Aside0.mk H
                                clear H
                                go_wp2
                                repeat ((first | (refine wp_scope_in cast_Int.C0 rfl (fun Gs_ => ?_)) | (refine wp_label (l := 0) ?_; try simp only [Exit.then]) | (refine wp_goto (l := 0) (hop (l := 0) (c := cast_Int.C0) rfl ?_))); try go_wp2)
                                go_meet
                                case rel => exact ⟨_, (wrap64 ((wrap64 (10 * x5_4)) - (((bt x0_10 x7_4) - 48) % 256))), (x6_4), (by first | rfl | (simp; done) | (simp [*]; done)), (by first | rfl | (simp; done) | (simp [*]; done)), H', ⟨by have := HJ1.out; have := HJ5.out; have := HJ10.out; have := HK4.out; have := HJ20.out; have := HJ30.out; first | omega | exact Nat.le_refl _⟩, by repeat (first | exact Drawn0.refl _ | apply Drawn0.step)⟩
                            case rest =>
                              clear HC33
                              try clear c1
                              try clear p1
                              try clear q1
                              try clear hx1
                              try clear qi1
                              try clear c2
                              try clear p2
                              try clear q2
                              try clear hx2
                              try clear c3
                              try clear c3b0
                              try clear c3b1
                              try clear p3
                              try clear q3
                              try clear hx3
                              try clear c4
                              try clear c4b0
                              try clear c4b1
                              try clear c5
                              try clear p5
                              try clear q5
                              try clear hx5
                              try clear qi5
                              try clear p6
                              try clear c7
                              try clear c8
                              try clear c8b0
                              try clear c8b1
                              try clear c9
                              try clear c9b0
                              try clear c9b1
                              try clear c10
                              try clear p10
                              try clear q10
                              try clear hx10
                              try clear qi10
                              try clear c12
                              try clear c13
                              try clear c13b0
                              try clear c13b1
                              try clear c14
                              try clear c14b0
                              try clear c14b1
                              try clear c15
                              try clear c15b0
                              try clear c15b1
                              try clear c17
                              try clear c18
                              try clear c19
                              try clear c20
                              try clear c22
                              try clear c22b0
                              try clear c23
                              try clear c23b0
                              try clear p24
                              try clear q24
                              try clear hx24
                              try clear c25
                              try clear c25b0
                              try clear c26
                              try clear p26
                              try clear q26
                              try clear hx26
                              try clear c27
                              try clear c28
                              try clear c28b0
                              try clear c29
                              try clear c29b0
                              try clear c30
                              try clear p30
                              try clear q30
                              try clear hx30
                              try clear c32
                              try clear c34
                              try clear p1
                              try clear p10
                              try clear p2
                              try clear p24
                              try clear p26
                              try clear p3
                              try clear p30
                              try clear p5
                              try clear p6
                              try clear q1
                              try clear q10
                              try clear q2
                              try clear q24
                              try clear q26
                              try clear q3
                              try clear q30
                              try clear q5
                              obtain ⟨kq, x5_32, x6_32, rfl, rfl, HA, HJ32, ⟨mc32, rfl⟩⟩ := hcut
                              cases kq with
                              | zero => exact absurd HA.out (by simp [cast_Int.j7])
                              | succ kj32 =>
                                have H := HA.out
                                clear HA
                                simp only [cast_Int.j7] at H
                                have H' := Aside0.mk H
                                clear H
                                go_wp2
                                repeat ((first | (refine wp_scope_in cast_Int.C0 rfl (fun Gs_ => ?_)) | (refine wp_label (l := 0) ?_; try simp only [Exit.then]) | (refine wp_goto (l := 0) (hop (l := 0) (c := cast_Int.C0) rfl ?_))); try go_wp2)
                                refine wp_goto (HG1.out _ _ ?_)
                                refine Handed.intro kj32 ?measure ?_
                                rotate_left
                                refine HJ1.out _ _ _ ?_
                                (repeat apply Exists.intro)
                                refine ⟨?rel, rfl⟩
                                case measure => have := HJ1.out; have := HJ5.out; have := HJ10.out; have := HK4.out; have := HJ20.out; have := HJ30.out; have := HJ32.out; omega
                                case rel => exact ⟨(x5_32), (x6_32), (wrap64 (x7_4 + 1)), (by first | rfl | (simp; done) | (simp [*]; done)), (by first | rfl | (simp; done) | (simp [*]; done)), (by first | rfl | (simp; done) | (simp [*]; done)), H', ⟨by have := HJ1.out; have := HJ5.out; have := HJ10.out; have := HK4.out; have := HJ20.out; have := HJ30.out; have := HJ32.out; omega⟩, by repeat (first | exact Drawn0.refl _ | apply Drawn0.step)⟩

end Go.Proofs.Ytaodnkhpiiepiaa.C
