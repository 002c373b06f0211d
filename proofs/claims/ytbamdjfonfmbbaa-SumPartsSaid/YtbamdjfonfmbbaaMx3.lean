-- Made by a program of this session (gprint.py, over the kit's printing program).
import Derived.Test.YtbamdjfonfmbbaaMx0
import Derived.Test.YtbamdjfonfmbbaaMx1
import Derived.Test.YtbamdjfonfmbbaaMx2
namespace Go.Proofs.Ytbamdjfonfmbbaa.M
open Go.RowKit Go.Proofs.YtbamdjfonfmbbaaG Go.Proofs.YtbamdjfonfmbbaaW.PrintWords Go.Proofs.YtbamdjfonfmbbaaW.PrintLast Go.Proofs.YtbamdjfonfmbbaaW.PrintMore
attribute [local go_sem] max2_int min2_int max_two min_two max_three min_three max_four min_four   -- for this text's walks alone
set_option linter.unusedVariables false
set_option linter.unusedSimpArgs false

/-! ### cadastrelaw8_SumParts: function 4 -/
mutual
def cadastrelaw8_SumParts.l0 : Nat → List (S26) → Int → Option (Bool)
  | 0, _, _ => none
  | k + 1, x0, x3 => if x3 < (x0.length : Int) then (cadastrelaw8_SumParts.j1 k x0 x3 (decide (x3 < 20))) else (cadastrelaw8_SumParts.j1 k x0 x3 false)
def cadastrelaw8_SumParts.j1 : Nat → List (S26) → Int → Bool → Option (Bool)
  | 0, _, _, _ => none
  | k + 1, x0, x3, x21 => if x21 = true then (if 0 ≤ x3 then (if x3 < (x0.length : Int) then (if (((rd_T26 x0 x3).f2).length : Int) > 5000 then (cadastrelaw8_SumParts.j2 k x0 x3 true ((rd_T26 x0 x3).f0) ((rd_T26 x0 x3).f1) ((rd_T26 x0 x3).f2) ((rd_T26 x0 x3).f3)) else (cadastrelaw8_SumParts.j2 k x0 x3 ((((rd_T26 x0 x3).f2).length : Int) == 0) ((rd_T26 x0 x3).f0) ((rd_T26 x0 x3).f1) ((rd_T26 x0 x3).f2) ((rd_T26 x0 x3).f3))) else (none)) else (none)) else ((cadastrelaw8_wakes.f k).bind fun t129 => (some t129))
def cadastrelaw8_SumParts.j2 : Nat → List (S26) → Int → Bool → Int → Int → List Int → Int → Option (Bool)
  | 0, _, _, _, _, _, _, _ => none
  | k + 1, x0, x3, x37, x132000, x132001, x132002, x132003 => if x37 = true then (cadastrelaw8_SumParts.l0 k x0 (wrap64 (x3 + 1))) else ((cadastrelaw0_Within.f x132003 (wrap64 ((wrap64 ((x132002.length : Int) / 8)) + 1))).bind fun t132 => ((sum_Sum.f k x132000 x132001 x132002).bind fun bt133 => (if 0 ≤ (wrap64 (8 * t132)) then (if (wrap64 (8 * t132)) ≤ (x132002.length : Int) then ((sum_Sum.f k x132000 x132001 (x132002.take ((wrap64 (8 * t132)) : Int).toNat)).bind fun bt136 => ((sum_Sum.f k bt136.1 bt136.2 (x132002.drop ((wrap64 (8 * t132)) : Int).toNat)).bind fun bt139 => (if bt139.1 = bt133.1 then (cadastrelaw8_SumParts.j3 k x0 x3 bt133.1 bt133.2 (bt139.2 != bt133.2) x132000 x132001 x132002 x132003) else (cadastrelaw8_SumParts.j3 k x0 x3 bt133.1 bt133.2 true x132000 x132001 x132002 x132003)))) else (none)) else (none))))
def cadastrelaw8_SumParts.j3 : Nat → List (S26) → Int → Int → Int → Bool → Int → Int → List Int → Int → Option (Bool)
  | 0, _, _, _, _, _, _, _, _, _ => none
  | k + 1, x0, x3, x6, x7, x86, x132000, x132001, x132002, x132003 => if x86 = true then (some false) else ((cadastreref0_CopyBytes.f k x132002).bind fun t141 => ((cadastrelaw0_Within.f x132003 (t141.length : Int)).bind fun t144 => (if 0 ≤ t144 then (if t144 < (t141.length : Int) then ((cadastrelaw0_Within.f x132003 255).bind fun t146 => ((sum_Sum.f k x132000 x132001 (t141.set (t144 : Int).toNat (Go.bits .xor .u8 (rd t141 t144) ((wrap64 (1 + t146)) % 256)))).bind fun bt148 => (if bt148.1 = x6 then (cadastrelaw8_SumParts.j4 k x0 x3 x6 x7 (bt148.2 == x7) x132000 x132001 x132002 x132003) else (cadastrelaw8_SumParts.j4 k x0 x3 x6 x7 false x132000 x132001 x132002 x132003)))) else (none)) else (none))))
def cadastrelaw8_SumParts.j4 : Nat → List (S26) → Int → Int → Int → Bool → Int → Int → List Int → Int → Option (Bool)
  | 0, _, _, _, _, _, _, _, _, _ => none
  | k + 1, x0, x3, x6, x7, x121, x132000, x132001, x132002, x132003 => if x121 = true then (some false) else ((cadastreref0_CopyBytes.f k x132002).bind fun t150 => (cadastrelaw8_SumParts.l1 k x0 x3 x6 x7 t150 x132000 x132001 x132002 x132003))
def cadastrelaw8_SumParts.l1 : Nat → List (S26) → Int → Int → Int → List Int → Int → Int → List Int → Int → Option (Bool)
  | 0, _, _, _, _, _, _, _, _, _ => none
  | k + 1, x0, x3, x6, x7, x13, x132000, x132001, x132002, x132003 => if ((x13.length : Int) % 8) = 0 then ((sum_Sum.f k x132000 x132001 x13).bind fun bt153 => (if bt153.1 = x6 then (if bt153.2 = x7 then (cadastrelaw8_SumParts.l0 k x0 (wrap64 (x3 + 1))) else (some false)) else (some false))) else (if x13.length < 140737488355328 then (cadastrelaw8_SumParts.l1 k x0 x3 x6 x7 (x13 ++ [0]) x132000 x132001 x132002 x132003) else (none))
end
def cadastrelaw8_SumParts.f (k : Nat) (l0 : List (S26)) : Option (Bool) := cadastrelaw8_SumParts.l0 k l0 0
theorem cadastrelaw8_SumParts.mono_l : ∀ k, (∀ y0 y1, LeO (cadastrelaw8_SumParts.l0 k y0 y1) (cadastrelaw8_SumParts.l0 (k + 1) y0 y1)) ∧ (∀ y0 y1 y2, LeO (cadastrelaw8_SumParts.j1 k y0 y1 y2) (cadastrelaw8_SumParts.j1 (k + 1) y0 y1 y2)) ∧ (∀ y0 y1 y2 y3 y4 y5 y6, LeO (cadastrelaw8_SumParts.j2 k y0 y1 y2 y3 y4 y5 y6) (cadastrelaw8_SumParts.j2 (k + 1) y0 y1 y2 y3 y4 y5 y6)) ∧ (∀ y0 y1 y2 y3 y4 y5 y6 y7 y8, LeO (cadastrelaw8_SumParts.j3 k y0 y1 y2 y3 y4 y5 y6 y7 y8) (cadastrelaw8_SumParts.j3 (k + 1) y0 y1 y2 y3 y4 y5 y6 y7 y8)) ∧ (∀ y0 y1 y2 y3 y4 y5 y6 y7 y8, LeO (cadastrelaw8_SumParts.j4 k y0 y1 y2 y3 y4 y5 y6 y7 y8) (cadastrelaw8_SumParts.j4 (k + 1) y0 y1 y2 y3 y4 y5 y6 y7 y8)) ∧ (∀ y0 y1 y2 y3 y4 y5 y6 y7 y8, LeO (cadastrelaw8_SumParts.l1 k y0 y1 y2 y3 y4 y5 y6 y7 y8) (cadastrelaw8_SumParts.l1 (k + 1) y0 y1 y2 y3 y4 y5 y6 y7 y8))
  | 0 => ⟨fun _ _ r h => by simp [cadastrelaw8_SumParts.l0] at h, fun _ _ _ r h => by simp [cadastrelaw8_SumParts.j1] at h, fun _ _ _ _ _ _ _ r h => by simp [cadastrelaw8_SumParts.j2] at h, fun _ _ _ _ _ _ _ _ _ r h => by simp [cadastrelaw8_SumParts.j3] at h, fun _ _ _ _ _ _ _ _ _ r h => by simp [cadastrelaw8_SumParts.j4] at h, fun _ _ _ _ _ _ _ _ _ r h => by simp [cadastrelaw8_SumParts.l1] at h⟩
  | k + 1 => by
    obtain ⟨ih0, ih1, ih2, ih3, ih4, ih5⟩ := cadastrelaw8_SumParts.mono_l k
    refine ⟨?_, ?_, ?_, ?_, ?_, ?_⟩
    · intro y0 y1
      unfold cadastrelaw8_SumParts.l0
      repeat' first
      | (with_reducible exact ih0 _ _)
      | (with_reducible exact ih1 _ _ _)
      | (with_reducible exact ih2 _ _ _ _ _ _ _)
      | (with_reducible exact ih3 _ _ _ _ _ _ _ _ _)
      | (with_reducible exact ih4 _ _ _ _ _ _ _ _ _)
      | (with_reducible exact ih5 _ _ _ _ _ _ _ _ _)
      | (with_reducible exact cadastrelaw8_wakes.mono _)
      | (with_reducible exact cadastreref0_CopyBytes.mono _ _)
      | (with_reducible exact sum_Sum.mono _ _ _ _)
      | (with_reducible exact LeO.refl _)
      | (with_reducible exact LeO.none _)
      | (with_reducible refine LeO.ite ?_ ?_)
      | (with_reducible refine LeO.bind ?_ (fun _ => ?_))
      | exact ih0 _ _
      | exact ih1 _ _ _
      | exact ih2 _ _ _ _ _ _ _
      | exact ih3 _ _ _ _ _ _ _ _ _
      | exact ih4 _ _ _ _ _ _ _ _ _
      | exact ih5 _ _ _ _ _ _ _ _ _
      | exact cadastrelaw8_wakes.mono _
      | exact cadastreref0_CopyBytes.mono _ _
      | exact sum_Sum.mono _ _ _ _
      | exact LeO.none _
      | refine LeO.ite ?_ ?_
      | refine LeO.bind ?_ (fun _ => ?_)
    · intro y0 y1 y2
      unfold cadastrelaw8_SumParts.j1
      repeat' first
      | (with_reducible exact ih0 _ _)
      | (with_reducible exact ih1 _ _ _)
      | (with_reducible exact ih2 _ _ _ _ _ _ _)
      | (with_reducible exact ih3 _ _ _ _ _ _ _ _ _)
      | (with_reducible exact ih4 _ _ _ _ _ _ _ _ _)
      | (with_reducible exact ih5 _ _ _ _ _ _ _ _ _)
      | (with_reducible exact cadastrelaw8_wakes.mono _)
      | (with_reducible exact cadastreref0_CopyBytes.mono _ _)
      | (with_reducible exact sum_Sum.mono _ _ _ _)
      | (with_reducible exact LeO.refl _)
      | (with_reducible exact LeO.none _)
      | (with_reducible refine LeO.ite ?_ ?_)
      | (with_reducible refine LeO.bind ?_ (fun _ => ?_))
      | exact ih0 _ _
      | exact ih1 _ _ _
      | exact ih2 _ _ _ _ _ _ _
      | exact ih3 _ _ _ _ _ _ _ _ _
      | exact ih4 _ _ _ _ _ _ _ _ _
      | exact ih5 _ _ _ _ _ _ _ _ _
      | exact cadastrelaw8_wakes.mono _
      | exact cadastreref0_CopyBytes.mono _ _
      | exact sum_Sum.mono _ _ _ _
      | exact LeO.none _
      | refine LeO.ite ?_ ?_
      | refine LeO.bind ?_ (fun _ => ?_)
    · intro y0 y1 y2 y3 y4 y5 y6
      unfold cadastrelaw8_SumParts.j2
      repeat' first
      | (with_reducible exact ih0 _ _)
      | (with_reducible exact ih1 _ _ _)
      | (with_reducible exact ih2 _ _ _ _ _ _ _)
      | (with_reducible exact ih3 _ _ _ _ _ _ _ _ _)
      | (with_reducible exact ih4 _ _ _ _ _ _ _ _ _)
      | (with_reducible exact ih5 _ _ _ _ _ _ _ _ _)
      | (with_reducible exact cadastrelaw8_wakes.mono _)
      | (with_reducible exact cadastreref0_CopyBytes.mono _ _)
      | (with_reducible exact sum_Sum.mono _ _ _ _)
      | (with_reducible exact LeO.refl _)
      | (with_reducible exact LeO.none _)
      | (with_reducible refine LeO.ite ?_ ?_)
      | (with_reducible refine LeO.bind ?_ (fun _ => ?_))
      | exact ih0 _ _
      | exact ih1 _ _ _
      | exact ih2 _ _ _ _ _ _ _
      | exact ih3 _ _ _ _ _ _ _ _ _
      | exact ih4 _ _ _ _ _ _ _ _ _
      | exact ih5 _ _ _ _ _ _ _ _ _
      | exact cadastrelaw8_wakes.mono _
      | exact cadastreref0_CopyBytes.mono _ _
      | exact sum_Sum.mono _ _ _ _
      | exact LeO.none _
      | refine LeO.ite ?_ ?_
      | refine LeO.bind ?_ (fun _ => ?_)
    · intro y0 y1 y2 y3 y4 y5 y6 y7 y8
      unfold cadastrelaw8_SumParts.j3
      repeat' first
      | (with_reducible exact ih0 _ _)
      | (with_reducible exact ih1 _ _ _)
      | (with_reducible exact ih2 _ _ _ _ _ _ _)
      | (with_reducible exact ih3 _ _ _ _ _ _ _ _ _)
      | (with_reducible exact ih4 _ _ _ _ _ _ _ _ _)
      | (with_reducible exact ih5 _ _ _ _ _ _ _ _ _)
      | (with_reducible exact cadastrelaw8_wakes.mono _)
      | (with_reducible exact cadastreref0_CopyBytes.mono _ _)
      | (with_reducible exact sum_Sum.mono _ _ _ _)
      | (with_reducible exact LeO.refl _)
      | (with_reducible exact LeO.none _)
      | (with_reducible refine LeO.ite ?_ ?_)
      | (with_reducible refine LeO.bind ?_ (fun _ => ?_))
      | exact ih0 _ _
      | exact ih1 _ _ _
      | exact ih2 _ _ _ _ _ _ _
      | exact ih3 _ _ _ _ _ _ _ _ _
      | exact ih4 _ _ _ _ _ _ _ _ _
      | exact ih5 _ _ _ _ _ _ _ _ _
      | exact cadastrelaw8_wakes.mono _
      | exact cadastreref0_CopyBytes.mono _ _
      | exact sum_Sum.mono _ _ _ _
      | exact LeO.none _
      | refine LeO.ite ?_ ?_
      | refine LeO.bind ?_ (fun _ => ?_)
    · intro y0 y1 y2 y3 y4 y5 y6 y7 y8
      unfold cadastrelaw8_SumParts.j4
      repeat' first
      | (with_reducible exact ih0 _ _)
      | (with_reducible exact ih1 _ _ _)
      | (with_reducible exact ih2 _ _ _ _ _ _ _)
      | (with_reducible exact ih3 _ _ _ _ _ _ _ _ _)
      | (with_reducible exact ih4 _ _ _ _ _ _ _ _ _)
      | (with_reducible exact ih5 _ _ _ _ _ _ _ _ _)
      | (with_reducible exact cadastrelaw8_wakes.mono _)
      | (with_reducible exact cadastreref0_CopyBytes.mono _ _)
      | (with_reducible exact sum_Sum.mono _ _ _ _)
      | (with_reducible exact LeO.refl _)
      | (with_reducible exact LeO.none _)
      | (with_reducible refine LeO.ite ?_ ?_)
      | (with_reducible refine LeO.bind ?_ (fun _ => ?_))
      | exact ih0 _ _
      | exact ih1 _ _ _
      | exact ih2 _ _ _ _ _ _ _
      | exact ih3 _ _ _ _ _ _ _ _ _
      | exact ih4 _ _ _ _ _ _ _ _ _
      | exact ih5 _ _ _ _ _ _ _ _ _
      | exact cadastrelaw8_wakes.mono _
      | exact cadastreref0_CopyBytes.mono _ _
      | exact sum_Sum.mono _ _ _ _
      | exact LeO.none _
      | refine LeO.ite ?_ ?_
      | refine LeO.bind ?_ (fun _ => ?_)
    · intro y0 y1 y2 y3 y4 y5 y6 y7 y8
      unfold cadastrelaw8_SumParts.l1
      repeat' first
      | (with_reducible exact ih0 _ _)
      | (with_reducible exact ih1 _ _ _)
      | (with_reducible exact ih2 _ _ _ _ _ _ _)
      | (with_reducible exact ih3 _ _ _ _ _ _ _ _ _)
      | (with_reducible exact ih4 _ _ _ _ _ _ _ _ _)
      | (with_reducible exact ih5 _ _ _ _ _ _ _ _ _)
      | (with_reducible exact cadastrelaw8_wakes.mono _)
      | (with_reducible exact cadastreref0_CopyBytes.mono _ _)
      | (with_reducible exact sum_Sum.mono _ _ _ _)
      | (with_reducible exact LeO.refl _)
      | (with_reducible exact LeO.none _)
      | (with_reducible refine LeO.ite ?_ ?_)
      | (with_reducible refine LeO.bind ?_ (fun _ => ?_))
      | exact ih0 _ _
      | exact ih1 _ _ _
      | exact ih2 _ _ _ _ _ _ _
      | exact ih3 _ _ _ _ _ _ _ _ _
      | exact ih4 _ _ _ _ _ _ _ _ _
      | exact ih5 _ _ _ _ _ _ _ _ _
      | exact cadastrelaw8_wakes.mono _
      | exact cadastreref0_CopyBytes.mono _ _
      | exact sum_Sum.mono _ _ _ _
      | exact LeO.none _
      | refine LeO.ite ?_ ?_
      | refine LeO.bind ?_ (fun _ => ?_)
theorem cadastrelaw8_SumParts.mono : ∀ a0 k, LeO (cadastrelaw8_SumParts.f k a0) (cadastrelaw8_SumParts.f (k + 1) a0) := by
  intro a0 k
  obtain ⟨ih0, ih1, ih2, ih3, ih4, ih5⟩ := cadastrelaw8_SumParts.mono_l k
  unfold cadastrelaw8_SumParts.f
  repeat' first
      | (with_reducible exact ih0 _ _)
      | (with_reducible exact ih1 _ _ _)
      | (with_reducible exact ih2 _ _ _ _ _ _ _)
      | (with_reducible exact ih3 _ _ _ _ _ _ _ _ _)
      | (with_reducible exact ih4 _ _ _ _ _ _ _ _ _)
      | (with_reducible exact ih5 _ _ _ _ _ _ _ _ _)
      | (with_reducible exact cadastrelaw8_wakes.mono _)
      | (with_reducible exact cadastreref0_CopyBytes.mono _ _)
      | (with_reducible exact sum_Sum.mono _ _ _ _)
      | (with_reducible exact LeO.refl _)
      | (with_reducible exact LeO.none _)
      | (with_reducible refine LeO.ite ?_ ?_)
      | (with_reducible refine LeO.bind ?_ (fun _ => ?_))
      | exact ih0 _ _
      | exact ih1 _ _ _
      | exact ih2 _ _ _ _ _ _ _
      | exact ih3 _ _ _ _ _ _ _ _ _
      | exact ih4 _ _ _ _ _ _ _ _ _
      | exact ih5 _ _ _ _ _ _ _ _ _
      | exact cadastrelaw8_wakes.mono _
      | exact cadastreref0_CopyBytes.mono _ _
      | exact sum_Sum.mono _ _ _ _
      | exact LeO.none _
      | refine LeO.ite ?_ ?_
      | refine LeO.bind ?_ (fun _ => ?_)
def cadastrelaw8_SumParts.T8 : Bool × List (List Nat × List Nat) := (true, [([], []), ([0], [0]), ([], []), ([2], [2]), ([], []), ([4], [4]), ([], []), ([5, 6], [5, 6]), ([1, 3, 7], [1, 3, 7]), ([8], [8]), ([9], [9]), ([9], [9]), ([10, 8, 0, 1, 2, 3, 4, 5, 6, 7, 8, 9, 10], [10]), ([11, 12, 0, 1, 2, 3, 4, 5, 6, 7, 8, 9, 10, 11, 12], [11])])
def cadastrelaw8_SumParts.B8 : List Nat := [0, 1, 0, 4, 0, 16, 0, 112, 255, 511, 1023, 1023, 2047, 8191]
theorem cadastrelaw8_SumParts.tab8 : rtab .any (opsOf Try.f4 8) = cadastrelaw8_SumParts.T8 := by kernel_rfl
theorem cadastrelaw8_SumParts.bits8 : waitsOk cadastrelaw8_SumParts.T8.2 cadastrelaw8_SumParts.B8 = true := by kernel_rfl
def cadastrelaw8_SumParts.T13 : Bool × List (List Nat × List Nat) := (true, [([], []), ([], []), ([1], [1]), ([], []), ([3], [3]), ([2, 4], [2, 4]), ([0, 5], [0, 5]), ([6], [6]), ([], []), ([8], [8]), ([9, 5], [9]), ([10], [10]), ([11], [11]), ([7, 12], [7, 12]), ([0, 5, 0, 1, 2, 3, 4, 5, 6, 7, 8, 9, 10, 11, 12, 13], [0, 5]), ([14, 13, 10, 0, 1, 2, 3, 4, 5, 6, 7, 8, 9, 10, 11, 12, 13], [13, 14])])
def cadastrelaw8_SumParts.B13 : List Nat := [0, 0, 2, 0, 8, 30, 63, 127, 0, 256, 830, 1854, 3902, 8191, 16383, 32767]
theorem cadastrelaw8_SumParts.tab13 : rtab .any (opsOf Try.f4 13) = cadastrelaw8_SumParts.T13 := by kernel_rfl
theorem cadastrelaw8_SumParts.bits13 : waitsOk cadastrelaw8_SumParts.T13.2 cadastrelaw8_SumParts.B13 = true := by kernel_rfl
set_option maxHeartbeats 8000000 in
set_option maxRecDepth 100000 in
theorem cadastrelaw8_SumParts.calls (k : Nat) (A0 : Option Addr) (c0 : Nat) (l0 : List (S26)) (r : Bool) (w : World) (hr0 : Kd.C k26 w A0 l0.length l0) (hc0 : l0.length ≤ c0) (h : cadastrelaw8_SumParts.f k l0 = some r) :
    Calls Try.prog 4 #[.slice A0 l0.length c0] w fun e w' => e = .returned (.bool r) ∧ Below w.heap.size w w' := by
  have hu26 := Try.underlying26
  have HR0 := Aside0.mk hr0
  have HC0 := Aside0.mk hc0
  clear hr0 hc0
  have HB := Aside0.mk (Below.refl w.heap.size w)
  have H : (cadastrelaw8_SumParts.l0 k l0 0) = some r := h
  clear h
  have H' := Aside0.mk H
  clear H
  go_enter Try.func4, Try.ntmps4
  go_wp2
  go_loopg [3] k (fun kq v3 w' => ∃ (x3_1 : Int), v3 = .int .i64 x3_1 ∧ Aside0 (cadastrelaw8_SumParts.l0 kq l0 x3_1 = some r) ∧ Aside0 (kq ≤ k) ∧ Aside0 (Below w.heap.size w w'))
  case atStart => exact ⟨(0), (by first | rfl | (simp; done) | (simp [*]; done)), H', ⟨Nat.le_refl _⟩, ⟨by repeat (first | (with_reducible first | exact HB.out | apply below_alloc | apply pw_below_drewN | apply below_drew1) | exact HB.out)⟩⟩
  case round =>
    clear H'
    obtain ⟨x3_1, rfl, HA, HK1, HB⟩ := hrel
    cases gk with
    | zero => exact absurd HA.out (by simp [cadastrelaw8_SumParts.l0])
    | succ k1 =>
      have H := HA.out
      clear HA
      simp only [cadastrelaw8_SumParts.l0] at H
      have HC2 := Aside0.mk H
      clear H
      go_upto_region 2 with (fail)
      go_cut [21] (fun v21 wc => ∃ (kq : Nat) (x21_1 : Bool), v21 = .bool x21_1 ∧ Aside0 (cadastrelaw8_SumParts.j1 kq l0 x3_1 x21_1 = some r) ∧ Aside0 (kq ≤ k1) ∧ Aside0 (Below w.heap.size w wc))
      case first =>
        have H := HC2.out
        clear HC2
        by_cases c3 : x3_1 < (l0.length : Int)
        · rw [if_pos c3] at H
          have c3b0 : decide (x3_1 < (l0.length : Int)) = true := decide_eq_true c3
          clear c3
          (first | rw [c3b0] | (simp only [i64_w, i32_w]; rw [c3b0]) | skip)
          have H' := Aside0.mk H
          clear H
          go_wp2
          go_meet
          case rel => exact ⟨_, (decide (x3_1 < 20)), (by first | rfl | (simp; done) | (simp [*]; done)), H', ⟨by have := HK1.out; first | omega | exact Nat.le_refl _⟩, ⟨by repeat (first | (with_reducible first | exact HB.out | apply below_alloc | apply pw_below_drewN | apply below_drew1) | exact HB.out)⟩⟩
        · rw [if_neg c3] at H
          have c3b0 : decide (x3_1 < (l0.length : Int)) = false := decide_eq_false c3
          clear c3
          (first | rw [c3b0] | (simp only [i64_w, i32_w]; rw [c3b0]) | skip)
          have H' := Aside0.mk H
          clear H
          go_wp2
          go_meet
          case rel => exact ⟨_, (false), (by first | rfl | (simp; done) | (simp [*]; done)), H', ⟨by have := HK1.out; first | omega | exact Nat.le_refl _⟩, ⟨by repeat (first | (with_reducible first | exact HB.out | apply below_alloc | apply pw_below_drewN | apply below_drew1) | exact HB.out)⟩⟩
      case rest =>
        clear HC2
        try clear p2
        try clear c3
        try clear c3b0
        obtain ⟨kq, x21_1, rfl, HA, HJ1, HB⟩ := hcut
        cases kq with
        | zero => exact absurd HA.out (by simp [cadastrelaw8_SumParts.j1])
        | succ kj1 =>
          have H := HA.out
          clear HA
          simp only [cadastrelaw8_SumParts.j1] at H
          by_cases c4 : x21_1 = true
          · subst c4
            have H1 : (if 0 ≤ x3_1 then (if x3_1 < (l0.length : Int) then (if (((rd_T26 l0 x3_1).f2).length : Int) > 5000 then (cadastrelaw8_SumParts.j2 kj1 l0 x3_1 true ((rd_T26 l0 x3_1).f0) ((rd_T26 l0 x3_1).f1) ((rd_T26 l0 x3_1).f2) ((rd_T26 l0 x3_1).f3)) else (cadastrelaw8_SumParts.j2 kj1 l0 x3_1 ((((rd_T26 l0 x3_1).f2).length : Int) == 0) ((rd_T26 l0 x3_1).f0) ((rd_T26 l0 x3_1).f1) ((rd_T26 l0 x3_1).f2) ((rd_T26 l0 x3_1).f3))) else (none)) else (none)) = some r := by rw [if_pos rfl] at H; exact H
            clear H
            have H := H1
            clear H1
            by_cases c5 : 0 ≤ x3_1
            · rw [if_pos c5] at H
              have c5b0 : decide (0 ≤ x3_1) = true := decide_eq_true c5
              clear c5
              by_cases c6 : x3_1 < (l0.length : Int)
              · rw [if_pos c6] at H
                have c6b0 : decide (x3_1 < (l0.length : Int)) = true := decide_eq_true c6
                clear c6
                have HC7 := Aside0.mk H
                clear H
                have p130 : 0 ≤ (x3_1 : Int) := of_decide_eq_true (by first | (with_reducible assumption) | assumption)
                have q130 : x3_1 < (l0.length : Int) := of_decide_eq_true (by first | (with_reducible assumption) | assumption)
                obtain ⟨ad130, A130_2, c130_2, e130, hx130_0, hx130_1, hx130_2, hx130_3, hl130_2, hi130_2⟩ := at_T26 HR0.out x3_1 p130 q130
                cases e130
                replace hx130_0 := (HB.out.cell (World.block_lt_of_cell? w _ hx130_0)).trans hx130_0
                replace hx130_1 := (HB.out.cell (World.block_lt_of_cell? w _ hx130_1)).trans hx130_1
                replace hx130_2 := (HB.out.cell (World.block_lt_of_cell? w _ hx130_2)).trans hx130_2
                replace hx130_3 := (HB.out.cell (World.block_lt_of_cell? w _ hx130_3)).trans hx130_3
                have HR130_2 := Aside0.mk hi130_2
                have HC130_2 := Aside0.mk hl130_2
                clear hi130_2 hl130_2
                replace p130 := eq_true p130
                replace q130 := eq_true q130
                go_upto_region 5 with (first | ((with_reducible refine gate_dst (N := 4) rfl ?_); (try (refine gate_guard (by rfl) ?_; dsimp only)); refine box_event ?hg (N := 4) ?hd (cs := #[.int .u32 0, .int .u32 0, .slice none 0 0, .int .i64 0]) (t := 26) ?hr ?_; (case hd => rfl); (case hg => rfl); (case hr => first | (go_simp; done) | (go_simp; rfl)); intro gb131 hg w8 hbox hb; have n0_ := Aside0.mk (below_step (by repeat (first | (with_reducible first | exact HB.out | apply below_alloc | apply pw_below_drewN | apply below_drew1) | exact HB.out)) hb); have n1_ := Aside0.mk (hbox); have n2_ := Aside0.mk ((by rw [hg]; exact (below_size (by repeat (first | (with_reducible first | exact HB.out | apply below_alloc | apply pw_below_drewN | apply below_drew1) | exact HB.out))) : w.heap.size ≤ gb131)); have n3_ := Aside0.mk ((by rw [hg]; exact (below_size (by repeat (first | (with_reducible first | exact HB.out | apply below_alloc | apply pw_below_drewN | apply below_drew1) | exact HB.out))) : w.heap.size ≤ gb131)); clear HB; have HB := n0_; have BK131 := n1_; have GW131 := n2_; have GE131 := n3_; clear n0_ n1_ n2_ n3_; clear hb hbox hg; have hcz9_0 : w8.cell? ⟨gb131, 0, none⟩ = some (.int .u32 0) := (blk_cell BK131.out 0).trans rfl; have hcz9_1 : w8.cell? ⟨gb131, 1, none⟩ = some (.int .u32 0) := (blk_cell BK131.out 1).trans rfl; have hcz9_2 : w8.cell? ⟨gb131, 2, none⟩ = some (.slice none 0 0) := (blk_cell BK131.out 2).trans rfl; have hcz9_3 : w8.cell? ⟨gb131, 3, none⟩ = some (.int .i64 0) := (blk_cell BK131.out 3).trans rfl; have hfz9_0 := blk_frozen BK131.out 0; have hfz9_1 := blk_frozen BK131.out 1; have hfz9_2 := blk_frozen BK131.out 2; have hfz9_3 := blk_frozen BK131.out 3))
                (try simp only [Act.put, List.setIfInBounds_toArray, List.set_cons_zero, List.set_cons_succ])
                go_cut [37] (fun v37 wc => ∃ (kq : Nat) (x37_6 : Bool), v37 = .bool x37_6 ∧ Aside0 (cadastrelaw8_SumParts.j2 kq l0 x3_1 x37_6 ((rd_T26 l0 x3_1).f0) ((rd_T26 l0 x3_1).f1) ((rd_T26 l0 x3_1).f2) ((rd_T26 l0 x3_1).f3) = some r) ∧ Aside0 (kq ≤ kj1) ∧ Aside0 (wc.heap[gb131]? = some (.cells #[.int .u32 ((rd_T26 l0 x3_1).f0), .int .u32 ((rd_T26 l0 x3_1).f1), (.slice A130_2 ((rd_T26 l0 x3_1).f2).length c130_2), .int .i64 ((rd_T26 l0 x3_1).f3)] 26 (0, 0))) ∧ Aside0 (Below w.heap.size w wc))
                case first =>
                  have H := HC7.out
                  clear HC7
                  by_cases c10 : (((rd_T26 l0 x3_1).f2).length : Int) > 5000
                  · rw [if_pos c10] at H
                    have c10b0 : decide (5000 < (((rd_T26 l0 x3_1).f2).length : Int)) = true := decide_eq_true c10
                    have c10b1 : decide (5000 < ((rd_T26 l0 x3_1).f2).length) = true := decide_eq_true (by omega)
                    clear c10
                    (first | rw [c10b0] | (simp only [i64_w, i32_w]; rw [c10b0]) | skip)
                    have H' := Aside0.mk H
                    clear H
                    have hcz11_0 : w8.cell? ⟨gb131, 0, none⟩ = some (.int .u32 0) := (blk_cell BK131.out 0).trans rfl
                    have hcz11_1 : w8.cell? ⟨gb131, 1, none⟩ = some (.int .u32 0) := (blk_cell BK131.out 1).trans rfl
                    have hcz11_2 : w8.cell? ⟨gb131, 2, none⟩ = some (.slice none 0 0) := (blk_cell BK131.out 2).trans rfl
                    have hcz11_3 : w8.cell? ⟨gb131, 3, none⟩ = some (.int .i64 0) := (blk_cell BK131.out 3).trans rfl
                    have hfz11_0 := blk_frozen BK131.out 0
                    have hfz11_1 := blk_frozen BK131.out 1
                    have hfz11_2 := blk_frozen BK131.out 2
                    have hfz11_3 := blk_frozen BK131.out 3
                    go_wp2
                    go_meet
                    case rel => exact ⟨_, (true), (by first | rfl | (simp; done) | (simp [*]; done)), H', ⟨by have := HK1.out; have := HJ1.out; first | omega | exact Nat.le_refl _⟩, ⟨by (with_reducible repeat (first | refine blk_drewN ?_ _ | refine blk_drew ?_ | refine blk_alloc ?_ _)); refine blk_put (cs := #[.int .u32 ((rd_T26 l0 x3_1).f0), .int .u32 ((rd_T26 l0 x3_1).f1), .slice A130_2 ((rd_T26 l0 x3_1).f2).length c130_2, .int .i64 0]) ?_ 3 _ rfl; (with_reducible repeat (first | refine blk_drewN ?_ _ | refine blk_drew ?_ | refine blk_alloc ?_ _)); refine blk_put (cs := #[.int .u32 ((rd_T26 l0 x3_1).f0), .int .u32 ((rd_T26 l0 x3_1).f1), .slice none 0 0, .int .i64 0]) ?_ 2 _ rfl; (with_reducible repeat (first | refine blk_drewN ?_ _ | refine blk_drew ?_ | refine blk_alloc ?_ _)); refine blk_put (cs := #[.int .u32 ((rd_T26 l0 x3_1).f0), .int .u32 0, .slice none 0 0, .int .i64 0]) ?_ 1 _ rfl; (with_reducible repeat (first | refine blk_drewN ?_ _ | refine blk_drew ?_ | refine blk_alloc ?_ _)); refine blk_put (cs := #[.int .u32 0, .int .u32 0, .slice none 0 0, .int .i64 0]) ?_ 0 _ rfl; (with_reducible repeat (first | refine blk_drewN ?_ _ | refine blk_drew ?_ | refine blk_alloc ?_ _)); exact BK131.out⟩, ⟨by repeat (first | (with_reducible first | exact HB.out | apply below_alloc | apply pw_below_drewN | apply below_drew1 | refine below_set ?_ GE131.out) | exact HB.out)⟩⟩
                  · rw [if_neg c10] at H
                    have c10b0 : decide (5000 < (((rd_T26 l0 x3_1).f2).length : Int)) = false := decide_eq_false c10
                    have c10b1 : decide (5000 < ((rd_T26 l0 x3_1).f2).length) = false := decide_eq_false (by omega)
                    clear c10
                    (first | rw [c10b0] | (simp only [i64_w, i32_w]; rw [c10b0]) | skip)
                    have H' := Aside0.mk H
                    clear H
                    have hcz12_0 : w8.cell? ⟨gb131, 0, none⟩ = some (.int .u32 0) := (blk_cell BK131.out 0).trans rfl
                    have hcz12_1 : w8.cell? ⟨gb131, 1, none⟩ = some (.int .u32 0) := (blk_cell BK131.out 1).trans rfl
                    have hcz12_2 : w8.cell? ⟨gb131, 2, none⟩ = some (.slice none 0 0) := (blk_cell BK131.out 2).trans rfl
                    have hcz12_3 : w8.cell? ⟨gb131, 3, none⟩ = some (.int .i64 0) := (blk_cell BK131.out 3).trans rfl
                    have hfz12_0 := blk_frozen BK131.out 0
                    have hfz12_1 := blk_frozen BK131.out 1
                    have hfz12_2 := blk_frozen BK131.out 2
                    have hfz12_3 := blk_frozen BK131.out 3
                    go_wp2
                    go_meet
                    case rel => exact ⟨_, (((((rd_T26 l0 x3_1).f2).length : Int) == 0)), (by first | rfl | (simp; done) | (simp [*]; done)), H', ⟨by have := HK1.out; have := HJ1.out; first | omega | exact Nat.le_refl _⟩, ⟨by (with_reducible repeat (first | refine blk_drewN ?_ _ | refine blk_drew ?_ | refine blk_alloc ?_ _)); refine blk_put (cs := #[.int .u32 ((rd_T26 l0 x3_1).f0), .int .u32 ((rd_T26 l0 x3_1).f1), .slice A130_2 ((rd_T26 l0 x3_1).f2).length c130_2, .int .i64 0]) ?_ 3 _ rfl; (with_reducible repeat (first | refine blk_drewN ?_ _ | refine blk_drew ?_ | refine blk_alloc ?_ _)); refine blk_put (cs := #[.int .u32 ((rd_T26 l0 x3_1).f0), .int .u32 ((rd_T26 l0 x3_1).f1), .slice none 0 0, .int .i64 0]) ?_ 2 _ rfl; (with_reducible repeat (first | refine blk_drewN ?_ _ | refine blk_drew ?_ | refine blk_alloc ?_ _)); refine blk_put (cs := #[.int .u32 ((rd_T26 l0 x3_1).f0), .int .u32 0, .slice none 0 0, .int .i64 0]) ?_ 1 _ rfl; (with_reducible repeat (first | refine blk_drewN ?_ _ | refine blk_drew ?_ | refine blk_alloc ?_ _)); refine blk_put (cs := #[.int .u32 0, .int .u32 0, .slice none 0 0, .int .i64 0]) ?_ 0 _ rfl; (with_reducible repeat (first | refine blk_drewN ?_ _ | refine blk_drew ?_ | refine blk_alloc ?_ _)); exact BK131.out⟩, ⟨by repeat (first | (with_reducible first | exact HB.out | apply below_alloc | apply pw_below_drewN | apply below_drew1 | refine below_set ?_ GE131.out) | exact HB.out)⟩⟩
                case rest =>
                  clear HC7
                  try clear c1
                  try clear p1
                  try clear q1
                  try clear hx1
                  try clear p2
                  try clear c3
                  try clear c3b0
                  try clear c4
                  try clear c5
                  try clear c5b0
                  try clear c6
                  try clear c6b0
                  try clear c10
                  try clear c10b0
                  try clear c10b1
                  try clear hcz11_0
                  try clear hcz11_1
                  try clear hcz11_2
                  try clear hcz11_3
                  try clear hcz12_0
                  try clear hcz12_1
                  try clear hcz12_2
                  try clear hcz12_3
                  try clear hcz9_0
                  try clear hcz9_1
                  try clear hcz9_2
                  try clear hcz9_3
                  try clear hfz11_0
                  try clear hfz11_1
                  try clear hfz11_2
                  try clear hfz11_3
                  try clear hfz12_0
                  try clear hfz12_1
                  try clear hfz12_2
                  try clear hfz12_3
                  try clear hfz9_0
                  try clear hfz9_1
                  try clear hfz9_2
                  try clear hfz9_3
                  try clear hx130_0
                  try clear hx130_1
                  try clear hx130_2
                  try clear hx130_3
                  try clear p130
                  try clear p2
                  try clear q130
                  obtain ⟨kq, x37_6, rfl, HA, HJ6, BK131, HB⟩ := hcut
                  cases kq with
                  | zero => exact absurd HA.out (by simp [cadastrelaw8_SumParts.j2])
                  | succ kj6 =>
                    have H := HA.out
                    clear HA
                    simp only [cadastrelaw8_SumParts.j2] at H
                    by_cases c13 : x37_6 = true
                    · subst c13
                      have H1 : (cadastrelaw8_SumParts.l0 kj6 l0 (wrap64 (x3_1 + 1))) = some r := by rw [if_pos rfl] at H; exact H
                      clear H
                      have H := H1
                      clear H1
                      have H' := Aside0.mk H
                      clear H
                      go_wp2
                      go_roundg kj6
                      case measure => have := HK1.out; have := HJ1.out; have := HJ6.out; omega
                      case rel => exact ⟨(wrap64 (x3_1 + 1)), (by first | rfl | (simp; done) | (simp [*]; done)), H', ⟨by have := HK1.out; have := HJ1.out; have := HJ6.out; omega⟩, ⟨by repeat (first | (with_reducible first | exact HB.out | apply below_alloc | apply pw_below_drewN | apply below_drew1 | refine below_set ?_ GE131.out) | exact HB.out)⟩⟩
                    · replace c13 := Bool.eq_false_iff.mpr c13
                      subst c13
                      have H1 : ((cadastrelaw0_Within.f ((rd_T26 l0 x3_1).f3) (wrap64 ((wrap64 ((((rd_T26 l0 x3_1).f2).length : Int) / 8)) + 1))).bind fun t132 => ((sum_Sum.f kj6 ((rd_T26 l0 x3_1).f0) ((rd_T26 l0 x3_1).f1) ((rd_T26 l0 x3_1).f2)).bind fun bt133 => (if 0 ≤ (wrap64 (8 * t132)) then (if (wrap64 (8 * t132)) ≤ (((rd_T26 l0 x3_1).f2).length : Int) then ((sum_Sum.f kj6 ((rd_T26 l0 x3_1).f0) ((rd_T26 l0 x3_1).f1) (((rd_T26 l0 x3_1).f2).take ((wrap64 (8 * t132)) : Int).toNat)).bind fun bt136 => ((sum_Sum.f kj6 bt136.1 bt136.2 (((rd_T26 l0 x3_1).f2).drop ((wrap64 (8 * t132)) : Int).toNat)).bind fun bt139 => (if bt139.1 = bt133.1 then (cadastrelaw8_SumParts.j3 kj6 l0 x3_1 bt133.1 bt133.2 (bt139.2 != bt133.2) ((rd_T26 l0 x3_1).f0) ((rd_T26 l0 x3_1).f1) ((rd_T26 l0 x3_1).f2) ((rd_T26 l0 x3_1).f3)) else (cadastrelaw8_SumParts.j3 kj6 l0 x3_1 bt133.1 bt133.2 true ((rd_T26 l0 x3_1).f0) ((rd_T26 l0 x3_1).f1) ((rd_T26 l0 x3_1).f2) ((rd_T26 l0 x3_1).f3))))) else (none)) else (none)))) = some r := by rw [if_neg (show ¬ (false = true) by decide)] at H; exact H
                      clear H
                      have H := H1
                      clear H1
                      replace H := Option.bind_eq_some_iff.mp H
                      obtain ⟨t132, A140, H⟩ := H
                      replace H : ((sum_Sum.f kj6 ((rd_T26 l0 x3_1).f0) ((rd_T26 l0 x3_1).f1) ((rd_T26 l0 x3_1).f2)).bind fun bt133 => (if 0 ≤ (wrap64 (8 * t132)) then (if (wrap64 (8 * t132)) ≤ (((rd_T26 l0 x3_1).f2).length : Int) then ((sum_Sum.f kj6 ((rd_T26 l0 x3_1).f0) ((rd_T26 l0 x3_1).f1) (((rd_T26 l0 x3_1).f2).take ((wrap64 (8 * t132)) : Int).toNat)).bind fun bt136 => ((sum_Sum.f kj6 bt136.1 bt136.2 (((rd_T26 l0 x3_1).f2).drop ((wrap64 (8 * t132)) : Int).toNat)).bind fun bt139 => (if bt139.1 = bt133.1 then (cadastrelaw8_SumParts.j3 kj6 l0 x3_1 bt133.1 bt133.2 (bt139.2 != bt133.2) ((rd_T26 l0 x3_1).f0) ((rd_T26 l0 x3_1).f1) ((rd_T26 l0 x3_1).f2) ((rd_T26 l0 x3_1).f3)) else (cadastrelaw8_SumParts.j3 kj6 l0 x3_1 bt133.1 bt133.2 true ((rd_T26 l0 x3_1).f0) ((rd_T26 l0 x3_1).f1) ((rd_T26 l0 x3_1).f2) ((rd_T26 l0 x3_1).f3))))) else (none)) else (none))) = some r := H
                      have A14 := Aside0.mk A140
                      clear A140
                      replace H := Option.bind_eq_some_iff.mp H
                      obtain ⟨⟨t133, t134⟩, A150, H⟩ := H
                      replace H : (if 0 ≤ (wrap64 (8 * t132)) then (if (wrap64 (8 * t132)) ≤ (((rd_T26 l0 x3_1).f2).length : Int) then ((sum_Sum.f kj6 ((rd_T26 l0 x3_1).f0) ((rd_T26 l0 x3_1).f1) (((rd_T26 l0 x3_1).f2).take ((wrap64 (8 * t132)) : Int).toNat)).bind fun bt136 => ((sum_Sum.f kj6 bt136.1 bt136.2 (((rd_T26 l0 x3_1).f2).drop ((wrap64 (8 * t132)) : Int).toNat)).bind fun bt139 => (if bt139.1 = t133 then (cadastrelaw8_SumParts.j3 kj6 l0 x3_1 t133 t134 (bt139.2 != t134) ((rd_T26 l0 x3_1).f0) ((rd_T26 l0 x3_1).f1) ((rd_T26 l0 x3_1).f2) ((rd_T26 l0 x3_1).f3)) else (cadastrelaw8_SumParts.j3 kj6 l0 x3_1 t133 t134 true ((rd_T26 l0 x3_1).f0) ((rd_T26 l0 x3_1).f1) ((rd_T26 l0 x3_1).f2) ((rd_T26 l0 x3_1).f3))))) else (none)) else (none)) = some r := H
                      have A15 := Aside0.mk A150
                      clear A150
                      obtain ⟨ji16, hji16⟩ : ∃ j_ : Int, (wrap64 (8 * t132)) = j_ := ⟨_, rfl⟩
                      replace H : (if 0 ≤ (ji16) then (if (ji16) ≤ (((rd_T26 l0 x3_1).f2).length : Int) then ((sum_Sum.f kj6 ((rd_T26 l0 x3_1).f0) ((rd_T26 l0 x3_1).f1) (((rd_T26 l0 x3_1).f2).take ((ji16) : Int).toNat)).bind fun bt136 => ((sum_Sum.f kj6 bt136.1 bt136.2 (((rd_T26 l0 x3_1).f2).drop ((ji16) : Int).toNat)).bind fun bt139 => (if bt139.1 = t133 then (cadastrelaw8_SumParts.j3 kj6 l0 x3_1 t133 t134 (bt139.2 != t134) ((rd_T26 l0 x3_1).f0) ((rd_T26 l0 x3_1).f1) ((rd_T26 l0 x3_1).f2) ((rd_T26 l0 x3_1).f3)) else (cadastrelaw8_SumParts.j3 kj6 l0 x3_1 t133 t134 true ((rd_T26 l0 x3_1).f0) ((rd_T26 l0 x3_1).f1) ((rd_T26 l0 x3_1).f2) ((rd_T26 l0 x3_1).f3))))) else (none)) else (none)) = some r := by first | (rw [hji16] at H; exact H) | (simp only [hji16] at H ⊢; exact H)
                      (try rw [hji16] at A14)
                      (try rw [hji16] at A15)
                      have hji16w : (IntKind.i64.wrap (8 * t132)) = ji16 := (i64_w _).trans hji16
                      by_cases c17 : 0 ≤ (ji16)
                      · rw [if_pos c17] at H
                        have c17b0 := eq_true c17
                        have c17b1 : decide (0 ≤ (ji16)) = true := decide_eq_true c17
                        clear c17
                        by_cases c18 : (ji16) ≤ (((rd_T26 l0 x3_1).f2).length : Int)
                        · rw [if_pos c18] at H
                          have c18b0 := eq_true c18
                          have c18b1 : decide ((ji16) ≤ (((rd_T26 l0 x3_1).f2).length : Int)) = true := decide_eq_true c18
                          clear c18
                          replace H := Option.bind_eq_some_iff.mp H
                          obtain ⟨⟨t136, t137⟩, A190, H⟩ := H
                          replace H : ((sum_Sum.f kj6 t136 t137 (((rd_T26 l0 x3_1).f2).drop ((ji16) : Int).toNat)).bind fun bt139 => (if bt139.1 = t133 then (cadastrelaw8_SumParts.j3 kj6 l0 x3_1 t133 t134 (bt139.2 != t134) ((rd_T26 l0 x3_1).f0) ((rd_T26 l0 x3_1).f1) ((rd_T26 l0 x3_1).f2) ((rd_T26 l0 x3_1).f3)) else (cadastrelaw8_SumParts.j3 kj6 l0 x3_1 t133 t134 true ((rd_T26 l0 x3_1).f0) ((rd_T26 l0 x3_1).f1) ((rd_T26 l0 x3_1).f2) ((rd_T26 l0 x3_1).f3)))) = some r := H
                          have A19 := Aside0.mk A190
                          clear A190
                          have c20b0 := eq_true (of_decide_eq_true (by first | (with_reducible assumption) | assumption) : 0 ≤ (ji16))
                          have c21b0 := eq_true (of_decide_eq_true (by first | (with_reducible assumption) | assumption) : (ji16) ≤ (((rd_T26 l0 x3_1).f2).length : Int))
                          replace H := Option.bind_eq_some_iff.mp H
                          obtain ⟨⟨t139, t140⟩, A220, H⟩ := H
                          replace H : (if t139 = t133 then (cadastrelaw8_SumParts.j3 kj6 l0 x3_1 t133 t134 (t140 != t134) ((rd_T26 l0 x3_1).f0) ((rd_T26 l0 x3_1).f1) ((rd_T26 l0 x3_1).f2) ((rd_T26 l0 x3_1).f3)) else (cadastrelaw8_SumParts.j3 kj6 l0 x3_1 t133 t134 true ((rd_T26 l0 x3_1).f0) ((rd_T26 l0 x3_1).f1) ((rd_T26 l0 x3_1).f2) ((rd_T26 l0 x3_1).f3))) = some r := H
                          have A22 := Aside0.mk A220
                          clear A220
                          have HC23 := Aside0.mk H
                          clear H
                          have hcz24_0 : wc.cell? ⟨gb131, 0, none⟩ = some (.int .u32 ((rd_T26 l0 x3_1).f0)) := (blk_cell BK131.out 0).trans rfl
                          have hcz24_1 : wc.cell? ⟨gb131, 1, none⟩ = some (.int .u32 ((rd_T26 l0 x3_1).f1)) := (blk_cell BK131.out 1).trans rfl
                          have hcz24_2 : wc.cell? ⟨gb131, 2, none⟩ = some (.slice A130_2 ((rd_T26 l0 x3_1).f2).length c130_2) := (blk_cell BK131.out 2).trans rfl
                          have hcz24_3 : wc.cell? ⟨gb131, 3, none⟩ = some (.int .i64 ((rd_T26 l0 x3_1).f3)) := (blk_cell BK131.out 3).trans rfl
                          have hfz24_0 := blk_frozen BK131.out 0
                          have hfz24_1 := blk_frozen BK131.out 1
                          have hfz24_2 := blk_frozen BK131.out 2
                          have hfz24_3 := blk_frozen BK131.out 3
                          try go_wp2_with (first | ((with_reducible refine gate_callee (f := 17) rfl ?_); refine goesL_ (some 45) rfl rfl Try.func17 (by kernel_rfl) rfl #[.int .i64 ((rd_T26 l0 x3_1).f3), .int .i64 (wrap64 ((wrap64 ((((rd_T26 l0 x3_1).f2).length : Int) / 8)) + 1))] rfl (by (try simp only [List.map_toArray, List.map_cons, List.map_nil]); first | done | rfl | (simp only [List.length_drop, List.length_take]; rfl)) ?_; (with_reducible refine (cadastrelaw0_Within.calls ((rd_T26 l0 x3_1).f3) (wrap64 ((wrap64 ((((rd_T26 l0 x3_1).f2).length : Int) / 8)) + 1)) t132 _ A14.out).mono ?_); rintro e w' ⟨rfl, ⟨nd, rfl⟩⟩; refine ⟨_, rfl, ?_⟩) | ((with_reducible refine gate_callee (f := 13) rfl ?_); refine goesL_ (some 54) rfl rfl Try.func13 (by kernel_rfl) rfl #[.int .u32 ((rd_T26 l0 x3_1).f0), .int .u32 ((rd_T26 l0 x3_1).f1), .slice A130_2 ((rd_T26 l0 x3_1).f2).length c130_2] rfl (by (try simp only [List.map_toArray, List.map_cons, List.map_nil]); first | done | rfl | (simp only [List.length_drop, List.length_take]; rfl)) ?_; (with_reducible refine (sum_Sum.calls kj6 ((rd_T26 l0 x3_1).f0) ((rd_T26 l0 x3_1).f1) _ _ ((rd_T26 l0 x3_1).f2) t133 t134 _ ?side1 ?side2 A15.out).mono ?_); (case side1 => repeat (first | exact (Kd.C_below HR130_2.out (by repeat (first | (with_reducible first | exact HB.out | apply below_alloc | apply pw_below_drewN | apply below_drew1 | refine below_set ?_ GE131.out) | exact HB.out))) | (with_reducible refine Kd.C_alloc ?_ _) | (with_reducible refine Kd.C_drewN ?_ _) | (with_reducible refine Kd.C_drew ?_))); (case side2 => exact HC130_2.out); rintro e w' ⟨rfl, ⟨nd, rfl⟩⟩; refine ⟨_, rfl, ?_⟩))
                          (try (rw [drewN_self wc]; generalize hq_ : World.drewN wc _ = wc; have n0_ : Aside0 (wc.heap[gb131]? = some (.cells #[.int .u32 ((rd_T26 l0 x3_1).f0), .int .u32 ((rd_T26 l0 x3_1).f1), .slice A130_2 ((rd_T26 l0 x3_1).f2).length c130_2, .int .i64 ((rd_T26 l0 x3_1).f3)] 26 (0, 0))) := ⟨by rw [← hq_]; exact (by (with_reducible repeat (first | refine blk_drewN ?_ _ | refine blk_drew ?_ | refine blk_alloc ?_ _)); exact BK131.out)⟩; have n1_ : Aside0 (Below w.heap.size w wc) := ⟨by rw [← hq_]; exact (by repeat (first | (with_reducible first | exact HB.out | apply below_alloc | apply pw_below_drewN | apply below_drew1 | refine below_set ?_ GE131.out) | exact HB.out))⟩; clear BK131 HB hq_; have BK131 := n0_; have HB := n1_; clear n0_ n1_))
                          have n0_ := Aside0.mk (blk_drew BK131.out)
                          have n1_ := Aside0.mk (below_drew1 HB.out)
                          clear BK131
                          clear HB
                          have BK131 := n0_
                          have HB := n1_
                          clear n0_ n1_
                          obtain ⟨i026, hi026, _, hsz26, _⟩ := info_parts info5
                          obtain ⟨hcut26, hA26, hC26⟩ := print_take_of (P := Try.prog) (Value.int .u8) 0 24 5 .i64 Try.underlying24 hi026 hsz26 A130_2 c130_2 ((rd_T26 l0 x3_1).f2) (ji16) (of_decide_eq_true (by first | (with_reducible assumption) | assumption)) (of_decide_eq_true (by first | (with_reducible assumption) | assumption)) HC130_2.out
                          have HR135 := Aside0.mk (Kd.C_of_reads (h1 := fun _ => rfl) (hA26 _ (Kd.reads_of_C HR130_2.out)))
                          have HC135 := Aside0.mk hC26
                          clear hA26 hC26 hi026 hsz26
                          refine start_ (n := 14) (S := fun w' => w'.cell? ⟨gb131, 0, none⟩ = some (.int .u32 ((rd_T26 l0 x3_1).f0)) ∧ w'.cell? ⟨gb131, 1, none⟩ = some (.int .u32 ((rd_T26 l0 x3_1).f1)) ∧ w'.cell? ⟨gb131, 2, none⟩ = some (.slice A130_2 ((rd_T26 l0 x3_1).f2).length c130_2) ∧ w'.cell? ⟨gb131, 3, none⟩ = some (.int .i64 ((rd_T26 l0 x3_1).f3))) (ds := []) #[false, false, false, false, false, false, false, false, false, false, false, false, false, false] (by kernel_rfl) rfl rfl ⟨(blk_cell BK131.out 0).trans rfl, (blk_cell BK131.out 1).trans rfl, (blk_cell BK131.out 2).trans rfl, (blk_cell BK131.out 3).trans rfl⟩ (fun hHeld => ?_); refine with_tabW cadastrelaw8_SumParts.tab8 cadastrelaw8_SumParts.bits8 (fun HT_ HW_ => ?_)
                          generalize wc.drew = w25 at BK131 HB HR135 hHeld ⊢
                          refine pure_ (i := 0) (N := some 58) (v := ?_) (a' := ?_) #[true, false, false, false, false, false, false, false, false, false, false, false, false, false] rfl rfl (any_of HT_.out (by kernel_rfl)) (fun _ _ _ h => h) (Or.inl ⟨by rfl, ?_⟩) ?_ ?_
                          rotate_left
                          · intro w'
                            go_simp
                            with_reducible rfl
                          rotate_left
                          · simp only [Act.put, List.setIfInBounds_toArray, List.set_cons_zero, List.set_cons_succ, i64_w, i32_w, u32_w, u8_w]
                            rfl
                          refine pure_ (i := 2) (N := some 60) (v := ?_) (a' := ?_) #[true, false, true, false, false, false, false, false, false, false, false, false, false, false] rfl rfl (any_of HT_.out (by kernel_rfl)) (fun _ _ _ h => h) (Or.inl ⟨by rfl, ?_⟩) ?_ ?_
                          rotate_left
                          · intro w'
                            go_simp
                            with_reducible rfl
                          rotate_left
                          · simp only [Act.put, List.setIfInBounds_toArray, List.set_cons_zero, List.set_cons_succ, i64_w, i32_w, u32_w, u8_w]
                            rfl
                          refine pure_ (i := 4) (N := some 62) (v := ?_) (a' := ?_) #[true, false, true, false, true, false, false, false, false, false, false, false, false, false] rfl rfl (any_of HT_.out (by kernel_rfl)) (fun _ _ _ h => h) (Or.inl ⟨by rfl, ?_⟩) ?_ ?_
                          rotate_left
                          · intro w'
                            go_simp
                            with_reducible rfl
                          rotate_left
                          · simp only [Act.put, List.setIfInBounds_toArray, List.set_cons_zero, List.set_cons_succ, i64_w, i32_w, u32_w, u8_w]
                            rfl
                          refine pure_ (i := 6) (N := some 64) (v := ?_) (a' := ?_) #[true, false, true, false, true, false, true, false, false, false, false, false, false, false] rfl rfl (any_of HT_.out (by kernel_rfl)) (fun _ _ _ h => h) (Or.inl ⟨by rfl, ?_⟩) ?_ ?_
                          rotate_left
                          · intro w'
                            go_simp
                            with_reducible rfl
                          rotate_left
                          · simp only [Act.put, List.setIfInBounds_toArray, List.set_cons_zero, List.set_cons_succ, i64_w, i32_w, u32_w, u8_w]
                            rfl
                          refine take_ (i := 1) (N := some 59) (v := ?_) (a' := ?_) #[true, true, true, false, true, false, true, false, false, false, false, false, false, false] rfl rfl (take_ofW HT_.out HW_.out (by kernel_rfl)) (fun _ _ _ h => h) (Or.inl ⟨by rfl, ?_⟩) hHeld ?_ ?_
                          rotate_left
                          · rintro w' ⟨s0, s1, s2, s3⟩
                            go_simp
                            with_reducible rfl
                          rotate_left
                          · simp only [Act.put, List.setIfInBounds_toArray, List.set_cons_zero, List.set_cons_succ, i64_w, i32_w, u32_w, u8_w]
                            rfl
                          refine take_ (i := 3) (N := some 61) (v := ?_) (a' := ?_) #[true, true, true, true, true, false, true, false, false, false, false, false, false, false] rfl rfl (take_ofW HT_.out HW_.out (by kernel_rfl)) (fun _ _ _ h => h) (Or.inl ⟨by rfl, ?_⟩) hHeld ?_ ?_
                          rotate_left
                          · rintro w' ⟨s0, s1, s2, s3⟩
                            go_simp
                            with_reducible rfl
                          rotate_left
                          · simp only [Act.put, List.setIfInBounds_toArray, List.set_cons_zero, List.set_cons_succ, i64_w, i32_w, u32_w, u8_w]
                            rfl
                          refine take_ (i := 5) (N := some 63) (v := ?_) (a' := ?_) #[true, true, true, true, true, true, true, false, false, false, false, false, false, false] rfl rfl (take_ofW HT_.out HW_.out (by kernel_rfl)) (fun _ _ _ h => h) (Or.inl ⟨by rfl, ?_⟩) hHeld ?_ ?_
                          rotate_left
                          · rintro w' ⟨s0, s1, s2, s3⟩
                            go_simp
                            with_reducible rfl
                          rotate_left
                          · simp only [Act.put, List.setIfInBounds_toArray, List.set_cons_zero, List.set_cons_succ, i64_w, i32_w, u32_w, u8_w]
                            rfl
                          refine pure_ (i := 7) (N := some 65) (v := ?_) (a' := ?_) #[true, true, true, true, true, true, true, true, false, false, false, false, false, false] rfl rfl (any_of HT_.out (by kernel_rfl)) (fun _ _ _ h => h) (Or.inl ⟨by rfl, ?_⟩) ?_ ?_
                          rotate_left
                          · intro w'
                            go_simp
                            with_reducible rfl
                          rotate_left
                          · simp only [Act.put, List.setIfInBounds_toArray, List.set_cons_zero, List.set_cons_succ, i64_w, i32_w, u32_w, u8_w]
                            rfl
                          refine one_ (i := 8) (N := some 66) #[true, true, true, true, true, true, true, true, true, false, false, false, false, false] rfl rfl (one_of HT_.out (by kernel_rfl)) (by decide) (fun K hK => ?_)
                          refine goes_ Try.func13 (by kernel_rfl) rfl #[.int .u32 ((rd_T26 l0 x3_1).f0), .int .u32 ((rd_T26 l0 x3_1).f1), .slice A130_2 (((rd_T26 l0 x3_1).f2).take ((ji16) : Int).toNat).length c130_2] (by rfl) rfl rfl (by (try simp only [List.map_toArray, List.map_cons, List.map_nil]); first | done | (rw [show (((rd_T26 l0 x3_1).f2).take ((ji16) : Int).toNat).length = (ji16).toNat from (by rw [List.length_take]; have h_ : ((ji16) : Int) ≤ (((rd_T26 l0 x3_1).f2).length : Int) := of_decide_eq_true (by first | (with_reducible assumption) | assumption); omega)] <;> rfl) | (simp only [hji16]; rfl) | rfl | (simp only [List.length_drop, List.length_take]; rfl)) ?_
                          with_reducible refine (sum_Sum.calls kj6 ((rd_T26 l0 x3_1).f0) ((rd_T26 l0 x3_1).f1) _ _ (((rd_T26 l0 x3_1).f2).take ((ji16) : Int).toNat) t136 t137 _ ?side1 ?side2 A19.out).mono ?_
                          (case side1 => repeat (first | exact (Kd.C_below HR135.out HB.out) | (with_reducible refine Kd.C_alloc ?_ _) | (with_reducible refine Kd.C_drewN ?_ _) | (with_reducible refine Kd.C_drew ?_)))
                          (case side2 => exact HC135.out)
                          rintro e w' ⟨rfl, ⟨nd, rfl⟩⟩
                          refine ⟨_, rfl, ?_⟩
                          refine hK.out _ _ ⟨(blk_cell BK131.out 0).trans rfl, (blk_cell BK131.out 1).trans rfl, (blk_cell BK131.out 2).trans rfl, (blk_cell BK131.out 3).trans rfl⟩ (fun hHeld => ?_)
                          clear hK K
                          refine norm_ (a' := ?_) ?_ ?_
                          rotate_left
                          · show Act.put _ (some 66) _ = _
                            simp only [Act.put, List.setIfInBounds_toArray, List.set_cons_zero, List.set_cons_succ, i64_w, i32_w, u32_w, u8_w]
                            rfl
                          refine pure_ (i := 9) (N := some 57) (v := ?_) (a' := ?_) #[true, true, true, true, true, true, true, true, true, true, false, false, false, false] rfl rfl (any_of HT_.out (by kernel_rfl)) (fun _ _ _ h => h) (Or.inl ⟨by rfl, ?_⟩) ?_ ?_
                          rotate_left
                          · intro w'
                            go_simp
                            with_reducible rfl
                          rotate_left
                          · simp only [Act.put, List.setIfInBounds_toArray, List.set_cons_zero, List.set_cons_succ, i64_w, i32_w, u32_w, u8_w]
                            rfl
                          refine pure_ (i := 10) (N := some 67) (v := ?_) (a' := ?_) #[true, true, true, true, true, true, true, true, true, true, true, false, false, false] rfl rfl (any_of HT_.out (by kernel_rfl)) (fun _ _ _ h => h) (Or.inl ⟨by rfl, ?_⟩) ?_ ?_
                          rotate_left
                          · intro w'
                            go_simp
                            with_reducible rfl
                          rotate_left
                          · simp only [Act.put, List.setIfInBounds_toArray, List.set_cons_zero, List.set_cons_succ, i64_w, i32_w, u32_w, u8_w]
                            rfl
                          refine pure_ (i := 11) (N := some 68) (v := ?_) (a' := ?_) #[true, true, true, true, true, true, true, true, true, true, true, true, false, false] rfl rfl (any_of HT_.out (by kernel_rfl)) (fun _ _ _ h => h) (Or.inl ⟨by rfl, ?_⟩) ?_ ?_
                          rotate_left
                          · intro w'
                            go_simp
                            with_reducible rfl
                          rotate_left
                          · simp only [Act.put, List.setIfInBounds_toArray, List.set_cons_zero, List.set_cons_succ, i64_w, i32_w, u32_w, u8_w]
                            rfl
                          refine pure_ (i := 12) (N := some 8) (v := ?_) (a' := ?_) #[true, true, true, true, true, true, true, true, true, true, true, true, true, false] rfl rfl (any_of HT_.out (by kernel_rfl)) (fun _ _ _ h => h) (Or.inl ⟨by rfl, ?_⟩) ?_ ?_
                          rotate_left
                          · intro w'
                            go_simp
                            with_reducible rfl
                          rotate_left
                          · simp only [Act.put, List.setIfInBounds_toArray, List.set_cons_zero, List.set_cons_succ, i64_w, i32_w, u32_w, u8_w]
                            rfl
                          refine pure_ (i := 13) (N := some 9) (v := ?_) (a' := ?_) #[true, true, true, true, true, true, true, true, true, true, true, true, true, true] rfl rfl (any_of HT_.out (by kernel_rfl)) (fun _ _ _ h => h) (Or.inl ⟨by rfl, ?_⟩) ?_ ?_
                          rotate_left
                          · intro w'
                            go_simp
                            with_reducible rfl
                          rotate_left
                          · simp only [Act.put, List.setIfInBounds_toArray, List.set_cons_zero, List.set_cons_succ, i64_w, i32_w, u32_w, u8_w]
                            rfl
                          refine done_ (done_of HT_.out (by kernel_rfl)) ?_
                          have hcz27_0 : w25.cell? ⟨gb131, 0, none⟩ = some (.int .u32 ((rd_T26 l0 x3_1).f0)) := (blk_cell BK131.out 0).trans rfl
                          have hcz27_1 : w25.cell? ⟨gb131, 1, none⟩ = some (.int .u32 ((rd_T26 l0 x3_1).f1)) := (blk_cell BK131.out 1).trans rfl
                          have hcz27_2 : w25.cell? ⟨gb131, 2, none⟩ = some (.slice A130_2 ((rd_T26 l0 x3_1).f2).length c130_2) := (blk_cell BK131.out 2).trans rfl
                          have hcz27_3 : w25.cell? ⟨gb131, 3, none⟩ = some (.int .i64 ((rd_T26 l0 x3_1).f3)) := (blk_cell BK131.out 3).trans rfl
                          have hfz27_0 := blk_frozen BK131.out 0
                          have hfz27_1 := blk_frozen BK131.out 1
                          have hfz27_2 := blk_frozen BK131.out 2
                          have hfz27_3 := blk_frozen BK131.out 3
                          obtain ⟨i028, hi028, _, hsz28, _⟩ := info_parts info5
                          obtain ⟨A28, hcut28, hA28, hC28⟩ := print_drop_of (P := Try.prog) (Value.int .u8) 0 24 5 .i64 Try.underlying24 hi028 hsz28 A130_2 c130_2 ((rd_T26 l0 x3_1).f2) (ji16) (of_decide_eq_true (by first | (with_reducible assumption) | assumption)) (of_decide_eq_true (by first | (with_reducible assumption) | assumption)) HC130_2.out
                          have HR138 := Aside0.mk (Kd.C_of_reads (h1 := fun _ => rfl) (hA28 _ (Kd.reads_of_C HR130_2.out)))
                          have HC138 := Aside0.mk hC28
                          clear hA28 hC28 hi028 hsz28
                          go_upto_region 10 with (first | ((with_reducible refine gate_callee (f := 13) rfl ?_); refine goesL_ (some 76) rfl rfl Try.func13 (by kernel_rfl) rfl #[.int .u32 t136, .int .u32 t137, .slice A28 (((rd_T26 l0 x3_1).f2).drop ((ji16) : Int).toNat).length (c130_2 - (ji16).toNat)] rfl (by (try simp only [List.map_toArray, List.map_cons, List.map_nil]); first | done | (rw [show (((rd_T26 l0 x3_1).f2).drop ((ji16) : Int).toNat).length = (((rd_T26 l0 x3_1).f2).length - (ji16).toNat) from List.length_drop] <;> rfl) | (simp only [hji16]; rfl) | rfl | (simp only [List.length_drop, List.length_take]; rfl)) ?_; (with_reducible refine (sum_Sum.calls kj6 t136 t137 _ _ (((rd_T26 l0 x3_1).f2).drop ((ji16) : Int).toNat) t139 t140 _ ?side1 ?side2 A22.out).mono ?_); (case side1 => repeat (first | exact (Kd.C_below HR138.out (by repeat (first | (with_reducible first | exact HB.out | apply below_alloc | apply pw_below_drewN | apply below_drew1 | refine below_set ?_ GE131.out) | exact HB.out))) | (with_reducible refine Kd.C_alloc ?_ _) | (with_reducible refine Kd.C_drewN ?_ _) | (with_reducible refine Kd.C_drew ?_))); (case side2 => exact HC138.out); rintro e w' ⟨rfl, ⟨nd, rfl⟩⟩; refine ⟨_, rfl, ?_⟩))
                          (try simp only [Act.put, List.setIfInBounds_toArray, List.set_cons_zero, List.set_cons_succ])
                          go_cut [86] (fun v86 wc => ∃ (kq : Nat) (x86_22 : Bool), v86 = .bool x86_22 ∧ Aside0 (cadastrelaw8_SumParts.j3 kq l0 x3_1 t133 t134 x86_22 ((rd_T26 l0 x3_1).f0) ((rd_T26 l0 x3_1).f1) ((rd_T26 l0 x3_1).f2) ((rd_T26 l0 x3_1).f3) = some r) ∧ Aside0 (kq ≤ kj6) ∧ Aside0 (wc.heap[gb131]? = some (.cells #[.int .u32 ((rd_T26 l0 x3_1).f0), .int .u32 ((rd_T26 l0 x3_1).f1), (.slice A130_2 ((rd_T26 l0 x3_1).f2).length c130_2), .int .i64 ((rd_T26 l0 x3_1).f3)] 26 (0, 0))) ∧ Aside0 (Below w.heap.size w wc))
                          case first =>
                            have H := HC23.out
                            clear HC23
                            by_cases c29 : t139 = t133
                            · rw [if_pos c29] at H
                              have c29b0 : (t139 == t133) = true := beq_iff_eq.mpr c29
                              have c29b1 : (t139 != t133) = false := bne_eq_false_iff_eq.mpr c29
                              clear c29
                              (first | rw [c29b0] | (simp only [i64_w, i32_w]; rw [c29b0]) | skip)
                              have H' := Aside0.mk H
                              clear H
                              go_wp2
                              go_meet
                              case rel => exact ⟨_, ((t140 != t134)), (by first | rfl | (simp; done) | (simp [*]; done)), H', ⟨by have := HK1.out; have := HJ1.out; have := HJ6.out; first | omega | exact Nat.le_refl _⟩, ⟨by (with_reducible repeat (first | refine blk_drewN ?_ _ | refine blk_drew ?_ | refine blk_alloc ?_ _)); exact BK131.out⟩, ⟨by repeat (first | (with_reducible first | exact HB.out | apply below_alloc | apply pw_below_drewN | apply below_drew1 | refine below_set ?_ GE131.out) | exact HB.out)⟩⟩
                            · rw [if_neg c29] at H
                              have c29b0 : (t139 == t133) = false := beq_eq_false_iff_ne.mpr c29
                              have c29b1 : (t139 != t133) = true := bne_iff_ne.mpr c29
                              (first | rw [c29b0] | (simp only [i64_w, i32_w]; rw [c29b0]) | skip)
                              have H' := Aside0.mk H
                              clear H
                              go_wp2
                              go_meet
                              case rel => exact ⟨_, (true), (by first | rfl | (simp; done) | (simp [*]; done)), H', ⟨by have := HK1.out; have := HJ1.out; have := HJ6.out; first | omega | exact Nat.le_refl _⟩, ⟨by (with_reducible repeat (first | refine blk_drewN ?_ _ | refine blk_drew ?_ | refine blk_alloc ?_ _)); exact BK131.out⟩, ⟨by repeat (first | (with_reducible first | exact HB.out | apply below_alloc | apply pw_below_drewN | apply below_drew1 | refine below_set ?_ GE131.out) | exact HB.out)⟩⟩
                          case rest =>
                            clear HC23
                            try clear c1
                            try clear p1
                            try clear q1
                            try clear hx1
                            try clear c2
                            try clear p2
                            try clear c3
                            try clear c3b0
                            try clear c4
                            try clear c5
                            try clear c5b0
                            try clear c6
                            try clear c6b0
                            try clear p6
                            try clear c10
                            try clear c10b0
                            try clear c10b1
                            try clear c13
                            try clear p13
                            try clear q13
                            try clear hx13
                            try clear c17
                            try clear c17b0
                            try clear c17b1
                            try clear c18
                            try clear c18b0
                            try clear c18b1
                            try clear c20
                            try clear c20b0
                            try clear c21
                            try clear c21b0
                            try clear c29
                            try clear c29b0
                            try clear c29b1
                            try clear hcz11_0
                            try clear hcz11_1
                            try clear hcz11_2
                            try clear hcz11_3
                            try clear hcz12_0
                            try clear hcz12_1
                            try clear hcz12_2
                            try clear hcz12_3
                            try clear hcz24_0
                            try clear hcz24_1
                            try clear hcz24_2
                            try clear hcz24_3
                            try clear hcz27_0
                            try clear hcz27_1
                            try clear hcz27_2
                            try clear hcz27_3
                            try clear hcz9_0
                            try clear hcz9_1
                            try clear hcz9_2
                            try clear hcz9_3
                            try clear hfz11_0
                            try clear hfz11_1
                            try clear hfz11_2
                            try clear hfz11_3
                            try clear hfz12_0
                            try clear hfz12_1
                            try clear hfz12_2
                            try clear hfz12_3
                            try clear hfz24_0
                            try clear hfz24_1
                            try clear hfz24_2
                            try clear hfz24_3
                            try clear hfz27_0
                            try clear hfz27_1
                            try clear hfz27_2
                            try clear hfz27_3
                            try clear hfz9_0
                            try clear hfz9_1
                            try clear hfz9_2
                            try clear hfz9_3
                            try clear hx130_0
                            try clear hx130_1
                            try clear hx130_2
                            try clear hx130_3
                            try clear p1
                            try clear p130
                            try clear p2
                            try clear q1
                            try clear q130
                            obtain ⟨kq, x86_22, rfl, HA, HJ22, BK131, HB⟩ := hcut
                            cases kq with
                            | zero => exact absurd HA.out (by simp [cadastrelaw8_SumParts.j3])
                            | succ kj22 =>
                              have H := HA.out
                              clear HA
                              simp only [cadastrelaw8_SumParts.j3] at H
                              by_cases c30 : x86_22 = true
                              · subst c30
                                have H1 : (some false) = some r := by rw [if_pos rfl] at H; exact H
                                clear H
                                have H := H1
                                clear H1
                                obtain rfl := Option.some.inj H
                                go_wp2
                                go_ret
                                exact ⟨by first | rfl | (simp [errW_none, errW_some] <;> rfl) | (simp only [← hji16]; first | rfl | (simp [errW_none, errW_some] <;> rfl)) | (simp [*, errW_none, errW_some] <;> rfl), by repeat (first | (with_reducible first | exact HB.out | apply below_alloc | apply pw_below_drewN | apply below_drew1 | refine below_set ?_ GE131.out) | exact HB.out)⟩
                              · replace c30 := Bool.eq_false_iff.mpr c30
                                subst c30
                                have H1 : ((cadastreref0_CopyBytes.f kj22 ((rd_T26 l0 x3_1).f2)).bind fun t141 => ((cadastrelaw0_Within.f ((rd_T26 l0 x3_1).f3) (t141.length : Int)).bind fun t144 => (if 0 ≤ t144 then (if t144 < (t141.length : Int) then ((cadastrelaw0_Within.f ((rd_T26 l0 x3_1).f3) 255).bind fun t146 => ((sum_Sum.f kj22 ((rd_T26 l0 x3_1).f0) ((rd_T26 l0 x3_1).f1) (t141.set (t144 : Int).toNat (Go.bits .xor .u8 (rd t141 t144) ((wrap64 (1 + t146)) % 256)))).bind fun bt148 => (if bt148.1 = t133 then (cadastrelaw8_SumParts.j4 kj22 l0 x3_1 t133 t134 (bt148.2 == t134) ((rd_T26 l0 x3_1).f0) ((rd_T26 l0 x3_1).f1) ((rd_T26 l0 x3_1).f2) ((rd_T26 l0 x3_1).f3)) else (cadastrelaw8_SumParts.j4 kj22 l0 x3_1 t133 t134 false ((rd_T26 l0 x3_1).f0) ((rd_T26 l0 x3_1).f1) ((rd_T26 l0 x3_1).f2) ((rd_T26 l0 x3_1).f3))))) else (none)) else (none)))) = some r := by rw [if_neg (show ¬ (false = true) by decide)] at H; exact H
                                clear H
                                have H := H1
                                clear H1
                                replace H := Option.bind_eq_some_iff.mp H
                                obtain ⟨t141, A310, H⟩ := H
                                replace H : ((cadastrelaw0_Within.f ((rd_T26 l0 x3_1).f3) (t141.length : Int)).bind fun t144 => (if 0 ≤ t144 then (if t144 < (t141.length : Int) then ((cadastrelaw0_Within.f ((rd_T26 l0 x3_1).f3) 255).bind fun t146 => ((sum_Sum.f kj22 ((rd_T26 l0 x3_1).f0) ((rd_T26 l0 x3_1).f1) (t141.set (t144 : Int).toNat (Go.bits .xor .u8 (rd t141 t144) ((wrap64 (1 + t146)) % 256)))).bind fun bt148 => (if bt148.1 = t133 then (cadastrelaw8_SumParts.j4 kj22 l0 x3_1 t133 t134 (bt148.2 == t134) ((rd_T26 l0 x3_1).f0) ((rd_T26 l0 x3_1).f1) ((rd_T26 l0 x3_1).f2) ((rd_T26 l0 x3_1).f3)) else (cadastrelaw8_SumParts.j4 kj22 l0 x3_1 t133 t134 false ((rd_T26 l0 x3_1).f0) ((rd_T26 l0 x3_1).f1) ((rd_T26 l0 x3_1).f2) ((rd_T26 l0 x3_1).f3))))) else (none)) else (none))) = some r := H
                                have A31 := Aside0.mk A310
                                clear A310
                                replace H := Option.bind_eq_some_iff.mp H
                                obtain ⟨t144, A320, H⟩ := H
                                replace H : (if 0 ≤ t144 then (if t144 < (t141.length : Int) then ((cadastrelaw0_Within.f ((rd_T26 l0 x3_1).f3) 255).bind fun t146 => ((sum_Sum.f kj22 ((rd_T26 l0 x3_1).f0) ((rd_T26 l0 x3_1).f1) (t141.set (t144 : Int).toNat (Go.bits .xor .u8 (rd t141 t144) ((wrap64 (1 + t146)) % 256)))).bind fun bt148 => (if bt148.1 = t133 then (cadastrelaw8_SumParts.j4 kj22 l0 x3_1 t133 t134 (bt148.2 == t134) ((rd_T26 l0 x3_1).f0) ((rd_T26 l0 x3_1).f1) ((rd_T26 l0 x3_1).f2) ((rd_T26 l0 x3_1).f3)) else (cadastrelaw8_SumParts.j4 kj22 l0 x3_1 t133 t134 false ((rd_T26 l0 x3_1).f0) ((rd_T26 l0 x3_1).f1) ((rd_T26 l0 x3_1).f2) ((rd_T26 l0 x3_1).f3))))) else (none)) else (none)) = some r := H
                                have A32 := Aside0.mk A320
                                clear A320
                                by_cases c33 : 0 ≤ t144
                                · rw [if_pos c33] at H
                                  have c33b0 : decide (0 ≤ t144) = true := decide_eq_true c33
                                  clear c33
                                  by_cases c34 : t144 < (t141.length : Int)
                                  · rw [if_pos c34] at H
                                    have c34b0 : decide (t144 < (t141.length : Int)) = true := decide_eq_true c34
                                    clear c34
                                    replace H := Option.bind_eq_some_iff.mp H
                                    obtain ⟨t146, A350, H⟩ := H
                                    replace H : ((sum_Sum.f kj22 ((rd_T26 l0 x3_1).f0) ((rd_T26 l0 x3_1).f1) (t141.set (t144 : Int).toNat (Go.bits .xor .u8 (rd t141 t144) ((wrap64 (1 + t146)) % 256)))).bind fun bt148 => (if bt148.1 = t133 then (cadastrelaw8_SumParts.j4 kj22 l0 x3_1 t133 t134 (bt148.2 == t134) ((rd_T26 l0 x3_1).f0) ((rd_T26 l0 x3_1).f1) ((rd_T26 l0 x3_1).f2) ((rd_T26 l0 x3_1).f3)) else (cadastrelaw8_SumParts.j4 kj22 l0 x3_1 t133 t134 false ((rd_T26 l0 x3_1).f0) ((rd_T26 l0 x3_1).f1) ((rd_T26 l0 x3_1).f2) ((rd_T26 l0 x3_1).f3)))) = some r := H
                                    have A35 := Aside0.mk A350
                                    clear A350
                                    obtain ⟨y147, hy147⟩ : ∃ y_ : List Int, y_ = (t141.set (t144 : Int).toNat (Go.bits .xor .u8 (rd t141 t144) ((wrap64 (1 + t146)) % 256))) := ⟨_, rfl⟩
                                    replace H : ((sum_Sum.f kj22 ((rd_T26 l0 x3_1).f0) ((rd_T26 l0 x3_1).f1) y147).bind fun bt148 => (if bt148.1 = t133 then (cadastrelaw8_SumParts.j4 kj22 l0 x3_1 t133 t134 (bt148.2 == t134) ((rd_T26 l0 x3_1).f0) ((rd_T26 l0 x3_1).f1) ((rd_T26 l0 x3_1).f2) ((rd_T26 l0 x3_1).f3)) else (cadastrelaw8_SumParts.j4 kj22 l0 x3_1 t133 t134 false ((rd_T26 l0 x3_1).f0) ((rd_T26 l0 x3_1).f1) ((rd_T26 l0 x3_1).f2) ((rd_T26 l0 x3_1).f3)))) = some r := by first | (rw [hy147]; with_reducible exact H) | (have H2_ := (Option.bind_some _ _).symm.trans H; rw [hy147]; with_reducible exact H2_) | (have H2_ := (Option.bind_some _ _).symm.trans H; with_reducible exact H2_) | with_reducible exact H | (rw [hy147]; exact H) | exact H
                                    have Ny147 := Aside0.mk hy147
                                    clear hy147
                                    replace H := Option.bind_eq_some_iff.mp H
                                    obtain ⟨⟨t148, t149⟩, A370, H⟩ := H
                                    replace H : (if t148 = t133 then (cadastrelaw8_SumParts.j4 kj22 l0 x3_1 t133 t134 (t149 == t134) ((rd_T26 l0 x3_1).f0) ((rd_T26 l0 x3_1).f1) ((rd_T26 l0 x3_1).f2) ((rd_T26 l0 x3_1).f3)) else (cadastrelaw8_SumParts.j4 kj22 l0 x3_1 t133 t134 false ((rd_T26 l0 x3_1).f0) ((rd_T26 l0 x3_1).f1) ((rd_T26 l0 x3_1).f2) ((rd_T26 l0 x3_1).f3))) = some r := H
                                    have A37 := Aside0.mk A370
                                    clear A370
                                    have HC38 := Aside0.mk H
                                    clear H
                                    have hcz39_0 : wc.cell? ⟨gb131, 0, none⟩ = some (.int .u32 ((rd_T26 l0 x3_1).f0)) := (blk_cell BK131.out 0).trans rfl
                                    have hcz39_1 : wc.cell? ⟨gb131, 1, none⟩ = some (.int .u32 ((rd_T26 l0 x3_1).f1)) := (blk_cell BK131.out 1).trans rfl
                                    have hcz39_2 : wc.cell? ⟨gb131, 2, none⟩ = some (.slice A130_2 ((rd_T26 l0 x3_1).f2).length c130_2) := (blk_cell BK131.out 2).trans rfl
                                    have hcz39_3 : wc.cell? ⟨gb131, 3, none⟩ = some (.int .i64 ((rd_T26 l0 x3_1).f3)) := (blk_cell BK131.out 3).trans rfl
                                    have hfz39_0 := blk_frozen BK131.out 0
                                    have hfz39_1 := blk_frozen BK131.out 1
                                    have hfz39_2 := blk_frozen BK131.out 2
                                    have hfz39_3 := blk_frozen BK131.out 3
                                    try go_wp2_with (first | ((with_reducible refine gate_callee (f := 12) rfl ?_); refine goesL_ (some 89) rfl rfl Try.func12 (by kernel_rfl) rfl #[.slice A130_2 ((rd_T26 l0 x3_1).f2).length c130_2] rfl (by (try simp only [List.map_toArray, List.map_cons, List.map_nil]); first | done | rfl | (simp only [List.length_drop, List.length_take]; rfl)) ?_; (with_reducible refine (cadastreref0_CopyBytes.calls kj22 _ _ ((rd_T26 l0 x3_1).f2) t141 _ ?side1 ?side2 A31.out).mono ?_); (case side1 => repeat (first | exact (Kd.C_below HR130_2.out HB.out) | (with_reducible refine Kd.C_alloc ?_ _) | (with_reducible refine Kd.C_drewN ?_ _) | (with_reducible refine Kd.C_drew ?_))); (case side2 => exact HC130_2.out); rintro e w40 ⟨v142, rfl, ho0, hb⟩; refine ⟨_, rfl, ?_⟩; have n0_ := Aside0.mk (Kd.R_lower ho0 (below_size (by repeat (first | (with_reducible first | exact HB.out | apply below_alloc | apply pw_below_drewN | apply below_drew1 | refine below_set ?_ GE131.out) | exact HB.out)))); have n1_ := Aside0.mk (blk_below (g := gb131) (o := .cells #[.int .u32 ((rd_T26 l0 x3_1).f0), .int .u32 ((rd_T26 l0 x3_1).f1), .slice A130_2 ((rd_T26 l0 x3_1).f2).length c130_2, .int .i64 ((rd_T26 l0 x3_1).f3)] 26 (0, 0)) (by (with_reducible repeat (first | refine blk_drewN ?_ _ | refine blk_drew ?_ | refine blk_alloc ?_ _)); exact BK131.out) hb); have n2_ := Aside0.mk (below_step (by repeat (first | (with_reducible first | exact HB.out | apply below_alloc | apply pw_below_drewN | apply below_drew1 | refine below_set ?_ GE131.out) | exact HB.out)) hb); clear BK131; clear HB; have HO143 := n0_; have BK131 := n1_; have HB := n2_; clear n0_ n1_ n2_; (try clear hb); (try clear hb2); (try clear hk); (try clear hi); (try clear ho0)))
                                    have n0_ := Aside0.mk (Kd.R_drew HO143.out)
                                    have n1_ := Aside0.mk (blk_drew BK131.out)
                                    have n2_ := Aside0.mk (below_drew1 HB.out)
                                    clear HO143
                                    clear BK131
                                    clear HB
                                    have HO143 := n0_
                                    have BK131 := n1_
                                    have HB := n2_
                                    clear n0_ n1_ n2_
                                    obtain ⟨Ao42, co42, eo42⟩ := Kd.R_slice HO143.out
                                    (first | subst eo42 | (injection eo42 with f1_ f2_ f3_; have f4_ := f1_.symm; have f5_ := f3_.symm; clear f1_ f2_ f3_; subst f4_; subst f5_))
                                    have p145 : 0 ≤ (t144 : Int) := of_decide_eq_true (by first | (with_reducible assumption) | assumption)
                                    have q145 : t144 < (t141.length : Int) := of_decide_eq_true (by first | (with_reducible assumption) | assumption)
                                    obtain ⟨ad145, e145, hx145_0⟩ := Kd.at_int (Kd.R_reads' HO143.out).2.2 t144 p145 q145
                                    cases e145
                                    replace p145 := eq_true p145
                                    replace q145 := eq_true q145
                                    refine start_ (n := 16) (S := fun w' => w'.cell? ⟨gb131, 0, none⟩ = some (.int .u32 ((rd_T26 l0 x3_1).f0)) ∧ w'.cell? ⟨gb131, 1, none⟩ = some (.int .u32 ((rd_T26 l0 x3_1).f1)) ∧ w'.cell? ⟨gb131, 2, none⟩ = some (.slice A130_2 ((rd_T26 l0 x3_1).f2).length c130_2) ∧ w'.cell? ⟨gb131, 3, none⟩ = some (.int .i64 ((rd_T26 l0 x3_1).f3)) ∧ w'.cell? (ad145.add (t144).toNat) = some (.int .u8 (rd t141 t144))) (ds := [15]) #[false, false, false, false, false, false, false, false, false, false, false, false, false, false, false, false] (by kernel_rfl) rfl rfl ⟨(blk_cell BK131.out 0).trans rfl, (blk_cell BK131.out 1).trans rfl, (blk_cell BK131.out 2).trans rfl, (blk_cell BK131.out 3).trans rfl, hx145_0⟩ (fun hHeld => ?_); refine with_tabW cadastrelaw8_SumParts.tab13 cadastrelaw8_SumParts.bits13 (fun HT_ HW_ => ?_)
                                    generalize w40.drew = w41 at HO143 BK131 HB hx145_0 hHeld ⊢
                                    refine pure_ (i := 0) (N := some 90) (v := ?_) (a' := ?_) #[true, false, false, false, false, false, false, false, false, false, false, false, false, false, false, false] rfl rfl (any_of HT_.out (by kernel_rfl)) (fun _ _ _ h => h) (Or.inl ⟨by rfl, ?_⟩) ?_ ?_
                                    rotate_left
                                    · intro w'
                                      go_simp
                                      with_reducible rfl
                                    rotate_left
                                    · simp only [Act.put, List.setIfInBounds_toArray, List.set_cons_zero, List.set_cons_succ, i64_w, i32_w, u32_w, u8_w]
                                      rfl
                                    refine pure_ (i := 1) (N := some 91) (v := ?_) (a' := ?_) #[true, true, false, false, false, false, false, false, false, false, false, false, false, false, false, false] rfl rfl (any_of HT_.out (by kernel_rfl)) (fun _ _ _ h => h) (Or.inl ⟨by rfl, ?_⟩) ?_ ?_
                                    rotate_left
                                    · intro w'
                                      go_simp
                                      with_reducible rfl
                                    rotate_left
                                    · simp only [Act.put, List.setIfInBounds_toArray, List.set_cons_zero, List.set_cons_succ, i64_w, i32_w, u32_w, u8_w]
                                      rfl
                                    refine pure_ (i := 3) (N := some 93) (v := ?_) (a' := ?_) #[true, true, false, true, false, false, false, false, false, false, false, false, false, false, false, false] rfl rfl (any_of HT_.out (by kernel_rfl)) (fun _ _ _ h => h) (Or.inl ⟨by rfl, ?_⟩) ?_ ?_
                                    rotate_left
                                    · intro w'
                                      go_simp
                                      with_reducible rfl
                                    rotate_left
                                    · simp only [Act.put, List.setIfInBounds_toArray, List.set_cons_zero, List.set_cons_succ, i64_w, i32_w, u32_w, u8_w]
                                      rfl
                                    refine pure_ (i := 4) (N := some 94) (v := ?_) (a' := ?_) #[true, true, false, true, true, false, false, false, false, false, false, false, false, false, false, false] rfl rfl (any_of HT_.out (by kernel_rfl)) (fun _ _ _ h => h) (Or.inl ⟨by rfl, ?_⟩) ?_ ?_
                                    rotate_left
                                    · intro w'
                                      go_simp
                                      with_reducible rfl
                                    rotate_left
                                    · simp only [Act.put, List.setIfInBounds_toArray, List.set_cons_zero, List.set_cons_succ, i64_w, i32_w, u32_w, u8_w]
                                      rfl
                                    refine pure_ (i := 8) (N := some 98) (v := ?_) (a' := ?_) #[true, true, false, true, true, false, false, false, true, false, false, false, false, false, false, false] rfl rfl (any_of HT_.out (by kernel_rfl)) (fun _ _ _ h => h) (Or.inl ⟨by rfl, ?_⟩) ?_ ?_
                                    rotate_left
                                    · intro w'
                                      go_simp
                                      with_reducible rfl
                                    rotate_left
                                    · simp only [Act.put, List.setIfInBounds_toArray, List.set_cons_zero, List.set_cons_succ, i64_w, i32_w, u32_w, u8_w]
                                      rfl
                                    refine take_ (i := 2) (N := some 92) (v := ?_) (a' := ?_) #[true, true, true, true, true, false, false, false, true, false, false, false, false, false, false, false] rfl rfl (take_ofW HT_.out HW_.out (by kernel_rfl)) (fun _ _ _ h => h) (Or.inl ⟨by rfl, ?_⟩) hHeld ?_ ?_
                                    rotate_left
                                    · rintro w' ⟨s0, s1, s2, s3, s4⟩
                                      go_simp
                                      with_reducible rfl
                                    rotate_left
                                    · simp only [Act.put, List.setIfInBounds_toArray, List.set_cons_zero, List.set_cons_succ, i64_w, i32_w, u32_w, u8_w]
                                      rfl
                                    refine take_ (i := 9) (N := some 99) (v := ?_) (a' := ?_) #[true, true, true, true, true, false, false, false, true, true, false, false, false, false, false, false] rfl rfl (take_ofW HT_.out HW_.out (by kernel_rfl)) (fun _ _ _ h => h) (Or.inl ⟨by rfl, ?_⟩) hHeld ?_ ?_
                                    rotate_left
                                    · rintro w' ⟨s0, s1, s2, s3, s4⟩
                                      go_simp
                                      with_reducible rfl
                                    rotate_left
                                    · simp only [Act.put, List.setIfInBounds_toArray, List.set_cons_zero, List.set_cons_succ, i64_w, i32_w, u32_w, u8_w]
                                      rfl
                                    refine one_ (i := 5) (N := some 95) #[true, true, true, true, true, true, false, false, true, true, false, false, false, false, false, false] rfl rfl (one_of HT_.out (by kernel_rfl)) (by decide) (fun K hK => ?_)
                                    refine goes_ Try.func17 (by kernel_rfl) rfl #[.int .i64 ((rd_T26 l0 x3_1).f3), .int .i64 (t141.length : Int)] (by rfl) rfl rfl (by (try simp only [List.map_toArray, List.map_cons, List.map_nil]); first | done | rfl | (simp only [List.length_drop, List.length_take]; rfl)) ?_
                                    with_reducible refine (cadastrelaw0_Within.calls ((rd_T26 l0 x3_1).f3) (t141.length : Int) t144 _ A32.out).mono ?_
                                    rintro e w' ⟨rfl, ⟨nd, rfl⟩⟩
                                    refine ⟨_, rfl, ?_⟩
                                    refine hK.out _ _ ⟨(blk_cell BK131.out 0).trans rfl, (blk_cell BK131.out 1).trans rfl, (blk_cell BK131.out 2).trans rfl, (blk_cell BK131.out 3).trans rfl, hHeld.2.2.2.2⟩ (fun hHeld => ?_)
                                    clear hK K
                                    refine norm_ (a' := ?_) ?_ ?_
                                    rotate_left
                                    · show Act.put _ (some 95) _ = _
                                      simp only [Act.put, List.setIfInBounds_toArray, List.set_cons_zero, List.set_cons_succ, i64_w, i32_w, u32_w, u8_w]
                                      rfl
                                    refine pure_ (i := 6) (N := some 96) (v := ?_) (a' := ?_) #[true, true, true, true, true, true, true, false, true, true, false, false, false, false, false, false] rfl rfl (any_of HT_.out (by kernel_rfl)) (fun _ _ _ h => h) (Or.inl ⟨by rfl, ?_⟩) ?_ ?_
                                    rotate_left
                                    · intro w'
                                      go_simp
                                      with_reducible rfl
                                    rotate_left
                                    · simp only [Act.put, List.setIfInBounds_toArray, List.set_cons_zero, List.set_cons_succ, i64_w, i32_w, u32_w, u8_w]
                                      rfl
                                    refine take_ (i := 7) (N := some 97) (v := ?_) (a' := ?_) #[true, true, true, true, true, true, true, true, true, true, false, false, false, false, false, false] rfl rfl (take_ofW HT_.out HW_.out (by kernel_rfl)) (fun _ _ _ h => h) (Or.inl ⟨by rfl, ?_⟩) hHeld ?_ ?_
                                    rotate_left
                                    · rintro w' ⟨s0, s1, s2, s3, s4⟩
                                      go_simp
                                      with_reducible rfl
                                    rotate_left
                                    · simp only [Act.put, List.setIfInBounds_toArray, List.set_cons_zero, List.set_cons_succ, i64_w, i32_w, u32_w, u8_w]
                                      rfl
                                    refine one_ (i := 10) (N := some 100) #[true, true, true, true, true, true, true, true, true, true, true, false, false, false, false, false] rfl rfl (one_of HT_.out (by kernel_rfl)) (by decide) (fun K hK => ?_)
                                    refine goes_ Try.func17 (by kernel_rfl) rfl #[.int .i64 ((rd_T26 l0 x3_1).f3), .int .i64 255] (by rfl) rfl rfl (by (try simp only [List.map_toArray, List.map_cons, List.map_nil]); first | done | rfl | (simp only [List.length_drop, List.length_take]; rfl)) ?_
                                    with_reducible refine (cadastrelaw0_Within.calls ((rd_T26 l0 x3_1).f3) 255 t146 _ A35.out).mono ?_
                                    rintro e w' ⟨rfl, ⟨nd, rfl⟩⟩
                                    refine ⟨_, rfl, ?_⟩
                                    have p36 : 0 ≤ (t144 : Int) := of_decide_eq_true (by first | (with_reducible assumption) | assumption)
                                    have q36 : (t144 : Int) < ((t141.length : Int) : Int) := of_decide_eq_true (by first | (with_reducible assumption) | assumption)
                                    obtain ⟨go36, co36, eo36, gb36, gl36, cl36, HG36⟩ := Kd.R_form HO143.out (by omega)
                                    (first | cases eo36 | (injection eo36 with ea_ en_ ec_; (first | subst ea_ | (injection ea_ with ea_; subst ea_)); subst ec_; clear en_))
                                    have GB36 := Aside0.mk gb36
                                    have GG36 := Aside0.mk HG36
                                    clear gb36 gl36 HG36
                                    (first | simp only [add_plain] at hx145_0 | skip)
                                    obtain ⟨hx36_0, hf36_0⟩ := Kd.R_celln 0 HO143.out (t144 : Int) p36 q36
                                    replace p36 := eq_true p36
                                    replace q36 := eq_true q36
                                    have HP43 := Kd.R_putn HO143.out (t144 : Int) (Go.bits .xor .u8 (rd t141 t144) ((wrap64 (1 + t146)) % 256))
                                    rw [← Ny147.out] at HP43
                                    have HQ43 := Aside0.mk HP43
                                    clear HP43
                                    refine hK.out _ _ ⟨(blk_cell BK131.out 0).trans rfl, (blk_cell BK131.out 1).trans rfl, (blk_cell BK131.out 2).trans rfl, (blk_cell BK131.out 3).trans rfl, hHeld.2.2.2.2⟩ (fun hHeld => ?_)
                                    clear hK K
                                    refine norm_ (a' := ?_) ?_ ?_
                                    rotate_left
                                    · show Act.put _ (some 100) _ = _
                                      simp only [Act.put, List.setIfInBounds_toArray, List.set_cons_zero, List.set_cons_succ, i64_w, i32_w, u32_w, u8_w]
                                      rfl
                                    refine pure_ (i := 11) (N := some 101) (v := ?_) (a' := ?_) #[true, true, true, true, true, true, true, true, true, true, true, true, false, false, false, false] rfl rfl (any_of HT_.out (by kernel_rfl)) (fun _ _ _ h => h) (Or.inl ⟨by rfl, ?_⟩) ?_ ?_
                                    rotate_left
                                    · intro w'
                                      go_simp
                                      with_reducible rfl
                                    rotate_left
                                    · simp only [Act.put, List.setIfInBounds_toArray, List.set_cons_zero, List.set_cons_succ, i64_w, i32_w, u32_w, u8_w]
                                      rfl
                                    refine pure_ (i := 12) (N := some 102) (v := ?_) (a' := ?_) #[true, true, true, true, true, true, true, true, true, true, true, true, true, false, false, false] rfl rfl (any_of HT_.out (by kernel_rfl)) (fun _ _ _ h => h) (Or.inl ⟨by rfl, ?_⟩) ?_ ?_
                                    rotate_left
                                    · intro w'
                                      go_simp
                                      with_reducible rfl
                                    rotate_left
                                    · simp only [Act.put, List.setIfInBounds_toArray, List.set_cons_zero, List.set_cons_succ, i64_w, i32_w, u32_w, u8_w]
                                      rfl
                                    refine pure_ (i := 13) (N := some 103) (v := ?_) (a' := ?_) #[true, true, true, true, true, true, true, true, true, true, true, true, true, true, false, false] rfl rfl (any_of HT_.out (by kernel_rfl)) (fun _ _ _ h => h) (Or.inl ⟨by rfl, ?_⟩) ?_ ?_
                                    rotate_left
                                    · intro w'
                                      go_simp
                                      with_reducible rfl
                                    rotate_left
                                    · simp only [Act.put, List.setIfInBounds_toArray, List.set_cons_zero, List.set_cons_succ, i64_w, i32_w, u32_w, u8_w]
                                      rfl
                                    refine pure_ (i := 14) (N := some 104) (v := ?_) (a' := ?_) #[true, true, true, true, true, true, true, true, true, true, true, true, true, true, true, false] rfl rfl (any_of HT_.out (by kernel_rfl)) (fun _ _ _ h => h) (Or.inl ⟨by rfl, ?_⟩) ?_ ?_
                                    rotate_left
                                    · intro w'
                                      go_simp
                                      with_reducible rfl
                                    rotate_left
                                    · simp only [Act.put, List.setIfInBounds_toArray, List.set_cons_zero, List.set_cons_succ, i64_w, i32_w, u32_w, u8_w]
                                      rfl
                                    refine last_ (i := 15) (N := none) #[true, true, true, true, true, true, true, true, true, true, true, true, true, true, true, true] rfl rfl (one_of HT_.out (by kernel_rfl)) (by decide) (fun K hK => ?_)
                                    refine skip_ (w1 := ?_) (by rfl) rfl ?_ ?_
                                    rotate_left
                                    · go_simp
                                      rfl
                                    refine hK.out _ _ ?_
                                    clear hK K
                                    refine done_ (done_of HT_.out (by kernel_rfl)) ?_
                                    have hnr44 : ¬ (go36 = gb131) := fun e_ => (by have h1_ := GG36.out; have h2_ := BK131.out; rw [e_] at h1_; rw [h2_] at h1_; injection h1_ with h1_; injection h1_ with _ h1_; exact absurd h1_ (by decide))
                                    have hns44 : ¬ (gb131 = go36) := fun e_ => hnr44 e_.symm
                                    have hcz45_0 : w41.cell? ⟨gb131, 0, none⟩ = some (.int .u32 ((rd_T26 l0 x3_1).f0)) := (blk_cell BK131.out 0).trans rfl
                                    have hcz45_1 : w41.cell? ⟨gb131, 1, none⟩ = some (.int .u32 ((rd_T26 l0 x3_1).f1)) := (blk_cell BK131.out 1).trans rfl
                                    have hcz45_2 : w41.cell? ⟨gb131, 2, none⟩ = some (.slice A130_2 ((rd_T26 l0 x3_1).f2).length c130_2) := (blk_cell BK131.out 2).trans rfl
                                    have hcz45_3 : w41.cell? ⟨gb131, 3, none⟩ = some (.int .i64 ((rd_T26 l0 x3_1).f3)) := (blk_cell BK131.out 3).trans rfl
                                    have hfz45_0 := blk_frozen BK131.out 0
                                    have hfz45_1 := blk_frozen BK131.out 1
                                    have hfz45_2 := blk_frozen BK131.out 2
                                    have hfz45_3 := blk_frozen BK131.out 3
                                    go_upto_region 15 with (first | ((with_reducible refine gate_callee (f := 13) rfl ?_); refine goesL_ (some 111) rfl rfl Try.func13 (by kernel_rfl) rfl #[.int .u32 ((rd_T26 l0 x3_1).f0), .int .u32 ((rd_T26 l0 x3_1).f1), .slice (some ⟨go36, 0, none⟩) y147.length co42] rfl (by (try simp only [List.map_toArray, List.map_cons, List.map_nil]); first | done | (rw [show y147.length = t141.length from (Kd.R_reads' HQ43.out).1.symm] <;> rfl) | rfl | (simp only [List.length_drop, List.length_take]; rfl)) ?_; (with_reducible refine (sum_Sum.calls kj22 ((rd_T26 l0 x3_1).f0) ((rd_T26 l0 x3_1).f1) _ _ y147 t148 t149 _ ?side1 ?side2 A37.out).mono ?_); (case side1 => refine (Kd.R_reads' (e := 5) (base := w.heap.size) (ok := fun k_ => True) (n := t141.length) (c := co42) ?_).2.2; exact (by (with_reducible repeat (first | apply Kd.R_alloc | apply Kd.R_drewN | apply Kd.R_drew)); exact HQ43.out)); (case side2 => rw [show y147.length = t141.length from (Kd.R_reads' HQ43.out).1.symm]; exact (Kd.R_reads' HO143.out).2.1); rintro e w' ⟨rfl, ⟨nd, rfl⟩⟩; refine ⟨_, rfl, ?_⟩))
                                    (try simp only [Act.put, List.setIfInBounds_toArray, List.set_cons_zero, List.set_cons_succ])
                                    go_cut [121] (fun v121 wc => ∃ (kq : Nat) (x121_37 : Bool), v121 = .bool x121_37 ∧ Aside0 (cadastrelaw8_SumParts.j4 kq l0 x3_1 t133 t134 x121_37 ((rd_T26 l0 x3_1).f0) ((rd_T26 l0 x3_1).f1) ((rd_T26 l0 x3_1).f2) ((rd_T26 l0 x3_1).f3) = some r) ∧ Aside0 (kq ≤ kj22) ∧ Aside0 (wc.heap[gb131]? = some (.cells #[.int .u32 ((rd_T26 l0 x3_1).f0), .int .u32 ((rd_T26 l0 x3_1).f1), (.slice A130_2 ((rd_T26 l0 x3_1).f2).length c130_2), .int .i64 ((rd_T26 l0 x3_1).f3)] 26 (0, 0))) ∧ Aside0 (Below w.heap.size w wc))
                                    case first =>
                                      have H := HC38.out
                                      clear HC38
                                      by_cases c46 : t148 = t133
                                      · rw [if_pos c46] at H
                                        have c46b0 : (t148 == t133) = true := beq_iff_eq.mpr c46
                                        have c46b1 : (t148 != t133) = false := bne_eq_false_iff_eq.mpr c46
                                        clear c46
                                        (first | rw [c46b0] | (simp only [i64_w, i32_w]; rw [c46b0]) | skip)
                                        have H' := Aside0.mk H
                                        clear H
                                        go_wp2
                                        go_meet
                                        case rel => exact ⟨_, ((t149 == t134)), (by first | rfl | (simp; done) | (simp [*]; done)), H', ⟨by have := HK1.out; have := HJ1.out; have := HJ6.out; have := HJ22.out; first | omega | exact Nat.le_refl _⟩, ⟨by (with_reducible repeat (first | refine blk_drewN ?_ _ | refine blk_drew ?_ | refine blk_alloc ?_ _)); refine blk_far ?_ (by have h_ := Kd.R_ne HO143.out BK131.out (by decide); intro e_; exact h_ (by rw [e_]; rfl)) _; (with_reducible repeat (first | refine blk_drewN ?_ _ | refine blk_drew ?_ | refine blk_alloc ?_ _)); exact BK131.out⟩, ⟨by repeat (first | (with_reducible first | exact HB.out | apply below_alloc | apply pw_below_drewN | apply below_drew1 | refine below_set ?_ GB36.out | refine below_set ?_ GE131.out) | exact HB.out)⟩⟩
                                      · rw [if_neg c46] at H
                                        have c46b0 : (t148 == t133) = false := beq_eq_false_iff_ne.mpr c46
                                        have c46b1 : (t148 != t133) = true := bne_iff_ne.mpr c46
                                        (first | rw [c46b0] | (simp only [i64_w, i32_w]; rw [c46b0]) | skip)
                                        have H' := Aside0.mk H
                                        clear H
                                        go_wp2
                                        go_meet
                                        case rel => exact ⟨_, (false), (by first | rfl | (simp; done) | (simp [*]; done)), H', ⟨by have := HK1.out; have := HJ1.out; have := HJ6.out; have := HJ22.out; first | omega | exact Nat.le_refl _⟩, ⟨by (with_reducible repeat (first | refine blk_drewN ?_ _ | refine blk_drew ?_ | refine blk_alloc ?_ _)); refine blk_far ?_ (by have h_ := Kd.R_ne HO143.out BK131.out (by decide); intro e_; exact h_ (by rw [e_]; rfl)) _; (with_reducible repeat (first | refine blk_drewN ?_ _ | refine blk_drew ?_ | refine blk_alloc ?_ _)); exact BK131.out⟩, ⟨by repeat (first | (with_reducible first | exact HB.out | apply below_alloc | apply pw_below_drewN | apply below_drew1 | refine below_set ?_ GB36.out | refine below_set ?_ GE131.out) | exact HB.out)⟩⟩
                                    case rest =>
                                      clear HC38
                                      try clear c1
                                      try clear p1
                                      try clear q1
                                      try clear hx1
                                      try clear c2
                                      try clear p2
                                      try clear c3
                                      try clear c3b0
                                      try clear p3
                                      try clear q3
                                      try clear hx3
                                      try clear hf3
                                      try clear c4
                                      try clear c5
                                      try clear c5b0
                                      try clear c6
                                      try clear c6b0
                                      try clear p6
                                      try clear c10
                                      try clear c10b0
                                      try clear c10b1
                                      try clear c12
                                      try clear c13
                                      try clear p13
                                      try clear q13
                                      try clear hx13
                                      try clear p14
                                      try clear q14
                                      try clear hx14
                                      try clear c17
                                      try clear c17b0
                                      try clear c17b1
                                      try clear c18
                                      try clear c18b0
                                      try clear c18b1
                                      try clear c20
                                      try clear c20b0
                                      try clear c21
                                      try clear c21b0
                                      try clear c29
                                      try clear c29b0
                                      try clear c29b1
                                      try clear c30
                                      try clear c33
                                      try clear c33b0
                                      try clear c34
                                      try clear c34b0
                                      try clear p36
                                      try clear q36
                                      try clear hx36
                                      try clear hf36
                                      try clear c46
                                      try clear c46b0
                                      try clear c46b1
                                      try clear hcz11_0
                                      try clear hcz11_1
                                      try clear hcz11_2
                                      try clear hcz11_3
                                      try clear hcz12_0
                                      try clear hcz12_1
                                      try clear hcz12_2
                                      try clear hcz12_3
                                      try clear hcz24_0
                                      try clear hcz24_1
                                      try clear hcz24_2
                                      try clear hcz24_3
                                      try clear hcz27_0
                                      try clear hcz27_1
                                      try clear hcz27_2
                                      try clear hcz27_3
                                      try clear hcz39_0
                                      try clear hcz39_1
                                      try clear hcz39_2
                                      try clear hcz39_3
                                      try clear hcz45_0
                                      try clear hcz45_1
                                      try clear hcz45_2
                                      try clear hcz45_3
                                      try clear hcz9_0
                                      try clear hcz9_1
                                      try clear hcz9_2
                                      try clear hcz9_3
                                      try clear hfz11_0
                                      try clear hfz11_1
                                      try clear hfz11_2
                                      try clear hfz11_3
                                      try clear hfz12_0
                                      try clear hfz12_1
                                      try clear hfz12_2
                                      try clear hfz12_3
                                      try clear hfz24_0
                                      try clear hfz24_1
                                      try clear hfz24_2
                                      try clear hfz24_3
                                      try clear hfz27_0
                                      try clear hfz27_1
                                      try clear hfz27_2
                                      try clear hfz27_3
                                      try clear hfz39_0
                                      try clear hfz39_1
                                      try clear hfz39_2
                                      try clear hfz39_3
                                      try clear hfz45_0
                                      try clear hfz45_1
                                      try clear hfz45_2
                                      try clear hfz45_3
                                      try clear hfz9_0
                                      try clear hfz9_1
                                      try clear hfz9_2
                                      try clear hfz9_3
                                      try clear hx130_0
                                      try clear hx130_1
                                      try clear hx130_2
                                      try clear hx130_3
                                      try clear hx145_0
                                      try clear hx36_0
                                      try clear p1
                                      try clear p13
                                      try clear p130
                                      try clear p145
                                      try clear p2
                                      try clear p36
                                      try clear p6
                                      try clear q1
                                      try clear q13
                                      try clear q130
                                      try clear q145
                                      try clear q36
                                      obtain ⟨kq, x121_37, rfl, HA, HJ37, BK131, HB⟩ := hcut
                                      cases kq with
                                      | zero => exact absurd HA.out (by simp [cadastrelaw8_SumParts.j4])
                                      | succ kj37 =>
                                        have H := HA.out
                                        clear HA
                                        simp only [cadastrelaw8_SumParts.j4] at H
                                        by_cases c47 : x121_37 = true
                                        · subst c47
                                          have H1 : (some false) = some r := by rw [if_pos rfl] at H; exact H
                                          clear H
                                          have H := H1
                                          clear H1
                                          obtain rfl := Option.some.inj H
                                          go_wp2
                                          go_ret
                                          exact ⟨by first | rfl | (simp [errW_none, errW_some] <;> rfl) | (simp only [← hji16]; first | rfl | (simp [errW_none, errW_some] <;> rfl)) | (simp [*, errW_none, errW_some] <;> rfl), by repeat (first | (with_reducible first | exact HB.out | apply below_alloc | apply pw_below_drewN | apply below_drew1 | refine below_set ?_ GE131.out) | exact HB.out)⟩
                                        · replace c47 := Bool.eq_false_iff.mpr c47
                                          subst c47
                                          have H1 : ((cadastreref0_CopyBytes.f kj37 ((rd_T26 l0 x3_1).f2)).bind fun t150 => (cadastrelaw8_SumParts.l1 kj37 l0 x3_1 t133 t134 t150 ((rd_T26 l0 x3_1).f0) ((rd_T26 l0 x3_1).f1) ((rd_T26 l0 x3_1).f2) ((rd_T26 l0 x3_1).f3))) = some r := by rw [if_neg (show ¬ (false = true) by decide)] at H; exact H
                                          clear H
                                          have H := H1
                                          clear H1
                                          replace H := Option.bind_eq_some_iff.mp H
                                          obtain ⟨t150, A480, H⟩ := H
                                          replace H : (cadastrelaw8_SumParts.l1 kj37 l0 x3_1 t133 t134 t150 ((rd_T26 l0 x3_1).f0) ((rd_T26 l0 x3_1).f1) ((rd_T26 l0 x3_1).f2) ((rd_T26 l0 x3_1).f3)) = some r := H
                                          have A48 := Aside0.mk A480
                                          clear A480
                                          have H' := Aside0.mk H
                                          clear H
                                          have hcz49_0 : wc.cell? ⟨gb131, 0, none⟩ = some (.int .u32 ((rd_T26 l0 x3_1).f0)) := (blk_cell BK131.out 0).trans rfl
                                          have hcz49_1 : wc.cell? ⟨gb131, 1, none⟩ = some (.int .u32 ((rd_T26 l0 x3_1).f1)) := (blk_cell BK131.out 1).trans rfl
                                          have hcz49_2 : wc.cell? ⟨gb131, 2, none⟩ = some (.slice A130_2 ((rd_T26 l0 x3_1).f2).length c130_2) := (blk_cell BK131.out 2).trans rfl
                                          have hcz49_3 : wc.cell? ⟨gb131, 3, none⟩ = some (.int .i64 ((rd_T26 l0 x3_1).f3)) := (blk_cell BK131.out 3).trans rfl
                                          have hfz49_0 := blk_frozen BK131.out 0
                                          have hfz49_1 := blk_frozen BK131.out 1
                                          have hfz49_2 := blk_frozen BK131.out 2
                                          have hfz49_3 := blk_frozen BK131.out 3
                                          go_wp2_with (first | ((with_reducible refine gate_callee (f := 12) rfl ?_); refine goesL_ (some 124) rfl rfl Try.func12 (by kernel_rfl) rfl #[.slice A130_2 ((rd_T26 l0 x3_1).f2).length c130_2] rfl (by (try simp only [List.map_toArray, List.map_cons, List.map_nil]); first | done | rfl | (simp only [List.length_drop, List.length_take]; rfl)) ?_; (with_reducible refine (cadastreref0_CopyBytes.calls kj37 _ _ ((rd_T26 l0 x3_1).f2) t150 _ ?side1 ?side2 A48.out).mono ?_); (case side1 => repeat (first | exact (Kd.C_below HR130_2.out HB.out) | (with_reducible refine Kd.C_alloc ?_ _) | (with_reducible refine Kd.C_drewN ?_ _) | (with_reducible refine Kd.C_drew ?_))); (case side2 => exact HC130_2.out); rintro e w50 ⟨v151, rfl, ho0, hb⟩; refine ⟨_, rfl, ?_⟩; have n0_ := Aside0.mk (Kd.R_lower ho0 (below_size (by repeat (first | (with_reducible first | exact HB.out | apply below_alloc | apply pw_below_drewN | apply below_drew1 | refine below_set ?_ GE131.out) | exact HB.out)))); have n1_ := Aside0.mk (blk_below (g := gb131) (o := .cells #[.int .u32 ((rd_T26 l0 x3_1).f0), .int .u32 ((rd_T26 l0 x3_1).f1), .slice A130_2 ((rd_T26 l0 x3_1).f2).length c130_2, .int .i64 ((rd_T26 l0 x3_1).f3)] 26 (0, 0)) (by (with_reducible repeat (first | refine blk_drewN ?_ _ | refine blk_drew ?_ | refine blk_alloc ?_ _)); exact BK131.out) hb); have n2_ := Aside0.mk (below_step (by repeat (first | (with_reducible first | exact HB.out | apply below_alloc | apply pw_below_drewN | apply below_drew1 | refine below_set ?_ GE131.out) | exact HB.out)) hb); clear BK131; clear HB; have HO152 := n0_; have BK131 := n1_; have HB := n2_; clear n0_ n1_ n2_; (try clear hb); (try clear hb2); (try clear hk); (try clear hi); (try clear ho0)))
                                          go_loopg [13] kj37 (fun kq v13 w' => ∃ (x13_6 : List Int), Aside0 (cadastrelaw8_SumParts.l1 kq l0 x3_1 t133 t134 x13_6 ((rd_T26 l0 x3_1).f0) ((rd_T26 l0 x3_1).f1) ((rd_T26 l0 x3_1).f2) ((rd_T26 l0 x3_1).f3) = some r) ∧ Aside0 (kq ≤ kj37) ∧ Aside0 (Kd.R (Kd.int .u8) 5 w' w.heap.size (fun _ => True) v13 x13_6) ∧ Aside0 (w'.heap[gb131]? = some (.cells #[.int .u32 ((rd_T26 l0 x3_1).f0), .int .u32 ((rd_T26 l0 x3_1).f1), (.slice A130_2 ((rd_T26 l0 x3_1).f2).length c130_2), .int .i64 ((rd_T26 l0 x3_1).f3)] 26 (0, 0))) ∧ Aside0 (Below w.heap.size w w'))
                                          case atStart => exact ⟨(t150), H', ⟨Nat.le_refl _⟩, ⟨by (with_reducible repeat (first | apply Kd.R_alloc | apply Kd.R_drewN | apply Kd.R_drew)); exact HO152.out⟩, ⟨by (with_reducible repeat (first | refine blk_drewN ?_ _ | refine blk_drew ?_ | refine blk_alloc ?_ _)); exact BK131.out⟩, ⟨by repeat (first | (with_reducible first | exact HB.out | apply below_alloc | apply pw_below_drewN | apply below_drew1 | refine below_set ?_ GE131.out) | exact HB.out)⟩⟩
                                          case round =>
                                            clear H'
                                            try clear c1
                                            try clear p1
                                            try clear q1
                                            try clear hx1
                                            try clear c2
                                            try clear p2
                                            try clear c3
                                            try clear c3b0
                                            try clear p3
                                            try clear q3
                                            try clear hx3
                                            try clear hf3
                                            try clear c4
                                            try clear c5
                                            try clear c5b0
                                            try clear c6
                                            try clear c6b0
                                            try clear p6
                                            try clear c10
                                            try clear c10b0
                                            try clear c10b1
                                            try clear c12
                                            try clear c13
                                            try clear p13
                                            try clear q13
                                            try clear hx13
                                            try clear p14
                                            try clear q14
                                            try clear hx14
                                            try clear c17
                                            try clear c17b0
                                            try clear c17b1
                                            try clear c18
                                            try clear c18b0
                                            try clear c18b1
                                            try clear c20
                                            try clear c20b0
                                            try clear c21
                                            try clear c21b0
                                            try clear c29
                                            try clear c29b0
                                            try clear c29b1
                                            try clear c30
                                            try clear c33
                                            try clear c33b0
                                            try clear c34
                                            try clear c34b0
                                            try clear p36
                                            try clear q36
                                            try clear hx36
                                            try clear hf36
                                            try clear c46
                                            try clear c46b0
                                            try clear c46b1
                                            try clear c47
                                            try clear hcz11_0
                                            try clear hcz11_1
                                            try clear hcz11_2
                                            try clear hcz11_3
                                            try clear hcz12_0
                                            try clear hcz12_1
                                            try clear hcz12_2
                                            try clear hcz12_3
                                            try clear hcz24_0
                                            try clear hcz24_1
                                            try clear hcz24_2
                                            try clear hcz24_3
                                            try clear hcz27_0
                                            try clear hcz27_1
                                            try clear hcz27_2
                                            try clear hcz27_3
                                            try clear hcz39_0
                                            try clear hcz39_1
                                            try clear hcz39_2
                                            try clear hcz39_3
                                            try clear hcz45_0
                                            try clear hcz45_1
                                            try clear hcz45_2
                                            try clear hcz45_3
                                            try clear hcz49_0
                                            try clear hcz49_1
                                            try clear hcz49_2
                                            try clear hcz49_3
                                            try clear hcz9_0
                                            try clear hcz9_1
                                            try clear hcz9_2
                                            try clear hcz9_3
                                            try clear hfz11_0
                                            try clear hfz11_1
                                            try clear hfz11_2
                                            try clear hfz11_3
                                            try clear hfz12_0
                                            try clear hfz12_1
                                            try clear hfz12_2
                                            try clear hfz12_3
                                            try clear hfz24_0
                                            try clear hfz24_1
                                            try clear hfz24_2
                                            try clear hfz24_3
                                            try clear hfz27_0
                                            try clear hfz27_1
                                            try clear hfz27_2
                                            try clear hfz27_3
                                            try clear hfz39_0
                                            try clear hfz39_1
                                            try clear hfz39_2
                                            try clear hfz39_3
                                            try clear hfz45_0
                                            try clear hfz45_1
                                            try clear hfz45_2
                                            try clear hfz45_3
                                            try clear hfz49_0
                                            try clear hfz49_1
                                            try clear hfz49_2
                                            try clear hfz49_3
                                            try clear hfz9_0
                                            try clear hfz9_1
                                            try clear hfz9_2
                                            try clear hfz9_3
                                            try clear hx130_0
                                            try clear hx130_1
                                            try clear hx130_2
                                            try clear hx130_3
                                            try clear hx145_0
                                            try clear hx36_0
                                            try clear p1
                                            try clear p13
                                            try clear p130
                                            try clear p14
                                            try clear p145
                                            try clear p2
                                            try clear p3
                                            try clear p36
                                            try clear p6
                                            try clear q1
                                            try clear q13
                                            try clear q130
                                            try clear q14
                                            try clear q145
                                            try clear q3
                                            try clear q36
                                            obtain ⟨x13_6, HA, HK6, HO_13, BK131, HB⟩ := hrel
                                            cases gk with
                                            | zero => exact absurd HA.out (by simp [cadastrelaw8_SumParts.l1])
                                            | succ k6 =>
                                              have H := HA.out
                                              clear HA
                                              simp only [cadastrelaw8_SumParts.l1] at H
                                              by_cases c51 : ((x13_6.length : Int) % 8) = 0
                                              · rw [if_pos c51] at H
                                                have c51b0 : (((x13_6.length : Int) % 8) == 0) = true := beq_iff_eq.mpr c51
                                                have c51b1 : (((x13_6.length : Int) % 8) != 0) = false := bne_eq_false_iff_eq.mpr c51
                                                clear c51
                                                replace H := Option.bind_eq_some_iff.mp H
                                                obtain ⟨⟨t153, t154⟩, A520, H⟩ := H
                                                replace H : (if t153 = t133 then (if t154 = t134 then (cadastrelaw8_SumParts.l0 k6 l0 (wrap64 (x3_1 + 1))) else (some false)) else (some false)) = some r := H
                                                have A52 := Aside0.mk A520
                                                clear A520
                                                by_cases c53 : t153 = t133
                                                · rw [if_pos c53] at H
                                                  have c53b0 : (t153 == t133) = true := beq_iff_eq.mpr c53
                                                  have c53b1 : (t153 != t133) = false := bne_eq_false_iff_eq.mpr c53
                                                  clear c53
                                                  by_cases c54 : t154 = t134
                                                  · rw [if_pos c54] at H
                                                    have c54b0 : (t154 == t134) = true := beq_iff_eq.mpr c54
                                                    have c54b1 : (t154 != t134) = false := bne_eq_false_iff_eq.mpr c54
                                                    clear c54
                                                    have H' := Aside0.mk H
                                                    clear H
                                                    obtain ⟨Ao55, co55, eo55⟩ := Kd.R_slice HO_13.out
                                                    subst eo55
                                                    have hcz56_0 : wr.cell? ⟨gb131, 0, none⟩ = some (.int .u32 ((rd_T26 l0 x3_1).f0)) := (blk_cell BK131.out 0).trans rfl
                                                    have hcz56_1 : wr.cell? ⟨gb131, 1, none⟩ = some (.int .u32 ((rd_T26 l0 x3_1).f1)) := (blk_cell BK131.out 1).trans rfl
                                                    have hcz56_2 : wr.cell? ⟨gb131, 2, none⟩ = some (.slice A130_2 ((rd_T26 l0 x3_1).f2).length c130_2) := (blk_cell BK131.out 2).trans rfl
                                                    have hcz56_3 : wr.cell? ⟨gb131, 3, none⟩ = some (.int .i64 ((rd_T26 l0 x3_1).f3)) := (blk_cell BK131.out 3).trans rfl
                                                    have hfz56_0 := blk_frozen BK131.out 0
                                                    have hfz56_1 := blk_frozen BK131.out 1
                                                    have hfz56_2 := blk_frozen BK131.out 2
                                                    have hfz56_3 := blk_frozen BK131.out 3
                                                    go_wp2_with (first | ((with_reducible refine gate_callee (f := 13) rfl ?_); refine goesL_ (some 138) rfl rfl Try.func13 (by kernel_rfl) rfl #[.int .u32 ((rd_T26 l0 x3_1).f0), .int .u32 ((rd_T26 l0 x3_1).f1), .slice Ao55 x13_6.length co55] rfl (by (try simp only [List.map_toArray, List.map_cons, List.map_nil]); first | done | rfl | (simp only [List.length_drop, List.length_take]; rfl)) ?_; (with_reducible refine (sum_Sum.calls k6 ((rd_T26 l0 x3_1).f0) ((rd_T26 l0 x3_1).f1) _ _ x13_6 t153 t154 _ ?side1 ?side2 A52.out).mono ?_); (case side1 => repeat (first | exact (Kd.R_reads' HO_13.out).2.2 | (with_reducible refine Kd.C_alloc ?_ _) | (with_reducible refine Kd.C_drewN ?_ _) | (with_reducible refine Kd.C_drew ?_))); (case side2 => exact (Kd.R_reads' HO_13.out).2.1); rintro e w' ⟨rfl, ⟨nd, rfl⟩⟩; refine ⟨_, rfl, ?_⟩))
                                                    go_roundg k6
                                                    case measure => have := HK1.out; have := HJ1.out; have := HJ6.out; have := HJ22.out; have := HJ37.out; have := HK6.out; omega
                                                    case rel => exact ⟨(wrap64 (x3_1 + 1)), (by first | rfl | (simp; done) | (simp [*]; done)), H', ⟨by have := HK1.out; have := HJ1.out; have := HJ6.out; have := HJ22.out; have := HJ37.out; have := HK6.out; omega⟩, ⟨by repeat (first | (with_reducible first | exact HB.out | apply below_alloc | apply pw_below_drewN | apply below_drew1 | refine below_set ?_ GE131.out) | exact HB.out)⟩⟩
                                                  · rw [if_neg c54] at H
                                                    have c54b0 : (t154 == t134) = false := beq_eq_false_iff_ne.mpr c54
                                                    have c54b1 : (t154 != t134) = true := bne_iff_ne.mpr c54
                                                    obtain rfl := Option.some.inj H
                                                    obtain ⟨Ao57, co57, eo57⟩ := Kd.R_slice HO_13.out
                                                    subst eo57
                                                    have hcz58_0 : wr.cell? ⟨gb131, 0, none⟩ = some (.int .u32 ((rd_T26 l0 x3_1).f0)) := (blk_cell BK131.out 0).trans rfl
                                                    have hcz58_1 : wr.cell? ⟨gb131, 1, none⟩ = some (.int .u32 ((rd_T26 l0 x3_1).f1)) := (blk_cell BK131.out 1).trans rfl
                                                    have hcz58_2 : wr.cell? ⟨gb131, 2, none⟩ = some (.slice A130_2 ((rd_T26 l0 x3_1).f2).length c130_2) := (blk_cell BK131.out 2).trans rfl
                                                    have hcz58_3 : wr.cell? ⟨gb131, 3, none⟩ = some (.int .i64 ((rd_T26 l0 x3_1).f3)) := (blk_cell BK131.out 3).trans rfl
                                                    have hfz58_0 := blk_frozen BK131.out 0
                                                    have hfz58_1 := blk_frozen BK131.out 1
                                                    have hfz58_2 := blk_frozen BK131.out 2
                                                    have hfz58_3 := blk_frozen BK131.out 3
                                                    go_wp2_with (first | ((with_reducible refine gate_callee (f := 13) rfl ?_); refine goesL_ (some 138) rfl rfl Try.func13 (by kernel_rfl) rfl #[.int .u32 ((rd_T26 l0 x3_1).f0), .int .u32 ((rd_T26 l0 x3_1).f1), .slice Ao57 x13_6.length co57] rfl (by (try simp only [List.map_toArray, List.map_cons, List.map_nil]); first | done | rfl | (simp only [List.length_drop, List.length_take]; rfl)) ?_; (with_reducible refine (sum_Sum.calls k6 ((rd_T26 l0 x3_1).f0) ((rd_T26 l0 x3_1).f1) _ _ x13_6 t153 t154 _ ?side1 ?side2 A52.out).mono ?_); (case side1 => repeat (first | exact (Kd.R_reads' HO_13.out).2.2 | (with_reducible refine Kd.C_alloc ?_ _) | (with_reducible refine Kd.C_drewN ?_ _) | (with_reducible refine Kd.C_drew ?_))); (case side2 => exact (Kd.R_reads' HO_13.out).2.1); rintro e w' ⟨rfl, ⟨nd, rfl⟩⟩; refine ⟨_, rfl, ?_⟩))
                                                    go_ret
                                                    exact ⟨by first | rfl | (simp [errW_none, errW_some] <;> rfl) | (simp only [← hji16]; first | rfl | (simp [errW_none, errW_some] <;> rfl)) | (simp [*, errW_none, errW_some] <;> rfl), by repeat (first | (with_reducible first | exact HB.out | apply below_alloc | apply pw_below_drewN | apply below_drew1 | refine below_set ?_ GE131.out) | exact HB.out)⟩
                                                · rw [if_neg c53] at H
                                                  have c53b0 : (t153 == t133) = false := beq_eq_false_iff_ne.mpr c53
                                                  have c53b1 : (t153 != t133) = true := bne_iff_ne.mpr c53
                                                  obtain rfl := Option.some.inj H
                                                  obtain ⟨Ao59, co59, eo59⟩ := Kd.R_slice HO_13.out
                                                  subst eo59
                                                  have hcz60_0 : wr.cell? ⟨gb131, 0, none⟩ = some (.int .u32 ((rd_T26 l0 x3_1).f0)) := (blk_cell BK131.out 0).trans rfl
                                                  have hcz60_1 : wr.cell? ⟨gb131, 1, none⟩ = some (.int .u32 ((rd_T26 l0 x3_1).f1)) := (blk_cell BK131.out 1).trans rfl
                                                  have hcz60_2 : wr.cell? ⟨gb131, 2, none⟩ = some (.slice A130_2 ((rd_T26 l0 x3_1).f2).length c130_2) := (blk_cell BK131.out 2).trans rfl
                                                  have hcz60_3 : wr.cell? ⟨gb131, 3, none⟩ = some (.int .i64 ((rd_T26 l0 x3_1).f3)) := (blk_cell BK131.out 3).trans rfl
                                                  have hfz60_0 := blk_frozen BK131.out 0
                                                  have hfz60_1 := blk_frozen BK131.out 1
                                                  have hfz60_2 := blk_frozen BK131.out 2
                                                  have hfz60_3 := blk_frozen BK131.out 3
                                                  go_wp2_with (first | ((with_reducible refine gate_callee (f := 13) rfl ?_); refine goesL_ (some 138) rfl rfl Try.func13 (by kernel_rfl) rfl #[.int .u32 ((rd_T26 l0 x3_1).f0), .int .u32 ((rd_T26 l0 x3_1).f1), .slice Ao59 x13_6.length co59] rfl (by (try simp only [List.map_toArray, List.map_cons, List.map_nil]); first | done | rfl | (simp only [List.length_drop, List.length_take]; rfl)) ?_; (with_reducible refine (sum_Sum.calls k6 ((rd_T26 l0 x3_1).f0) ((rd_T26 l0 x3_1).f1) _ _ x13_6 t153 t154 _ ?side1 ?side2 A52.out).mono ?_); (case side1 => repeat (first | exact (Kd.R_reads' HO_13.out).2.2 | (with_reducible refine Kd.C_alloc ?_ _) | (with_reducible refine Kd.C_drewN ?_ _) | (with_reducible refine Kd.C_drew ?_))); (case side2 => exact (Kd.R_reads' HO_13.out).2.1); rintro e w' ⟨rfl, ⟨nd, rfl⟩⟩; refine ⟨_, rfl, ?_⟩))
                                                  go_ret
                                                  exact ⟨by first | rfl | (simp [errW_none, errW_some] <;> rfl) | (simp only [← hji16]; first | rfl | (simp [errW_none, errW_some] <;> rfl)) | (simp [*, errW_none, errW_some] <;> rfl), by repeat (first | (with_reducible first | exact HB.out | apply below_alloc | apply pw_below_drewN | apply below_drew1 | refine below_set ?_ GE131.out) | exact HB.out)⟩
                                              · rw [if_neg c51] at H
                                                have c51b0 : (((x13_6.length : Int) % 8) == 0) = false := beq_eq_false_iff_ne.mpr c51
                                                have c51b1 : (((x13_6.length : Int) % 8) != 0) = true := bne_iff_ne.mpr c51
                                                by_cases c61 : x13_6.length < 140737488355328
                                                · rw [if_pos c61] at H
                                                  have LMc61 := Aside0.mk c61
                                                  clear c61
                                                  obtain ⟨y155, hy155⟩ : ∃ y_ : List Int, y_ = (x13_6 ++ [0]) := ⟨_, rfl⟩
                                                  replace H : (cadastrelaw8_SumParts.l1 k6 l0 x3_1 t133 t134 y155 ((rd_T26 l0 x3_1).f0) ((rd_T26 l0 x3_1).f1) ((rd_T26 l0 x3_1).f2) ((rd_T26 l0 x3_1).f3)) = some r := by first | (rw [hy155]; with_reducible exact H) | (have H2_ := (Option.bind_some _ _).symm.trans H; rw [hy155]; with_reducible exact H2_) | (have H2_ := (Option.bind_some _ _).symm.trans H; with_reducible exact H2_) | with_reducible exact H | (rw [hy155]; exact H) | exact H
                                                  have Ny155 := Aside0.mk hy155
                                                  clear hy155
                                                  have H' := Aside0.mk H
                                                  clear H
                                                  obtain ⟨Ao62, co62, eo62⟩ := Kd.R_slice HO_13.out
                                                  subst eo62
                                                  go_wp2_with (first | ((with_reducible refine gate_builtin (b := .append) (xs := #[.tmp 129, .tmp 130]) rfl ?_); (try (refine gate_guard (by rfl) ?_; dsimp only)); at_builtin; refine Kd.R_append (Kd.int .u8) (w0 := w) w.heap.size rfl (.tmp 129) (.tmp 130) 24 5 (.int .u8 0) 1 rfl Try.underlying24 info5 rfl (by decide) (by omega) (.slice Ao62 x13_6.length co62) x13_6 0 [.int .u8 0] (fun _ => True) (fun _ => False) rfl rfl ?aP (fun _ hk => hk.elim) ?aF ?aO ?aB ?aS ?aL ?_; (case aP => exact rfl); (case aB => exact (by repeat (first | (with_reducible first | exact HB.out | apply below_alloc | apply pw_below_drewN | apply below_drew1 | refine below_set ?_ GE131.out) | exact HB.out))); (case aF => exact (fun _ _ => trivial)); (case aO => exact (by (with_reducible repeat (first | apply Kd.R_alloc | apply Kd.R_drewN | apply Kd.R_drew)); exact HO_13.out)); (case aS => exact (below_size (by repeat (first | (with_reducible first | exact HB.out | apply below_alloc | apply pw_below_drewN | apply below_drew1 | refine below_set ?_ GE131.out) | exact HB.out)))); (case aL => have := LMc61.out; omega); intro v156 w63 ho hb hg hat; rw [← Ny155.out] at ho; have n0_ := Aside0.mk (blk_grown (g := gb131) (o := .cells #[.int .u32 ((rd_T26 l0 x3_1).f0), .int .u32 ((rd_T26 l0 x3_1).f1), .slice A130_2 ((rd_T26 l0 x3_1).f2).length c130_2, .int .i64 ((rd_T26 l0 x3_1).f3)] 26 (0, 0)) (by (with_reducible repeat (first | refine blk_drewN ?_ _ | refine blk_drew ?_ | refine blk_alloc ?_ _)); exact BK131.out) hg (Kd.R_ne HO_13.out BK131.out (by decide))); have n1_ := Aside0.mk (hb); have n2_ := Aside0.mk (ho); clear BK131; clear HB; clear HO_13; have BK131 := n0_; have HB := n1_; have HO157 := n2_; clear n0_ n1_ n2_; clear ho hb hg hat))
                                                  go_roundg k6
                                                  case measure => have := HK1.out; have := HJ1.out; have := HJ6.out; have := HJ22.out; have := HJ37.out; have := HK6.out; omega
                                                  case rel => exact ⟨(y155), H', ⟨by have := HK1.out; have := HJ1.out; have := HJ6.out; have := HJ22.out; have := HJ37.out; have := HK6.out; omega⟩, ⟨by (with_reducible repeat (first | apply Kd.R_alloc | apply Kd.R_drewN | apply Kd.R_drew)); exact HO157.out⟩, ⟨by (with_reducible repeat (first | refine blk_drewN ?_ _ | refine blk_drew ?_ | refine blk_alloc ?_ _)); exact BK131.out⟩, ⟨by repeat (first | (with_reducible first | exact HB.out | apply below_alloc | apply pw_below_drewN | apply below_drew1 | refine below_set ?_ GE131.out) | exact HB.out)⟩⟩
                                                · rw [if_neg c61] at H
                                                  exact absurd H (by simp)
                                  · rw [if_neg c34] at H
                                    exact absurd H (by simp)
                                · rw [if_neg c33] at H
                                  exact absurd H (by simp)
                        · rw [if_neg c18] at H
                          exact absurd H (by simp)
                      · rw [if_neg c17] at H
                        exact absurd H (by simp)
              · rw [if_neg c6] at H
                exact absurd H (by simp)
            · rw [if_neg c5] at H
              exact absurd H (by simp)
          · replace c4 := Bool.eq_false_iff.mpr c4
            subst c4
            have H1 : ((cadastrelaw8_wakes.f kj1).bind fun t129 => (some t129)) = some r := by rw [if_neg (show ¬ (false = true) by decide)] at H; exact H
            clear H
            have H := H1
            clear H1
            replace H := Option.bind_eq_some_iff.mp H
            obtain ⟨t129, A640, H⟩ := H
            replace H : (some t129) = some r := H
            have A64 := Aside0.mk A640
            clear A640
            obtain rfl := Option.some.inj H
            go_wp2_with (first | ((with_reducible refine gate_callee (f := 16) rfl ?_); refine goesL_ (some 149) rfl rfl Try.func16 (by kernel_rfl) rfl #[] rfl (by (try simp only [List.map_toArray, List.map_cons, List.map_nil]); first | done | rfl | (simp only [List.length_drop, List.length_take]; rfl)) ?_; (with_reducible refine (cadastrelaw8_wakes.calls kj1  t129 _ A64.out).mono ?_); rintro e w65 ⟨rfl, hb⟩; refine ⟨_, rfl, ?_⟩; have n0_ := Aside0.mk (below_step (by repeat (first | (with_reducible first | exact HB.out | apply below_alloc | apply pw_below_drewN | apply below_drew1) | exact HB.out)) hb); clear HB; have HB := n0_; clear n0_; (try clear hb); (try clear hb2); (try clear hk); (try clear hi)))
            go_ret
            exact ⟨by first | rfl | (simp [errW_none, errW_some] <;> rfl) | (simp [*, errW_none, errW_some] <;> rfl), by repeat (first | (with_reducible first | exact HB.out | apply below_alloc | apply pw_below_drewN | apply below_drew1) | exact HB.out)⟩

end Go.Proofs.Ytbamdjfonfmbbaa.M
