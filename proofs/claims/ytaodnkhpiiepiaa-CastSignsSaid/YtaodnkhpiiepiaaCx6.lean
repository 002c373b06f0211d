-- Made by a program of this session (gprint.py, over the kit's printing program).
import Derived.Test.YtaodnkhpiiepiaaCx0
import Derived.Test.YtaodnkhpiiepiaaCx1
import Derived.Test.YtaodnkhpiiepiaaCx5
namespace Go.Proofs.Ytaodnkhpiiepiaa.C
open Go.RowKit Go.Proofs.YtaodnkhpiiepiaaG Go.Proofs.YtaodnkhpiiepiaaW.PrintWords Go.Proofs.YtaodnkhpiiepiaaW.PrintLast Go.Proofs.YtaodnkhpiiepiaaW.PrintMore
attribute [local go_sem] max2_int min2_int max_two min_two max_three min_three max_four min_four   -- for this text's walks alone
set_option linter.unusedVariables false
set_option linter.unusedSimpArgs false

/-! ### cadastrelaw5_CastSigns: function 4 -/
mutual
def cadastrelaw5_CastSigns.l0 : Nat → List (S26) → Int → Option (Bool)
  | 0, _, _ => none
  | k + 1, x0, x3 => if x3 < (x0.length : Int) then (cadastrelaw5_CastSigns.j1 k x0 x3 (decide (x3 < 30))) else (cadastrelaw5_CastSigns.j1 k x0 x3 false)
def cadastrelaw5_CastSigns.j1 : Nat → List (S26) → Int → Bool → Option (Bool)
  | 0, _, _, _ => none
  | k + 1, x0, x3, x24 => if x24 = true then (if 0 ≤ x3 then (if x3 < (x0.length : Int) then (if (((rd_T26 x0 x3).f0).size : Int) = 0 then (cadastrelaw5_CastSigns.j2 k x0 x3 ((rd_T26 x0 x3).f0) true) else (if (((rd_T26 x0 x3).f0).size : Int) > 1000 then (cadastrelaw5_CastSigns.j2 k x0 x3 ((rd_T26 x0 x3).f0) true) else (if 0 < (((rd_T26 x0 x3).f0).size : Int) then (if (bt ((rd_T26 x0 x3).f0) 0) < 48 then (cadastrelaw5_CastSigns.j2 k x0 x3 ((rd_T26 x0 x3).f0) true) else (cadastrelaw5_CastSigns.j2 k x0 x3 ((rd_T26 x0 x3).f0) (decide ((bt ((rd_T26 x0 x3).f0) 0) > 57)))) else (none)))) else (none)) else (none)) else ((cadastrelaw5_wakes.f k).bind fun t155 => (some t155))
def cadastrelaw5_CastSigns.j2 : Nat → List (S26) → Int → ByteArray → Bool → Option (Bool)
  | 0, _, _, _, _ => none
  | k + 1, x0, x3, x4, x49 => if x49 = true then (cadastrelaw5_CastSigns.l0 k x0 (wrap64 (x3 + 1))) else ((cast_Int.f k x4).bind fun bt157 => (if 2 + x4.size ≤ 9223372036854775807 then ((cast_Int.f k ((⟨#[48, 48]⟩ : ByteArray) ++ x4)).bind fun bt159 => (if 1 + x4.size ≤ 9223372036854775807 then ((cast_Int.f k ((⟨#[43]⟩ : ByteArray) ++ x4)).bind fun bt161 => ((cast_Int.f k ((⟨#[45]⟩ : ByteArray) ++ x4)).bind fun bt163 => ((cadastrelaw5_num.f bt157.2).bind fun t165 => ((cadastrelaw5_num.f bt159.2).bind fun t166 => (if t165 = t166 then ((cadastrelaw5_num.f bt157.2).bind fun t167 => ((cadastrelaw5_num.f bt161.2).bind fun t168 => (if t167 = t168 then (if bt159.1 = bt157.1 then (if bt161.1 = bt157.1 then ((cadastrelaw5_num.f bt157.2).bind fun t169 => (if t169 = 0 then ((cadastrelaw5_num.f bt163.2).bind fun t170 => (if t170 = 0 then (cadastrelaw5_CastSigns.j3 k x0 x3 x4 (bt163.1 != (wrap64 (-bt157.1)))) else (cadastrelaw5_CastSigns.j3 k x0 x3 x4 true))) else (cadastrelaw5_CastSigns.j3 k x0 x3 x4 false))) else (cadastrelaw5_CastSigns.j3 k x0 x3 x4 true)) else (cadastrelaw5_CastSigns.j3 k x0 x3 x4 true)) else (cadastrelaw5_CastSigns.j3 k x0 x3 x4 true)))) else (cadastrelaw5_CastSigns.j3 k x0 x3 x4 true)))))) else (none))) else (none)))
def cadastrelaw5_CastSigns.j3 : Nat → List (S26) → Int → ByteArray → Bool → Option (Bool)
  | 0, _, _, _, _ => none
  | k + 1, x0, x3, x4, x110 => if x110 = true then (some false) else (if x4.size + 1 ≤ 9223372036854775807 then ((cast_Int.f k (x4 ++ (⟨#[120]⟩ : ByteArray))).bind fun bt171 => (if 1 + x4.size ≤ 9223372036854775807 then ((cast_Int.f k ((⟨#[32]⟩ : ByteArray) ++ x4)).bind fun bt173 => ((cadastrelaw5_num.f bt171.2).bind fun t175 => (if t175 = 4 then ((cadastrelaw5_num.f bt173.2).bind fun t176 => (if t176 = 4 then (cadastrelaw5_CastSigns.l0 k x0 (wrap64 (x3 + 1))) else (some false))) else (some false)))) else (none))) else (none))
end
def cadastrelaw5_CastSigns.f (k : Nat) (l0 : List (S26)) : Option (Bool) := cadastrelaw5_CastSigns.l0 k l0 0
theorem cadastrelaw5_CastSigns.mono_l : ∀ k, (∀ y0 y1, LeO (cadastrelaw5_CastSigns.l0 k y0 y1) (cadastrelaw5_CastSigns.l0 (k + 1) y0 y1)) ∧ (∀ y0 y1 y2, LeO (cadastrelaw5_CastSigns.j1 k y0 y1 y2) (cadastrelaw5_CastSigns.j1 (k + 1) y0 y1 y2)) ∧ (∀ y0 y1 y2 y3, LeO (cadastrelaw5_CastSigns.j2 k y0 y1 y2 y3) (cadastrelaw5_CastSigns.j2 (k + 1) y0 y1 y2 y3)) ∧ (∀ y0 y1 y2 y3, LeO (cadastrelaw5_CastSigns.j3 k y0 y1 y2 y3) (cadastrelaw5_CastSigns.j3 (k + 1) y0 y1 y2 y3))
  | 0 => ⟨fun _ _ r h => by simp [cadastrelaw5_CastSigns.l0] at h, fun _ _ _ r h => by simp [cadastrelaw5_CastSigns.j1] at h, fun _ _ _ _ r h => by simp [cadastrelaw5_CastSigns.j2] at h, fun _ _ _ _ r h => by simp [cadastrelaw5_CastSigns.j3] at h⟩
  | k + 1 => by
    obtain ⟨ih0, ih1, ih2, ih3⟩ := cadastrelaw5_CastSigns.mono_l k
    refine ⟨?_, ?_, ?_, ?_⟩
    · intro y0 y1
      unfold cadastrelaw5_CastSigns.l0
      repeat' first
      | (with_reducible exact ih0 _ _)
      | (with_reducible exact ih1 _ _ _)
      | (with_reducible exact ih2 _ _ _ _)
      | (with_reducible exact ih3 _ _ _ _)
      | (with_reducible exact cadastrelaw5_wakes.mono _)
      | (with_reducible exact cast_Int.mono _ _)
      | (with_reducible exact LeO.refl _)
      | (with_reducible exact LeO.none _)
      | (with_reducible refine LeO.ite ?_ ?_)
      | (with_reducible refine LeO.bind ?_ (fun _ => ?_))
      | exact ih0 _ _
      | exact ih1 _ _ _
      | exact ih2 _ _ _ _
      | exact ih3 _ _ _ _
      | exact cadastrelaw5_wakes.mono _
      | exact cast_Int.mono _ _
      | exact LeO.none _
      | refine LeO.ite ?_ ?_
      | refine LeO.bind ?_ (fun _ => ?_)
    · intro y0 y1 y2
      unfold cadastrelaw5_CastSigns.j1
      repeat' first
      | (with_reducible exact ih0 _ _)
      | (with_reducible exact ih1 _ _ _)
      | (with_reducible exact ih2 _ _ _ _)
      | (with_reducible exact ih3 _ _ _ _)
      | (with_reducible exact cadastrelaw5_wakes.mono _)
      | (with_reducible exact cast_Int.mono _ _)
      | (with_reducible exact LeO.refl _)
      | (with_reducible exact LeO.none _)
      | (with_reducible refine LeO.ite ?_ ?_)
      | (with_reducible refine LeO.bind ?_ (fun _ => ?_))
      | exact ih0 _ _
      | exact ih1 _ _ _
      | exact ih2 _ _ _ _
      | exact ih3 _ _ _ _
      | exact cadastrelaw5_wakes.mono _
      | exact cast_Int.mono _ _
      | exact LeO.none _
      | refine LeO.ite ?_ ?_
      | refine LeO.bind ?_ (fun _ => ?_)
    · intro y0 y1 y2 y3
      unfold cadastrelaw5_CastSigns.j2
      repeat' first
      | (with_reducible exact ih0 _ _)
      | (with_reducible exact ih1 _ _ _)
      | (with_reducible exact ih2 _ _ _ _)
      | (with_reducible exact ih3 _ _ _ _)
      | (with_reducible exact cadastrelaw5_wakes.mono _)
      | (with_reducible exact cast_Int.mono _ _)
      | (with_reducible exact LeO.refl _)
      | (with_reducible exact LeO.none _)
      | (with_reducible refine LeO.ite ?_ ?_)
      | (with_reducible refine LeO.bind ?_ (fun _ => ?_))
      | exact ih0 _ _
      | exact ih1 _ _ _
      | exact ih2 _ _ _ _
      | exact ih3 _ _ _ _
      | exact cadastrelaw5_wakes.mono _
      | exact cast_Int.mono _ _
      | exact LeO.none _
      | refine LeO.ite ?_ ?_
      | refine LeO.bind ?_ (fun _ => ?_)
    · intro y0 y1 y2 y3
      unfold cadastrelaw5_CastSigns.j3
      repeat' first
      | (with_reducible exact ih0 _ _)
      | (with_reducible exact ih1 _ _ _)
      | (with_reducible exact ih2 _ _ _ _)
      | (with_reducible exact ih3 _ _ _ _)
      | (with_reducible exact cadastrelaw5_wakes.mono _)
      | (with_reducible exact cast_Int.mono _ _)
      | (with_reducible exact LeO.refl _)
      | (with_reducible exact LeO.none _)
      | (with_reducible refine LeO.ite ?_ ?_)
      | (with_reducible refine LeO.bind ?_ (fun _ => ?_))
      | exact ih0 _ _
      | exact ih1 _ _ _
      | exact ih2 _ _ _ _
      | exact ih3 _ _ _ _
      | exact cadastrelaw5_wakes.mono _
      | exact cast_Int.mono _ _
      | exact LeO.none _
      | refine LeO.ite ?_ ?_
      | refine LeO.bind ?_ (fun _ => ?_)
theorem cadastrelaw5_CastSigns.mono : ∀ a0 k, LeO (cadastrelaw5_CastSigns.f k a0) (cadastrelaw5_CastSigns.f (k + 1) a0) := by
  intro a0 k
  obtain ⟨ih0, ih1, ih2, ih3⟩ := cadastrelaw5_CastSigns.mono_l k
  unfold cadastrelaw5_CastSigns.f
  repeat' first
      | (with_reducible exact ih0 _ _)
      | (with_reducible exact ih1 _ _ _)
      | (with_reducible exact ih2 _ _ _ _)
      | (with_reducible exact ih3 _ _ _ _)
      | (with_reducible exact cadastrelaw5_wakes.mono _)
      | (with_reducible exact cast_Int.mono _ _)
      | (with_reducible exact LeO.refl _)
      | (with_reducible exact LeO.none _)
      | (with_reducible refine LeO.ite ?_ ?_)
      | (with_reducible refine LeO.bind ?_ (fun _ => ?_))
      | exact ih0 _ _
      | exact ih1 _ _ _
      | exact ih2 _ _ _ _
      | exact ih3 _ _ _ _
      | exact cadastrelaw5_wakes.mono _
      | exact cast_Int.mono _ _
      | exact LeO.none _
      | refine LeO.ite ?_ ?_
      | refine LeO.bind ?_ (fun _ => ?_)
set_option maxHeartbeats 8000000 in
set_option maxRecDepth 100000 in
theorem cadastrelaw5_CastSigns.calls (k : Nat) (A0 : Option Addr) (c0 : Nat) (l0 : List (S26)) (r : Bool) (w : World) (hr0 : Kd.C k26 w A0 l0.length l0) (hc0 : l0.length ≤ c0) (h : cadastrelaw5_CastSigns.f k l0 = some r) :
    Calls Try.prog 4 #[.slice A0 l0.length c0] w fun e w' => e = .returned (.bool r) ∧ Drawn0 w w' := by
  have HR0 := Aside0.mk hr0
  have HC0 := Aside0.mk hc0
  clear hr0 hc0
  have H : (cadastrelaw5_CastSigns.l0 k l0 0) = some r := h
  clear h
  have H' := Aside0.mk H
  clear H
  go_enter Try.func4, Try.ntmps4
  go_wp2
  go_loopg [3] k (fun kq v3 w' => ∃ (x3_1 : Int), v3 = .int .i64 x3_1 ∧ Aside0 (cadastrelaw5_CastSigns.l0 kq l0 x3_1 = some r) ∧ Aside0 (kq ≤ k) ∧ Drawn0 w w')
  case atStart => exact ⟨(0), (by first | rfl | (simp; done) | (simp [*]; done)), H', ⟨Nat.le_refl _⟩, by repeat (first | exact Drawn0.refl _ | apply Drawn0.step)⟩
  case round =>
    clear H'
    obtain ⟨x3_1, rfl, HA, HK1, ⟨m1, rfl⟩⟩ := hrel
    cases gk with
    | zero => exact absurd HA.out (by simp [cadastrelaw5_CastSigns.l0])
    | succ k1 =>
      have H := HA.out
      clear HA
      simp only [cadastrelaw5_CastSigns.l0] at H
      have HC2 := Aside0.mk H
      clear H
      go_upto_region 2 with (fail)
      go_cut [24] (fun v24 wc => ∃ (kq : Nat) (x24_1 : Bool), v24 = .bool x24_1 ∧ Aside0 (cadastrelaw5_CastSigns.j1 kq l0 x3_1 x24_1 = some r) ∧ Aside0 (kq ≤ k1) ∧ Drawn0 w wc)
      case first =>
        have H := HC2.out
        clear HC2
        by_cases c3 : x3_1 < (l0.length : Int)
        · rw [if_pos c3] at H
          have c3b0 : decide (x3_1 < (l0.length : Int)) = true := decide_eq_true c3
          clear c3
          (first | rw [c3b0] | (simp only [i64_w, i32_w]; rw [c3b0]) | skip)
          have H' := Aside0.mk H
          clear H
          go_wp2
          go_meet
          case rel => exact ⟨_, (decide (x3_1 < 30)), (by first | rfl | (simp; done) | (simp [*]; done)), H', ⟨by have := HK1.out; first | omega | exact Nat.le_refl _⟩, by repeat (first | exact Drawn0.refl _ | apply Drawn0.step)⟩
        rw [if_neg c3] at H
        have c3b0 : decide (x3_1 < (l0.length : Int)) = false := decide_eq_false c3
        clear c3
        (first | rw [c3b0] | (simp only [i64_w, i32_w]; rw [c3b0]) | skip)
        have H' := Aside0.mk H
        clear H
        go_wp2
        go_meet
        case rel => exact ⟨_, (false), (by first | rfl | (simp; done) | (simp [*]; done)), H', ⟨by have := HK1.out; first | omega | exact Nat.le_refl _⟩, by repeat (first | exact Drawn0.refl _ | apply Drawn0.step)⟩
      case rest =>
        clear HC2
        try clear p2
        try clear c3
        try clear c3b0
        obtain ⟨kq, x24_1, rfl, HA, HJ1, ⟨mc1, rfl⟩⟩ := hcut
        cases kq with
        | zero => exact absurd HA.out (by simp [cadastrelaw5_CastSigns.j1])
        | succ kj1 =>
          have H := HA.out
          clear HA
          simp only [cadastrelaw5_CastSigns.j1] at H
          by_cases c4 : x24_1 = true
          · subst c4
            have H1 : (if 0 ≤ x3_1 then (if x3_1 < (l0.length : Int) then (if (((rd_T26 l0 x3_1).f0).size : Int) = 0 then (cadastrelaw5_CastSigns.j2 kj1 l0 x3_1 ((rd_T26 l0 x3_1).f0) true) else (if (((rd_T26 l0 x3_1).f0).size : Int) > 1000 then (cadastrelaw5_CastSigns.j2 kj1 l0 x3_1 ((rd_T26 l0 x3_1).f0) true) else (if 0 < (((rd_T26 l0 x3_1).f0).size : Int) then (if (bt ((rd_T26 l0 x3_1).f0) 0) < 48 then (cadastrelaw5_CastSigns.j2 kj1 l0 x3_1 ((rd_T26 l0 x3_1).f0) true) else (cadastrelaw5_CastSigns.j2 kj1 l0 x3_1 ((rd_T26 l0 x3_1).f0) (decide ((bt ((rd_T26 l0 x3_1).f0) 0) > 57)))) else (none)))) else (none)) else (none)) = some r := by rw [if_pos rfl] at H; exact H
            clear H
            have H := H1
            clear H1
            by_cases c5 : 0 ≤ x3_1
            rotate_left
            · rw [if_neg c5] at H
              exact absurd H (by simp)
            rw [if_pos c5] at H
            have c5b0 : decide (0 ≤ x3_1) = true := decide_eq_true c5
            clear c5
            by_cases c6 : x3_1 < (l0.length : Int)
            rotate_left
            · rw [if_neg c6] at H
              exact absurd H (by simp)
            rw [if_pos c6] at H
            have c6b0 : decide (x3_1 < (l0.length : Int)) = true := decide_eq_true c6
            clear c6
            have HC7 := Aside0.mk H
            clear H
            have p156 : 0 ≤ (x3_1 : Int) := of_decide_eq_true (by first | (with_reducible assumption) | assumption)
            have q156 : x3_1 < (l0.length : Int) := of_decide_eq_true (by first | (with_reducible assumption) | assumption)
            obtain ⟨ad156, e156, hx156_0, hx156_1, hx156_2, hx156_3, hx156_4⟩ := at_T26 HR0.out x3_1 p156 q156
            cases e156
            replace p156 := eq_true p156
            replace q156 := eq_true q156
            go_upto_region 5 with (fail)
            go_cut [49] (fun v49 wc => ∃ (kq : Nat) (x49_6 : Bool), v49 = .bool x49_6 ∧ Aside0 (cadastrelaw5_CastSigns.j2 kq l0 x3_1 ((rd_T26 l0 x3_1).f0) x49_6 = some r) ∧ Aside0 (kq ≤ kj1) ∧ Drawn0 w wc)
            case first =>
              have H := HC7.out
              clear HC7
              by_cases c8 : (((rd_T26 l0 x3_1).f0).size : Int) = 0
              · rw [if_pos c8] at H
                have c8b0 : ((((rd_T26 l0 x3_1).f0).size : Int) == 0) = true := beq_iff_eq.mpr c8
                have c8b1 : ((((rd_T26 l0 x3_1).f0).size : Int) != 0) = false := bne_eq_false_iff_eq.mpr c8
                clear c8
                (first | rw [c8b0] | (simp only [i64_w, i32_w]; rw [c8b0]) | skip)
                have H' := Aside0.mk H
                clear H
                go_wp2
                go_meet
                case rel => exact ⟨_, (true), (by first | rfl | (simp; done) | (simp [*]; done)), H', ⟨by have := HK1.out; have := HJ1.out; first | omega | exact Nat.le_refl _⟩, by repeat (first | exact Drawn0.refl _ | apply Drawn0.step)⟩
              rw [if_neg c8] at H
              have c8b0 : ((((rd_T26 l0 x3_1).f0).size : Int) == 0) = false := beq_eq_false_iff_ne.mpr c8
              have c8b1 : ((((rd_T26 l0 x3_1).f0).size : Int) != 0) = true := bne_iff_ne.mpr c8
              (first | rw [c8b0] | (simp only [i64_w, i32_w]; rw [c8b0]) | skip)
              by_cases c9 : (((rd_T26 l0 x3_1).f0).size : Int) > 1000
              · rw [if_pos c9] at H
                have c9b0 : decide (1000 < (((rd_T26 l0 x3_1).f0).size : Int)) = true := decide_eq_true c9
                have c9b1 : decide (1000 < ((rd_T26 l0 x3_1).f0).size) = true := decide_eq_true (by omega)
                clear c9
                have H' := Aside0.mk H
                clear H
                go_wp2
                go_meet
                case rel => exact ⟨_, (true), (by first | rfl | (simp; done) | (simp [*]; done)), H', ⟨by have := HK1.out; have := HJ1.out; first | omega | exact Nat.le_refl _⟩, by repeat (first | exact Drawn0.refl _ | apply Drawn0.step)⟩
              rw [if_neg c9] at H
              have c9b0 : decide (1000 < (((rd_T26 l0 x3_1).f0).size : Int)) = false := decide_eq_false c9
              have c9b1 : decide (1000 < ((rd_T26 l0 x3_1).f0).size) = false := decide_eq_false (by omega)
              clear c9
              by_cases c10 : 0 < (((rd_T26 l0 x3_1).f0).size : Int)
              rotate_left
              · rw [if_neg c10] at H
                exact absurd H (by simp)
              rw [if_pos c10] at H
              have c10b0 : decide (0 < (((rd_T26 l0 x3_1).f0).size : Int)) = true := decide_eq_true c10
              have c10b1 : decide (0 < ((rd_T26 l0 x3_1).f0).size) = true := decide_eq_true (by omega)
              clear c10
              by_cases c12 : (bt ((rd_T26 l0 x3_1).f0) 0) < 48
              · rw [if_pos c12] at H
                have c12b0 : decide ((bt ((rd_T26 l0 x3_1).f0) 0) < 48) = true := decide_eq_true c12
                clear c12
                have H' := Aside0.mk H
                clear H
                have p11 : 0 ≤ (0 : Int) := (by omega)
                have q11 : 0 < ((rd_T26 l0 x3_1).f0).size := (by have : (0 : Int) < (((rd_T26 l0 x3_1).f0).size : Int) := of_decide_eq_true (by first | (with_reducible assumption) | assumption); omega)
                have hx11 : ∀ h : 0 < ((rd_T26 l0 x3_1).f0).size, ((((rd_T26 l0 x3_1).f0)[0]'h).toNat : Int) = bt ((rd_T26 l0 x3_1).f0) 0 := bt_at ((rd_T26 l0 x3_1).f0) 0
                clear p11
                have qi11 : (0 < (((rd_T26 l0 x3_1).f0).size : Int)) = True := eq_true (of_decide_eq_true (by first | (with_reducible assumption) | assumption))
                replace q11 := eq_true q11
                go_wp2
                go_meet
                case rel => exact ⟨_, (true), (by first | rfl | (simp; done) | (simp [*]; done)), H', ⟨by have := HK1.out; have := HJ1.out; first | omega | exact Nat.le_refl _⟩, by repeat (first | exact Drawn0.refl _ | apply Drawn0.step)⟩
              rw [if_neg c12] at H
              have c12b0 : decide ((bt ((rd_T26 l0 x3_1).f0) 0) < 48) = false := decide_eq_false c12
              clear c12
              have H' := Aside0.mk H
              clear H
              have p11 : 0 ≤ (0 : Int) := (by omega)
              have q11 : 0 < ((rd_T26 l0 x3_1).f0).size := (by have : (0 : Int) < (((rd_T26 l0 x3_1).f0).size : Int) := of_decide_eq_true (by first | (with_reducible assumption) | assumption); omega)
              have hx11 : ∀ h : 0 < ((rd_T26 l0 x3_1).f0).size, ((((rd_T26 l0 x3_1).f0)[0]'h).toNat : Int) = bt ((rd_T26 l0 x3_1).f0) 0 := bt_at ((rd_T26 l0 x3_1).f0) 0
              clear p11
              have qi11 : (0 < (((rd_T26 l0 x3_1).f0).size : Int)) = True := eq_true (of_decide_eq_true (by first | (with_reducible assumption) | assumption))
              replace q11 := eq_true q11
              have p13 : 0 ≤ (0 : Int) := (by omega)
              have q13 : 0 < ((rd_T26 l0 x3_1).f0).size := (by have : (0 : Int) < (((rd_T26 l0 x3_1).f0).size : Int) := of_decide_eq_true (by first | (with_reducible assumption) | assumption); omega)
              have hx13 : ∀ h : 0 < ((rd_T26 l0 x3_1).f0).size, ((((rd_T26 l0 x3_1).f0)[0]'h).toNat : Int) = bt ((rd_T26 l0 x3_1).f0) 0 := bt_at ((rd_T26 l0 x3_1).f0) 0
              clear p13
              have qi13 : (0 < (((rd_T26 l0 x3_1).f0).size : Int)) = True := eq_true (of_decide_eq_true (by first | (with_reducible assumption) | assumption))
              replace q13 := eq_true q13
              go_wp2
              go_meet
              case rel => exact ⟨_, (decide ((bt ((rd_T26 l0 x3_1).f0) 0) > 57)), (by first | rfl | (simp; done) | (simp [*]; done)), H', ⟨by have := HK1.out; have := HJ1.out; first | omega | exact Nat.le_refl _⟩, by repeat (first | exact Drawn0.refl _ | apply Drawn0.step)⟩
            case rest =>
              clear HC7
              try clear c1
              try clear p1
              try clear q1
              try clear hx1
              try clear qi1
              try clear p2
              try clear c3
              try clear c3b0
              try clear c4
              try clear c5
              try clear c5b0
              try clear c6
              try clear c6b0
              try clear c8
              try clear c8b0
              try clear c8b1
              try clear c9
              try clear c9b0
              try clear c9b1
              try clear c10
              try clear c10b0
              try clear c10b1
              try clear p11
              try clear q11
              try clear hx11
              try clear qi11
              try clear c12
              try clear c12b0
              try clear p13
              try clear q13
              try clear hx13
              try clear qi13
              try clear hx156_0
              try clear hx156_1
              try clear hx156_2
              try clear hx156_3
              try clear hx156_4
              try clear p11
              try clear p13
              try clear p156
              try clear p2
              try clear q11
              try clear q13
              try clear q156
              obtain ⟨kq, x49_6, rfl, HA, HJ6, ⟨mc6, rfl⟩⟩ := hcut
              cases kq with
              | zero => exact absurd HA.out (by simp [cadastrelaw5_CastSigns.j2])
              | succ kj6 =>
                have H := HA.out
                clear HA
                simp only [cadastrelaw5_CastSigns.j2] at H
                by_cases c14 : x49_6 = true
                · subst c14
                  have H1 : (cadastrelaw5_CastSigns.l0 kj6 l0 (wrap64 (x3_1 + 1))) = some r := by rw [if_pos rfl] at H; exact H
                  clear H
                  have H := H1
                  clear H1
                  have H' := Aside0.mk H
                  clear H
                  go_wp2
                  go_roundg kj6
                  case measure => have := HK1.out; have := HJ1.out; have := HJ6.out; omega
                  case rel => exact ⟨(wrap64 (x3_1 + 1)), (by first | rfl | (simp; done) | (simp [*]; done)), H', ⟨by have := HK1.out; have := HJ1.out; have := HJ6.out; omega⟩, by repeat (first | exact Drawn0.refl _ | apply Drawn0.step)⟩
                · replace c14 := Bool.eq_false_iff.mpr c14
                  subst c14
                  have H1 : ((cast_Int.f kj6 ((rd_T26 l0 x3_1).f0)).bind fun bt157 => (if 2 + ((rd_T26 l0 x3_1).f0).size ≤ 9223372036854775807 then ((cast_Int.f kj6 ((⟨#[48, 48]⟩ : ByteArray) ++ ((rd_T26 l0 x3_1).f0))).bind fun bt159 => (if 1 + ((rd_T26 l0 x3_1).f0).size ≤ 9223372036854775807 then ((cast_Int.f kj6 ((⟨#[43]⟩ : ByteArray) ++ ((rd_T26 l0 x3_1).f0))).bind fun bt161 => ((cast_Int.f kj6 ((⟨#[45]⟩ : ByteArray) ++ ((rd_T26 l0 x3_1).f0))).bind fun bt163 => ((cadastrelaw5_num.f bt157.2).bind fun t165 => ((cadastrelaw5_num.f bt159.2).bind fun t166 => (if t165 = t166 then ((cadastrelaw5_num.f bt157.2).bind fun t167 => ((cadastrelaw5_num.f bt161.2).bind fun t168 => (if t167 = t168 then (if bt159.1 = bt157.1 then (if bt161.1 = bt157.1 then ((cadastrelaw5_num.f bt157.2).bind fun t169 => (if t169 = 0 then ((cadastrelaw5_num.f bt163.2).bind fun t170 => (if t170 = 0 then (cadastrelaw5_CastSigns.j3 kj6 l0 x3_1 ((rd_T26 l0 x3_1).f0) (bt163.1 != (wrap64 (-bt157.1)))) else (cadastrelaw5_CastSigns.j3 kj6 l0 x3_1 ((rd_T26 l0 x3_1).f0) true))) else (cadastrelaw5_CastSigns.j3 kj6 l0 x3_1 ((rd_T26 l0 x3_1).f0) false))) else (cadastrelaw5_CastSigns.j3 kj6 l0 x3_1 ((rd_T26 l0 x3_1).f0) true)) else (cadastrelaw5_CastSigns.j3 kj6 l0 x3_1 ((rd_T26 l0 x3_1).f0) true)) else (cadastrelaw5_CastSigns.j3 kj6 l0 x3_1 ((rd_T26 l0 x3_1).f0) true)))) else (cadastrelaw5_CastSigns.j3 kj6 l0 x3_1 ((rd_T26 l0 x3_1).f0) true)))))) else (none))) else (none))) = some r := by rw [if_neg (show ¬ (false = true) by decide)] at H; exact H
                  clear H
                  have H := H1
                  clear H1
                  replace H := Option.bind_eq_some_iff.mp H
                  obtain ⟨⟨t157, t158⟩, A150, H⟩ := H
                  replace H : (if 2 + ((rd_T26 l0 x3_1).f0).size ≤ 9223372036854775807 then ((cast_Int.f kj6 ((⟨#[48, 48]⟩ : ByteArray) ++ ((rd_T26 l0 x3_1).f0))).bind fun bt159 => (if 1 + ((rd_T26 l0 x3_1).f0).size ≤ 9223372036854775807 then ((cast_Int.f kj6 ((⟨#[43]⟩ : ByteArray) ++ ((rd_T26 l0 x3_1).f0))).bind fun bt161 => ((cast_Int.f kj6 ((⟨#[45]⟩ : ByteArray) ++ ((rd_T26 l0 x3_1).f0))).bind fun bt163 => ((cadastrelaw5_num.f t158).bind fun t165 => ((cadastrelaw5_num.f bt159.2).bind fun t166 => (if t165 = t166 then ((cadastrelaw5_num.f t158).bind fun t167 => ((cadastrelaw5_num.f bt161.2).bind fun t168 => (if t167 = t168 then (if bt159.1 = t157 then (if bt161.1 = t157 then ((cadastrelaw5_num.f t158).bind fun t169 => (if t169 = 0 then ((cadastrelaw5_num.f bt163.2).bind fun t170 => (if t170 = 0 then (cadastrelaw5_CastSigns.j3 kj6 l0 x3_1 ((rd_T26 l0 x3_1).f0) (bt163.1 != (wrap64 (-t157)))) else (cadastrelaw5_CastSigns.j3 kj6 l0 x3_1 ((rd_T26 l0 x3_1).f0) true))) else (cadastrelaw5_CastSigns.j3 kj6 l0 x3_1 ((rd_T26 l0 x3_1).f0) false))) else (cadastrelaw5_CastSigns.j3 kj6 l0 x3_1 ((rd_T26 l0 x3_1).f0) true)) else (cadastrelaw5_CastSigns.j3 kj6 l0 x3_1 ((rd_T26 l0 x3_1).f0) true)) else (cadastrelaw5_CastSigns.j3 kj6 l0 x3_1 ((rd_T26 l0 x3_1).f0) true)))) else (cadastrelaw5_CastSigns.j3 kj6 l0 x3_1 ((rd_T26 l0 x3_1).f0) true)))))) else (none))) else (none)) = some r := H
                  have A15 := Aside0.mk A150
                  clear A150
                  by_cases c16 : 2 + ((rd_T26 l0 x3_1).f0).size ≤ 9223372036854775807
                  rotate_left
                  · rw [if_neg c16] at H
                    exact absurd H (by simp)
                  rw [if_pos c16] at H
                  have c16b0 := eq_true c16
                  have c16b1 : decide (2 + ((rd_T26 l0 x3_1).f0).size ≤ 9223372036854775807) = true := decide_eq_true c16
                  try have c16b2 : (9223372036854775807 < 2 + ((rd_T26 l0 x3_1).f0).size) = False := eq_false (Nat.not_lt.2 c16)
                  replace H := Option.bind_eq_some_iff.mp H
                  obtain ⟨⟨t159, t160⟩, A170, H⟩ := H
                  replace H : (if 1 + ((rd_T26 l0 x3_1).f0).size ≤ 9223372036854775807 then ((cast_Int.f kj6 ((⟨#[43]⟩ : ByteArray) ++ ((rd_T26 l0 x3_1).f0))).bind fun bt161 => ((cast_Int.f kj6 ((⟨#[45]⟩ : ByteArray) ++ ((rd_T26 l0 x3_1).f0))).bind fun bt163 => ((cadastrelaw5_num.f t158).bind fun t165 => ((cadastrelaw5_num.f t160).bind fun t166 => (if t165 = t166 then ((cadastrelaw5_num.f t158).bind fun t167 => ((cadastrelaw5_num.f bt161.2).bind fun t168 => (if t167 = t168 then (if t159 = t157 then (if bt161.1 = t157 then ((cadastrelaw5_num.f t158).bind fun t169 => (if t169 = 0 then ((cadastrelaw5_num.f bt163.2).bind fun t170 => (if t170 = 0 then (cadastrelaw5_CastSigns.j3 kj6 l0 x3_1 ((rd_T26 l0 x3_1).f0) (bt163.1 != (wrap64 (-t157)))) else (cadastrelaw5_CastSigns.j3 kj6 l0 x3_1 ((rd_T26 l0 x3_1).f0) true))) else (cadastrelaw5_CastSigns.j3 kj6 l0 x3_1 ((rd_T26 l0 x3_1).f0) false))) else (cadastrelaw5_CastSigns.j3 kj6 l0 x3_1 ((rd_T26 l0 x3_1).f0) true)) else (cadastrelaw5_CastSigns.j3 kj6 l0 x3_1 ((rd_T26 l0 x3_1).f0) true)) else (cadastrelaw5_CastSigns.j3 kj6 l0 x3_1 ((rd_T26 l0 x3_1).f0) true)))) else (cadastrelaw5_CastSigns.j3 kj6 l0 x3_1 ((rd_T26 l0 x3_1).f0) true)))))) else (none)) = some r := H
                  have A17 := Aside0.mk A170
                  clear A170
                  by_cases c18 : 1 + ((rd_T26 l0 x3_1).f0).size ≤ 9223372036854775807
                  rotate_left
                  · rw [if_neg c18] at H
                    exact absurd H (by simp)
                  rw [if_pos c18] at H
                  have c18b0 := eq_true c18
                  have c18b1 : decide (1 + ((rd_T26 l0 x3_1).f0).size ≤ 9223372036854775807) = true := decide_eq_true c18
                  try have c18b2 : (9223372036854775807 < 1 + ((rd_T26 l0 x3_1).f0).size) = False := eq_false (Nat.not_lt.2 c18)
                  replace H := Option.bind_eq_some_iff.mp H
                  obtain ⟨⟨t161, t162⟩, A190, H⟩ := H
                  replace H : ((cast_Int.f kj6 ((⟨#[45]⟩ : ByteArray) ++ ((rd_T26 l0 x3_1).f0))).bind fun bt163 => ((cadastrelaw5_num.f t158).bind fun t165 => ((cadastrelaw5_num.f t160).bind fun t166 => (if t165 = t166 then ((cadastrelaw5_num.f t158).bind fun t167 => ((cadastrelaw5_num.f t162).bind fun t168 => (if t167 = t168 then (if t159 = t157 then (if t161 = t157 then ((cadastrelaw5_num.f t158).bind fun t169 => (if t169 = 0 then ((cadastrelaw5_num.f bt163.2).bind fun t170 => (if t170 = 0 then (cadastrelaw5_CastSigns.j3 kj6 l0 x3_1 ((rd_T26 l0 x3_1).f0) (bt163.1 != (wrap64 (-t157)))) else (cadastrelaw5_CastSigns.j3 kj6 l0 x3_1 ((rd_T26 l0 x3_1).f0) true))) else (cadastrelaw5_CastSigns.j3 kj6 l0 x3_1 ((rd_T26 l0 x3_1).f0) false))) else (cadastrelaw5_CastSigns.j3 kj6 l0 x3_1 ((rd_T26 l0 x3_1).f0) true)) else (cadastrelaw5_CastSigns.j3 kj6 l0 x3_1 ((rd_T26 l0 x3_1).f0) true)) else (cadastrelaw5_CastSigns.j3 kj6 l0 x3_1 ((rd_T26 l0 x3_1).f0) true)))) else (cadastrelaw5_CastSigns.j3 kj6 l0 x3_1 ((rd_T26 l0 x3_1).f0) true))))) = some r := H
                  have A19 := Aside0.mk A190
                  clear A190
                  replace H := Option.bind_eq_some_iff.mp H
                  obtain ⟨⟨t163, t164⟩, A200, H⟩ := H
                  replace H : ((cadastrelaw5_num.f t158).bind fun t165 => ((cadastrelaw5_num.f t160).bind fun t166 => (if t165 = t166 then ((cadastrelaw5_num.f t158).bind fun t167 => ((cadastrelaw5_num.f t162).bind fun t168 => (if t167 = t168 then (if t159 = t157 then (if t161 = t157 then ((cadastrelaw5_num.f t158).bind fun t169 => (if t169 = 0 then ((cadastrelaw5_num.f t164).bind fun t170 => (if t170 = 0 then (cadastrelaw5_CastSigns.j3 kj6 l0 x3_1 ((rd_T26 l0 x3_1).f0) (t163 != (wrap64 (-t157)))) else (cadastrelaw5_CastSigns.j3 kj6 l0 x3_1 ((rd_T26 l0 x3_1).f0) true))) else (cadastrelaw5_CastSigns.j3 kj6 l0 x3_1 ((rd_T26 l0 x3_1).f0) false))) else (cadastrelaw5_CastSigns.j3 kj6 l0 x3_1 ((rd_T26 l0 x3_1).f0) true)) else (cadastrelaw5_CastSigns.j3 kj6 l0 x3_1 ((rd_T26 l0 x3_1).f0) true)) else (cadastrelaw5_CastSigns.j3 kj6 l0 x3_1 ((rd_T26 l0 x3_1).f0) true)))) else (cadastrelaw5_CastSigns.j3 kj6 l0 x3_1 ((rd_T26 l0 x3_1).f0) true)))) = some r := H
                  have A20 := Aside0.mk A200
                  clear A200
                  have HC21 := Aside0.mk H
                  clear H
                  go_upto_region 10 with (first | ((with_reducible refine gate_callee (f := 26) rfl ?_); refine goesL_ (some 52) rfl rfl Try.func26 (by kernel_rfl) rfl #[.string ((rd_T26 l0 x3_1).f0)] rfl (by (try simp only [List.map_toArray, List.map_cons, List.map_nil]); first | done | rfl | (simp only [List.length_drop, List.length_take]; rfl)) ?_; (with_reducible refine (cast_Int.calls kj6 ((rd_T26 l0 x3_1).f0) t157 t158 _ A15.out).mono ?_); rintro e w' ⟨rfl, ⟨nd, rfl⟩⟩; refine ⟨_, rfl, ?_⟩) | ((with_reducible refine gate_callee (f := 26) rfl ?_); refine goesL_ (some 58) rfl rfl Try.func26 (by kernel_rfl) rfl #[.string ((⟨#[48, 48]⟩ : ByteArray) ++ ((rd_T26 l0 x3_1).f0))] rfl (by (try simp only [List.map_toArray, List.map_cons, List.map_nil]); first | done | rfl | (simp only [List.length_drop, List.length_take]; rfl)) ?_; (with_reducible refine (cast_Int.calls kj6 ((⟨#[48, 48]⟩ : ByteArray) ++ ((rd_T26 l0 x3_1).f0)) t159 t160 _ A17.out).mono ?_); rintro e w' ⟨rfl, ⟨nd, rfl⟩⟩; refine ⟨_, rfl, ?_⟩) | ((with_reducible refine gate_callee (f := 26) rfl ?_); refine goesL_ (some 64) rfl rfl Try.func26 (by kernel_rfl) rfl #[.string ((⟨#[43]⟩ : ByteArray) ++ ((rd_T26 l0 x3_1).f0))] rfl (by (try simp only [List.map_toArray, List.map_cons, List.map_nil]); first | done | rfl | (simp only [List.length_drop, List.length_take]; rfl)) ?_; (with_reducible refine (cast_Int.calls kj6 ((⟨#[43]⟩ : ByteArray) ++ ((rd_T26 l0 x3_1).f0)) t161 t162 _ A19.out).mono ?_); rintro e w' ⟨rfl, ⟨nd, rfl⟩⟩; refine ⟨_, rfl, ?_⟩) | ((with_reducible refine gate_callee (f := 26) rfl ?_); refine goesL_ (some 70) rfl rfl Try.func26 (by kernel_rfl) rfl #[.string ((⟨#[45]⟩ : ByteArray) ++ ((rd_T26 l0 x3_1).f0))] rfl (by (try simp only [List.map_toArray, List.map_cons, List.map_nil]); first | done | rfl | (simp only [List.length_drop, List.length_take]; rfl)) ?_; (with_reducible refine (cast_Int.calls kj6 ((⟨#[45]⟩ : ByteArray) ++ ((rd_T26 l0 x3_1).f0)) t163 t164 _ A20.out).mono ?_); rintro e w' ⟨rfl, ⟨nd, rfl⟩⟩; refine ⟨_, rfl, ?_⟩))
                  (try simp only [Act.put, List.setIfInBounds_toArray, List.set_cons_zero, List.set_cons_succ])
                  go_cut [110] (fun v110 wc => ∃ (kq : Nat) (x110_20 : Bool), v110 = .bool x110_20 ∧ Aside0 (cadastrelaw5_CastSigns.j3 kq l0 x3_1 ((rd_T26 l0 x3_1).f0) x110_20 = some r) ∧ Aside0 (kq ≤ kj6) ∧ Drawn0 w wc)
                  case first =>
                    have H := HC21.out
                    clear HC21
                    replace H := Option.bind_eq_some_iff.mp H
                    obtain ⟨t165, A220, H⟩ := H
                    replace H : ((cadastrelaw5_num.f t160).bind fun t166 => (if t165 = t166 then ((cadastrelaw5_num.f t158).bind fun t167 => ((cadastrelaw5_num.f t162).bind fun t168 => (if t167 = t168 then (if t159 = t157 then (if t161 = t157 then ((cadastrelaw5_num.f t158).bind fun t169 => (if t169 = 0 then ((cadastrelaw5_num.f t164).bind fun t170 => (if t170 = 0 then (cadastrelaw5_CastSigns.j3 kj6 l0 x3_1 ((rd_T26 l0 x3_1).f0) (t163 != (wrap64 (-t157)))) else (cadastrelaw5_CastSigns.j3 kj6 l0 x3_1 ((rd_T26 l0 x3_1).f0) true))) else (cadastrelaw5_CastSigns.j3 kj6 l0 x3_1 ((rd_T26 l0 x3_1).f0) false))) else (cadastrelaw5_CastSigns.j3 kj6 l0 x3_1 ((rd_T26 l0 x3_1).f0) true)) else (cadastrelaw5_CastSigns.j3 kj6 l0 x3_1 ((rd_T26 l0 x3_1).f0) true)) else (cadastrelaw5_CastSigns.j3 kj6 l0 x3_1 ((rd_T26 l0 x3_1).f0) true)))) else (cadastrelaw5_CastSigns.j3 kj6 l0 x3_1 ((rd_T26 l0 x3_1).f0) true))) = some r := H
                    have A22 := Aside0.mk A220
                    clear A220
                    replace H := Option.bind_eq_some_iff.mp H
                    obtain ⟨t166, A230, H⟩ := H
                    replace H : (if t165 = t166 then ((cadastrelaw5_num.f t158).bind fun t167 => ((cadastrelaw5_num.f t162).bind fun t168 => (if t167 = t168 then (if t159 = t157 then (if t161 = t157 then ((cadastrelaw5_num.f t158).bind fun t169 => (if t169 = 0 then ((cadastrelaw5_num.f t164).bind fun t170 => (if t170 = 0 then (cadastrelaw5_CastSigns.j3 kj6 l0 x3_1 ((rd_T26 l0 x3_1).f0) (t163 != (wrap64 (-t157)))) else (cadastrelaw5_CastSigns.j3 kj6 l0 x3_1 ((rd_T26 l0 x3_1).f0) true))) else (cadastrelaw5_CastSigns.j3 kj6 l0 x3_1 ((rd_T26 l0 x3_1).f0) false))) else (cadastrelaw5_CastSigns.j3 kj6 l0 x3_1 ((rd_T26 l0 x3_1).f0) true)) else (cadastrelaw5_CastSigns.j3 kj6 l0 x3_1 ((rd_T26 l0 x3_1).f0) true)) else (cadastrelaw5_CastSigns.j3 kj6 l0 x3_1 ((rd_T26 l0 x3_1).f0) true)))) else (cadastrelaw5_CastSigns.j3 kj6 l0 x3_1 ((rd_T26 l0 x3_1).f0) true)) = some r := H
                    have A23 := Aside0.mk A230
                    clear A230
                    by_cases c24 : t165 = t166
                    rotate_left
                    · rw [if_neg c24] at H
                      have c24b0 : (t165 == t166) = false := beq_eq_false_iff_ne.mpr c24
                      have c24b1 : (t165 != t166) = true := bne_iff_ne.mpr c24
                      (first | rw [c24b0] | (simp only [i64_w, i32_w]; rw [c24b0]) | skip)
                      have H' := Aside0.mk H
                      clear H
                      go_wp2_with (first | ((with_reducible refine gate_callee (f := 28) rfl ?_); refine goesL_ (some 74) rfl rfl Try.func28 (by kernel_rfl) rfl #[.int .i64 t158] rfl (by (try simp only [List.map_toArray, List.map_cons, List.map_nil]); first | done | rfl | (simp only [List.length_drop, List.length_take]; rfl)) ?_; (with_reducible refine (cadastrelaw5_num.calls t158 t165 _ A22.out).mono ?_); rintro e w' ⟨rfl, ⟨nd, rfl⟩⟩; refine ⟨_, rfl, ?_⟩) | ((with_reducible refine gate_callee (f := 28) rfl ?_); refine goesL_ (some 76) rfl rfl Try.func28 (by kernel_rfl) rfl #[.int .i64 t160] rfl (by (try simp only [List.map_toArray, List.map_cons, List.map_nil]); first | done | rfl | (simp only [List.length_drop, List.length_take]; rfl)) ?_; (with_reducible refine (cadastrelaw5_num.calls t160 t166 _ A23.out).mono ?_); rintro e w' ⟨rfl, ⟨nd, rfl⟩⟩; refine ⟨_, rfl, ?_⟩))
                      go_meet
                      case rel => exact ⟨_, (true), (by first | rfl | (simp; done) | (simp [*]; done)), H', ⟨by have := HK1.out; have := HJ1.out; have := HJ6.out; first | omega | exact Nat.le_refl _⟩, by repeat (first | exact Drawn0.refl _ | apply Drawn0.step)⟩
                    rw [if_pos c24] at H
                    have c24b0 : (t165 == t166) = true := beq_iff_eq.mpr c24
                    have c24b1 : (t165 != t166) = false := bne_eq_false_iff_eq.mpr c24
                    clear c24
                    (first | rw [c24b0] | (simp only [i64_w, i32_w]; rw [c24b0]) | skip)
                    replace H := Option.bind_eq_some_iff.mp H
                    obtain ⟨t167, A250, H⟩ := H
                    replace H : ((cadastrelaw5_num.f t162).bind fun t168 => (if t167 = t168 then (if t159 = t157 then (if t161 = t157 then ((cadastrelaw5_num.f t158).bind fun t169 => (if t169 = 0 then ((cadastrelaw5_num.f t164).bind fun t170 => (if t170 = 0 then (cadastrelaw5_CastSigns.j3 kj6 l0 x3_1 ((rd_T26 l0 x3_1).f0) (t163 != (wrap64 (-t157)))) else (cadastrelaw5_CastSigns.j3 kj6 l0 x3_1 ((rd_T26 l0 x3_1).f0) true))) else (cadastrelaw5_CastSigns.j3 kj6 l0 x3_1 ((rd_T26 l0 x3_1).f0) false))) else (cadastrelaw5_CastSigns.j3 kj6 l0 x3_1 ((rd_T26 l0 x3_1).f0) true)) else (cadastrelaw5_CastSigns.j3 kj6 l0 x3_1 ((rd_T26 l0 x3_1).f0) true)) else (cadastrelaw5_CastSigns.j3 kj6 l0 x3_1 ((rd_T26 l0 x3_1).f0) true))) = some r := H
                    have A25 := Aside0.mk A250
                    clear A250
                    replace H := Option.bind_eq_some_iff.mp H
                    obtain ⟨t168, A260, H⟩ := H
                    replace H : (if t167 = t168 then (if t159 = t157 then (if t161 = t157 then ((cadastrelaw5_num.f t158).bind fun t169 => (if t169 = 0 then ((cadastrelaw5_num.f t164).bind fun t170 => (if t170 = 0 then (cadastrelaw5_CastSigns.j3 kj6 l0 x3_1 ((rd_T26 l0 x3_1).f0) (t163 != (wrap64 (-t157)))) else (cadastrelaw5_CastSigns.j3 kj6 l0 x3_1 ((rd_T26 l0 x3_1).f0) true))) else (cadastrelaw5_CastSigns.j3 kj6 l0 x3_1 ((rd_T26 l0 x3_1).f0) false))) else (cadastrelaw5_CastSigns.j3 kj6 l0 x3_1 ((rd_T26 l0 x3_1).f0) true)) else (cadastrelaw5_CastSigns.j3 kj6 l0 x3_1 ((rd_T26 l0 x3_1).f0) true)) else (cadastrelaw5_CastSigns.j3 kj6 l0 x3_1 ((rd_T26 l0 x3_1).f0) true)) = some r := H
                    have A26 := Aside0.mk A260
                    clear A260
                    by_cases c27 : t167 = t168
                    rotate_left
                    · rw [if_neg c27] at H
                      have c27b0 : (t167 == t168) = false := beq_eq_false_iff_ne.mpr c27
                      have c27b1 : (t167 != t168) = true := bne_iff_ne.mpr c27
                      have H' := Aside0.mk H
                      clear H
                      go_wp2_with (first | ((with_reducible refine gate_callee (f := 28) rfl ?_); refine goesL_ (some 74) rfl rfl Try.func28 (by kernel_rfl) rfl #[.int .i64 t158] rfl (by (try simp only [List.map_toArray, List.map_cons, List.map_nil]); first | done | rfl | (simp only [List.length_drop, List.length_take]; rfl)) ?_; (with_reducible refine (cadastrelaw5_num.calls t158 t165 _ A22.out).mono ?_); rintro e w' ⟨rfl, ⟨nd, rfl⟩⟩; refine ⟨_, rfl, ?_⟩) | ((with_reducible refine gate_callee (f := 28) rfl ?_); refine goesL_ (some 76) rfl rfl Try.func28 (by kernel_rfl) rfl #[.int .i64 t160] rfl (by (try simp only [List.map_toArray, List.map_cons, List.map_nil]); first | done | rfl | (simp only [List.length_drop, List.length_take]; rfl)) ?_; (with_reducible refine (cadastrelaw5_num.calls t160 t166 _ A23.out).mono ?_); rintro e w' ⟨rfl, ⟨nd, rfl⟩⟩; refine ⟨_, rfl, ?_⟩) | (go_at_call 28; (with_reducible refine (cadastrelaw5_num.calls t158 t167 _ A25.out).mono ?_); rintro e w' ⟨rfl, ⟨nd, rfl⟩⟩; (try clear A25)) | (go_at_call 28; (with_reducible refine (cadastrelaw5_num.calls t162 t168 _ A26.out).mono ?_); rintro e w' ⟨rfl, ⟨nd, rfl⟩⟩; (try clear A26)))
                      go_meet
                      case rel => exact ⟨_, (true), (by first | rfl | (simp; done) | (simp [*]; done)), H', ⟨by have := HK1.out; have := HJ1.out; have := HJ6.out; first | omega | exact Nat.le_refl _⟩, by repeat (first | exact Drawn0.refl _ | apply Drawn0.step)⟩
                    rw [if_pos c27] at H
                    have c27b0 : (t167 == t168) = true := beq_iff_eq.mpr c27
                    have c27b1 : (t167 != t168) = false := bne_eq_false_iff_eq.mpr c27
                    clear c27
                    by_cases c28 : t159 = t157
                    rotate_left
                    · rw [if_neg c28] at H
                      have c28b0 : (t159 == t157) = false := beq_eq_false_iff_ne.mpr c28
                      have c28b1 : (t159 != t157) = true := bne_iff_ne.mpr c28
                      have H' := Aside0.mk H
                      clear H
                      go_wp2_with (first | ((with_reducible refine gate_callee (f := 28) rfl ?_); refine goesL_ (some 74) rfl rfl Try.func28 (by kernel_rfl) rfl #[.int .i64 t158] rfl (by (try simp only [List.map_toArray, List.map_cons, List.map_nil]); first | done | rfl | (simp only [List.length_drop, List.length_take]; rfl)) ?_; (with_reducible refine (cadastrelaw5_num.calls t158 t165 _ A22.out).mono ?_); rintro e w' ⟨rfl, ⟨nd, rfl⟩⟩; refine ⟨_, rfl, ?_⟩) | ((with_reducible refine gate_callee (f := 28) rfl ?_); refine goesL_ (some 76) rfl rfl Try.func28 (by kernel_rfl) rfl #[.int .i64 t160] rfl (by (try simp only [List.map_toArray, List.map_cons, List.map_nil]); first | done | rfl | (simp only [List.length_drop, List.length_take]; rfl)) ?_; (with_reducible refine (cadastrelaw5_num.calls t160 t166 _ A23.out).mono ?_); rintro e w' ⟨rfl, ⟨nd, rfl⟩⟩; refine ⟨_, rfl, ?_⟩) | (go_at_call 28; (with_reducible refine (cadastrelaw5_num.calls t158 t167 _ A25.out).mono ?_); rintro e w' ⟨rfl, ⟨nd, rfl⟩⟩; (try clear A25)) | (go_at_call 28; (with_reducible refine (cadastrelaw5_num.calls t162 t168 _ A26.out).mono ?_); rintro e w' ⟨rfl, ⟨nd, rfl⟩⟩; (try clear A26)))
                      go_meet
                      case rel => exact ⟨_, (true), (by first | rfl | (simp; done) | (simp [*]; done)), H', ⟨by have := HK1.out; have := HJ1.out; have := HJ6.out; first | omega | exact Nat.le_refl _⟩, by repeat (first | exact Drawn0.refl _ | apply Drawn0.step)⟩
                    rw [if_pos c28] at H
                    have c28b0 : (t159 == t157) = true := beq_iff_eq.mpr c28
                    have c28b1 : (t159 != t157) = false := bne_eq_false_iff_eq.mpr c28
                    clear c28
                    by_cases c29 : t161 = t157
                    rotate_left
                    · rw [if_neg c29] at H
                      have c29b0 : (t161 == t157) = false := beq_eq_false_iff_ne.mpr c29
                      have c29b1 : (t161 != t157) = true := bne_iff_ne.mpr c29
                      have H' := Aside0.mk H
                      clear H
                      go_wp2_with (first | ((with_reducible refine gate_callee (f := 28) rfl ?_); refine goesL_ (some 74) rfl rfl Try.func28 (by kernel_rfl) rfl #[.int .i64 t158] rfl (by (try simp only [List.map_toArray, List.map_cons, List.map_nil]); first | done | rfl | (simp only [List.length_drop, List.length_take]; rfl)) ?_; (with_reducible refine (cadastrelaw5_num.calls t158 t165 _ A22.out).mono ?_); rintro e w' ⟨rfl, ⟨nd, rfl⟩⟩; refine ⟨_, rfl, ?_⟩) | ((with_reducible refine gate_callee (f := 28) rfl ?_); refine goesL_ (some 76) rfl rfl Try.func28 (by kernel_rfl) rfl #[.int .i64 t160] rfl (by (try simp only [List.map_toArray, List.map_cons, List.map_nil]); first | done | rfl | (simp only [List.length_drop, List.length_take]; rfl)) ?_; (with_reducible refine (cadastrelaw5_num.calls t160 t166 _ A23.out).mono ?_); rintro e w' ⟨rfl, ⟨nd, rfl⟩⟩; refine ⟨_, rfl, ?_⟩) | (go_at_call 28; (with_reducible refine (cadastrelaw5_num.calls t158 t167 _ A25.out).mono ?_); rintro e w' ⟨rfl, ⟨nd, rfl⟩⟩; (try clear A25)) | (go_at_call 28; (with_reducible refine (cadastrelaw5_num.calls t162 t168 _ A26.out).mono ?_); rintro e w' ⟨rfl, ⟨nd, rfl⟩⟩; (try clear A26)))
                      go_meet
                      case rel => exact ⟨_, (true), (by first | rfl | (simp; done) | (simp [*]; done)), H', ⟨by have := HK1.out; have := HJ1.out; have := HJ6.out; first | omega | exact Nat.le_refl _⟩, by repeat (first | exact Drawn0.refl _ | apply Drawn0.step)⟩
                    rw [if_pos c29] at H
                    have c29b0 : (t161 == t157) = true := beq_iff_eq.mpr c29
                    have c29b1 : (t161 != t157) = false := bne_eq_false_iff_eq.mpr c29
                    clear c29
                    replace H := Option.bind_eq_some_iff.mp H
                    obtain ⟨t169, A300, H⟩ := H
                    replace H : (if t169 = 0 then ((cadastrelaw5_num.f t164).bind fun t170 => (if t170 = 0 then (cadastrelaw5_CastSigns.j3 kj6 l0 x3_1 ((rd_T26 l0 x3_1).f0) (t163 != (wrap64 (-t157)))) else (cadastrelaw5_CastSigns.j3 kj6 l0 x3_1 ((rd_T26 l0 x3_1).f0) true))) else (cadastrelaw5_CastSigns.j3 kj6 l0 x3_1 ((rd_T26 l0 x3_1).f0) false)) = some r := H
                    have A30 := Aside0.mk A300
                    clear A300
                    by_cases c31 : t169 = 0
                    rotate_left
                    · rw [if_neg c31] at H
                      have c31b0 : (t169 == 0) = false := beq_eq_false_iff_ne.mpr c31
                      have c31b1 : (t169 != 0) = true := bne_iff_ne.mpr c31
                      have H' := Aside0.mk H
                      clear H
                      go_wp2_with (first | ((with_reducible refine gate_callee (f := 28) rfl ?_); refine goesL_ (some 74) rfl rfl Try.func28 (by kernel_rfl) rfl #[.int .i64 t158] rfl (by (try simp only [List.map_toArray, List.map_cons, List.map_nil]); first | done | rfl | (simp only [List.length_drop, List.length_take]; rfl)) ?_; (with_reducible refine (cadastrelaw5_num.calls t158 t165 _ A22.out).mono ?_); rintro e w' ⟨rfl, ⟨nd, rfl⟩⟩; refine ⟨_, rfl, ?_⟩) | ((with_reducible refine gate_callee (f := 28) rfl ?_); refine goesL_ (some 76) rfl rfl Try.func28 (by kernel_rfl) rfl #[.int .i64 t160] rfl (by (try simp only [List.map_toArray, List.map_cons, List.map_nil]); first | done | rfl | (simp only [List.length_drop, List.length_take]; rfl)) ?_; (with_reducible refine (cadastrelaw5_num.calls t160 t166 _ A23.out).mono ?_); rintro e w' ⟨rfl, ⟨nd, rfl⟩⟩; refine ⟨_, rfl, ?_⟩) | (go_at_call 28; (with_reducible refine (cadastrelaw5_num.calls t158 t167 _ A25.out).mono ?_); rintro e w' ⟨rfl, ⟨nd, rfl⟩⟩; (try clear A25)) | (go_at_call 28; (with_reducible refine (cadastrelaw5_num.calls t162 t168 _ A26.out).mono ?_); rintro e w' ⟨rfl, ⟨nd, rfl⟩⟩; (try clear A26)) | (go_at_call 28; (with_reducible refine (cadastrelaw5_num.calls t158 t169 _ A30.out).mono ?_); rintro e w' ⟨rfl, ⟨nd, rfl⟩⟩; (try clear A30)))
                      go_meet
                      case rel => exact ⟨_, (false), (by first | rfl | (simp; done) | (simp [*]; done)), H', ⟨by have := HK1.out; have := HJ1.out; have := HJ6.out; first | omega | exact Nat.le_refl _⟩, by repeat (first | exact Drawn0.refl _ | apply Drawn0.step)⟩
                    rw [if_pos c31] at H
                    have c31b0 : (t169 == 0) = true := beq_iff_eq.mpr c31
                    have c31b1 : (t169 != 0) = false := bne_eq_false_iff_eq.mpr c31
                    clear c31
                    replace H := Option.bind_eq_some_iff.mp H
                    obtain ⟨t170, A320, H⟩ := H
                    replace H : (if t170 = 0 then (cadastrelaw5_CastSigns.j3 kj6 l0 x3_1 ((rd_T26 l0 x3_1).f0) (t163 != (wrap64 (-t157)))) else (cadastrelaw5_CastSigns.j3 kj6 l0 x3_1 ((rd_T26 l0 x3_1).f0) true)) = some r := H
                    have A32 := Aside0.mk A320
                    clear A320
                    by_cases c33 : t170 = 0
                    · rw [if_pos c33] at H
                      have c33b0 : (t170 == 0) = true := beq_iff_eq.mpr c33
                      have c33b1 : (t170 != 0) = false := bne_eq_false_iff_eq.mpr c33
                      clear c33
                      have H' := Aside0.mk H
                      clear H
                      go_wp2_with (first | ((with_reducible refine gate_callee (f := 28) rfl ?_); refine goesL_ (some 74) rfl rfl Try.func28 (by kernel_rfl) rfl #[.int .i64 t158] rfl (by (try simp only [List.map_toArray, List.map_cons, List.map_nil]); first | done | rfl | (simp only [List.length_drop, List.length_take]; rfl)) ?_; (with_reducible refine (cadastrelaw5_num.calls t158 t165 _ A22.out).mono ?_); rintro e w' ⟨rfl, ⟨nd, rfl⟩⟩; refine ⟨_, rfl, ?_⟩) | ((with_reducible refine gate_callee (f := 28) rfl ?_); refine goesL_ (some 76) rfl rfl Try.func28 (by kernel_rfl) rfl #[.int .i64 t160] rfl (by (try simp only [List.map_toArray, List.map_cons, List.map_nil]); first | done | rfl | (simp only [List.length_drop, List.length_take]; rfl)) ?_; (with_reducible refine (cadastrelaw5_num.calls t160 t166 _ A23.out).mono ?_); rintro e w' ⟨rfl, ⟨nd, rfl⟩⟩; refine ⟨_, rfl, ?_⟩) | (go_at_call 28; (with_reducible refine (cadastrelaw5_num.calls t158 t167 _ A25.out).mono ?_); rintro e w' ⟨rfl, ⟨nd, rfl⟩⟩; (try clear A25)) | (go_at_call 28; (with_reducible refine (cadastrelaw5_num.calls t162 t168 _ A26.out).mono ?_); rintro e w' ⟨rfl, ⟨nd, rfl⟩⟩; (try clear A26)) | (go_at_call 28; (with_reducible refine (cadastrelaw5_num.calls t158 t169 _ A30.out).mono ?_); rintro e w' ⟨rfl, ⟨nd, rfl⟩⟩; (try clear A30)) | (go_at_call 28; (with_reducible refine (cadastrelaw5_num.calls t164 t170 _ A32.out).mono ?_); rintro e w' ⟨rfl, ⟨nd, rfl⟩⟩; (try clear A32)))
                      go_meet
                      case rel => exact ⟨_, ((t163 != (wrap64 (-t157)))), (by first | rfl | (simp; done) | (simp [*]; done)), H', ⟨by have := HK1.out; have := HJ1.out; have := HJ6.out; first | omega | exact Nat.le_refl _⟩, by repeat (first | exact Drawn0.refl _ | apply Drawn0.step)⟩
                    rw [if_neg c33] at H
                    have c33b0 : (t170 == 0) = false := beq_eq_false_iff_ne.mpr c33
                    have c33b1 : (t170 != 0) = true := bne_iff_ne.mpr c33
                    have H' := Aside0.mk H
                    clear H
                    go_wp2_with (first | ((with_reducible refine gate_callee (f := 28) rfl ?_); refine goesL_ (some 74) rfl rfl Try.func28 (by kernel_rfl) rfl #[.int .i64 t158] rfl (by (try simp only [List.map_toArray, List.map_cons, List.map_nil]); first | done | rfl | (simp only [List.length_drop, List.length_take]; rfl)) ?_; (with_reducible refine (cadastrelaw5_num.calls t158 t165 _ A22.out).mono ?_); rintro e w' ⟨rfl, ⟨nd, rfl⟩⟩; refine ⟨_, rfl, ?_⟩) | ((with_reducible refine gate_callee (f := 28) rfl ?_); refine goesL_ (some 76) rfl rfl Try.func28 (by kernel_rfl) rfl #[.int .i64 t160] rfl (by (try simp only [List.map_toArray, List.map_cons, List.map_nil]); first | done | rfl | (simp only [List.length_drop, List.length_take]; rfl)) ?_; (with_reducible refine (cadastrelaw5_num.calls t160 t166 _ A23.out).mono ?_); rintro e w' ⟨rfl, ⟨nd, rfl⟩⟩; refine ⟨_, rfl, ?_⟩) | (go_at_call 28; (with_reducible refine (cadastrelaw5_num.calls t158 t167 _ A25.out).mono ?_); rintro e w' ⟨rfl, ⟨nd, rfl⟩⟩; (try clear A25)) | (go_at_call 28; (with_reducible refine (cadastrelaw5_num.calls t162 t168 _ A26.out).mono ?_); rintro e w' ⟨rfl, ⟨nd, rfl⟩⟩; (try clear A26)) | (go_at_call 28; (with_reducible refine (cadastrelaw5_num.calls t158 t169 _ A30.out).mono ?_); rintro e w' ⟨rfl, ⟨nd, rfl⟩⟩; (try clear A30)) | (go_at_call 28; (with_reducible refine (cadastrelaw5_num.calls t164 t170 _ A32.out).mono ?_); rintro e w' ⟨rfl, ⟨nd, rfl⟩⟩; (try clear A32)))
                    go_meet
                    case rel => exact ⟨_, (true), (by first | rfl | (simp; done) | (simp [*]; done)), H', ⟨by have := HK1.out; have := HJ1.out; have := HJ6.out; first | omega | exact Nat.le_refl _⟩, by repeat (first | exact Drawn0.refl _ | apply Drawn0.step)⟩
                  case rest =>
                    clear HC21
                    try clear c1
                    try clear p1
                    try clear q1
                    try clear hx1
                    try clear qi1
                    try clear c2
                    try clear p2
                    try clear c3
                    try clear c3b0
                    try clear c4
                    try clear c5
                    try clear c5b0
                    try clear c6
                    try clear c6b0
                    try clear p6
                    try clear c8
                    try clear c8b0
                    try clear c8b1
                    try clear c9
                    try clear c9b0
                    try clear c9b1
                    try clear c10
                    try clear c10b0
                    try clear c10b1
                    try clear p11
                    try clear q11
                    try clear hx11
                    try clear qi11
                    try clear c12
                    try clear c12b0
                    try clear p13
                    try clear q13
                    try clear hx13
                    try clear qi13
                    try clear c14
                    try clear p15
                    try clear q15
                    try clear hx15
                    try clear c16
                    try clear c16b0
                    try clear c16b1
                    try clear c16b2
                    try clear c18
                    try clear c18b0
                    try clear c18b1
                    try clear c18b2
                    try clear c24
                    try clear c24b0
                    try clear c24b1
                    try clear c26
                    try clear c27
                    try clear c27b0
                    try clear c27b1
                    try clear c28
                    try clear c28b0
                    try clear c28b1
                    try clear c29
                    try clear c29b0
                    try clear c29b1
                    try clear c31
                    try clear c31b0
                    try clear c31b1
                    try clear c33
                    try clear c33b0
                    try clear c33b1
                    try clear hx156_0
                    try clear hx156_1
                    try clear hx156_2
                    try clear hx156_3
                    try clear hx156_4
                    try clear p1
                    try clear p11
                    try clear p13
                    try clear p156
                    try clear p2
                    try clear q1
                    try clear q11
                    try clear q13
                    try clear q156
                    obtain ⟨kq, x110_20, rfl, HA, HJ20, ⟨mc20, rfl⟩⟩ := hcut
                    cases kq with
                    | zero => exact absurd HA.out (by simp [cadastrelaw5_CastSigns.j3])
                    | succ kj20 =>
                      have H := HA.out
                      clear HA
                      simp only [cadastrelaw5_CastSigns.j3] at H
                      by_cases c34 : x110_20 = true
                      · subst c34
                        have H1 : (some false) = some r := by rw [if_pos rfl] at H; exact H
                        clear H
                        have H := H1
                        clear H1
                        obtain rfl := Option.some.inj H
                        go_wp2
                        go_ret
                        exact ⟨by first | rfl | (simp; done) | (simp [*]; done), by repeat (first | exact Drawn0.refl _ | apply Drawn0.step)⟩
                      · replace c34 := Bool.eq_false_iff.mpr c34
                        subst c34
                        have H1 : (if ((rd_T26 l0 x3_1).f0).size + 1 ≤ 9223372036854775807 then ((cast_Int.f kj20 (((rd_T26 l0 x3_1).f0) ++ (⟨#[120]⟩ : ByteArray))).bind fun bt171 => (if 1 + ((rd_T26 l0 x3_1).f0).size ≤ 9223372036854775807 then ((cast_Int.f kj20 ((⟨#[32]⟩ : ByteArray) ++ ((rd_T26 l0 x3_1).f0))).bind fun bt173 => ((cadastrelaw5_num.f bt171.2).bind fun t175 => (if t175 = 4 then ((cadastrelaw5_num.f bt173.2).bind fun t176 => (if t176 = 4 then (cadastrelaw5_CastSigns.l0 kj20 l0 (wrap64 (x3_1 + 1))) else (some false))) else (some false)))) else (none))) else (none)) = some r := by rw [if_neg (show ¬ (false = true) by decide)] at H; exact H
                        clear H
                        have H := H1
                        clear H1
                        by_cases c35 : ((rd_T26 l0 x3_1).f0).size + 1 ≤ 9223372036854775807
                        rotate_left
                        · rw [if_neg c35] at H
                          exact absurd H (by simp)
                        rw [if_pos c35] at H
                        have c35b0 := eq_true c35
                        have c35b1 : decide (((rd_T26 l0 x3_1).f0).size + 1 ≤ 9223372036854775807) = true := decide_eq_true c35
                        try have c35b2 : (9223372036854775807 < ((rd_T26 l0 x3_1).f0).size + 1) = False := eq_false (Nat.not_lt.2 c35)
                        replace H := Option.bind_eq_some_iff.mp H
                        obtain ⟨⟨t171, t172⟩, A360, H⟩ := H
                        replace H : (if 1 + ((rd_T26 l0 x3_1).f0).size ≤ 9223372036854775807 then ((cast_Int.f kj20 ((⟨#[32]⟩ : ByteArray) ++ ((rd_T26 l0 x3_1).f0))).bind fun bt173 => ((cadastrelaw5_num.f t172).bind fun t175 => (if t175 = 4 then ((cadastrelaw5_num.f bt173.2).bind fun t176 => (if t176 = 4 then (cadastrelaw5_CastSigns.l0 kj20 l0 (wrap64 (x3_1 + 1))) else (some false))) else (some false)))) else (none)) = some r := H
                        have A36 := Aside0.mk A360
                        clear A360
                        by_cases c37 : 1 + ((rd_T26 l0 x3_1).f0).size ≤ 9223372036854775807
                        rotate_left
                        · rw [if_neg c37] at H
                          exact absurd H (by simp)
                        rw [if_pos c37] at H
                        have c37b0 := eq_true c37
                        have c37b1 : decide (1 + ((rd_T26 l0 x3_1).f0).size ≤ 9223372036854775807) = true := decide_eq_true c37
                        try have c37b2 : (9223372036854775807 < 1 + ((rd_T26 l0 x3_1).f0).size) = False := eq_false (Nat.not_lt.2 c37)
                        replace H := Option.bind_eq_some_iff.mp H
                        obtain ⟨⟨t173, t174⟩, A380, H⟩ := H
                        replace H : ((cadastrelaw5_num.f t172).bind fun t175 => (if t175 = 4 then ((cadastrelaw5_num.f t174).bind fun t176 => (if t176 = 4 then (cadastrelaw5_CastSigns.l0 kj20 l0 (wrap64 (x3_1 + 1))) else (some false))) else (some false))) = some r := H
                        have A38 := Aside0.mk A380
                        clear A380
                        replace H := Option.bind_eq_some_iff.mp H
                        obtain ⟨t175, A390, H⟩ := H
                        replace H : (if t175 = 4 then ((cadastrelaw5_num.f t174).bind fun t176 => (if t176 = 4 then (cadastrelaw5_CastSigns.l0 kj20 l0 (wrap64 (x3_1 + 1))) else (some false))) else (some false)) = some r := H
                        have A39 := Aside0.mk A390
                        clear A390
                        by_cases c40 : t175 = 4
                        rotate_left
                        · rw [if_neg c40] at H
                          have c40b0 : (t175 == 4) = false := beq_eq_false_iff_ne.mpr c40
                          have c40b1 : (t175 != 4) = true := bne_iff_ne.mpr c40
                          obtain rfl := Option.some.inj H
                          go_wp2_with (first | ((with_reducible refine gate_callee (f := 26) rfl ?_); refine goesL_ (some 114) rfl rfl Try.func26 (by kernel_rfl) rfl #[.string (((rd_T26 l0 x3_1).f0) ++ (⟨#[120]⟩ : ByteArray))] rfl (by (try simp only [List.map_toArray, List.map_cons, List.map_nil]); first | done | rfl | (simp only [List.length_drop, List.length_take]; rfl)) ?_; (with_reducible refine (cast_Int.calls kj20 (((rd_T26 l0 x3_1).f0) ++ (⟨#[120]⟩ : ByteArray)) t171 t172 _ A36.out).mono ?_); rintro e w' ⟨rfl, ⟨nd, rfl⟩⟩; refine ⟨_, rfl, ?_⟩) | ((with_reducible refine gate_callee (f := 26) rfl ?_); refine goesL_ (some 120) rfl rfl Try.func26 (by kernel_rfl) rfl #[.string ((⟨#[32]⟩ : ByteArray) ++ ((rd_T26 l0 x3_1).f0))] rfl (by (try simp only [List.map_toArray, List.map_cons, List.map_nil]); first | done | rfl | (simp only [List.length_drop, List.length_take]; rfl)) ?_; (with_reducible refine (cast_Int.calls kj20 ((⟨#[32]⟩ : ByteArray) ++ ((rd_T26 l0 x3_1).f0)) t173 t174 _ A38.out).mono ?_); rintro e w' ⟨rfl, ⟨nd, rfl⟩⟩; refine ⟨_, rfl, ?_⟩) | ((with_reducible refine gate_callee (f := 28) rfl ?_); refine goesL_ (some 124) rfl rfl Try.func28 (by kernel_rfl) rfl #[.int .i64 t172] rfl (by (try simp only [List.map_toArray, List.map_cons, List.map_nil]); first | done | rfl | (simp only [List.length_drop, List.length_take]; rfl)) ?_; (with_reducible refine (cadastrelaw5_num.calls t172 t175 _ A39.out).mono ?_); rintro e w' ⟨rfl, ⟨nd, rfl⟩⟩; refine ⟨_, rfl, ?_⟩))
                          go_ret
                          exact ⟨by first | rfl | (simp; done) | (simp [*]; done), by repeat (first | exact Drawn0.refl _ | apply Drawn0.step)⟩
                        rw [if_pos c40] at H
                        have c40b0 : (t175 == 4) = true := beq_iff_eq.mpr c40
                        have c40b1 : (t175 != 4) = false := bne_eq_false_iff_eq.mpr c40
                        clear c40
                        replace H := Option.bind_eq_some_iff.mp H
                        obtain ⟨t176, A410, H⟩ := H
                        replace H : (if t176 = 4 then (cadastrelaw5_CastSigns.l0 kj20 l0 (wrap64 (x3_1 + 1))) else (some false)) = some r := H
                        have A41 := Aside0.mk A410
                        clear A410
                        by_cases c42 : t176 = 4
                        · rw [if_pos c42] at H
                          have c42b0 : (t176 == 4) = true := beq_iff_eq.mpr c42
                          have c42b1 : (t176 != 4) = false := bne_eq_false_iff_eq.mpr c42
                          clear c42
                          have H' := Aside0.mk H
                          clear H
                          go_wp2_with (first | ((with_reducible refine gate_callee (f := 26) rfl ?_); refine goesL_ (some 114) rfl rfl Try.func26 (by kernel_rfl) rfl #[.string (((rd_T26 l0 x3_1).f0) ++ (⟨#[120]⟩ : ByteArray))] rfl (by (try simp only [List.map_toArray, List.map_cons, List.map_nil]); first | done | rfl | (simp only [List.length_drop, List.length_take]; rfl)) ?_; (with_reducible refine (cast_Int.calls kj20 (((rd_T26 l0 x3_1).f0) ++ (⟨#[120]⟩ : ByteArray)) t171 t172 _ A36.out).mono ?_); rintro e w' ⟨rfl, ⟨nd, rfl⟩⟩; refine ⟨_, rfl, ?_⟩) | ((with_reducible refine gate_callee (f := 26) rfl ?_); refine goesL_ (some 120) rfl rfl Try.func26 (by kernel_rfl) rfl #[.string ((⟨#[32]⟩ : ByteArray) ++ ((rd_T26 l0 x3_1).f0))] rfl (by (try simp only [List.map_toArray, List.map_cons, List.map_nil]); first | done | rfl | (simp only [List.length_drop, List.length_take]; rfl)) ?_; (with_reducible refine (cast_Int.calls kj20 ((⟨#[32]⟩ : ByteArray) ++ ((rd_T26 l0 x3_1).f0)) t173 t174 _ A38.out).mono ?_); rintro e w' ⟨rfl, ⟨nd, rfl⟩⟩; refine ⟨_, rfl, ?_⟩) | ((with_reducible refine gate_callee (f := 28) rfl ?_); refine goesL_ (some 124) rfl rfl Try.func28 (by kernel_rfl) rfl #[.int .i64 t172] rfl (by (try simp only [List.map_toArray, List.map_cons, List.map_nil]); first | done | rfl | (simp only [List.length_drop, List.length_take]; rfl)) ?_; (with_reducible refine (cadastrelaw5_num.calls t172 t175 _ A39.out).mono ?_); rintro e w' ⟨rfl, ⟨nd, rfl⟩⟩; refine ⟨_, rfl, ?_⟩) | (go_at_call 28; (with_reducible refine (cadastrelaw5_num.calls t174 t176 _ A41.out).mono ?_); rintro e w' ⟨rfl, ⟨nd, rfl⟩⟩; (try clear A41)))
                          go_roundg kj20
                          case measure => have := HK1.out; have := HJ1.out; have := HJ6.out; have := HJ20.out; omega
                          case rel => exact ⟨(wrap64 (x3_1 + 1)), (by first | rfl | (simp; done) | (simp [*]; done)), H', ⟨by have := HK1.out; have := HJ1.out; have := HJ6.out; have := HJ20.out; omega⟩, by repeat (first | exact Drawn0.refl _ | apply Drawn0.step)⟩
                        rw [if_neg c42] at H
                        have c42b0 : (t176 == 4) = false := beq_eq_false_iff_ne.mpr c42
                        have c42b1 : (t176 != 4) = true := bne_iff_ne.mpr c42
                        obtain rfl := Option.some.inj H
                        go_wp2_with (first | ((with_reducible refine gate_callee (f := 26) rfl ?_); refine goesL_ (some 114) rfl rfl Try.func26 (by kernel_rfl) rfl #[.string (((rd_T26 l0 x3_1).f0) ++ (⟨#[120]⟩ : ByteArray))] rfl (by (try simp only [List.map_toArray, List.map_cons, List.map_nil]); first | done | rfl | (simp only [List.length_drop, List.length_take]; rfl)) ?_; (with_reducible refine (cast_Int.calls kj20 (((rd_T26 l0 x3_1).f0) ++ (⟨#[120]⟩ : ByteArray)) t171 t172 _ A36.out).mono ?_); rintro e w' ⟨rfl, ⟨nd, rfl⟩⟩; refine ⟨_, rfl, ?_⟩) | ((with_reducible refine gate_callee (f := 26) rfl ?_); refine goesL_ (some 120) rfl rfl Try.func26 (by kernel_rfl) rfl #[.string ((⟨#[32]⟩ : ByteArray) ++ ((rd_T26 l0 x3_1).f0))] rfl (by (try simp only [List.map_toArray, List.map_cons, List.map_nil]); first | done | rfl | (simp only [List.length_drop, List.length_take]; rfl)) ?_; (with_reducible refine (cast_Int.calls kj20 ((⟨#[32]⟩ : ByteArray) ++ ((rd_T26 l0 x3_1).f0)) t173 t174 _ A38.out).mono ?_); rintro e w' ⟨rfl, ⟨nd, rfl⟩⟩; refine ⟨_, rfl, ?_⟩) | ((with_reducible refine gate_callee (f := 28) rfl ?_); refine goesL_ (some 124) rfl rfl Try.func28 (by kernel_rfl) rfl #[.int .i64 t172] rfl (by (try simp only [List.map_toArray, List.map_cons, List.map_nil]); first | done | rfl | (simp only [List.length_drop, List.length_take]; rfl)) ?_; (with_reducible refine (cadastrelaw5_num.calls t172 t175 _ A39.out).mono ?_); rintro e w' ⟨rfl, ⟨nd, rfl⟩⟩; refine ⟨_, rfl, ?_⟩) | (go_at_call 28; (with_reducible refine (cadastrelaw5_num.calls t174 t176 _ A41.out).mono ?_); rintro e w' ⟨rfl, ⟨nd, rfl⟩⟩; (try clear A41)))
                        go_ret
                        exact ⟨by first | rfl | (simp; done) | (simp [*]; done), by repeat (first | exact Drawn0.refl _ | apply Drawn0.step)⟩
          · replace c4 := Bool.eq_false_iff.mpr c4
            subst c4
            have H1 : ((cadastrelaw5_wakes.f kj1).bind fun t155 => (some t155)) = some r := by rw [if_neg (show ¬ (false = true) by decide)] at H; exact H
            clear H
            have H := H1
            clear H1
            replace H := Option.bind_eq_some_iff.mp H
            obtain ⟨t155, A430, H⟩ := H
            replace H : (some t155) = some r := H
            have A43 := Aside0.mk A430
            clear A430
            obtain rfl := Option.some.inj H
            go_wp2_with (first | ((with_reducible refine gate_callee (f := 29) rfl ?_); refine goesL_ (some 131) rfl rfl Try.func29 (by kernel_rfl) rfl #[] rfl (by (try simp only [List.map_toArray, List.map_cons, List.map_nil]); first | done | rfl | (simp only [List.length_drop, List.length_take]; rfl)) ?_; (with_reducible refine (cadastrelaw5_wakes.calls kj1  t155 _ A43.out).mono ?_); rintro e w' ⟨rfl, ⟨nd, rfl⟩⟩; refine ⟨_, rfl, ?_⟩))
            go_ret
            exact ⟨by first | rfl | (simp; done) | (simp [*]; done), by repeat (first | exact Drawn0.refl _ | apply Drawn0.step)⟩

end Go.Proofs.Ytaodnkhpiiepiaa.C
