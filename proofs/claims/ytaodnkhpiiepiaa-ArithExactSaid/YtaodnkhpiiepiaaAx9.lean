-- Made by a program of this session (gprint.py, over the kit's printing program).
import Derived.Test.YtaodnkhpiiepiaaAx0
import Derived.Test.YtaodnkhpiiepiaaAx2
import Derived.Test.YtaodnkhpiiepiaaAx4
import Derived.Test.YtaodnkhpiiepiaaAx5
import Derived.Test.YtaodnkhpiiepiaaAx6
import Derived.Test.YtaodnkhpiiepiaaAx8
namespace Go.Proofs.Ytaodnkhpiiepiaa.A
open Go.RowKit Go.Proofs.YtaodnkhpiiepiaaG Go.Proofs.YtaodnkhpiiepiaaW.PrintWords Go.Proofs.YtaodnkhpiiepiaaW.PrintLast Go.Proofs.YtaodnkhpiiepiaaW.PrintMore
attribute [local go_sem] max2_int min2_int max_two min_two max_three min_three max_four min_four   -- for this text's walks alone
set_option linter.unusedVariables false
set_option linter.unusedSimpArgs false

/-! ### cadastrelaw4_ArithExact: function 16 -/
mutual
def cadastrelaw4_ArithExact.l0 : Nat → List (S58) → Int → Option (Bool)
  | 0, _, _ => none
  | k + 1, x0, x3 => if x3 < (x0.length : Int) then (cadastrelaw4_ArithExact.j1 k x0 x3 (decide (x3 < 30))) else (cadastrelaw4_ArithExact.j1 k x0 x3 false)
def cadastrelaw4_ArithExact.j1 : Nat → List (S58) → Int → Bool → Option (Bool)
  | 0, _, _, _ => none
  | k + 1, x0, x3, x20 => if x20 = true then (if 0 ≤ x3 then (if x3 < (x0.length : Int) then ((cadastreref2_May.f ((rd_T58 x0 x3).f0.f0) ((rd_T58 x0 x3).f0.f1) ((rd_T58 x0 x3).f0.f2)).bind fun t193 => (if t193 = true then ((cadastreref2_May.f ((rd_T58 x0 x3).f1.f0) ((rd_T58 x0 x3).f1.f1) ((rd_T58 x0 x3).f1.f2)).bind fun t194 => (if t194 = true then (if ((rd_T58 x0 x3).f2) ≥ 9 then (cadastrelaw4_ArithExact.j2 k x0 x3 1 (decide (((rd_T58 x0 x3).f2) ≤ 13)) ((rd_T58 x0 x3).f0.f0) ((rd_T58 x0 x3).f0.f1) ((rd_T58 x0 x3).f0.f2) ((rd_T58 x0 x3).f1.f0) ((rd_T58 x0 x3).f1.f1) ((rd_T58 x0 x3).f1.f2) ((rd_T58 x0 x3).f2) 0 0 (⟨#[]⟩ : ByteArray)) else (cadastrelaw4_ArithExact.j2 k x0 x3 1 false ((rd_T58 x0 x3).f0.f0) ((rd_T58 x0 x3).f0.f1) ((rd_T58 x0 x3).f0.f2) ((rd_T58 x0 x3).f1.f0) ((rd_T58 x0 x3).f1.f1) ((rd_T58 x0 x3).f1.f2) ((rd_T58 x0 x3).f2) 0 0 (⟨#[]⟩ : ByteArray))) else (cadastrelaw4_ArithExact.j2 k x0 x3 1 false ((rd_T58 x0 x3).f0.f0) ((rd_T58 x0 x3).f0.f1) ((rd_T58 x0 x3).f0.f2) ((rd_T58 x0 x3).f1.f0) ((rd_T58 x0 x3).f1.f1) ((rd_T58 x0 x3).f1.f2) ((rd_T58 x0 x3).f2) 0 0 (⟨#[]⟩ : ByteArray)))) else (cadastrelaw4_ArithExact.j2 k x0 x3 1 false ((rd_T58 x0 x3).f0.f0) ((rd_T58 x0 x3).f0.f1) ((rd_T58 x0 x3).f0.f2) ((rd_T58 x0 x3).f1.f0) ((rd_T58 x0 x3).f1.f1) ((rd_T58 x0 x3).f1.f2) ((rd_T58 x0 x3).f2) 0 0 (⟨#[]⟩ : ByteArray)))) else (none)) else (none)) else ((cadastrelaw4_wakes.f k).bind fun t189 => (some t189))
def cadastrelaw4_ArithExact.j2 : Nat → List (S58) → Int → Int → Bool → Int → Int → ByteArray → Int → Int → ByteArray → Int → Int → Int → ByteArray → Option (Bool)
  | 0, _, _, _, _, _, _, _, _, _, _, _, _, _, _ => none
  | k + 1, x0, x3, x6, x45, x192000, x192001, x192002, x192003, x192004, x192005, x192006, x193000, x193001, x193002 => if x45 = true then ((cadastreref4_Do.f k x192006 x192000 x192001 x192002 x192003 x192004 x192005).bind fun bt195 => (cadastrelaw4_ArithExact.j3 k x0 x3 bt195.2.2.2 x192000 x192001 x192002 x192003 x192004 x192005 x192006 bt195.1 bt195.2.1 bt195.2.2.1)) else (cadastrelaw4_ArithExact.j3 k x0 x3 x6 x192000 x192001 x192002 x192003 x192004 x192005 x192006 x193000 x193001 x193002)
def cadastrelaw4_ArithExact.j3 : Nat → List (S58) → Int → Int → Int → Int → ByteArray → Int → Int → ByteArray → Int → Int → Int → ByteArray → Option (Bool)
  | 0, _, _, _, _, _, _, _, _, _, _, _, _, _ => none
  | k + 1, x0, x3, x6, x192000, x192001, x192002, x192003, x192004, x192005, x192006, x193000, x193001, x193002 => (cadastreref2_May.f x192000 x192001 x192002).bind fun t200 => (if t200 = true then ((cadastreref4_Neg.f k x192000 x192001 x192002).bind fun bt201 => (cadastrelaw4_ArithExact.j4 k x0 x3 x6 bt201.2.2.2 x192000 x192001 x192002 x192003 x192004 x192005 x192006 x193000 x193001 x193002 bt201.1 bt201.2.1 bt201.2.2.1)) else (cadastrelaw4_ArithExact.j4 k x0 x3 x6 1 x192000 x192001 x192002 x192003 x192004 x192005 x192006 x193000 x193001 x193002 0 0 (⟨#[]⟩ : ByteArray)))
def cadastrelaw4_ArithExact.j4 : Nat → List (S58) → Int → Int → Int → Int → Int → ByteArray → Int → Int → ByteArray → Int → Int → Int → ByteArray → Int → Int → ByteArray → Option (Bool)
  | 0, _, _, _, _, _, _, _, _, _, _, _, _, _, _, _, _, _ => none
  | k + 1, x0, x3, x6, x8, x192000, x192001, x192002, x192003, x192004, x192005, x192006, x193000, x193001, x193002, x200000, x200001, x200002 => (arith_Do.f k x192006 x192000 x192001 x192002 x192003 x192004 x192005).bind fun bt205 => ((arith_Neg.f x192000 x192001 x192002).bind fun bt210 => ((cadastrelaw4_is.f bt205.1 bt205.2.1 bt205.2.2.1 bt205.2.2.2 x193000 x193001 x193002 x6).bind fun t215 => (if t215 = true then ((cadastrelaw4_is.f bt210.1 bt210.2.1 bt210.2.2.1 bt210.2.2.2 x200000 x200001 x200002 x8).bind fun t216 => (if t216 = true then (cadastrelaw4_ArithExact.l0 k x0 (wrap64 (x3 + 1))) else (some false))) else (some false))))
end
def cadastrelaw4_ArithExact.f (k : Nat) (l0 : List (S58)) : Option (Bool) := cadastrelaw4_ArithExact.l0 k l0 0
theorem cadastrelaw4_ArithExact.mono_l : ∀ k, (∀ y0 y1, LeO (cadastrelaw4_ArithExact.l0 k y0 y1) (cadastrelaw4_ArithExact.l0 (k + 1) y0 y1)) ∧ (∀ y0 y1 y2, LeO (cadastrelaw4_ArithExact.j1 k y0 y1 y2) (cadastrelaw4_ArithExact.j1 (k + 1) y0 y1 y2)) ∧ (∀ y0 y1 y2 y3 y4 y5 y6 y7 y8 y9 y10 y11 y12 y13, LeO (cadastrelaw4_ArithExact.j2 k y0 y1 y2 y3 y4 y5 y6 y7 y8 y9 y10 y11 y12 y13) (cadastrelaw4_ArithExact.j2 (k + 1) y0 y1 y2 y3 y4 y5 y6 y7 y8 y9 y10 y11 y12 y13)) ∧ (∀ y0 y1 y2 y3 y4 y5 y6 y7 y8 y9 y10 y11 y12, LeO (cadastrelaw4_ArithExact.j3 k y0 y1 y2 y3 y4 y5 y6 y7 y8 y9 y10 y11 y12) (cadastrelaw4_ArithExact.j3 (k + 1) y0 y1 y2 y3 y4 y5 y6 y7 y8 y9 y10 y11 y12)) ∧ (∀ y0 y1 y2 y3 y4 y5 y6 y7 y8 y9 y10 y11 y12 y13 y14 y15 y16, LeO (cadastrelaw4_ArithExact.j4 k y0 y1 y2 y3 y4 y5 y6 y7 y8 y9 y10 y11 y12 y13 y14 y15 y16) (cadastrelaw4_ArithExact.j4 (k + 1) y0 y1 y2 y3 y4 y5 y6 y7 y8 y9 y10 y11 y12 y13 y14 y15 y16))
  | 0 => ⟨fun _ _ r h => by simp [cadastrelaw4_ArithExact.l0] at h, fun _ _ _ r h => by simp [cadastrelaw4_ArithExact.j1] at h, fun _ _ _ _ _ _ _ _ _ _ _ _ _ _ r h => by simp [cadastrelaw4_ArithExact.j2] at h, fun _ _ _ _ _ _ _ _ _ _ _ _ _ r h => by simp [cadastrelaw4_ArithExact.j3] at h, fun _ _ _ _ _ _ _ _ _ _ _ _ _ _ _ _ _ r h => by simp [cadastrelaw4_ArithExact.j4] at h⟩
  | k + 1 => by
    obtain ⟨ih0, ih1, ih2, ih3, ih4⟩ := cadastrelaw4_ArithExact.mono_l k
    refine ⟨?_, ?_, ?_, ?_, ?_⟩
    · intro y0 y1
      unfold cadastrelaw4_ArithExact.l0
      repeat' first
      | (with_reducible exact ih0 _ _)
      | (with_reducible exact ih1 _ _ _)
      | (with_reducible exact ih2 _ _ _ _ _ _ _ _ _ _ _ _ _ _)
      | (with_reducible exact ih3 _ _ _ _ _ _ _ _ _ _ _ _ _)
      | (with_reducible exact ih4 _ _ _ _ _ _ _ _ _ _ _ _ _ _ _ _ _)
      | (with_reducible exact arith_Do.mono _ _ _ _ _ _ _ _)
      | (with_reducible exact cadastrelaw4_wakes.mono _)
      | (with_reducible exact cadastreref4_Do.mono _ _ _ _ _ _ _ _)
      | (with_reducible exact cadastreref4_Neg.mono _ _ _ _)
      | (with_reducible exact LeO.refl _)
      | (with_reducible exact LeO.none _)
      | (with_reducible refine LeO.ite ?_ ?_)
      | (with_reducible refine LeO.bind ?_ (fun _ => ?_))
      | exact ih0 _ _
      | exact ih1 _ _ _
      | exact ih2 _ _ _ _ _ _ _ _ _ _ _ _ _ _
      | exact ih3 _ _ _ _ _ _ _ _ _ _ _ _ _
      | exact ih4 _ _ _ _ _ _ _ _ _ _ _ _ _ _ _ _ _
      | exact arith_Do.mono _ _ _ _ _ _ _ _
      | exact cadastrelaw4_wakes.mono _
      | exact cadastreref4_Do.mono _ _ _ _ _ _ _ _
      | exact cadastreref4_Neg.mono _ _ _ _
      | exact LeO.none _
      | refine LeO.ite ?_ ?_
      | refine LeO.bind ?_ (fun _ => ?_)
    · intro y0 y1 y2
      unfold cadastrelaw4_ArithExact.j1
      repeat' first
      | (with_reducible exact ih0 _ _)
      | (with_reducible exact ih1 _ _ _)
      | (with_reducible exact ih2 _ _ _ _ _ _ _ _ _ _ _ _ _ _)
      | (with_reducible exact ih3 _ _ _ _ _ _ _ _ _ _ _ _ _)
      | (with_reducible exact ih4 _ _ _ _ _ _ _ _ _ _ _ _ _ _ _ _ _)
      | (with_reducible exact arith_Do.mono _ _ _ _ _ _ _ _)
      | (with_reducible exact cadastrelaw4_wakes.mono _)
      | (with_reducible exact cadastreref4_Do.mono _ _ _ _ _ _ _ _)
      | (with_reducible exact cadastreref4_Neg.mono _ _ _ _)
      | (with_reducible exact LeO.refl _)
      | (with_reducible exact LeO.none _)
      | (with_reducible refine LeO.ite ?_ ?_)
      | (with_reducible refine LeO.bind ?_ (fun _ => ?_))
      | exact ih0 _ _
      | exact ih1 _ _ _
      | exact ih2 _ _ _ _ _ _ _ _ _ _ _ _ _ _
      | exact ih3 _ _ _ _ _ _ _ _ _ _ _ _ _
      | exact ih4 _ _ _ _ _ _ _ _ _ _ _ _ _ _ _ _ _
      | exact arith_Do.mono _ _ _ _ _ _ _ _
      | exact cadastrelaw4_wakes.mono _
      | exact cadastreref4_Do.mono _ _ _ _ _ _ _ _
      | exact cadastreref4_Neg.mono _ _ _ _
      | exact LeO.none _
      | refine LeO.ite ?_ ?_
      | refine LeO.bind ?_ (fun _ => ?_)
    · intro y0 y1 y2 y3 y4 y5 y6 y7 y8 y9 y10 y11 y12 y13
      unfold cadastrelaw4_ArithExact.j2
      repeat' first
      | (with_reducible exact ih0 _ _)
      | (with_reducible exact ih1 _ _ _)
      | (with_reducible exact ih2 _ _ _ _ _ _ _ _ _ _ _ _ _ _)
      | (with_reducible exact ih3 _ _ _ _ _ _ _ _ _ _ _ _ _)
      | (with_reducible exact ih4 _ _ _ _ _ _ _ _ _ _ _ _ _ _ _ _ _)
      | (with_reducible exact arith_Do.mono _ _ _ _ _ _ _ _)
      | (with_reducible exact cadastrelaw4_wakes.mono _)
      | (with_reducible exact cadastreref4_Do.mono _ _ _ _ _ _ _ _)
      | (with_reducible exact cadastreref4_Neg.mono _ _ _ _)
      | (with_reducible exact LeO.refl _)
      | (with_reducible exact LeO.none _)
      | (with_reducible refine LeO.ite ?_ ?_)
      | (with_reducible refine LeO.bind ?_ (fun _ => ?_))
      | exact ih0 _ _
      | exact ih1 _ _ _
      | exact ih2 _ _ _ _ _ _ _ _ _ _ _ _ _ _
      | exact ih3 _ _ _ _ _ _ _ _ _ _ _ _ _
      | exact ih4 _ _ _ _ _ _ _ _ _ _ _ _ _ _ _ _ _
      | exact arith_Do.mono _ _ _ _ _ _ _ _
      | exact cadastrelaw4_wakes.mono _
      | exact cadastreref4_Do.mono _ _ _ _ _ _ _ _
      | exact cadastreref4_Neg.mono _ _ _ _
      | exact LeO.none _
      | refine LeO.ite ?_ ?_
      | refine LeO.bind ?_ (fun _ => ?_)
    · intro y0 y1 y2 y3 y4 y5 y6 y7 y8 y9 y10 y11 y12
      unfold cadastrelaw4_ArithExact.j3
      repeat' first
      | (with_reducible exact ih0 _ _)
      | (with_reducible exact ih1 _ _ _)
      | (with_reducible exact ih2 _ _ _ _ _ _ _ _ _ _ _ _ _ _)
      | (with_reducible exact ih3 _ _ _ _ _ _ _ _ _ _ _ _ _)
      | (with_reducible exact ih4 _ _ _ _ _ _ _ _ _ _ _ _ _ _ _ _ _)
      | (with_reducible exact arith_Do.mono _ _ _ _ _ _ _ _)
      | (with_reducible exact cadastrelaw4_wakes.mono _)
      | (with_reducible exact cadastreref4_Do.mono _ _ _ _ _ _ _ _)
      | (with_reducible exact cadastreref4_Neg.mono _ _ _ _)
      | (with_reducible exact LeO.refl _)
      | (with_reducible exact LeO.none _)
      | (with_reducible refine LeO.ite ?_ ?_)
      | (with_reducible refine LeO.bind ?_ (fun _ => ?_))
      | exact ih0 _ _
      | exact ih1 _ _ _
      | exact ih2 _ _ _ _ _ _ _ _ _ _ _ _ _ _
      | exact ih3 _ _ _ _ _ _ _ _ _ _ _ _ _
      | exact ih4 _ _ _ _ _ _ _ _ _ _ _ _ _ _ _ _ _
      | exact arith_Do.mono _ _ _ _ _ _ _ _
      | exact cadastrelaw4_wakes.mono _
      | exact cadastreref4_Do.mono _ _ _ _ _ _ _ _
      | exact cadastreref4_Neg.mono _ _ _ _
      | exact LeO.none _
      | refine LeO.ite ?_ ?_
      | refine LeO.bind ?_ (fun _ => ?_)
    · intro y0 y1 y2 y3 y4 y5 y6 y7 y8 y9 y10 y11 y12 y13 y14 y15 y16
      unfold cadastrelaw4_ArithExact.j4
      repeat' first
      | (with_reducible exact ih0 _ _)
      | (with_reducible exact ih1 _ _ _)
      | (with_reducible exact ih2 _ _ _ _ _ _ _ _ _ _ _ _ _ _)
      | (with_reducible exact ih3 _ _ _ _ _ _ _ _ _ _ _ _ _)
      | (with_reducible exact ih4 _ _ _ _ _ _ _ _ _ _ _ _ _ _ _ _ _)
      | (with_reducible exact arith_Do.mono _ _ _ _ _ _ _ _)
      | (with_reducible exact cadastrelaw4_wakes.mono _)
      | (with_reducible exact cadastreref4_Do.mono _ _ _ _ _ _ _ _)
      | (with_reducible exact cadastreref4_Neg.mono _ _ _ _)
      | (with_reducible exact LeO.refl _)
      | (with_reducible exact LeO.none _)
      | (with_reducible refine LeO.ite ?_ ?_)
      | (with_reducible refine LeO.bind ?_ (fun _ => ?_))
      | exact ih0 _ _
      | exact ih1 _ _ _
      | exact ih2 _ _ _ _ _ _ _ _ _ _ _ _ _ _
      | exact ih3 _ _ _ _ _ _ _ _ _ _ _ _ _
      | exact ih4 _ _ _ _ _ _ _ _ _ _ _ _ _ _ _ _ _
      | exact arith_Do.mono _ _ _ _ _ _ _ _
      | exact cadastrelaw4_wakes.mono _
      | exact cadastreref4_Do.mono _ _ _ _ _ _ _ _
      | exact cadastreref4_Neg.mono _ _ _ _
      | exact LeO.none _
      | refine LeO.ite ?_ ?_
      | refine LeO.bind ?_ (fun _ => ?_)
theorem cadastrelaw4_ArithExact.mono : ∀ a0 k, LeO (cadastrelaw4_ArithExact.f k a0) (cadastrelaw4_ArithExact.f (k + 1) a0) := by
  intro a0 k
  obtain ⟨ih0, ih1, ih2, ih3, ih4⟩ := cadastrelaw4_ArithExact.mono_l k
  unfold cadastrelaw4_ArithExact.f
  repeat' first
      | (with_reducible exact ih0 _ _)
      | (with_reducible exact ih1 _ _ _)
      | (with_reducible exact ih2 _ _ _ _ _ _ _ _ _ _ _ _ _ _)
      | (with_reducible exact ih3 _ _ _ _ _ _ _ _ _ _ _ _ _)
      | (with_reducible exact ih4 _ _ _ _ _ _ _ _ _ _ _ _ _ _ _ _ _)
      | (with_reducible exact arith_Do.mono _ _ _ _ _ _ _ _)
      | (with_reducible exact cadastrelaw4_wakes.mono _)
      | (with_reducible exact cadastreref4_Do.mono _ _ _ _ _ _ _ _)
      | (with_reducible exact cadastreref4_Neg.mono _ _ _ _)
      | (with_reducible exact LeO.refl _)
      | (with_reducible exact LeO.none _)
      | (with_reducible refine LeO.ite ?_ ?_)
      | (with_reducible refine LeO.bind ?_ (fun _ => ?_))
      | exact ih0 _ _
      | exact ih1 _ _ _
      | exact ih2 _ _ _ _ _ _ _ _ _ _ _ _ _ _
      | exact ih3 _ _ _ _ _ _ _ _ _ _ _ _ _
      | exact ih4 _ _ _ _ _ _ _ _ _ _ _ _ _ _ _ _ _
      | exact arith_Do.mono _ _ _ _ _ _ _ _
      | exact cadastrelaw4_wakes.mono _
      | exact cadastreref4_Do.mono _ _ _ _ _ _ _ _
      | exact cadastreref4_Neg.mono _ _ _ _
      | exact LeO.none _
      | refine LeO.ite ?_ ?_
      | refine LeO.bind ?_ (fun _ => ?_)
set_option maxHeartbeats 8000000 in
set_option maxRecDepth 100000 in
theorem cadastrelaw4_ArithExact.calls (k : Nat) (A0 : Option Addr) (c0 : Nat) (l0 : List (S58)) (r : Bool) (w : World) (hr0 : Kd.C k58 w A0 l0.length l0) (hc0 : l0.length ≤ c0) (h : cadastrelaw4_ArithExact.f k l0 = some r) :
    Calls Try.prog 16 #[.slice A0 l0.length c0] w fun e w' => e = .returned (.bool r) ∧ Below w.heap.size w w' := by
  have hu58 := Try.underlying58
  have hu24 := Try.underlying24
  have HR0 := Aside0.mk hr0
  have HC0 := Aside0.mk hc0
  clear hr0 hc0
  have HB := Aside0.mk (Below.refl w.heap.size w)
  have H : (cadastrelaw4_ArithExact.l0 k l0 0) = some r := h
  clear h
  have H' := Aside0.mk H
  clear H
  go_enter Try.func16, Try.ntmps16
  go_wp2
  go_loopg [3] k (fun kq v3 w' => ∃ (x3_1 : Int), v3 = .int .i64 x3_1 ∧ Aside0 (cadastrelaw4_ArithExact.l0 kq l0 x3_1 = some r) ∧ Aside0 (kq ≤ k) ∧ Aside0 (Below w.heap.size w w'))
  case atStart => exact ⟨(0), (by first | rfl | (simp; done) | (simp [*]; done)), H', ⟨Nat.le_refl _⟩, ⟨by repeat (first | (with_reducible first | exact HB.out | apply below_alloc | apply pw_below_drewN | apply below_drew1) | exact HB.out)⟩⟩
  case round =>
    clear H'
    try clear c1
    obtain ⟨x3_1, rfl, HA, HK1, HB⟩ := hrel
    cases gk with
    | zero => exact absurd HA.out (by simp [cadastrelaw4_ArithExact.l0])
    | succ k1 =>
      have H := HA.out
      clear HA
      simp only [cadastrelaw4_ArithExact.l0] at H
      have HC2 := Aside0.mk H
      clear H
      go_upto_region 2 with (fail)
      go_cut [20] (fun v20 wc => ∃ (kq : Nat) (x20_1 : Bool), v20 = .bool x20_1 ∧ Aside0 (cadastrelaw4_ArithExact.j1 kq l0 x3_1 x20_1 = some r) ∧ Aside0 (kq ≤ k1) ∧ Aside0 (Below w.heap.size w wc))
      case first =>
        have H := HC2.out
        clear HC2
        by_cases c3 : x3_1 < (l0.length : Int)
        · rw [if_pos c3] at H
          have c3b0 : decide (x3_1 < (l0.length : Int)) = true := decide_eq_true c3
          clear c3
          (first | rw [c3b0] | (simp only [i64_w, i32_w]; rw [c3b0]) | skip)
          have H' := Aside0.mk H
          clear H
          go_wp2
          go_meet
          case rel => exact ⟨_, (decide (x3_1 < 30)), (by first | rfl | (simp; done) | (simp [*]; done)), H', ⟨by have := HK1.out; first | omega | exact Nat.le_refl _⟩, ⟨by repeat (first | (with_reducible first | exact HB.out | apply below_alloc | apply pw_below_drewN | apply below_drew1) | exact HB.out)⟩⟩
        rw [if_neg c3] at H
        have c3b0 : decide (x3_1 < (l0.length : Int)) = false := decide_eq_false c3
        clear c3
        (first | rw [c3b0] | (simp only [i64_w, i32_w]; rw [c3b0]) | skip)
        have H' := Aside0.mk H
        clear H
        go_wp2
        go_meet
        case rel => exact ⟨_, (false), (by first | rfl | (simp; done) | (simp [*]; done)), H', ⟨by have := HK1.out; first | omega | exact Nat.le_refl _⟩, ⟨by repeat (first | (with_reducible first | exact HB.out | apply below_alloc | apply pw_below_drewN | apply below_drew1) | exact HB.out)⟩⟩
      case rest =>
        clear HC2
        try clear c1
        try clear p2
        try clear c3
        try clear c3b0
        obtain ⟨kq, x20_1, rfl, HA, HJ1, HB⟩ := hcut
        cases kq with
        | zero => exact absurd HA.out (by simp [cadastrelaw4_ArithExact.j1])
        | succ kj1 =>
          have H := HA.out
          clear HA
          simp only [cadastrelaw4_ArithExact.j1] at H
          by_cases c4 : x20_1 = true
          · subst c4
            have H1 : (if 0 ≤ x3_1 then (if x3_1 < (l0.length : Int) then ((cadastreref2_May.f ((rd_T58 l0 x3_1).f0.f0) ((rd_T58 l0 x3_1).f0.f1) ((rd_T58 l0 x3_1).f0.f2)).bind fun t193 => (if t193 = true then ((cadastreref2_May.f ((rd_T58 l0 x3_1).f1.f0) ((rd_T58 l0 x3_1).f1.f1) ((rd_T58 l0 x3_1).f1.f2)).bind fun t194 => (if t194 = true then (if ((rd_T58 l0 x3_1).f2) ≥ 9 then (cadastrelaw4_ArithExact.j2 kj1 l0 x3_1 1 (decide (((rd_T58 l0 x3_1).f2) ≤ 13)) ((rd_T58 l0 x3_1).f0.f0) ((rd_T58 l0 x3_1).f0.f1) ((rd_T58 l0 x3_1).f0.f2) ((rd_T58 l0 x3_1).f1.f0) ((rd_T58 l0 x3_1).f1.f1) ((rd_T58 l0 x3_1).f1.f2) ((rd_T58 l0 x3_1).f2) 0 0 (⟨#[]⟩ : ByteArray)) else (cadastrelaw4_ArithExact.j2 kj1 l0 x3_1 1 false ((rd_T58 l0 x3_1).f0.f0) ((rd_T58 l0 x3_1).f0.f1) ((rd_T58 l0 x3_1).f0.f2) ((rd_T58 l0 x3_1).f1.f0) ((rd_T58 l0 x3_1).f1.f1) ((rd_T58 l0 x3_1).f1.f2) ((rd_T58 l0 x3_1).f2) 0 0 (⟨#[]⟩ : ByteArray))) else (cadastrelaw4_ArithExact.j2 kj1 l0 x3_1 1 false ((rd_T58 l0 x3_1).f0.f0) ((rd_T58 l0 x3_1).f0.f1) ((rd_T58 l0 x3_1).f0.f2) ((rd_T58 l0 x3_1).f1.f0) ((rd_T58 l0 x3_1).f1.f1) ((rd_T58 l0 x3_1).f1.f2) ((rd_T58 l0 x3_1).f2) 0 0 (⟨#[]⟩ : ByteArray)))) else (cadastrelaw4_ArithExact.j2 kj1 l0 x3_1 1 false ((rd_T58 l0 x3_1).f0.f0) ((rd_T58 l0 x3_1).f0.f1) ((rd_T58 l0 x3_1).f0.f2) ((rd_T58 l0 x3_1).f1.f0) ((rd_T58 l0 x3_1).f1.f1) ((rd_T58 l0 x3_1).f1.f2) ((rd_T58 l0 x3_1).f2) 0 0 (⟨#[]⟩ : ByteArray)))) else (none)) else (none)) = some r := by rw [if_pos rfl] at H; exact H
            clear H
            have H := H1
            clear H1
            by_cases c5 : 0 ≤ x3_1
            rotate_left
            · rw [if_neg c5] at H
              exact absurd H (by simp)
            rw [if_pos c5] at H
            have c5b0 : decide (0 ≤ x3_1) = true := decide_eq_true c5
            clear c5
            by_cases c6 : x3_1 < (l0.length : Int)
            rotate_left
            · rw [if_neg c6] at H
              exact absurd H (by simp)
            rw [if_pos c6] at H
            have c6b0 : decide (x3_1 < (l0.length : Int)) = true := decide_eq_true c6
            clear c6
            have HC7 := Aside0.mk H
            clear H
            have p190 : 0 ≤ (x3_1 : Int) := of_decide_eq_true (by first | (with_reducible assumption) | assumption)
            have q190 : x3_1 < (l0.length : Int) := of_decide_eq_true (by first | (with_reducible assumption) | assumption)
            obtain ⟨ad190, e190, hx190_0, hx190_1, hx190_2, hx190_3, hx190_4, hx190_5, hx190_6⟩ := at_T58 HR0.out x3_1 p190 q190
            cases e190
            replace hx190_0 := (HB.out.cell (World.block_lt_of_cell? w _ hx190_0)).trans hx190_0
            replace hx190_1 := (HB.out.cell (World.block_lt_of_cell? w _ hx190_1)).trans hx190_1
            replace hx190_2 := (HB.out.cell (World.block_lt_of_cell? w _ hx190_2)).trans hx190_2
            replace hx190_3 := (HB.out.cell (World.block_lt_of_cell? w _ hx190_3)).trans hx190_3
            replace hx190_4 := (HB.out.cell (World.block_lt_of_cell? w _ hx190_4)).trans hx190_4
            replace hx190_5 := (HB.out.cell (World.block_lt_of_cell? w _ hx190_5)).trans hx190_5
            replace hx190_6 := (HB.out.cell (World.block_lt_of_cell? w _ hx190_6)).trans hx190_6
            replace p190 := eq_true p190
            replace q190 := eq_true q190
            go_upto_region 6 with (first | ((with_reducible refine gate_dst (N := 4) rfl ?_); refine box_event ?hg (N := 4) ?hd (cs := #[.int .i64 0, .int .i64 0, .string (⟨#[]⟩ : ByteArray), .int .i64 0, .int .i64 0, .string (⟨#[]⟩ : ByteArray), .int .i64 0]) (t := 58) ?hr ?_; (case hd => rfl); (case hg => rfl); (case hr => first | (go_simp; done) | (go_simp; rfl)); intro gb191 hg w8 hbox hb; have n0_ := Aside0.mk (below_step (by repeat (first | (with_reducible first | exact HB.out | apply below_alloc | apply pw_below_drewN | apply below_drew1) | exact HB.out)) hb); have n1_ := Aside0.mk (hbox); have n2_ := Aside0.mk ((by rw [hg]; exact (below_size (by repeat (first | (with_reducible first | exact HB.out | apply below_alloc | apply pw_below_drewN | apply below_drew1) | exact HB.out))) : w.heap.size ≤ gb191)); have n3_ := Aside0.mk ((by rw [hg]; exact (below_size (by repeat (first | (with_reducible first | exact HB.out | apply below_alloc | apply pw_below_drewN | apply below_drew1) | exact HB.out))) : w.heap.size ≤ gb191)); clear HB; have HB := n0_; have BK191 := n1_; have GW191 := n2_; have GE191 := n3_; clear n0_ n1_ n2_ n3_; clear hb hbox hg; have hcz9_0 : w8.cell? ⟨gb191, 0, none⟩ = some (.int .i64 0) := (blk_cell BK191.out 0).trans rfl; have hcz9_1 : w8.cell? ⟨gb191, 1, none⟩ = some (.int .i64 0) := (blk_cell BK191.out 1).trans rfl; have hcz9_2 : w8.cell? ⟨gb191, 2, none⟩ = some (.string (⟨#[]⟩ : ByteArray)) := (blk_cell BK191.out 2).trans rfl; have hcz9_3 : w8.cell? ⟨gb191, 3, none⟩ = some (.int .i64 0) := (blk_cell BK191.out 3).trans rfl; have hcz9_4 : w8.cell? ⟨gb191, 4, none⟩ = some (.int .i64 0) := (blk_cell BK191.out 4).trans rfl; have hcz9_5 : w8.cell? ⟨gb191, 5, none⟩ = some (.string (⟨#[]⟩ : ByteArray)) := (blk_cell BK191.out 5).trans rfl; have hcz9_6 : w8.cell? ⟨gb191, 6, none⟩ = some (.int .i64 0) := (blk_cell BK191.out 6).trans rfl; have hfz9_0 := blk_frozen BK191.out 0; have hfz9_1 := blk_frozen BK191.out 1; have hfz9_2 := blk_frozen BK191.out 2; have hfz9_3 := blk_frozen BK191.out 3; have hfz9_4 := blk_frozen BK191.out 4; have hfz9_5 := blk_frozen BK191.out 5; have hfz9_6 := blk_frozen BK191.out 6) | ((with_reducible refine gate_dst (N := 5) rfl ?_); refine box_event ?hg (N := 5) ?hd (cs := #[.int .i64 0, .int .i64 0, .string (⟨#[]⟩ : ByteArray)]) (t := 24) ?hr ?_; (case hd => rfl); (case hg => rfl); (case hr => first | (go_simp; done) | (go_simp; rfl)); intro gb192 hg w10 hbox hb; have n0_ := Aside0.mk (blk_below (g := gb191) (o := .cells #[.int .i64 ((rd_T58 l0 x3_1).f0.f0), .int .i64 ((rd_T58 l0 x3_1).f0.f1), .string ((rd_T58 l0 x3_1).f0.f2), .int .i64 ((rd_T58 l0 x3_1).f1.f0), .int .i64 ((rd_T58 l0 x3_1).f1.f1), .string ((rd_T58 l0 x3_1).f1.f2), .int .i64 ((rd_T58 l0 x3_1).f2)] 58 (0, 0)) (by (with_reducible repeat (first | refine blk_drewN ?_ _ | refine blk_drew ?_ | refine blk_alloc ?_ _)); refine blk_put (cs := #[.int .i64 ((rd_T58 l0 x3_1).f0.f0), .int .i64 ((rd_T58 l0 x3_1).f0.f1), .string ((rd_T58 l0 x3_1).f0.f2), .int .i64 ((rd_T58 l0 x3_1).f1.f0), .int .i64 ((rd_T58 l0 x3_1).f1.f1), .string ((rd_T58 l0 x3_1).f1.f2), .int .i64 0]) ?_ 6 _ rfl; (with_reducible repeat (first | refine blk_drewN ?_ _ | refine blk_drew ?_ | refine blk_alloc ?_ _)); refine blk_put (cs := #[.int .i64 ((rd_T58 l0 x3_1).f0.f0), .int .i64 ((rd_T58 l0 x3_1).f0.f1), .string ((rd_T58 l0 x3_1).f0.f2), .int .i64 ((rd_T58 l0 x3_1).f1.f0), .int .i64 ((rd_T58 l0 x3_1).f1.f1), .string (⟨#[]⟩ : ByteArray), .int .i64 0]) ?_ 5 _ rfl; (with_reducible repeat (first | refine blk_drewN ?_ _ | refine blk_drew ?_ | refine blk_alloc ?_ _)); refine blk_put (cs := #[.int .i64 ((rd_T58 l0 x3_1).f0.f0), .int .i64 ((rd_T58 l0 x3_1).f0.f1), .string ((rd_T58 l0 x3_1).f0.f2), .int .i64 ((rd_T58 l0 x3_1).f1.f0), .int .i64 0, .string (⟨#[]⟩ : ByteArray), .int .i64 0]) ?_ 4 _ rfl; (with_reducible repeat (first | refine blk_drewN ?_ _ | refine blk_drew ?_ | refine blk_alloc ?_ _)); refine blk_put (cs := #[.int .i64 ((rd_T58 l0 x3_1).f0.f0), .int .i64 ((rd_T58 l0 x3_1).f0.f1), .string ((rd_T58 l0 x3_1).f0.f2), .int .i64 0, .int .i64 0, .string (⟨#[]⟩ : ByteArray), .int .i64 0]) ?_ 3 _ rfl; (with_reducible repeat (first | refine blk_drewN ?_ _ | refine blk_drew ?_ | refine blk_alloc ?_ _)); refine blk_put (cs := #[.int .i64 ((rd_T58 l0 x3_1).f0.f0), .int .i64 ((rd_T58 l0 x3_1).f0.f1), .string (⟨#[]⟩ : ByteArray), .int .i64 0, .int .i64 0, .string (⟨#[]⟩ : ByteArray), .int .i64 0]) ?_ 2 _ rfl; (with_reducible repeat (first | refine blk_drewN ?_ _ | refine blk_drew ?_ | refine blk_alloc ?_ _)); refine blk_put (cs := #[.int .i64 ((rd_T58 l0 x3_1).f0.f0), .int .i64 0, .string (⟨#[]⟩ : ByteArray), .int .i64 0, .int .i64 0, .string (⟨#[]⟩ : ByteArray), .int .i64 0]) ?_ 1 _ rfl; (with_reducible repeat (first | refine blk_drewN ?_ _ | refine blk_drew ?_ | refine blk_alloc ?_ _)); refine blk_put (cs := #[.int .i64 0, .int .i64 0, .string (⟨#[]⟩ : ByteArray), .int .i64 0, .int .i64 0, .string (⟨#[]⟩ : ByteArray), .int .i64 0]) ?_ 0 _ rfl; (with_reducible repeat (first | refine blk_drewN ?_ _ | refine blk_drew ?_ | refine blk_alloc ?_ _)); exact BK191.out) hb); have n1_ := Aside0.mk (below_step (by repeat (first | (with_reducible first | exact HB.out | apply below_alloc | apply pw_below_drewN | apply below_drew1 | refine below_set ?_ GE191.out) | exact HB.out)) hb); have n2_ := Aside0.mk (hbox); have n3_ := Aside0.mk ((by rw [hg]; exact (below_size (by repeat (first | (with_reducible first | exact HB.out | apply below_alloc | apply pw_below_drewN | apply below_drew1 | refine below_set ?_ GE191.out) | exact HB.out))) : w.heap.size ≤ gb192)); have n4_ := Aside0.mk ((by rw [hg]; exact (below_size (by repeat (first | (with_reducible first | exact HB.out | apply below_alloc | apply pw_below_drewN | apply below_drew1 | refine below_set ?_ GE191.out) | exact HB.out))) : w.heap.size ≤ gb192)); have n5_ := Aside0.mk ((by rw [hg]; exact Nat.ne_of_lt (blk_lt (g := gb191) (o := .cells #[.int .i64 ((rd_T58 l0 x3_1).f0.f0), .int .i64 ((rd_T58 l0 x3_1).f0.f1), .string ((rd_T58 l0 x3_1).f0.f2), .int .i64 ((rd_T58 l0 x3_1).f1.f0), .int .i64 ((rd_T58 l0 x3_1).f1.f1), .string ((rd_T58 l0 x3_1).f1.f2), .int .i64 ((rd_T58 l0 x3_1).f2)] 58 (0, 0)) (by (with_reducible repeat (first | refine blk_drewN ?_ _ | refine blk_drew ?_ | refine blk_alloc ?_ _)); refine blk_put (cs := #[.int .i64 ((rd_T58 l0 x3_1).f0.f0), .int .i64 ((rd_T58 l0 x3_1).f0.f1), .string ((rd_T58 l0 x3_1).f0.f2), .int .i64 ((rd_T58 l0 x3_1).f1.f0), .int .i64 ((rd_T58 l0 x3_1).f1.f1), .string ((rd_T58 l0 x3_1).f1.f2), .int .i64 0]) ?_ 6 _ rfl; (with_reducible repeat (first | refine blk_drewN ?_ _ | refine blk_drew ?_ | refine blk_alloc ?_ _)); refine blk_put (cs := #[.int .i64 ((rd_T58 l0 x3_1).f0.f0), .int .i64 ((rd_T58 l0 x3_1).f0.f1), .string ((rd_T58 l0 x3_1).f0.f2), .int .i64 ((rd_T58 l0 x3_1).f1.f0), .int .i64 ((rd_T58 l0 x3_1).f1.f1), .string (⟨#[]⟩ : ByteArray), .int .i64 0]) ?_ 5 _ rfl; (with_reducible repeat (first | refine blk_drewN ?_ _ | refine blk_drew ?_ | refine blk_alloc ?_ _)); refine blk_put (cs := #[.int .i64 ((rd_T58 l0 x3_1).f0.f0), .int .i64 ((rd_T58 l0 x3_1).f0.f1), .string ((rd_T58 l0 x3_1).f0.f2), .int .i64 ((rd_T58 l0 x3_1).f1.f0), .int .i64 0, .string (⟨#[]⟩ : ByteArray), .int .i64 0]) ?_ 4 _ rfl; (with_reducible repeat (first | refine blk_drewN ?_ _ | refine blk_drew ?_ | refine blk_alloc ?_ _)); refine blk_put (cs := #[.int .i64 ((rd_T58 l0 x3_1).f0.f0), .int .i64 ((rd_T58 l0 x3_1).f0.f1), .string ((rd_T58 l0 x3_1).f0.f2), .int .i64 0, .int .i64 0, .string (⟨#[]⟩ : ByteArray), .int .i64 0]) ?_ 3 _ rfl; (with_reducible repeat (first | refine blk_drewN ?_ _ | refine blk_drew ?_ | refine blk_alloc ?_ _)); refine blk_put (cs := #[.int .i64 ((rd_T58 l0 x3_1).f0.f0), .int .i64 ((rd_T58 l0 x3_1).f0.f1), .string (⟨#[]⟩ : ByteArray), .int .i64 0, .int .i64 0, .string (⟨#[]⟩ : ByteArray), .int .i64 0]) ?_ 2 _ rfl; (with_reducible repeat (first | refine blk_drewN ?_ _ | refine blk_drew ?_ | refine blk_alloc ?_ _)); refine blk_put (cs := #[.int .i64 ((rd_T58 l0 x3_1).f0.f0), .int .i64 0, .string (⟨#[]⟩ : ByteArray), .int .i64 0, .int .i64 0, .string (⟨#[]⟩ : ByteArray), .int .i64 0]) ?_ 1 _ rfl; (with_reducible repeat (first | refine blk_drewN ?_ _ | refine blk_drew ?_ | refine blk_alloc ?_ _)); refine blk_put (cs := #[.int .i64 0, .int .i64 0, .string (⟨#[]⟩ : ByteArray), .int .i64 0, .int .i64 0, .string (⟨#[]⟩ : ByteArray), .int .i64 0]) ?_ 0 _ rfl; (with_reducible repeat (first | refine blk_drewN ?_ _ | refine blk_drew ?_ | refine blk_alloc ?_ _)); exact BK191.out)) : gb191 ≠ gb192)); have n6_ := Aside0.mk ((by rw [hg]; exact Nat.ne_of_gt (blk_lt (g := gb191) (o := .cells #[.int .i64 ((rd_T58 l0 x3_1).f0.f0), .int .i64 ((rd_T58 l0 x3_1).f0.f1), .string ((rd_T58 l0 x3_1).f0.f2), .int .i64 ((rd_T58 l0 x3_1).f1.f0), .int .i64 ((rd_T58 l0 x3_1).f1.f1), .string ((rd_T58 l0 x3_1).f1.f2), .int .i64 ((rd_T58 l0 x3_1).f2)] 58 (0, 0)) (by (with_reducible repeat (first | refine blk_drewN ?_ _ | refine blk_drew ?_ | refine blk_alloc ?_ _)); refine blk_put (cs := #[.int .i64 ((rd_T58 l0 x3_1).f0.f0), .int .i64 ((rd_T58 l0 x3_1).f0.f1), .string ((rd_T58 l0 x3_1).f0.f2), .int .i64 ((rd_T58 l0 x3_1).f1.f0), .int .i64 ((rd_T58 l0 x3_1).f1.f1), .string ((rd_T58 l0 x3_1).f1.f2), .int .i64 0]) ?_ 6 _ rfl; (with_reducible repeat (first | refine blk_drewN ?_ _ | refine blk_drew ?_ | refine blk_alloc ?_ _)); refine blk_put (cs := #[.int .i64 ((rd_T58 l0 x3_1).f0.f0), .int .i64 ((rd_T58 l0 x3_1).f0.f1), .string ((rd_T58 l0 x3_1).f0.f2), .int .i64 ((rd_T58 l0 x3_1).f1.f0), .int .i64 ((rd_T58 l0 x3_1).f1.f1), .string (⟨#[]⟩ : ByteArray), .int .i64 0]) ?_ 5 _ rfl; (with_reducible repeat (first | refine blk_drewN ?_ _ | refine blk_drew ?_ | refine blk_alloc ?_ _)); refine blk_put (cs := #[.int .i64 ((rd_T58 l0 x3_1).f0.f0), .int .i64 ((rd_T58 l0 x3_1).f0.f1), .string ((rd_T58 l0 x3_1).f0.f2), .int .i64 ((rd_T58 l0 x3_1).f1.f0), .int .i64 0, .string (⟨#[]⟩ : ByteArray), .int .i64 0]) ?_ 4 _ rfl; (with_reducible repeat (first | refine blk_drewN ?_ _ | refine blk_drew ?_ | refine blk_alloc ?_ _)); refine blk_put (cs := #[.int .i64 ((rd_T58 l0 x3_1).f0.f0), .int .i64 ((rd_T58 l0 x3_1).f0.f1), .string ((rd_T58 l0 x3_1).f0.f2), .int .i64 0, .int .i64 0, .string (⟨#[]⟩ : ByteArray), .int .i64 0]) ?_ 3 _ rfl; (with_reducible repeat (first | refine blk_drewN ?_ _ | refine blk_drew ?_ | refine blk_alloc ?_ _)); refine blk_put (cs := #[.int .i64 ((rd_T58 l0 x3_1).f0.f0), .int .i64 ((rd_T58 l0 x3_1).f0.f1), .string (⟨#[]⟩ : ByteArray), .int .i64 0, .int .i64 0, .string (⟨#[]⟩ : ByteArray), .int .i64 0]) ?_ 2 _ rfl; (with_reducible repeat (first | refine blk_drewN ?_ _ | refine blk_drew ?_ | refine blk_alloc ?_ _)); refine blk_put (cs := #[.int .i64 ((rd_T58 l0 x3_1).f0.f0), .int .i64 0, .string (⟨#[]⟩ : ByteArray), .int .i64 0, .int .i64 0, .string (⟨#[]⟩ : ByteArray), .int .i64 0]) ?_ 1 _ rfl; (with_reducible repeat (first | refine blk_drewN ?_ _ | refine blk_drew ?_ | refine blk_alloc ?_ _)); refine blk_put (cs := #[.int .i64 0, .int .i64 0, .string (⟨#[]⟩ : ByteArray), .int .i64 0, .int .i64 0, .string (⟨#[]⟩ : ByteArray), .int .i64 0]) ?_ 0 _ rfl; (with_reducible repeat (first | refine blk_drewN ?_ _ | refine blk_drew ?_ | refine blk_alloc ?_ _)); exact BK191.out)) : gb192 ≠ gb191)); clear BK191; clear HB; have BK191 := n0_; have HB := n1_; have BK192 := n2_; have GW192 := n3_; have GE192 := n4_; have NB191_192 := n5_; have NB192_191 := n6_; clear n0_ n1_ n2_ n3_ n4_ n5_ n6_; clear hb hbox hg; have hnb11 := NB192_191.out; have hnc11 := NB191_192.out; have hcz12_0 : w10.cell? ⟨gb192, 0, none⟩ = some (.int .i64 0) := (blk_cell BK192.out 0).trans rfl; have hcz12_1 : w10.cell? ⟨gb192, 1, none⟩ = some (.int .i64 0) := (blk_cell BK192.out 1).trans rfl; have hcz12_2 : w10.cell? ⟨gb192, 2, none⟩ = some (.string (⟨#[]⟩ : ByteArray)) := (blk_cell BK192.out 2).trans rfl; have hfz12_0 := blk_frozen BK192.out 0; have hfz12_1 := blk_frozen BK192.out 1; have hfz12_2 := blk_frozen BK192.out 2))
            (try simp only [Act.put, List.setIfInBounds_toArray, List.set_cons_zero, List.set_cons_succ])
            go_cut [45] (fun v45 wc => ∃ (kq : Nat) (x45_6 : Bool), v45 = .bool x45_6 ∧ Aside0 (cadastrelaw4_ArithExact.j2 kq l0 x3_1 1 x45_6 ((rd_T58 l0 x3_1).f0.f0) ((rd_T58 l0 x3_1).f0.f1) ((rd_T58 l0 x3_1).f0.f2) ((rd_T58 l0 x3_1).f1.f0) ((rd_T58 l0 x3_1).f1.f1) ((rd_T58 l0 x3_1).f1.f2) ((rd_T58 l0 x3_1).f2) 0 0 (⟨#[]⟩ : ByteArray) = some r) ∧ Aside0 (kq ≤ kj1) ∧ Aside0 (wc.heap[gb191]? = some (.cells #[.int .i64 ((rd_T58 l0 x3_1).f0.f0), .int .i64 ((rd_T58 l0 x3_1).f0.f1), .string ((rd_T58 l0 x3_1).f0.f2), .int .i64 ((rd_T58 l0 x3_1).f1.f0), .int .i64 ((rd_T58 l0 x3_1).f1.f1), .string ((rd_T58 l0 x3_1).f1.f2), .int .i64 ((rd_T58 l0 x3_1).f2)] 58 (0, 0))) ∧ Aside0 (wc.heap[gb192]? = some (.cells #[.int .i64 0, .int .i64 0, .string (⟨#[]⟩ : ByteArray)] 24 (0, 0))) ∧ Aside0 (Below w.heap.size w wc))
            case first =>
              have H := HC7.out
              clear HC7
              replace H := Option.bind_eq_some_iff.mp H
              obtain ⟨t193, A130, H⟩ := H
              replace H : (if t193 = true then ((cadastreref2_May.f ((rd_T58 l0 x3_1).f1.f0) ((rd_T58 l0 x3_1).f1.f1) ((rd_T58 l0 x3_1).f1.f2)).bind fun t194 => (if t194 = true then (if ((rd_T58 l0 x3_1).f2) ≥ 9 then (cadastrelaw4_ArithExact.j2 kj1 l0 x3_1 1 (decide (((rd_T58 l0 x3_1).f2) ≤ 13)) ((rd_T58 l0 x3_1).f0.f0) ((rd_T58 l0 x3_1).f0.f1) ((rd_T58 l0 x3_1).f0.f2) ((rd_T58 l0 x3_1).f1.f0) ((rd_T58 l0 x3_1).f1.f1) ((rd_T58 l0 x3_1).f1.f2) ((rd_T58 l0 x3_1).f2) 0 0 (⟨#[]⟩ : ByteArray)) else (cadastrelaw4_ArithExact.j2 kj1 l0 x3_1 1 false ((rd_T58 l0 x3_1).f0.f0) ((rd_T58 l0 x3_1).f0.f1) ((rd_T58 l0 x3_1).f0.f2) ((rd_T58 l0 x3_1).f1.f0) ((rd_T58 l0 x3_1).f1.f1) ((rd_T58 l0 x3_1).f1.f2) ((rd_T58 l0 x3_1).f2) 0 0 (⟨#[]⟩ : ByteArray))) else (cadastrelaw4_ArithExact.j2 kj1 l0 x3_1 1 false ((rd_T58 l0 x3_1).f0.f0) ((rd_T58 l0 x3_1).f0.f1) ((rd_T58 l0 x3_1).f0.f2) ((rd_T58 l0 x3_1).f1.f0) ((rd_T58 l0 x3_1).f1.f1) ((rd_T58 l0 x3_1).f1.f2) ((rd_T58 l0 x3_1).f2) 0 0 (⟨#[]⟩ : ByteArray)))) else (cadastrelaw4_ArithExact.j2 kj1 l0 x3_1 1 false ((rd_T58 l0 x3_1).f0.f0) ((rd_T58 l0 x3_1).f0.f1) ((rd_T58 l0 x3_1).f0.f2) ((rd_T58 l0 x3_1).f1.f0) ((rd_T58 l0 x3_1).f1.f1) ((rd_T58 l0 x3_1).f1.f2) ((rd_T58 l0 x3_1).f2) 0 0 (⟨#[]⟩ : ByteArray))) = some r := H
              have A13 := Aside0.mk A130
              clear A130
              by_cases c14 : t193 = true
              · subst c14
                have H1 : ((cadastreref2_May.f ((rd_T58 l0 x3_1).f1.f0) ((rd_T58 l0 x3_1).f1.f1) ((rd_T58 l0 x3_1).f1.f2)).bind fun t194 => (if t194 = true then (if ((rd_T58 l0 x3_1).f2) ≥ 9 then (cadastrelaw4_ArithExact.j2 kj1 l0 x3_1 1 (decide (((rd_T58 l0 x3_1).f2) ≤ 13)) ((rd_T58 l0 x3_1).f0.f0) ((rd_T58 l0 x3_1).f0.f1) ((rd_T58 l0 x3_1).f0.f2) ((rd_T58 l0 x3_1).f1.f0) ((rd_T58 l0 x3_1).f1.f1) ((rd_T58 l0 x3_1).f1.f2) ((rd_T58 l0 x3_1).f2) 0 0 (⟨#[]⟩ : ByteArray)) else (cadastrelaw4_ArithExact.j2 kj1 l0 x3_1 1 false ((rd_T58 l0 x3_1).f0.f0) ((rd_T58 l0 x3_1).f0.f1) ((rd_T58 l0 x3_1).f0.f2) ((rd_T58 l0 x3_1).f1.f0) ((rd_T58 l0 x3_1).f1.f1) ((rd_T58 l0 x3_1).f1.f2) ((rd_T58 l0 x3_1).f2) 0 0 (⟨#[]⟩ : ByteArray))) else (cadastrelaw4_ArithExact.j2 kj1 l0 x3_1 1 false ((rd_T58 l0 x3_1).f0.f0) ((rd_T58 l0 x3_1).f0.f1) ((rd_T58 l0 x3_1).f0.f2) ((rd_T58 l0 x3_1).f1.f0) ((rd_T58 l0 x3_1).f1.f1) ((rd_T58 l0 x3_1).f1.f2) ((rd_T58 l0 x3_1).f2) 0 0 (⟨#[]⟩ : ByteArray)))) = some r := by rw [if_pos rfl] at H; exact H
                clear H
                have H := H1
                clear H1
                replace H := Option.bind_eq_some_iff.mp H
                obtain ⟨t194, A150, H⟩ := H
                replace H : (if t194 = true then (if ((rd_T58 l0 x3_1).f2) ≥ 9 then (cadastrelaw4_ArithExact.j2 kj1 l0 x3_1 1 (decide (((rd_T58 l0 x3_1).f2) ≤ 13)) ((rd_T58 l0 x3_1).f0.f0) ((rd_T58 l0 x3_1).f0.f1) ((rd_T58 l0 x3_1).f0.f2) ((rd_T58 l0 x3_1).f1.f0) ((rd_T58 l0 x3_1).f1.f1) ((rd_T58 l0 x3_1).f1.f2) ((rd_T58 l0 x3_1).f2) 0 0 (⟨#[]⟩ : ByteArray)) else (cadastrelaw4_ArithExact.j2 kj1 l0 x3_1 1 false ((rd_T58 l0 x3_1).f0.f0) ((rd_T58 l0 x3_1).f0.f1) ((rd_T58 l0 x3_1).f0.f2) ((rd_T58 l0 x3_1).f1.f0) ((rd_T58 l0 x3_1).f1.f1) ((rd_T58 l0 x3_1).f1.f2) ((rd_T58 l0 x3_1).f2) 0 0 (⟨#[]⟩ : ByteArray))) else (cadastrelaw4_ArithExact.j2 kj1 l0 x3_1 1 false ((rd_T58 l0 x3_1).f0.f0) ((rd_T58 l0 x3_1).f0.f1) ((rd_T58 l0 x3_1).f0.f2) ((rd_T58 l0 x3_1).f1.f0) ((rd_T58 l0 x3_1).f1.f1) ((rd_T58 l0 x3_1).f1.f2) ((rd_T58 l0 x3_1).f2) 0 0 (⟨#[]⟩ : ByteArray))) = some r := H
                have A15 := Aside0.mk A150
                clear A150
                by_cases c16 : t194 = true
                · subst c16
                  have H1 : (if ((rd_T58 l0 x3_1).f2) ≥ 9 then (cadastrelaw4_ArithExact.j2 kj1 l0 x3_1 1 (decide (((rd_T58 l0 x3_1).f2) ≤ 13)) ((rd_T58 l0 x3_1).f0.f0) ((rd_T58 l0 x3_1).f0.f1) ((rd_T58 l0 x3_1).f0.f2) ((rd_T58 l0 x3_1).f1.f0) ((rd_T58 l0 x3_1).f1.f1) ((rd_T58 l0 x3_1).f1.f2) ((rd_T58 l0 x3_1).f2) 0 0 (⟨#[]⟩ : ByteArray)) else (cadastrelaw4_ArithExact.j2 kj1 l0 x3_1 1 false ((rd_T58 l0 x3_1).f0.f0) ((rd_T58 l0 x3_1).f0.f1) ((rd_T58 l0 x3_1).f0.f2) ((rd_T58 l0 x3_1).f1.f0) ((rd_T58 l0 x3_1).f1.f1) ((rd_T58 l0 x3_1).f1.f2) ((rd_T58 l0 x3_1).f2) 0 0 (⟨#[]⟩ : ByteArray))) = some r := by rw [if_pos rfl] at H; exact H
                  clear H
                  have H := H1
                  clear H1
                  by_cases c17 : ((rd_T58 l0 x3_1).f2) ≥ 9
                  rotate_left
                  · rw [if_neg c17] at H
                    have c17b0 : decide (9 ≤ ((rd_T58 l0 x3_1).f2)) = false := decide_eq_false c17
                    clear c17
                    (first | rw [c17b0] | (simp only [i64_w, i32_w]; rw [c17b0]) | skip)
                    have H' := Aside0.mk H
                    clear H
                    have hnb18 := NB191_192.out
                    have hnc18 := NB192_191.out
                    have hcz19_0 : w10.cell? ⟨gb191, 0, none⟩ = some (.int .i64 ((rd_T58 l0 x3_1).f0.f0)) := (blk_cell BK191.out 0).trans rfl
                    have hcz19_1 : w10.cell? ⟨gb191, 1, none⟩ = some (.int .i64 ((rd_T58 l0 x3_1).f0.f1)) := (blk_cell BK191.out 1).trans rfl
                    have hcz19_2 : w10.cell? ⟨gb191, 2, none⟩ = some (.string ((rd_T58 l0 x3_1).f0.f2)) := (blk_cell BK191.out 2).trans rfl
                    have hcz19_3 : w10.cell? ⟨gb191, 3, none⟩ = some (.int .i64 ((rd_T58 l0 x3_1).f1.f0)) := (blk_cell BK191.out 3).trans rfl
                    have hcz19_4 : w10.cell? ⟨gb191, 4, none⟩ = some (.int .i64 ((rd_T58 l0 x3_1).f1.f1)) := (blk_cell BK191.out 4).trans rfl
                    have hcz19_5 : w10.cell? ⟨gb191, 5, none⟩ = some (.string ((rd_T58 l0 x3_1).f1.f2)) := (blk_cell BK191.out 5).trans rfl
                    have hcz19_6 : w10.cell? ⟨gb191, 6, none⟩ = some (.int .i64 ((rd_T58 l0 x3_1).f2)) := (blk_cell BK191.out 6).trans rfl
                    have hfz19_0 := blk_frozen BK191.out 0
                    have hfz19_1 := blk_frozen BK191.out 1
                    have hfz19_2 := blk_frozen BK191.out 2
                    have hfz19_3 := blk_frozen BK191.out 3
                    have hfz19_4 := blk_frozen BK191.out 4
                    have hfz19_5 := blk_frozen BK191.out 5
                    have hfz19_6 := blk_frozen BK191.out 6
                    go_wp2_with (first | ((with_reducible refine gate_callee (f := 31) rfl ?_); refine goesL_ (some 30) rfl rfl Try.func31 (by kernel_rfl) rfl #[.agg #[.int .i64 ((rd_T58 l0 x3_1).f0.f0), .int .i64 ((rd_T58 l0 x3_1).f0.f1), .string ((rd_T58 l0 x3_1).f0.f2)]] rfl (by (try simp only [List.map_toArray, List.map_cons, List.map_nil]); first | done | rfl | (simp only [List.length_drop, List.length_take]; rfl)) ?_; (with_reducible refine (cadastreref2_May.calls ((rd_T58 l0 x3_1).f0.f0) ((rd_T58 l0 x3_1).f0.f1) ((rd_T58 l0 x3_1).f0.f2) true _ A13.out).mono ?_); rintro e w20 ⟨rfl, hb⟩; refine ⟨_, rfl, ?_⟩; have n0_ := Aside0.mk (blk_below (g := gb191) (o := .cells #[.int .i64 ((rd_T58 l0 x3_1).f0.f0), .int .i64 ((rd_T58 l0 x3_1).f0.f1), .string ((rd_T58 l0 x3_1).f0.f2), .int .i64 ((rd_T58 l0 x3_1).f1.f0), .int .i64 ((rd_T58 l0 x3_1).f1.f1), .string ((rd_T58 l0 x3_1).f1.f2), .int .i64 ((rd_T58 l0 x3_1).f2)] 58 (0, 0)) (by (with_reducible repeat (first | refine blk_drewN ?_ _ | refine blk_drew ?_ | refine blk_alloc ?_ _)); refine blk_far ?_ NB191_192.out _; (with_reducible repeat (first | refine blk_drewN ?_ _ | refine blk_drew ?_ | refine blk_alloc ?_ _)); refine blk_far ?_ NB191_192.out _; (with_reducible repeat (first | refine blk_drewN ?_ _ | refine blk_drew ?_ | refine blk_alloc ?_ _)); refine blk_far ?_ NB191_192.out _; (with_reducible repeat (first | refine blk_drewN ?_ _ | refine blk_drew ?_ | refine blk_alloc ?_ _)); exact BK191.out) hb); have n1_ := Aside0.mk (blk_below (g := gb192) (o := .cells #[.int .i64 0, .int .i64 0, .string (⟨#[]⟩ : ByteArray)] 24 (0, 0)) (by (with_reducible repeat (first | refine blk_drewN ?_ _ | refine blk_drew ?_ | refine blk_alloc ?_ _)); refine blk_put (cs := #[.int .i64 0, .int .i64 0, .string (⟨#[]⟩ : ByteArray)]) ?_ 2 _ rfl; (with_reducible repeat (first | refine blk_drewN ?_ _ | refine blk_drew ?_ | refine blk_alloc ?_ _)); refine blk_put (cs := #[.int .i64 0, .int .i64 0, .string (⟨#[]⟩ : ByteArray)]) ?_ 1 _ rfl; (with_reducible repeat (first | refine blk_drewN ?_ _ | refine blk_drew ?_ | refine blk_alloc ?_ _)); refine blk_put (cs := #[.int .i64 0, .int .i64 0, .string (⟨#[]⟩ : ByteArray)]) ?_ 0 _ rfl; (with_reducible repeat (first | refine blk_drewN ?_ _ | refine blk_drew ?_ | refine blk_alloc ?_ _)); exact BK192.out) hb); have n2_ := Aside0.mk (below_step (by repeat (first | (with_reducible first | exact HB.out | apply below_alloc | apply pw_below_drewN | apply below_drew1 | refine below_set ?_ GE191.out | refine below_set ?_ GE192.out) | exact HB.out)) hb); clear BK191; clear BK192; clear HB; have BK191 := n0_; have BK192 := n1_; have HB := n2_; clear n0_ n1_ n2_; (try clear hb); (try clear hb2); (try clear hk); (try clear hi); have hcz21_0 : w20.cell? ⟨gb191, 0, none⟩ = some (.int .i64 ((rd_T58 l0 x3_1).f0.f0)) := (blk_cell BK191.out 0).trans rfl; have hcz21_1 : w20.cell? ⟨gb191, 1, none⟩ = some (.int .i64 ((rd_T58 l0 x3_1).f0.f1)) := (blk_cell BK191.out 1).trans rfl; have hcz21_2 : w20.cell? ⟨gb191, 2, none⟩ = some (.string ((rd_T58 l0 x3_1).f0.f2)) := (blk_cell BK191.out 2).trans rfl; have hcz21_3 : w20.cell? ⟨gb191, 3, none⟩ = some (.int .i64 ((rd_T58 l0 x3_1).f1.f0)) := (blk_cell BK191.out 3).trans rfl; have hcz21_4 : w20.cell? ⟨gb191, 4, none⟩ = some (.int .i64 ((rd_T58 l0 x3_1).f1.f1)) := (blk_cell BK191.out 4).trans rfl; have hcz21_5 : w20.cell? ⟨gb191, 5, none⟩ = some (.string ((rd_T58 l0 x3_1).f1.f2)) := (blk_cell BK191.out 5).trans rfl; have hcz21_6 : w20.cell? ⟨gb191, 6, none⟩ = some (.int .i64 ((rd_T58 l0 x3_1).f2)) := (blk_cell BK191.out 6).trans rfl; have hfz21_0 := blk_frozen BK191.out 0; have hfz21_1 := blk_frozen BK191.out 1; have hfz21_2 := blk_frozen BK191.out 2; have hfz21_3 := blk_frozen BK191.out 3; have hfz21_4 := blk_frozen BK191.out 4; have hfz21_5 := blk_frozen BK191.out 5; have hfz21_6 := blk_frozen BK191.out 6) | (go_at_call 31; (with_reducible refine (cadastreref2_May.calls ((rd_T58 l0 x3_1).f1.f0) ((rd_T58 l0 x3_1).f1.f1) ((rd_T58 l0 x3_1).f1.f2) true _ A15.out).mono ?_); rintro e w22 ⟨rfl, hb⟩; have n0_ := Aside0.mk (blk_below (g := gb191) (o := .cells #[.int .i64 ((rd_T58 l0 x3_1).f0.f0), .int .i64 ((rd_T58 l0 x3_1).f0.f1), .string ((rd_T58 l0 x3_1).f0.f2), .int .i64 ((rd_T58 l0 x3_1).f1.f0), .int .i64 ((rd_T58 l0 x3_1).f1.f1), .string ((rd_T58 l0 x3_1).f1.f2), .int .i64 ((rd_T58 l0 x3_1).f2)] 58 (0, 0)) (by (with_reducible repeat (first | refine blk_drewN ?_ _ | refine blk_drew ?_ | refine blk_alloc ?_ _)); exact BK191.out) hb); have n1_ := Aside0.mk (blk_below (g := gb192) (o := .cells #[.int .i64 0, .int .i64 0, .string (⟨#[]⟩ : ByteArray)] 24 (0, 0)) (by (with_reducible repeat (first | refine blk_drewN ?_ _ | refine blk_drew ?_ | refine blk_alloc ?_ _)); exact BK192.out) hb); have n2_ := Aside0.mk (below_step (by repeat (first | (with_reducible first | exact HB.out | apply below_alloc | apply pw_below_drewN | apply below_drew1 | refine below_set ?_ GE191.out | refine below_set ?_ GE192.out) | exact HB.out)) hb); clear BK191; clear BK192; clear HB; have BK191 := n0_; have BK192 := n1_; have HB := n2_; clear n0_ n1_ n2_; (try clear hb); (try clear hb2); (try clear hk); (try clear hi); (try clear A15); have hcz23_0 : w22.cell? ⟨gb191, 0, none⟩ = some (.int .i64 ((rd_T58 l0 x3_1).f0.f0)) := (blk_cell BK191.out 0).trans rfl; have hcz23_1 : w22.cell? ⟨gb191, 1, none⟩ = some (.int .i64 ((rd_T58 l0 x3_1).f0.f1)) := (blk_cell BK191.out 1).trans rfl; have hcz23_2 : w22.cell? ⟨gb191, 2, none⟩ = some (.string ((rd_T58 l0 x3_1).f0.f2)) := (blk_cell BK191.out 2).trans rfl; have hcz23_3 : w22.cell? ⟨gb191, 3, none⟩ = some (.int .i64 ((rd_T58 l0 x3_1).f1.f0)) := (blk_cell BK191.out 3).trans rfl; have hcz23_4 : w22.cell? ⟨gb191, 4, none⟩ = some (.int .i64 ((rd_T58 l0 x3_1).f1.f1)) := (blk_cell BK191.out 4).trans rfl; have hcz23_5 : w22.cell? ⟨gb191, 5, none⟩ = some (.string ((rd_T58 l0 x3_1).f1.f2)) := (blk_cell BK191.out 5).trans rfl; have hcz23_6 : w22.cell? ⟨gb191, 6, none⟩ = some (.int .i64 ((rd_T58 l0 x3_1).f2)) := (blk_cell BK191.out 6).trans rfl; have hfz23_0 := blk_frozen BK191.out 0; have hfz23_1 := blk_frozen BK191.out 1; have hfz23_2 := blk_frozen BK191.out 2; have hfz23_3 := blk_frozen BK191.out 3; have hfz23_4 := blk_frozen BK191.out 4; have hfz23_5 := blk_frozen BK191.out 5; have hfz23_6 := blk_frozen BK191.out 6))
                    go_meet
                    case rel => exact ⟨_, (false), (by first | rfl | (simp; done) | (simp [*]; done)), H', ⟨by have := HK1.out; have := HJ1.out; first | omega | exact Nat.le_refl _⟩, ⟨by (with_reducible repeat (first | refine blk_drewN ?_ _ | refine blk_drew ?_ | refine blk_alloc ?_ _)); exact BK191.out⟩, ⟨by (with_reducible repeat (first | refine blk_drewN ?_ _ | refine blk_drew ?_ | refine blk_alloc ?_ _)); exact BK192.out⟩, ⟨by repeat (first | (with_reducible first | exact HB.out | apply below_alloc | apply pw_below_drewN | apply below_drew1 | refine below_set ?_ GE191.out | refine below_set ?_ GE192.out) | exact HB.out)⟩⟩
                  rw [if_pos c17] at H
                  have c17b0 : decide (9 ≤ ((rd_T58 l0 x3_1).f2)) = true := decide_eq_true c17
                  clear c17
                  (first | rw [c17b0] | (simp only [i64_w, i32_w]; rw [c17b0]) | skip)
                  have H' := Aside0.mk H
                  clear H
                  have hnb24 := NB191_192.out
                  have hnc24 := NB192_191.out
                  have hcz25_0 : w10.cell? ⟨gb191, 0, none⟩ = some (.int .i64 ((rd_T58 l0 x3_1).f0.f0)) := (blk_cell BK191.out 0).trans rfl
                  have hcz25_1 : w10.cell? ⟨gb191, 1, none⟩ = some (.int .i64 ((rd_T58 l0 x3_1).f0.f1)) := (blk_cell BK191.out 1).trans rfl
                  have hcz25_2 : w10.cell? ⟨gb191, 2, none⟩ = some (.string ((rd_T58 l0 x3_1).f0.f2)) := (blk_cell BK191.out 2).trans rfl
                  have hcz25_3 : w10.cell? ⟨gb191, 3, none⟩ = some (.int .i64 ((rd_T58 l0 x3_1).f1.f0)) := (blk_cell BK191.out 3).trans rfl
                  have hcz25_4 : w10.cell? ⟨gb191, 4, none⟩ = some (.int .i64 ((rd_T58 l0 x3_1).f1.f1)) := (blk_cell BK191.out 4).trans rfl
                  have hcz25_5 : w10.cell? ⟨gb191, 5, none⟩ = some (.string ((rd_T58 l0 x3_1).f1.f2)) := (blk_cell BK191.out 5).trans rfl
                  have hcz25_6 : w10.cell? ⟨gb191, 6, none⟩ = some (.int .i64 ((rd_T58 l0 x3_1).f2)) := (blk_cell BK191.out 6).trans rfl
                  have hfz25_0 := blk_frozen BK191.out 0
                  have hfz25_1 := blk_frozen BK191.out 1
                  have hfz25_2 := blk_frozen BK191.out 2
                  have hfz25_3 := blk_frozen BK191.out 3
                  have hfz25_4 := blk_frozen BK191.out 4
                  have hfz25_5 := blk_frozen BK191.out 5
                  have hfz25_6 := blk_frozen BK191.out 6
                  go_wp2_with (first | ((with_reducible refine gate_callee (f := 31) rfl ?_); refine goesL_ (some 30) rfl rfl Try.func31 (by kernel_rfl) rfl #[.agg #[.int .i64 ((rd_T58 l0 x3_1).f0.f0), .int .i64 ((rd_T58 l0 x3_1).f0.f1), .string ((rd_T58 l0 x3_1).f0.f2)]] rfl (by (try simp only [List.map_toArray, List.map_cons, List.map_nil]); first | done | rfl | (simp only [List.length_drop, List.length_take]; rfl)) ?_; (with_reducible refine (cadastreref2_May.calls ((rd_T58 l0 x3_1).f0.f0) ((rd_T58 l0 x3_1).f0.f1) ((rd_T58 l0 x3_1).f0.f2) true _ A13.out).mono ?_); rintro e w26 ⟨rfl, hb⟩; refine ⟨_, rfl, ?_⟩; have n0_ := Aside0.mk (blk_below (g := gb191) (o := .cells #[.int .i64 ((rd_T58 l0 x3_1).f0.f0), .int .i64 ((rd_T58 l0 x3_1).f0.f1), .string ((rd_T58 l0 x3_1).f0.f2), .int .i64 ((rd_T58 l0 x3_1).f1.f0), .int .i64 ((rd_T58 l0 x3_1).f1.f1), .string ((rd_T58 l0 x3_1).f1.f2), .int .i64 ((rd_T58 l0 x3_1).f2)] 58 (0, 0)) (by (with_reducible repeat (first | refine blk_drewN ?_ _ | refine blk_drew ?_ | refine blk_alloc ?_ _)); refine blk_far ?_ NB191_192.out _; (with_reducible repeat (first | refine blk_drewN ?_ _ | refine blk_drew ?_ | refine blk_alloc ?_ _)); refine blk_far ?_ NB191_192.out _; (with_reducible repeat (first | refine blk_drewN ?_ _ | refine blk_drew ?_ | refine blk_alloc ?_ _)); refine blk_far ?_ NB191_192.out _; (with_reducible repeat (first | refine blk_drewN ?_ _ | refine blk_drew ?_ | refine blk_alloc ?_ _)); exact BK191.out) hb); have n1_ := Aside0.mk (blk_below (g := gb192) (o := .cells #[.int .i64 0, .int .i64 0, .string (⟨#[]⟩ : ByteArray)] 24 (0, 0)) (by (with_reducible repeat (first | refine blk_drewN ?_ _ | refine blk_drew ?_ | refine blk_alloc ?_ _)); refine blk_put (cs := #[.int .i64 0, .int .i64 0, .string (⟨#[]⟩ : ByteArray)]) ?_ 2 _ rfl; (with_reducible repeat (first | refine blk_drewN ?_ _ | refine blk_drew ?_ | refine blk_alloc ?_ _)); refine blk_put (cs := #[.int .i64 0, .int .i64 0, .string (⟨#[]⟩ : ByteArray)]) ?_ 1 _ rfl; (with_reducible repeat (first | refine blk_drewN ?_ _ | refine blk_drew ?_ | refine blk_alloc ?_ _)); refine blk_put (cs := #[.int .i64 0, .int .i64 0, .string (⟨#[]⟩ : ByteArray)]) ?_ 0 _ rfl; (with_reducible repeat (first | refine blk_drewN ?_ _ | refine blk_drew ?_ | refine blk_alloc ?_ _)); exact BK192.out) hb); have n2_ := Aside0.mk (below_step (by repeat (first | (with_reducible first | exact HB.out | apply below_alloc | apply pw_below_drewN | apply below_drew1 | refine below_set ?_ GE191.out | refine below_set ?_ GE192.out) | exact HB.out)) hb); clear BK191; clear BK192; clear HB; have BK191 := n0_; have BK192 := n1_; have HB := n2_; clear n0_ n1_ n2_; (try clear hb); (try clear hb2); (try clear hk); (try clear hi); have hcz27_0 : w26.cell? ⟨gb191, 0, none⟩ = some (.int .i64 ((rd_T58 l0 x3_1).f0.f0)) := (blk_cell BK191.out 0).trans rfl; have hcz27_1 : w26.cell? ⟨gb191, 1, none⟩ = some (.int .i64 ((rd_T58 l0 x3_1).f0.f1)) := (blk_cell BK191.out 1).trans rfl; have hcz27_2 : w26.cell? ⟨gb191, 2, none⟩ = some (.string ((rd_T58 l0 x3_1).f0.f2)) := (blk_cell BK191.out 2).trans rfl; have hcz27_3 : w26.cell? ⟨gb191, 3, none⟩ = some (.int .i64 ((rd_T58 l0 x3_1).f1.f0)) := (blk_cell BK191.out 3).trans rfl; have hcz27_4 : w26.cell? ⟨gb191, 4, none⟩ = some (.int .i64 ((rd_T58 l0 x3_1).f1.f1)) := (blk_cell BK191.out 4).trans rfl; have hcz27_5 : w26.cell? ⟨gb191, 5, none⟩ = some (.string ((rd_T58 l0 x3_1).f1.f2)) := (blk_cell BK191.out 5).trans rfl; have hcz27_6 : w26.cell? ⟨gb191, 6, none⟩ = some (.int .i64 ((rd_T58 l0 x3_1).f2)) := (blk_cell BK191.out 6).trans rfl; have hfz27_0 := blk_frozen BK191.out 0; have hfz27_1 := blk_frozen BK191.out 1; have hfz27_2 := blk_frozen BK191.out 2; have hfz27_3 := blk_frozen BK191.out 3; have hfz27_4 := blk_frozen BK191.out 4; have hfz27_5 := blk_frozen BK191.out 5; have hfz27_6 := blk_frozen BK191.out 6) | (go_at_call 31; (with_reducible refine (cadastreref2_May.calls ((rd_T58 l0 x3_1).f1.f0) ((rd_T58 l0 x3_1).f1.f1) ((rd_T58 l0 x3_1).f1.f2) true _ A15.out).mono ?_); rintro e w28 ⟨rfl, hb⟩; have n0_ := Aside0.mk (blk_below (g := gb191) (o := .cells #[.int .i64 ((rd_T58 l0 x3_1).f0.f0), .int .i64 ((rd_T58 l0 x3_1).f0.f1), .string ((rd_T58 l0 x3_1).f0.f2), .int .i64 ((rd_T58 l0 x3_1).f1.f0), .int .i64 ((rd_T58 l0 x3_1).f1.f1), .string ((rd_T58 l0 x3_1).f1.f2), .int .i64 ((rd_T58 l0 x3_1).f2)] 58 (0, 0)) (by (with_reducible repeat (first | refine blk_drewN ?_ _ | refine blk_drew ?_ | refine blk_alloc ?_ _)); exact BK191.out) hb); have n1_ := Aside0.mk (blk_below (g := gb192) (o := .cells #[.int .i64 0, .int .i64 0, .string (⟨#[]⟩ : ByteArray)] 24 (0, 0)) (by (with_reducible repeat (first | refine blk_drewN ?_ _ | refine blk_drew ?_ | refine blk_alloc ?_ _)); exact BK192.out) hb); have n2_ := Aside0.mk (below_step (by repeat (first | (with_reducible first | exact HB.out | apply below_alloc | apply pw_below_drewN | apply below_drew1 | refine below_set ?_ GE191.out | refine below_set ?_ GE192.out) | exact HB.out)) hb); clear BK191; clear BK192; clear HB; have BK191 := n0_; have BK192 := n1_; have HB := n2_; clear n0_ n1_ n2_; (try clear hb); (try clear hb2); (try clear hk); (try clear hi); (try clear A15); have hcz29_0 : w28.cell? ⟨gb191, 0, none⟩ = some (.int .i64 ((rd_T58 l0 x3_1).f0.f0)) := (blk_cell BK191.out 0).trans rfl; have hcz29_1 : w28.cell? ⟨gb191, 1, none⟩ = some (.int .i64 ((rd_T58 l0 x3_1).f0.f1)) := (blk_cell BK191.out 1).trans rfl; have hcz29_2 : w28.cell? ⟨gb191, 2, none⟩ = some (.string ((rd_T58 l0 x3_1).f0.f2)) := (blk_cell BK191.out 2).trans rfl; have hcz29_3 : w28.cell? ⟨gb191, 3, none⟩ = some (.int .i64 ((rd_T58 l0 x3_1).f1.f0)) := (blk_cell BK191.out 3).trans rfl; have hcz29_4 : w28.cell? ⟨gb191, 4, none⟩ = some (.int .i64 ((rd_T58 l0 x3_1).f1.f1)) := (blk_cell BK191.out 4).trans rfl; have hcz29_5 : w28.cell? ⟨gb191, 5, none⟩ = some (.string ((rd_T58 l0 x3_1).f1.f2)) := (blk_cell BK191.out 5).trans rfl; have hcz29_6 : w28.cell? ⟨gb191, 6, none⟩ = some (.int .i64 ((rd_T58 l0 x3_1).f2)) := (blk_cell BK191.out 6).trans rfl; have hfz29_0 := blk_frozen BK191.out 0; have hfz29_1 := blk_frozen BK191.out 1; have hfz29_2 := blk_frozen BK191.out 2; have hfz29_3 := blk_frozen BK191.out 3; have hfz29_4 := blk_frozen BK191.out 4; have hfz29_5 := blk_frozen BK191.out 5; have hfz29_6 := blk_frozen BK191.out 6))
                  go_meet
                  case rel => exact ⟨_, (decide (((rd_T58 l0 x3_1).f2) ≤ 13)), (by first | rfl | (simp; done) | (simp [*]; done)), H', ⟨by have := HK1.out; have := HJ1.out; first | omega | exact Nat.le_refl _⟩, ⟨by (with_reducible repeat (first | refine blk_drewN ?_ _ | refine blk_drew ?_ | refine blk_alloc ?_ _)); exact BK191.out⟩, ⟨by (with_reducible repeat (first | refine blk_drewN ?_ _ | refine blk_drew ?_ | refine blk_alloc ?_ _)); exact BK192.out⟩, ⟨by repeat (first | (with_reducible first | exact HB.out | apply below_alloc | apply pw_below_drewN | apply below_drew1 | refine below_set ?_ GE191.out | refine below_set ?_ GE192.out) | exact HB.out)⟩⟩
                · replace c16 := Bool.eq_false_iff.mpr c16
                  subst c16
                  have H1 : (cadastrelaw4_ArithExact.j2 kj1 l0 x3_1 1 false ((rd_T58 l0 x3_1).f0.f0) ((rd_T58 l0 x3_1).f0.f1) ((rd_T58 l0 x3_1).f0.f2) ((rd_T58 l0 x3_1).f1.f0) ((rd_T58 l0 x3_1).f1.f1) ((rd_T58 l0 x3_1).f1.f2) ((rd_T58 l0 x3_1).f2) 0 0 (⟨#[]⟩ : ByteArray)) = some r := by rw [if_neg (show ¬ (false = true) by decide)] at H; exact H
                  clear H
                  have H := H1
                  clear H1
                  have H' := Aside0.mk H
                  clear H
                  have hnb30 := NB191_192.out
                  have hnc30 := NB192_191.out
                  have hcz31_0 : w10.cell? ⟨gb191, 0, none⟩ = some (.int .i64 ((rd_T58 l0 x3_1).f0.f0)) := (blk_cell BK191.out 0).trans rfl
                  have hcz31_1 : w10.cell? ⟨gb191, 1, none⟩ = some (.int .i64 ((rd_T58 l0 x3_1).f0.f1)) := (blk_cell BK191.out 1).trans rfl
                  have hcz31_2 : w10.cell? ⟨gb191, 2, none⟩ = some (.string ((rd_T58 l0 x3_1).f0.f2)) := (blk_cell BK191.out 2).trans rfl
                  have hcz31_3 : w10.cell? ⟨gb191, 3, none⟩ = some (.int .i64 ((rd_T58 l0 x3_1).f1.f0)) := (blk_cell BK191.out 3).trans rfl
                  have hcz31_4 : w10.cell? ⟨gb191, 4, none⟩ = some (.int .i64 ((rd_T58 l0 x3_1).f1.f1)) := (blk_cell BK191.out 4).trans rfl
                  have hcz31_5 : w10.cell? ⟨gb191, 5, none⟩ = some (.string ((rd_T58 l0 x3_1).f1.f2)) := (blk_cell BK191.out 5).trans rfl
                  have hcz31_6 : w10.cell? ⟨gb191, 6, none⟩ = some (.int .i64 ((rd_T58 l0 x3_1).f2)) := (blk_cell BK191.out 6).trans rfl
                  have hfz31_0 := blk_frozen BK191.out 0
                  have hfz31_1 := blk_frozen BK191.out 1
                  have hfz31_2 := blk_frozen BK191.out 2
                  have hfz31_3 := blk_frozen BK191.out 3
                  have hfz31_4 := blk_frozen BK191.out 4
                  have hfz31_5 := blk_frozen BK191.out 5
                  have hfz31_6 := blk_frozen BK191.out 6
                  go_wp2_with (first | ((with_reducible refine gate_callee (f := 31) rfl ?_); refine goesL_ (some 30) rfl rfl Try.func31 (by kernel_rfl) rfl #[.agg #[.int .i64 ((rd_T58 l0 x3_1).f0.f0), .int .i64 ((rd_T58 l0 x3_1).f0.f1), .string ((rd_T58 l0 x3_1).f0.f2)]] rfl (by (try simp only [List.map_toArray, List.map_cons, List.map_nil]); first | done | rfl | (simp only [List.length_drop, List.length_take]; rfl)) ?_; (with_reducible refine (cadastreref2_May.calls ((rd_T58 l0 x3_1).f0.f0) ((rd_T58 l0 x3_1).f0.f1) ((rd_T58 l0 x3_1).f0.f2) true _ A13.out).mono ?_); rintro e w32 ⟨rfl, hb⟩; refine ⟨_, rfl, ?_⟩; have n0_ := Aside0.mk (blk_below (g := gb191) (o := .cells #[.int .i64 ((rd_T58 l0 x3_1).f0.f0), .int .i64 ((rd_T58 l0 x3_1).f0.f1), .string ((rd_T58 l0 x3_1).f0.f2), .int .i64 ((rd_T58 l0 x3_1).f1.f0), .int .i64 ((rd_T58 l0 x3_1).f1.f1), .string ((rd_T58 l0 x3_1).f1.f2), .int .i64 ((rd_T58 l0 x3_1).f2)] 58 (0, 0)) (by (with_reducible repeat (first | refine blk_drewN ?_ _ | refine blk_drew ?_ | refine blk_alloc ?_ _)); refine blk_far ?_ NB191_192.out _; (with_reducible repeat (first | refine blk_drewN ?_ _ | refine blk_drew ?_ | refine blk_alloc ?_ _)); refine blk_far ?_ NB191_192.out _; (with_reducible repeat (first | refine blk_drewN ?_ _ | refine blk_drew ?_ | refine blk_alloc ?_ _)); refine blk_far ?_ NB191_192.out _; (with_reducible repeat (first | refine blk_drewN ?_ _ | refine blk_drew ?_ | refine blk_alloc ?_ _)); exact BK191.out) hb); have n1_ := Aside0.mk (blk_below (g := gb192) (o := .cells #[.int .i64 0, .int .i64 0, .string (⟨#[]⟩ : ByteArray)] 24 (0, 0)) (by (with_reducible repeat (first | refine blk_drewN ?_ _ | refine blk_drew ?_ | refine blk_alloc ?_ _)); refine blk_put (cs := #[.int .i64 0, .int .i64 0, .string (⟨#[]⟩ : ByteArray)]) ?_ 2 _ rfl; (with_reducible repeat (first | refine blk_drewN ?_ _ | refine blk_drew ?_ | refine blk_alloc ?_ _)); refine blk_put (cs := #[.int .i64 0, .int .i64 0, .string (⟨#[]⟩ : ByteArray)]) ?_ 1 _ rfl; (with_reducible repeat (first | refine blk_drewN ?_ _ | refine blk_drew ?_ | refine blk_alloc ?_ _)); refine blk_put (cs := #[.int .i64 0, .int .i64 0, .string (⟨#[]⟩ : ByteArray)]) ?_ 0 _ rfl; (with_reducible repeat (first | refine blk_drewN ?_ _ | refine blk_drew ?_ | refine blk_alloc ?_ _)); exact BK192.out) hb); have n2_ := Aside0.mk (below_step (by repeat (first | (with_reducible first | exact HB.out | apply below_alloc | apply pw_below_drewN | apply below_drew1 | refine below_set ?_ GE191.out | refine below_set ?_ GE192.out) | exact HB.out)) hb); clear BK191; clear BK192; clear HB; have BK191 := n0_; have BK192 := n1_; have HB := n2_; clear n0_ n1_ n2_; (try clear hb); (try clear hb2); (try clear hk); (try clear hi); have hcz33_0 : w32.cell? ⟨gb191, 0, none⟩ = some (.int .i64 ((rd_T58 l0 x3_1).f0.f0)) := (blk_cell BK191.out 0).trans rfl; have hcz33_1 : w32.cell? ⟨gb191, 1, none⟩ = some (.int .i64 ((rd_T58 l0 x3_1).f0.f1)) := (blk_cell BK191.out 1).trans rfl; have hcz33_2 : w32.cell? ⟨gb191, 2, none⟩ = some (.string ((rd_T58 l0 x3_1).f0.f2)) := (blk_cell BK191.out 2).trans rfl; have hcz33_3 : w32.cell? ⟨gb191, 3, none⟩ = some (.int .i64 ((rd_T58 l0 x3_1).f1.f0)) := (blk_cell BK191.out 3).trans rfl; have hcz33_4 : w32.cell? ⟨gb191, 4, none⟩ = some (.int .i64 ((rd_T58 l0 x3_1).f1.f1)) := (blk_cell BK191.out 4).trans rfl; have hcz33_5 : w32.cell? ⟨gb191, 5, none⟩ = some (.string ((rd_T58 l0 x3_1).f1.f2)) := (blk_cell BK191.out 5).trans rfl; have hcz33_6 : w32.cell? ⟨gb191, 6, none⟩ = some (.int .i64 ((rd_T58 l0 x3_1).f2)) := (blk_cell BK191.out 6).trans rfl; have hfz33_0 := blk_frozen BK191.out 0; have hfz33_1 := blk_frozen BK191.out 1; have hfz33_2 := blk_frozen BK191.out 2; have hfz33_3 := blk_frozen BK191.out 3; have hfz33_4 := blk_frozen BK191.out 4; have hfz33_5 := blk_frozen BK191.out 5; have hfz33_6 := blk_frozen BK191.out 6) | (go_at_call 31; (with_reducible refine (cadastreref2_May.calls ((rd_T58 l0 x3_1).f1.f0) ((rd_T58 l0 x3_1).f1.f1) ((rd_T58 l0 x3_1).f1.f2) false _ A15.out).mono ?_); rintro e w34 ⟨rfl, hb⟩; have n0_ := Aside0.mk (blk_below (g := gb191) (o := .cells #[.int .i64 ((rd_T58 l0 x3_1).f0.f0), .int .i64 ((rd_T58 l0 x3_1).f0.f1), .string ((rd_T58 l0 x3_1).f0.f2), .int .i64 ((rd_T58 l0 x3_1).f1.f0), .int .i64 ((rd_T58 l0 x3_1).f1.f1), .string ((rd_T58 l0 x3_1).f1.f2), .int .i64 ((rd_T58 l0 x3_1).f2)] 58 (0, 0)) (by (with_reducible repeat (first | refine blk_drewN ?_ _ | refine blk_drew ?_ | refine blk_alloc ?_ _)); exact BK191.out) hb); have n1_ := Aside0.mk (blk_below (g := gb192) (o := .cells #[.int .i64 0, .int .i64 0, .string (⟨#[]⟩ : ByteArray)] 24 (0, 0)) (by (with_reducible repeat (first | refine blk_drewN ?_ _ | refine blk_drew ?_ | refine blk_alloc ?_ _)); exact BK192.out) hb); have n2_ := Aside0.mk (below_step (by repeat (first | (with_reducible first | exact HB.out | apply below_alloc | apply pw_below_drewN | apply below_drew1 | refine below_set ?_ GE191.out | refine below_set ?_ GE192.out) | exact HB.out)) hb); clear BK191; clear BK192; clear HB; have BK191 := n0_; have BK192 := n1_; have HB := n2_; clear n0_ n1_ n2_; (try clear hb); (try clear hb2); (try clear hk); (try clear hi); (try clear A15)))
                  go_meet
                  case rel => exact ⟨_, (false), (by first | rfl | (simp; done) | (simp [*]; done)), H', ⟨by have := HK1.out; have := HJ1.out; first | omega | exact Nat.le_refl _⟩, ⟨by (with_reducible repeat (first | refine blk_drewN ?_ _ | refine blk_drew ?_ | refine blk_alloc ?_ _)); exact BK191.out⟩, ⟨by (with_reducible repeat (first | refine blk_drewN ?_ _ | refine blk_drew ?_ | refine blk_alloc ?_ _)); exact BK192.out⟩, ⟨by repeat (first | (with_reducible first | exact HB.out | apply below_alloc | apply pw_below_drewN | apply below_drew1 | refine below_set ?_ GE191.out | refine below_set ?_ GE192.out) | exact HB.out)⟩⟩
              · replace c14 := Bool.eq_false_iff.mpr c14
                subst c14
                have H1 : (cadastrelaw4_ArithExact.j2 kj1 l0 x3_1 1 false ((rd_T58 l0 x3_1).f0.f0) ((rd_T58 l0 x3_1).f0.f1) ((rd_T58 l0 x3_1).f0.f2) ((rd_T58 l0 x3_1).f1.f0) ((rd_T58 l0 x3_1).f1.f1) ((rd_T58 l0 x3_1).f1.f2) ((rd_T58 l0 x3_1).f2) 0 0 (⟨#[]⟩ : ByteArray)) = some r := by rw [if_neg (show ¬ (false = true) by decide)] at H; exact H
                clear H
                have H := H1
                clear H1
                have H' := Aside0.mk H
                clear H
                have hnb35 := NB191_192.out
                have hnc35 := NB192_191.out
                have hcz36_0 : w10.cell? ⟨gb191, 0, none⟩ = some (.int .i64 ((rd_T58 l0 x3_1).f0.f0)) := (blk_cell BK191.out 0).trans rfl
                have hcz36_1 : w10.cell? ⟨gb191, 1, none⟩ = some (.int .i64 ((rd_T58 l0 x3_1).f0.f1)) := (blk_cell BK191.out 1).trans rfl
                have hcz36_2 : w10.cell? ⟨gb191, 2, none⟩ = some (.string ((rd_T58 l0 x3_1).f0.f2)) := (blk_cell BK191.out 2).trans rfl
                have hcz36_3 : w10.cell? ⟨gb191, 3, none⟩ = some (.int .i64 ((rd_T58 l0 x3_1).f1.f0)) := (blk_cell BK191.out 3).trans rfl
                have hcz36_4 : w10.cell? ⟨gb191, 4, none⟩ = some (.int .i64 ((rd_T58 l0 x3_1).f1.f1)) := (blk_cell BK191.out 4).trans rfl
                have hcz36_5 : w10.cell? ⟨gb191, 5, none⟩ = some (.string ((rd_T58 l0 x3_1).f1.f2)) := (blk_cell BK191.out 5).trans rfl
                have hcz36_6 : w10.cell? ⟨gb191, 6, none⟩ = some (.int .i64 ((rd_T58 l0 x3_1).f2)) := (blk_cell BK191.out 6).trans rfl
                have hfz36_0 := blk_frozen BK191.out 0
                have hfz36_1 := blk_frozen BK191.out 1
                have hfz36_2 := blk_frozen BK191.out 2
                have hfz36_3 := blk_frozen BK191.out 3
                have hfz36_4 := blk_frozen BK191.out 4
                have hfz36_5 := blk_frozen BK191.out 5
                have hfz36_6 := blk_frozen BK191.out 6
                go_wp2_with (first | ((with_reducible refine gate_callee (f := 31) rfl ?_); refine goesL_ (some 30) rfl rfl Try.func31 (by kernel_rfl) rfl #[.agg #[.int .i64 ((rd_T58 l0 x3_1).f0.f0), .int .i64 ((rd_T58 l0 x3_1).f0.f1), .string ((rd_T58 l0 x3_1).f0.f2)]] rfl (by (try simp only [List.map_toArray, List.map_cons, List.map_nil]); first | done | rfl | (simp only [List.length_drop, List.length_take]; rfl)) ?_; (with_reducible refine (cadastreref2_May.calls ((rd_T58 l0 x3_1).f0.f0) ((rd_T58 l0 x3_1).f0.f1) ((rd_T58 l0 x3_1).f0.f2) false _ A13.out).mono ?_); rintro e w37 ⟨rfl, hb⟩; refine ⟨_, rfl, ?_⟩; have n0_ := Aside0.mk (blk_below (g := gb191) (o := .cells #[.int .i64 ((rd_T58 l0 x3_1).f0.f0), .int .i64 ((rd_T58 l0 x3_1).f0.f1), .string ((rd_T58 l0 x3_1).f0.f2), .int .i64 ((rd_T58 l0 x3_1).f1.f0), .int .i64 ((rd_T58 l0 x3_1).f1.f1), .string ((rd_T58 l0 x3_1).f1.f2), .int .i64 ((rd_T58 l0 x3_1).f2)] 58 (0, 0)) (by (with_reducible repeat (first | refine blk_drewN ?_ _ | refine blk_drew ?_ | refine blk_alloc ?_ _)); refine blk_far ?_ NB191_192.out _; (with_reducible repeat (first | refine blk_drewN ?_ _ | refine blk_drew ?_ | refine blk_alloc ?_ _)); refine blk_far ?_ NB191_192.out _; (with_reducible repeat (first | refine blk_drewN ?_ _ | refine blk_drew ?_ | refine blk_alloc ?_ _)); refine blk_far ?_ NB191_192.out _; (with_reducible repeat (first | refine blk_drewN ?_ _ | refine blk_drew ?_ | refine blk_alloc ?_ _)); exact BK191.out) hb); have n1_ := Aside0.mk (blk_below (g := gb192) (o := .cells #[.int .i64 0, .int .i64 0, .string (⟨#[]⟩ : ByteArray)] 24 (0, 0)) (by (with_reducible repeat (first | refine blk_drewN ?_ _ | refine blk_drew ?_ | refine blk_alloc ?_ _)); refine blk_put (cs := #[.int .i64 0, .int .i64 0, .string (⟨#[]⟩ : ByteArray)]) ?_ 2 _ rfl; (with_reducible repeat (first | refine blk_drewN ?_ _ | refine blk_drew ?_ | refine blk_alloc ?_ _)); refine blk_put (cs := #[.int .i64 0, .int .i64 0, .string (⟨#[]⟩ : ByteArray)]) ?_ 1 _ rfl; (with_reducible repeat (first | refine blk_drewN ?_ _ | refine blk_drew ?_ | refine blk_alloc ?_ _)); refine blk_put (cs := #[.int .i64 0, .int .i64 0, .string (⟨#[]⟩ : ByteArray)]) ?_ 0 _ rfl; (with_reducible repeat (first | refine blk_drewN ?_ _ | refine blk_drew ?_ | refine blk_alloc ?_ _)); exact BK192.out) hb); have n2_ := Aside0.mk (below_step (by repeat (first | (with_reducible first | exact HB.out | apply below_alloc | apply pw_below_drewN | apply below_drew1 | refine below_set ?_ GE191.out | refine below_set ?_ GE192.out) | exact HB.out)) hb); clear BK191; clear BK192; clear HB; have BK191 := n0_; have BK192 := n1_; have HB := n2_; clear n0_ n1_ n2_; (try clear hb); (try clear hb2); (try clear hk); (try clear hi)))
                go_meet
                case rel => exact ⟨_, (false), (by first | rfl | (simp; done) | (simp [*]; done)), H', ⟨by have := HK1.out; have := HJ1.out; first | omega | exact Nat.le_refl _⟩, ⟨by (with_reducible repeat (first | refine blk_drewN ?_ _ | refine blk_drew ?_ | refine blk_alloc ?_ _)); exact BK191.out⟩, ⟨by (with_reducible repeat (first | refine blk_drewN ?_ _ | refine blk_drew ?_ | refine blk_alloc ?_ _)); exact BK192.out⟩, ⟨by repeat (first | (with_reducible first | exact HB.out | apply below_alloc | apply pw_below_drewN | apply below_drew1 | refine below_set ?_ GE191.out | refine below_set ?_ GE192.out) | exact HB.out)⟩⟩
            case rest =>
              clear HC7
              try clear c1
              try clear p1
              try clear q1
              try clear hx1
              try clear c2
              try clear p2
              try clear c3
              try clear c3b0
              try clear c4
              try clear c5
              try clear c5b0
              try clear c6
              try clear c6b0
              try clear c11
              try clear c14
              try clear c16
              try clear c17
              try clear c17b0
              try clear c18
              try clear p19
              try clear q19
              try clear hx19
              try clear c24
              try clear c30
              try clear c31
              try clear c35
              try clear hcz12_0
              try clear hcz12_1
              try clear hcz12_2
              try clear hcz19_0
              try clear hcz19_1
              try clear hcz19_2
              try clear hcz19_3
              try clear hcz19_4
              try clear hcz19_5
              try clear hcz19_6
              try clear hcz21_0
              try clear hcz21_1
              try clear hcz21_2
              try clear hcz21_3
              try clear hcz21_4
              try clear hcz21_5
              try clear hcz21_6
              try clear hcz23_0
              try clear hcz23_1
              try clear hcz23_2
              try clear hcz23_3
              try clear hcz23_4
              try clear hcz23_5
              try clear hcz23_6
              try clear hcz25_0
              try clear hcz25_1
              try clear hcz25_2
              try clear hcz25_3
              try clear hcz25_4
              try clear hcz25_5
              try clear hcz25_6
              try clear hcz27_0
              try clear hcz27_1
              try clear hcz27_2
              try clear hcz27_3
              try clear hcz27_4
              try clear hcz27_5
              try clear hcz27_6
              try clear hcz29_0
              try clear hcz29_1
              try clear hcz29_2
              try clear hcz29_3
              try clear hcz29_4
              try clear hcz29_5
              try clear hcz29_6
              try clear hcz31_0
              try clear hcz31_1
              try clear hcz31_2
              try clear hcz31_3
              try clear hcz31_4
              try clear hcz31_5
              try clear hcz31_6
              try clear hcz33_0
              try clear hcz33_1
              try clear hcz33_2
              try clear hcz33_3
              try clear hcz33_4
              try clear hcz33_5
              try clear hcz33_6
              try clear hcz36_0
              try clear hcz36_1
              try clear hcz36_2
              try clear hcz36_3
              try clear hcz36_4
              try clear hcz36_5
              try clear hcz36_6
              try clear hcz9_0
              try clear hcz9_1
              try clear hcz9_2
              try clear hcz9_3
              try clear hcz9_4
              try clear hcz9_5
              try clear hcz9_6
              try clear hfz12_0
              try clear hfz12_1
              try clear hfz12_2
              try clear hfz19_0
              try clear hfz19_1
              try clear hfz19_2
              try clear hfz19_3
              try clear hfz19_4
              try clear hfz19_5
              try clear hfz19_6
              try clear hfz21_0
              try clear hfz21_1
              try clear hfz21_2
              try clear hfz21_3
              try clear hfz21_4
              try clear hfz21_5
              try clear hfz21_6
              try clear hfz23_0
              try clear hfz23_1
              try clear hfz23_2
              try clear hfz23_3
              try clear hfz23_4
              try clear hfz23_5
              try clear hfz23_6
              try clear hfz25_0
              try clear hfz25_1
              try clear hfz25_2
              try clear hfz25_3
              try clear hfz25_4
              try clear hfz25_5
              try clear hfz25_6
              try clear hfz27_0
              try clear hfz27_1
              try clear hfz27_2
              try clear hfz27_3
              try clear hfz27_4
              try clear hfz27_5
              try clear hfz27_6
              try clear hfz29_0
              try clear hfz29_1
              try clear hfz29_2
              try clear hfz29_3
              try clear hfz29_4
              try clear hfz29_5
              try clear hfz29_6
              try clear hfz31_0
              try clear hfz31_1
              try clear hfz31_2
              try clear hfz31_3
              try clear hfz31_4
              try clear hfz31_5
              try clear hfz31_6
              try clear hfz33_0
              try clear hfz33_1
              try clear hfz33_2
              try clear hfz33_3
              try clear hfz33_4
              try clear hfz33_5
              try clear hfz33_6
              try clear hfz36_0
              try clear hfz36_1
              try clear hfz36_2
              try clear hfz36_3
              try clear hfz36_4
              try clear hfz36_5
              try clear hfz36_6
              try clear hfz9_0
              try clear hfz9_1
              try clear hfz9_2
              try clear hfz9_3
              try clear hfz9_4
              try clear hfz9_5
              try clear hfz9_6
              try clear hx190_0
              try clear hx190_1
              try clear hx190_2
              try clear hx190_3
              try clear hx190_4
              try clear hx190_5
              try clear hx190_6
              try clear p190
              try clear p2
              try clear q190
              obtain ⟨kq, x45_6, rfl, HA, HJ6, BK191, BK192, HB⟩ := hcut
              cases kq with
              | zero => exact absurd HA.out (by simp [cadastrelaw4_ArithExact.j2])
              | succ kj6 =>
                have H := HA.out
                clear HA
                simp only [cadastrelaw4_ArithExact.j2] at H
                have HC38 := Aside0.mk H
                clear H
                go_upto_if 45 with (fail)
                go_cut [6] (fun v6 wc => ∃ (kq : Nat) (x6_37 : Int) (x193000_37 : Int) (x193001_37 : Int) (x193002_37 : ByteArray), v6 = .int .i64 x6_37 ∧ Aside0 (cadastrelaw4_ArithExact.j3 kq l0 x3_1 x6_37 ((rd_T58 l0 x3_1).f0.f0) ((rd_T58 l0 x3_1).f0.f1) ((rd_T58 l0 x3_1).f0.f2) ((rd_T58 l0 x3_1).f1.f0) ((rd_T58 l0 x3_1).f1.f1) ((rd_T58 l0 x3_1).f1.f2) ((rd_T58 l0 x3_1).f2) x193000_37 x193001_37 x193002_37 = some r) ∧ Aside0 (kq ≤ kj6) ∧ Aside0 (wc.heap[gb191]? = some (.cells #[.int .i64 ((rd_T58 l0 x3_1).f0.f0), .int .i64 ((rd_T58 l0 x3_1).f0.f1), .string ((rd_T58 l0 x3_1).f0.f2), .int .i64 ((rd_T58 l0 x3_1).f1.f0), .int .i64 ((rd_T58 l0 x3_1).f1.f1), .string ((rd_T58 l0 x3_1).f1.f2), .int .i64 ((rd_T58 l0 x3_1).f2)] 58 (0, 0))) ∧ Aside0 (wc.heap[gb192]? = some (.cells #[.int .i64 x193000_37, .int .i64 x193001_37, .string x193002_37] 24 (0, 0))) ∧ Aside0 (Below w.heap.size w wc))
                case first =>
                  have H := HC38.out
                  clear HC38
                  by_cases c39 : x45_6 = true
                  · subst c39
                    have H1 : ((cadastreref4_Do.f kj6 ((rd_T58 l0 x3_1).f2) ((rd_T58 l0 x3_1).f0.f0) ((rd_T58 l0 x3_1).f0.f1) ((rd_T58 l0 x3_1).f0.f2) ((rd_T58 l0 x3_1).f1.f0) ((rd_T58 l0 x3_1).f1.f1) ((rd_T58 l0 x3_1).f1.f2)).bind fun bt195 => (cadastrelaw4_ArithExact.j3 kj6 l0 x3_1 bt195.2.2.2 ((rd_T58 l0 x3_1).f0.f0) ((rd_T58 l0 x3_1).f0.f1) ((rd_T58 l0 x3_1).f0.f2) ((rd_T58 l0 x3_1).f1.f0) ((rd_T58 l0 x3_1).f1.f1) ((rd_T58 l0 x3_1).f1.f2) ((rd_T58 l0 x3_1).f2) bt195.1 bt195.2.1 bt195.2.2.1)) = some r := by rw [if_pos rfl] at H; exact H
                    clear H
                    have H := H1
                    clear H1
                    replace H := Option.bind_eq_some_iff.mp H
                    obtain ⟨⟨t195, t196, t197, t198⟩, A400, H⟩ := H
                    replace H : (cadastrelaw4_ArithExact.j3 kj6 l0 x3_1 t198 ((rd_T58 l0 x3_1).f0.f0) ((rd_T58 l0 x3_1).f0.f1) ((rd_T58 l0 x3_1).f0.f2) ((rd_T58 l0 x3_1).f1.f0) ((rd_T58 l0 x3_1).f1.f1) ((rd_T58 l0 x3_1).f1.f2) ((rd_T58 l0 x3_1).f2) t195 t196 t197) = some r := H
                    have A40 := Aside0.mk A400
                    clear A400
                    have H' := Aside0.mk H
                    clear H
                    have hnb41 := NB191_192.out
                    have hnc41 := NB192_191.out
                    have hcz42_0 : wc.cell? ⟨gb191, 0, none⟩ = some (.int .i64 ((rd_T58 l0 x3_1).f0.f0)) := (blk_cell BK191.out 0).trans rfl
                    have hcz42_1 : wc.cell? ⟨gb191, 1, none⟩ = some (.int .i64 ((rd_T58 l0 x3_1).f0.f1)) := (blk_cell BK191.out 1).trans rfl
                    have hcz42_2 : wc.cell? ⟨gb191, 2, none⟩ = some (.string ((rd_T58 l0 x3_1).f0.f2)) := (blk_cell BK191.out 2).trans rfl
                    have hcz42_3 : wc.cell? ⟨gb191, 3, none⟩ = some (.int .i64 ((rd_T58 l0 x3_1).f1.f0)) := (blk_cell BK191.out 3).trans rfl
                    have hcz42_4 : wc.cell? ⟨gb191, 4, none⟩ = some (.int .i64 ((rd_T58 l0 x3_1).f1.f1)) := (blk_cell BK191.out 4).trans rfl
                    have hcz42_5 : wc.cell? ⟨gb191, 5, none⟩ = some (.string ((rd_T58 l0 x3_1).f1.f2)) := (blk_cell BK191.out 5).trans rfl
                    have hcz42_6 : wc.cell? ⟨gb191, 6, none⟩ = some (.int .i64 ((rd_T58 l0 x3_1).f2)) := (blk_cell BK191.out 6).trans rfl
                    have hfz42_0 := blk_frozen BK191.out 0
                    have hfz42_1 := blk_frozen BK191.out 1
                    have hfz42_2 := blk_frozen BK191.out 2
                    have hfz42_3 := blk_frozen BK191.out 3
                    have hfz42_4 := blk_frozen BK191.out 4
                    have hfz42_5 := blk_frozen BK191.out 5
                    have hfz42_6 := blk_frozen BK191.out 6
                    go_wp2_with (first | ((with_reducible refine gate_callee (f := 51) rfl ?_); refine goesL_ (some 53) rfl rfl Try.func51 (by kernel_rfl) rfl #[.int .i64 ((rd_T58 l0 x3_1).f2), .agg #[.int .i64 ((rd_T58 l0 x3_1).f0.f0), .int .i64 ((rd_T58 l0 x3_1).f0.f1), .string ((rd_T58 l0 x3_1).f0.f2)], .agg #[.int .i64 ((rd_T58 l0 x3_1).f1.f0), .int .i64 ((rd_T58 l0 x3_1).f1.f1), .string ((rd_T58 l0 x3_1).f1.f2)]] rfl (by (try simp only [List.map_toArray, List.map_cons, List.map_nil]); first | done | rfl | (simp only [List.length_drop, List.length_take]; rfl)) ?_; (with_reducible refine (cadastreref4_Do.calls kj6 ((rd_T58 l0 x3_1).f2) ((rd_T58 l0 x3_1).f0.f0) ((rd_T58 l0 x3_1).f0.f1) ((rd_T58 l0 x3_1).f0.f2) ((rd_T58 l0 x3_1).f1.f0) ((rd_T58 l0 x3_1).f1.f1) ((rd_T58 l0 x3_1).f1.f2) t195 t196 t197 t198 _ A40.out).mono ?_); rintro e w43 ⟨rfl, hb⟩; refine ⟨_, rfl, ?_⟩; have n0_ := Aside0.mk (blk_below (g := gb191) (o := .cells #[.int .i64 ((rd_T58 l0 x3_1).f0.f0), .int .i64 ((rd_T58 l0 x3_1).f0.f1), .string ((rd_T58 l0 x3_1).f0.f2), .int .i64 ((rd_T58 l0 x3_1).f1.f0), .int .i64 ((rd_T58 l0 x3_1).f1.f1), .string ((rd_T58 l0 x3_1).f1.f2), .int .i64 ((rd_T58 l0 x3_1).f2)] 58 (0, 0)) (by (with_reducible repeat (first | refine blk_drewN ?_ _ | refine blk_drew ?_ | refine blk_alloc ?_ _)); exact BK191.out) hb); have n1_ := Aside0.mk (blk_below (g := gb192) (o := .cells #[.int .i64 0, .int .i64 0, .string (⟨#[]⟩ : ByteArray)] 24 (0, 0)) (by (with_reducible repeat (first | refine blk_drewN ?_ _ | refine blk_drew ?_ | refine blk_alloc ?_ _)); exact BK192.out) hb); have n2_ := Aside0.mk (below_step (by repeat (first | (with_reducible first | exact HB.out | apply below_alloc | apply pw_below_drewN | apply below_drew1 | refine below_set ?_ GE191.out | refine below_set ?_ GE192.out) | exact HB.out)) hb); clear BK191; clear BK192; clear HB; have BK191 := n0_; have BK192 := n1_; have HB := n2_; clear n0_ n1_ n2_; (try clear hb); (try clear hb2); (try clear hk); (try clear hi); have hcz44_0 : w43.cell? ⟨gb192, 0, none⟩ = some (.int .i64 0) := (blk_cell BK192.out 0).trans rfl; have hcz44_1 : w43.cell? ⟨gb192, 1, none⟩ = some (.int .i64 0) := (blk_cell BK192.out 1).trans rfl; have hcz44_2 : w43.cell? ⟨gb192, 2, none⟩ = some (.string (⟨#[]⟩ : ByteArray)) := (blk_cell BK192.out 2).trans rfl; have hfz44_0 := blk_frozen BK192.out 0; have hfz44_1 := blk_frozen BK192.out 1; have hfz44_2 := blk_frozen BK192.out 2))
                    go_meet
                    case rel => exact ⟨_, (t198), (t195), (t196), (t197), (by first | rfl | (simp; done) | (simp [*]; done)), H', ⟨by have := HK1.out; have := HJ1.out; have := HJ6.out; first | omega | exact Nat.le_refl _⟩, ⟨by (with_reducible repeat (first | refine blk_drewN ?_ _ | refine blk_drew ?_ | refine blk_alloc ?_ _)); refine blk_far ?_ NB191_192.out _; (with_reducible repeat (first | refine blk_drewN ?_ _ | refine blk_drew ?_ | refine blk_alloc ?_ _)); refine blk_far ?_ NB191_192.out _; (with_reducible repeat (first | refine blk_drewN ?_ _ | refine blk_drew ?_ | refine blk_alloc ?_ _)); refine blk_far ?_ NB191_192.out _; (with_reducible repeat (first | refine blk_drewN ?_ _ | refine blk_drew ?_ | refine blk_alloc ?_ _)); exact BK191.out⟩, ⟨by (with_reducible repeat (first | refine blk_drewN ?_ _ | refine blk_drew ?_ | refine blk_alloc ?_ _)); refine blk_put (cs := #[.int .i64 t195, .int .i64 t196, .string (⟨#[]⟩ : ByteArray)]) ?_ 2 _ rfl; (with_reducible repeat (first | refine blk_drewN ?_ _ | refine blk_drew ?_ | refine blk_alloc ?_ _)); refine blk_put (cs := #[.int .i64 t195, .int .i64 0, .string (⟨#[]⟩ : ByteArray)]) ?_ 1 _ rfl; (with_reducible repeat (first | refine blk_drewN ?_ _ | refine blk_drew ?_ | refine blk_alloc ?_ _)); refine blk_put (cs := #[.int .i64 0, .int .i64 0, .string (⟨#[]⟩ : ByteArray)]) ?_ 0 _ rfl; (with_reducible repeat (first | refine blk_drewN ?_ _ | refine blk_drew ?_ | refine blk_alloc ?_ _)); exact BK192.out⟩, ⟨by repeat (first | (with_reducible first | exact HB.out | apply below_alloc | apply pw_below_drewN | apply below_drew1 | refine below_set ?_ GE191.out | refine below_set ?_ GE192.out) | exact HB.out)⟩⟩
                  · replace c39 := Bool.eq_false_iff.mpr c39
                    subst c39
                    have H1 : (cadastrelaw4_ArithExact.j3 kj6 l0 x3_1 1 ((rd_T58 l0 x3_1).f0.f0) ((rd_T58 l0 x3_1).f0.f1) ((rd_T58 l0 x3_1).f0.f2) ((rd_T58 l0 x3_1).f1.f0) ((rd_T58 l0 x3_1).f1.f1) ((rd_T58 l0 x3_1).f1.f2) ((rd_T58 l0 x3_1).f2) 0 0 (⟨#[]⟩ : ByteArray)) = some r := by rw [if_neg (show ¬ (false = true) by decide)] at H; exact H
                    clear H
                    have H := H1
                    clear H1
                    have H' := Aside0.mk H
                    clear H
                    go_wp2
                    go_meet
                    case rel => exact ⟨_, (1), (0), (0), ((⟨#[]⟩ : ByteArray)), (by first | rfl | (simp; done) | (simp [*]; done)), H', ⟨by have := HK1.out; have := HJ1.out; have := HJ6.out; first | omega | exact Nat.le_refl _⟩, ⟨by (with_reducible repeat (first | refine blk_drewN ?_ _ | refine blk_drew ?_ | refine blk_alloc ?_ _)); exact BK191.out⟩, ⟨by (with_reducible repeat (first | refine blk_drewN ?_ _ | refine blk_drew ?_ | refine blk_alloc ?_ _)); exact BK192.out⟩, ⟨by repeat (first | (with_reducible first | exact HB.out | apply below_alloc | apply pw_below_drewN | apply below_drew1 | refine below_set ?_ GE191.out | refine below_set ?_ GE192.out) | exact HB.out)⟩⟩
                case rest =>
                  clear HC38
                  try clear c1
                  try clear p1
                  try clear q1
                  try clear hx1
                  try clear c2
                  try clear p2
                  try clear c3
                  try clear c3b0
                  try clear c4
                  try clear c5
                  try clear c5b0
                  try clear c6
                  try clear c6b0
                  try clear c11
                  try clear c14
                  try clear c16
                  try clear c17
                  try clear c17b0
                  try clear c18
                  try clear p19
                  try clear q19
                  try clear hx19
                  try clear c24
                  try clear c30
                  try clear c31
                  try clear c35
                  try clear c39
                  try clear c41
                  try clear hcz12_0
                  try clear hcz12_1
                  try clear hcz12_2
                  try clear hcz19_0
                  try clear hcz19_1
                  try clear hcz19_2
                  try clear hcz19_3
                  try clear hcz19_4
                  try clear hcz19_5
                  try clear hcz19_6
                  try clear hcz21_0
                  try clear hcz21_1
                  try clear hcz21_2
                  try clear hcz21_3
                  try clear hcz21_4
                  try clear hcz21_5
                  try clear hcz21_6
                  try clear hcz23_0
                  try clear hcz23_1
                  try clear hcz23_2
                  try clear hcz23_3
                  try clear hcz23_4
                  try clear hcz23_5
                  try clear hcz23_6
                  try clear hcz25_0
                  try clear hcz25_1
                  try clear hcz25_2
                  try clear hcz25_3
                  try clear hcz25_4
                  try clear hcz25_5
                  try clear hcz25_6
                  try clear hcz27_0
                  try clear hcz27_1
                  try clear hcz27_2
                  try clear hcz27_3
                  try clear hcz27_4
                  try clear hcz27_5
                  try clear hcz27_6
                  try clear hcz29_0
                  try clear hcz29_1
                  try clear hcz29_2
                  try clear hcz29_3
                  try clear hcz29_4
                  try clear hcz29_5
                  try clear hcz29_6
                  try clear hcz31_0
                  try clear hcz31_1
                  try clear hcz31_2
                  try clear hcz31_3
                  try clear hcz31_4
                  try clear hcz31_5
                  try clear hcz31_6
                  try clear hcz33_0
                  try clear hcz33_1
                  try clear hcz33_2
                  try clear hcz33_3
                  try clear hcz33_4
                  try clear hcz33_5
                  try clear hcz33_6
                  try clear hcz36_0
                  try clear hcz36_1
                  try clear hcz36_2
                  try clear hcz36_3
                  try clear hcz36_4
                  try clear hcz36_5
                  try clear hcz36_6
                  try clear hcz42_0
                  try clear hcz42_1
                  try clear hcz42_2
                  try clear hcz42_3
                  try clear hcz42_4
                  try clear hcz42_5
                  try clear hcz42_6
                  try clear hcz44_0
                  try clear hcz44_1
                  try clear hcz44_2
                  try clear hcz9_0
                  try clear hcz9_1
                  try clear hcz9_2
                  try clear hcz9_3
                  try clear hcz9_4
                  try clear hcz9_5
                  try clear hcz9_6
                  try clear hfz12_0
                  try clear hfz12_1
                  try clear hfz12_2
                  try clear hfz19_0
                  try clear hfz19_1
                  try clear hfz19_2
                  try clear hfz19_3
                  try clear hfz19_4
                  try clear hfz19_5
                  try clear hfz19_6
                  try clear hfz21_0
                  try clear hfz21_1
                  try clear hfz21_2
                  try clear hfz21_3
                  try clear hfz21_4
                  try clear hfz21_5
                  try clear hfz21_6
                  try clear hfz23_0
                  try clear hfz23_1
                  try clear hfz23_2
                  try clear hfz23_3
                  try clear hfz23_4
                  try clear hfz23_5
                  try clear hfz23_6
                  try clear hfz25_0
                  try clear hfz25_1
                  try clear hfz25_2
                  try clear hfz25_3
                  try clear hfz25_4
                  try clear hfz25_5
                  try clear hfz25_6
                  try clear hfz27_0
                  try clear hfz27_1
                  try clear hfz27_2
                  try clear hfz27_3
                  try clear hfz27_4
                  try clear hfz27_5
                  try clear hfz27_6
                  try clear hfz29_0
                  try clear hfz29_1
                  try clear hfz29_2
                  try clear hfz29_3
                  try clear hfz29_4
                  try clear hfz29_5
                  try clear hfz29_6
                  try clear hfz31_0
                  try clear hfz31_1
                  try clear hfz31_2
                  try clear hfz31_3
                  try clear hfz31_4
                  try clear hfz31_5
                  try clear hfz31_6
                  try clear hfz33_0
                  try clear hfz33_1
                  try clear hfz33_2
                  try clear hfz33_3
                  try clear hfz33_4
                  try clear hfz33_5
                  try clear hfz33_6
                  try clear hfz36_0
                  try clear hfz36_1
                  try clear hfz36_2
                  try clear hfz36_3
                  try clear hfz36_4
                  try clear hfz36_5
                  try clear hfz36_6
                  try clear hfz42_0
                  try clear hfz42_1
                  try clear hfz42_2
                  try clear hfz42_3
                  try clear hfz42_4
                  try clear hfz42_5
                  try clear hfz42_6
                  try clear hfz44_0
                  try clear hfz44_1
                  try clear hfz44_2
                  try clear hfz9_0
                  try clear hfz9_1
                  try clear hfz9_2
                  try clear hfz9_3
                  try clear hfz9_4
                  try clear hfz9_5
                  try clear hfz9_6
                  try clear hx190_0
                  try clear hx190_1
                  try clear hx190_2
                  try clear hx190_3
                  try clear hx190_4
                  try clear hx190_5
                  try clear hx190_6
                  try clear p1
                  try clear p19
                  try clear p190
                  try clear p2
                  try clear q1
                  try clear q19
                  try clear q190
                  obtain ⟨kq, x6_37, x193000_37, x193001_37, x193002_37, rfl, HA, HJ37, BK191, BK192, HB⟩ := hcut
                  cases kq with
                  | zero => exact absurd HA.out (by simp [cadastrelaw4_ArithExact.j3])
                  | succ kj37 =>
                    have H := HA.out
                    clear HA
                    simp only [cadastrelaw4_ArithExact.j3] at H
                    replace H := Option.bind_eq_some_iff.mp H
                    obtain ⟨t200, A450, H⟩ := H
                    replace H : (if t200 = true then ((cadastreref4_Neg.f kj37 ((rd_T58 l0 x3_1).f0.f0) ((rd_T58 l0 x3_1).f0.f1) ((rd_T58 l0 x3_1).f0.f2)).bind fun bt201 => (cadastrelaw4_ArithExact.j4 kj37 l0 x3_1 x6_37 bt201.2.2.2 ((rd_T58 l0 x3_1).f0.f0) ((rd_T58 l0 x3_1).f0.f1) ((rd_T58 l0 x3_1).f0.f2) ((rd_T58 l0 x3_1).f1.f0) ((rd_T58 l0 x3_1).f1.f1) ((rd_T58 l0 x3_1).f1.f2) ((rd_T58 l0 x3_1).f2) x193000_37 x193001_37 x193002_37 bt201.1 bt201.2.1 bt201.2.2.1)) else (cadastrelaw4_ArithExact.j4 kj37 l0 x3_1 x6_37 1 ((rd_T58 l0 x3_1).f0.f0) ((rd_T58 l0 x3_1).f0.f1) ((rd_T58 l0 x3_1).f0.f2) ((rd_T58 l0 x3_1).f1.f0) ((rd_T58 l0 x3_1).f1.f1) ((rd_T58 l0 x3_1).f1.f2) ((rd_T58 l0 x3_1).f2) x193000_37 x193001_37 x193002_37 0 0 (⟨#[]⟩ : ByteArray))) = some r := H
                    have A45 := Aside0.mk A450
                    clear A450
                    have HC46 := Aside0.mk H
                    clear H
                    go_upto_if 59 with (first | ((with_reducible refine gate_dst (N := 7) rfl ?_); refine box_event ?hg (N := 7) ?hd (cs := #[.int .i64 0, .int .i64 0, .string (⟨#[]⟩ : ByteArray)]) (t := 24) ?hr ?_; (case hd => rfl); (case hg => rfl); (case hr => first | (go_simp; done) | (go_simp; rfl)); intro gb199 hg w47 hbox hb; have n0_ := Aside0.mk (blk_below (g := gb191) (o := .cells #[.int .i64 ((rd_T58 l0 x3_1).f0.f0), .int .i64 ((rd_T58 l0 x3_1).f0.f1), .string ((rd_T58 l0 x3_1).f0.f2), .int .i64 ((rd_T58 l0 x3_1).f1.f0), .int .i64 ((rd_T58 l0 x3_1).f1.f1), .string ((rd_T58 l0 x3_1).f1.f2), .int .i64 ((rd_T58 l0 x3_1).f2)] 58 (0, 0)) (by (with_reducible repeat (first | refine blk_drewN ?_ _ | refine blk_drew ?_ | refine blk_alloc ?_ _)); exact BK191.out) hb); have n1_ := Aside0.mk (blk_below (g := gb192) (o := .cells #[.int .i64 x193000_37, .int .i64 x193001_37, .string x193002_37] 24 (0, 0)) (by (with_reducible repeat (first | refine blk_drewN ?_ _ | refine blk_drew ?_ | refine blk_alloc ?_ _)); exact BK192.out) hb); have n2_ := Aside0.mk (below_step (by repeat (first | (with_reducible first | exact HB.out | apply below_alloc | apply pw_below_drewN | apply below_drew1 | refine below_set ?_ GE191.out | refine below_set ?_ GE192.out) | exact HB.out)) hb); have n3_ := Aside0.mk (hbox); have n4_ := Aside0.mk ((by rw [hg]; exact (below_size (by repeat (first | (with_reducible first | exact HB.out | apply below_alloc | apply pw_below_drewN | apply below_drew1 | refine below_set ?_ GE191.out | refine below_set ?_ GE192.out) | exact HB.out))) : w.heap.size ≤ gb199)); have n5_ := Aside0.mk ((by rw [hg]; exact (below_size (by repeat (first | (with_reducible first | exact HB.out | apply below_alloc | apply pw_below_drewN | apply below_drew1 | refine below_set ?_ GE191.out | refine below_set ?_ GE192.out) | exact HB.out))) : w.heap.size ≤ gb199)); have n6_ := Aside0.mk ((by rw [hg]; exact Nat.ne_of_lt (blk_lt (g := gb191) (o := .cells #[.int .i64 ((rd_T58 l0 x3_1).f0.f0), .int .i64 ((rd_T58 l0 x3_1).f0.f1), .string ((rd_T58 l0 x3_1).f0.f2), .int .i64 ((rd_T58 l0 x3_1).f1.f0), .int .i64 ((rd_T58 l0 x3_1).f1.f1), .string ((rd_T58 l0 x3_1).f1.f2), .int .i64 ((rd_T58 l0 x3_1).f2)] 58 (0, 0)) (by (with_reducible repeat (first | refine blk_drewN ?_ _ | refine blk_drew ?_ | refine blk_alloc ?_ _)); exact BK191.out)) : gb191 ≠ gb199)); have n7_ := Aside0.mk ((by rw [hg]; exact Nat.ne_of_gt (blk_lt (g := gb191) (o := .cells #[.int .i64 ((rd_T58 l0 x3_1).f0.f0), .int .i64 ((rd_T58 l0 x3_1).f0.f1), .string ((rd_T58 l0 x3_1).f0.f2), .int .i64 ((rd_T58 l0 x3_1).f1.f0), .int .i64 ((rd_T58 l0 x3_1).f1.f1), .string ((rd_T58 l0 x3_1).f1.f2), .int .i64 ((rd_T58 l0 x3_1).f2)] 58 (0, 0)) (by (with_reducible repeat (first | refine blk_drewN ?_ _ | refine blk_drew ?_ | refine blk_alloc ?_ _)); exact BK191.out)) : gb199 ≠ gb191)); have n8_ := Aside0.mk ((by rw [hg]; exact Nat.ne_of_lt (blk_lt (g := gb192) (o := .cells #[.int .i64 x193000_37, .int .i64 x193001_37, .string x193002_37] 24 (0, 0)) (by (with_reducible repeat (first | refine blk_drewN ?_ _ | refine blk_drew ?_ | refine blk_alloc ?_ _)); exact BK192.out)) : gb192 ≠ gb199)); have n9_ := Aside0.mk ((by rw [hg]; exact Nat.ne_of_gt (blk_lt (g := gb192) (o := .cells #[.int .i64 x193000_37, .int .i64 x193001_37, .string x193002_37] 24 (0, 0)) (by (with_reducible repeat (first | refine blk_drewN ?_ _ | refine blk_drew ?_ | refine blk_alloc ?_ _)); exact BK192.out)) : gb199 ≠ gb192)); clear BK191; clear BK192; clear HB; have BK191 := n0_; have BK192 := n1_; have HB := n2_; have BK199 := n3_; have GW199 := n4_; have GE199 := n5_; have NB191_199 := n6_; have NB199_191 := n7_; have NB192_199 := n8_; have NB199_192 := n9_; clear n0_ n1_ n2_ n3_ n4_ n5_ n6_ n7_ n8_ n9_; clear hb hbox hg; have hnb48 := NB199_191.out; have hnc48 := NB191_199.out; have hnb49 := NB199_192.out; have hnc49 := NB192_199.out; have hcz50_0 : w47.cell? ⟨gb199, 0, none⟩ = some (.int .i64 0) := (blk_cell BK199.out 0).trans rfl; have hcz50_1 : w47.cell? ⟨gb199, 1, none⟩ = some (.int .i64 0) := (blk_cell BK199.out 1).trans rfl; have hcz50_2 : w47.cell? ⟨gb199, 2, none⟩ = some (.string (⟨#[]⟩ : ByteArray)) := (blk_cell BK199.out 2).trans rfl; have hfz50_0 := blk_frozen BK199.out 0; have hfz50_1 := blk_frozen BK199.out 1; have hfz50_2 := blk_frozen BK199.out 2; have hnb51 := NB191_192.out; have hnc51 := NB192_191.out; have hcz52_0 : w47.cell? ⟨gb191, 0, none⟩ = some (.int .i64 ((rd_T58 l0 x3_1).f0.f0)) := (blk_cell BK191.out 0).trans rfl; have hcz52_1 : w47.cell? ⟨gb191, 1, none⟩ = some (.int .i64 ((rd_T58 l0 x3_1).f0.f1)) := (blk_cell BK191.out 1).trans rfl; have hcz52_2 : w47.cell? ⟨gb191, 2, none⟩ = some (.string ((rd_T58 l0 x3_1).f0.f2)) := (blk_cell BK191.out 2).trans rfl; have hcz52_3 : w47.cell? ⟨gb191, 3, none⟩ = some (.int .i64 ((rd_T58 l0 x3_1).f1.f0)) := (blk_cell BK191.out 3).trans rfl; have hcz52_4 : w47.cell? ⟨gb191, 4, none⟩ = some (.int .i64 ((rd_T58 l0 x3_1).f1.f1)) := (blk_cell BK191.out 4).trans rfl; have hcz52_5 : w47.cell? ⟨gb191, 5, none⟩ = some (.string ((rd_T58 l0 x3_1).f1.f2)) := (blk_cell BK191.out 5).trans rfl; have hcz52_6 : w47.cell? ⟨gb191, 6, none⟩ = some (.int .i64 ((rd_T58 l0 x3_1).f2)) := (blk_cell BK191.out 6).trans rfl; have hfz52_0 := blk_frozen BK191.out 0; have hfz52_1 := blk_frozen BK191.out 1; have hfz52_2 := blk_frozen BK191.out 2; have hfz52_3 := blk_frozen BK191.out 3; have hfz52_4 := blk_frozen BK191.out 4; have hfz52_5 := blk_frozen BK191.out 5; have hfz52_6 := blk_frozen BK191.out 6) | ((with_reducible refine gate_callee (f := 31) rfl ?_); refine goesL_ (some 59) rfl rfl Try.func31 (by kernel_rfl) rfl #[.agg #[.int .i64 ((rd_T58 l0 x3_1).f0.f0), .int .i64 ((rd_T58 l0 x3_1).f0.f1), .string ((rd_T58 l0 x3_1).f0.f2)]] rfl (by (try simp only [List.map_toArray, List.map_cons, List.map_nil]); first | done | rfl | (simp only [List.length_drop, List.length_take]; rfl)) ?_; (with_reducible refine (cadastreref2_May.calls ((rd_T58 l0 x3_1).f0.f0) ((rd_T58 l0 x3_1).f0.f1) ((rd_T58 l0 x3_1).f0.f2) t200 _ A45.out).mono ?_); rintro e w53 ⟨rfl, hb⟩; refine ⟨_, rfl, ?_⟩; have n0_ := Aside0.mk (blk_below (g := gb191) (o := .cells #[.int .i64 ((rd_T58 l0 x3_1).f0.f0), .int .i64 ((rd_T58 l0 x3_1).f0.f1), .string ((rd_T58 l0 x3_1).f0.f2), .int .i64 ((rd_T58 l0 x3_1).f1.f0), .int .i64 ((rd_T58 l0 x3_1).f1.f1), .string ((rd_T58 l0 x3_1).f1.f2), .int .i64 ((rd_T58 l0 x3_1).f2)] 58 (0, 0)) (by (with_reducible repeat (first | refine blk_drewN ?_ _ | refine blk_drew ?_ | refine blk_alloc ?_ _)); refine blk_far ?_ NB191_199.out _; (with_reducible repeat (first | refine blk_drewN ?_ _ | refine blk_drew ?_ | refine blk_alloc ?_ _)); refine blk_far ?_ NB191_199.out _; (with_reducible repeat (first | refine blk_drewN ?_ _ | refine blk_drew ?_ | refine blk_alloc ?_ _)); refine blk_far ?_ NB191_199.out _; (with_reducible repeat (first | refine blk_drewN ?_ _ | refine blk_drew ?_ | refine blk_alloc ?_ _)); exact BK191.out) hb); have n1_ := Aside0.mk (blk_below (g := gb192) (o := .cells #[.int .i64 x193000_37, .int .i64 x193001_37, .string x193002_37] 24 (0, 0)) (by (with_reducible repeat (first | refine blk_drewN ?_ _ | refine blk_drew ?_ | refine blk_alloc ?_ _)); refine blk_far ?_ NB192_199.out _; (with_reducible repeat (first | refine blk_drewN ?_ _ | refine blk_drew ?_ | refine blk_alloc ?_ _)); refine blk_far ?_ NB192_199.out _; (with_reducible repeat (first | refine blk_drewN ?_ _ | refine blk_drew ?_ | refine blk_alloc ?_ _)); refine blk_far ?_ NB192_199.out _; (with_reducible repeat (first | refine blk_drewN ?_ _ | refine blk_drew ?_ | refine blk_alloc ?_ _)); exact BK192.out) hb); have n2_ := Aside0.mk (blk_below (g := gb199) (o := .cells #[.int .i64 0, .int .i64 0, .string (⟨#[]⟩ : ByteArray)] 24 (0, 0)) (by (with_reducible repeat (first | refine blk_drewN ?_ _ | refine blk_drew ?_ | refine blk_alloc ?_ _)); refine blk_put (cs := #[.int .i64 0, .int .i64 0, .string (⟨#[]⟩ : ByteArray)]) ?_ 2 _ rfl; (with_reducible repeat (first | refine blk_drewN ?_ _ | refine blk_drew ?_ | refine blk_alloc ?_ _)); refine blk_put (cs := #[.int .i64 0, .int .i64 0, .string (⟨#[]⟩ : ByteArray)]) ?_ 1 _ rfl; (with_reducible repeat (first | refine blk_drewN ?_ _ | refine blk_drew ?_ | refine blk_alloc ?_ _)); refine blk_put (cs := #[.int .i64 0, .int .i64 0, .string (⟨#[]⟩ : ByteArray)]) ?_ 0 _ rfl; (with_reducible repeat (first | refine blk_drewN ?_ _ | refine blk_drew ?_ | refine blk_alloc ?_ _)); exact BK199.out) hb); have n3_ := Aside0.mk (below_step (by repeat (first | (with_reducible first | exact HB.out | apply below_alloc | apply pw_below_drewN | apply below_drew1 | refine below_set ?_ GE191.out | refine below_set ?_ GE192.out | refine below_set ?_ GE199.out) | exact HB.out)) hb); clear BK191; clear BK192; clear BK199; clear HB; have BK191 := n0_; have BK192 := n1_; have BK199 := n2_; have HB := n3_; clear n0_ n1_ n2_ n3_; (try clear hb); (try clear hb2); (try clear hk); (try clear hi)))
                    (try simp only [Act.put, List.setIfInBounds_toArray, List.set_cons_zero, List.set_cons_succ])
                    go_cut [8] (fun v8 wc => ∃ (kq : Nat) (x8_45 : Int) (x200000_45 : Int) (x200001_45 : Int) (x200002_45 : ByteArray), v8 = .int .i64 x8_45 ∧ Aside0 (cadastrelaw4_ArithExact.j4 kq l0 x3_1 x6_37 x8_45 ((rd_T58 l0 x3_1).f0.f0) ((rd_T58 l0 x3_1).f0.f1) ((rd_T58 l0 x3_1).f0.f2) ((rd_T58 l0 x3_1).f1.f0) ((rd_T58 l0 x3_1).f1.f1) ((rd_T58 l0 x3_1).f1.f2) ((rd_T58 l0 x3_1).f2) x193000_37 x193001_37 x193002_37 x200000_45 x200001_45 x200002_45 = some r) ∧ Aside0 (kq ≤ kj37) ∧ Aside0 (wc.heap[gb191]? = some (.cells #[.int .i64 ((rd_T58 l0 x3_1).f0.f0), .int .i64 ((rd_T58 l0 x3_1).f0.f1), .string ((rd_T58 l0 x3_1).f0.f2), .int .i64 ((rd_T58 l0 x3_1).f1.f0), .int .i64 ((rd_T58 l0 x3_1).f1.f1), .string ((rd_T58 l0 x3_1).f1.f2), .int .i64 ((rd_T58 l0 x3_1).f2)] 58 (0, 0))) ∧ Aside0 (wc.heap[gb192]? = some (.cells #[.int .i64 x193000_37, .int .i64 x193001_37, .string x193002_37] 24 (0, 0))) ∧ Aside0 (wc.heap[gb199]? = some (.cells #[.int .i64 x200000_45, .int .i64 x200001_45, .string x200002_45] 24 (0, 0))) ∧ Aside0 (Below w.heap.size w wc))
                    case first =>
                      have H := HC46.out
                      clear HC46
                      by_cases c54 : t200 = true
                      · subst c54
                        have H1 : ((cadastreref4_Neg.f kj37 ((rd_T58 l0 x3_1).f0.f0) ((rd_T58 l0 x3_1).f0.f1) ((rd_T58 l0 x3_1).f0.f2)).bind fun bt201 => (cadastrelaw4_ArithExact.j4 kj37 l0 x3_1 x6_37 bt201.2.2.2 ((rd_T58 l0 x3_1).f0.f0) ((rd_T58 l0 x3_1).f0.f1) ((rd_T58 l0 x3_1).f0.f2) ((rd_T58 l0 x3_1).f1.f0) ((rd_T58 l0 x3_1).f1.f1) ((rd_T58 l0 x3_1).f1.f2) ((rd_T58 l0 x3_1).f2) x193000_37 x193001_37 x193002_37 bt201.1 bt201.2.1 bt201.2.2.1)) = some r := by rw [if_pos rfl] at H; exact H
                        clear H
                        have H := H1
                        clear H1
                        replace H := Option.bind_eq_some_iff.mp H
                        obtain ⟨⟨t201, t202, t203, t204⟩, A550, H⟩ := H
                        replace H : (cadastrelaw4_ArithExact.j4 kj37 l0 x3_1 x6_37 t204 ((rd_T58 l0 x3_1).f0.f0) ((rd_T58 l0 x3_1).f0.f1) ((rd_T58 l0 x3_1).f0.f2) ((rd_T58 l0 x3_1).f1.f0) ((rd_T58 l0 x3_1).f1.f1) ((rd_T58 l0 x3_1).f1.f2) ((rd_T58 l0 x3_1).f2) x193000_37 x193001_37 x193002_37 t201 t202 t203) = some r := H
                        have A55 := Aside0.mk A550
                        clear A550
                        have H' := Aside0.mk H
                        clear H
                        have hnb56 := NB191_192.out
                        have hnc56 := NB192_191.out
                        have hnb57 := NB191_199.out
                        have hnc57 := NB199_191.out
                        have hcz58_0 : w53.cell? ⟨gb191, 0, none⟩ = some (.int .i64 ((rd_T58 l0 x3_1).f0.f0)) := (blk_cell BK191.out 0).trans rfl
                        have hcz58_1 : w53.cell? ⟨gb191, 1, none⟩ = some (.int .i64 ((rd_T58 l0 x3_1).f0.f1)) := (blk_cell BK191.out 1).trans rfl
                        have hcz58_2 : w53.cell? ⟨gb191, 2, none⟩ = some (.string ((rd_T58 l0 x3_1).f0.f2)) := (blk_cell BK191.out 2).trans rfl
                        have hcz58_3 : w53.cell? ⟨gb191, 3, none⟩ = some (.int .i64 ((rd_T58 l0 x3_1).f1.f0)) := (blk_cell BK191.out 3).trans rfl
                        have hcz58_4 : w53.cell? ⟨gb191, 4, none⟩ = some (.int .i64 ((rd_T58 l0 x3_1).f1.f1)) := (blk_cell BK191.out 4).trans rfl
                        have hcz58_5 : w53.cell? ⟨gb191, 5, none⟩ = some (.string ((rd_T58 l0 x3_1).f1.f2)) := (blk_cell BK191.out 5).trans rfl
                        have hcz58_6 : w53.cell? ⟨gb191, 6, none⟩ = some (.int .i64 ((rd_T58 l0 x3_1).f2)) := (blk_cell BK191.out 6).trans rfl
                        have hfz58_0 := blk_frozen BK191.out 0
                        have hfz58_1 := blk_frozen BK191.out 1
                        have hfz58_2 := blk_frozen BK191.out 2
                        have hfz58_3 := blk_frozen BK191.out 3
                        have hfz58_4 := blk_frozen BK191.out 4
                        have hfz58_5 := blk_frozen BK191.out 5
                        have hfz58_6 := blk_frozen BK191.out 6
                        go_wp2_with (first | ((with_reducible refine gate_callee (f := 52) rfl ?_); refine goesL_ (some 63) rfl rfl Try.func52 (by kernel_rfl) rfl #[.agg #[.int .i64 ((rd_T58 l0 x3_1).f0.f0), .int .i64 ((rd_T58 l0 x3_1).f0.f1), .string ((rd_T58 l0 x3_1).f0.f2)]] rfl (by (try simp only [List.map_toArray, List.map_cons, List.map_nil]); first | done | rfl | (simp only [List.length_drop, List.length_take]; rfl)) ?_; (with_reducible refine (cadastreref4_Neg.calls kj37 ((rd_T58 l0 x3_1).f0.f0) ((rd_T58 l0 x3_1).f0.f1) ((rd_T58 l0 x3_1).f0.f2) t201 t202 t203 t204 _ A55.out).mono ?_); rintro e w59 ⟨rfl, hb⟩; refine ⟨_, rfl, ?_⟩; have n0_ := Aside0.mk (blk_below (g := gb191) (o := .cells #[.int .i64 ((rd_T58 l0 x3_1).f0.f0), .int .i64 ((rd_T58 l0 x3_1).f0.f1), .string ((rd_T58 l0 x3_1).f0.f2), .int .i64 ((rd_T58 l0 x3_1).f1.f0), .int .i64 ((rd_T58 l0 x3_1).f1.f1), .string ((rd_T58 l0 x3_1).f1.f2), .int .i64 ((rd_T58 l0 x3_1).f2)] 58 (0, 0)) (by (with_reducible repeat (first | refine blk_drewN ?_ _ | refine blk_drew ?_ | refine blk_alloc ?_ _)); exact BK191.out) hb); have n1_ := Aside0.mk (blk_below (g := gb192) (o := .cells #[.int .i64 x193000_37, .int .i64 x193001_37, .string x193002_37] 24 (0, 0)) (by (with_reducible repeat (first | refine blk_drewN ?_ _ | refine blk_drew ?_ | refine blk_alloc ?_ _)); exact BK192.out) hb); have n2_ := Aside0.mk (blk_below (g := gb199) (o := .cells #[.int .i64 0, .int .i64 0, .string (⟨#[]⟩ : ByteArray)] 24 (0, 0)) (by (with_reducible repeat (first | refine blk_drewN ?_ _ | refine blk_drew ?_ | refine blk_alloc ?_ _)); exact BK199.out) hb); have n3_ := Aside0.mk (below_step (by repeat (first | (with_reducible first | exact HB.out | apply below_alloc | apply pw_below_drewN | apply below_drew1 | refine below_set ?_ GE191.out | refine below_set ?_ GE192.out | refine below_set ?_ GE199.out) | exact HB.out)) hb); clear BK191; clear BK192; clear BK199; clear HB; have BK191 := n0_; have BK192 := n1_; have BK199 := n2_; have HB := n3_; clear n0_ n1_ n2_ n3_; (try clear hb); (try clear hb2); (try clear hk); (try clear hi); have hnb60 := NB199_192.out; have hnc60 := NB192_199.out; have hcz61_0 : w59.cell? ⟨gb199, 0, none⟩ = some (.int .i64 0) := (blk_cell BK199.out 0).trans rfl; have hcz61_1 : w59.cell? ⟨gb199, 1, none⟩ = some (.int .i64 0) := (blk_cell BK199.out 1).trans rfl; have hcz61_2 : w59.cell? ⟨gb199, 2, none⟩ = some (.string (⟨#[]⟩ : ByteArray)) := (blk_cell BK199.out 2).trans rfl; have hfz61_0 := blk_frozen BK199.out 0; have hfz61_1 := blk_frozen BK199.out 1; have hfz61_2 := blk_frozen BK199.out 2))
                        go_meet
                        case rel => exact ⟨_, (t204), (t201), (t202), (t203), (by first | rfl | (simp; done) | (simp [*]; done)), H', ⟨by have := HK1.out; have := HJ1.out; have := HJ6.out; have := HJ37.out; first | omega | exact Nat.le_refl _⟩, ⟨by (with_reducible repeat (first | refine blk_drewN ?_ _ | refine blk_drew ?_ | refine blk_alloc ?_ _)); refine blk_far ?_ NB191_199.out _; (with_reducible repeat (first | refine blk_drewN ?_ _ | refine blk_drew ?_ | refine blk_alloc ?_ _)); refine blk_far ?_ NB191_199.out _; (with_reducible repeat (first | refine blk_drewN ?_ _ | refine blk_drew ?_ | refine blk_alloc ?_ _)); refine blk_far ?_ NB191_199.out _; (with_reducible repeat (first | refine blk_drewN ?_ _ | refine blk_drew ?_ | refine blk_alloc ?_ _)); exact BK191.out⟩, ⟨by (with_reducible repeat (first | refine blk_drewN ?_ _ | refine blk_drew ?_ | refine blk_alloc ?_ _)); refine blk_far ?_ NB192_199.out _; (with_reducible repeat (first | refine blk_drewN ?_ _ | refine blk_drew ?_ | refine blk_alloc ?_ _)); refine blk_far ?_ NB192_199.out _; (with_reducible repeat (first | refine blk_drewN ?_ _ | refine blk_drew ?_ | refine blk_alloc ?_ _)); refine blk_far ?_ NB192_199.out _; (with_reducible repeat (first | refine blk_drewN ?_ _ | refine blk_drew ?_ | refine blk_alloc ?_ _)); exact BK192.out⟩, ⟨by (with_reducible repeat (first | refine blk_drewN ?_ _ | refine blk_drew ?_ | refine blk_alloc ?_ _)); refine blk_put (cs := #[.int .i64 t201, .int .i64 t202, .string (⟨#[]⟩ : ByteArray)]) ?_ 2 _ rfl; (with_reducible repeat (first | refine blk_drewN ?_ _ | refine blk_drew ?_ | refine blk_alloc ?_ _)); refine blk_put (cs := #[.int .i64 t201, .int .i64 0, .string (⟨#[]⟩ : ByteArray)]) ?_ 1 _ rfl; (with_reducible repeat (first | refine blk_drewN ?_ _ | refine blk_drew ?_ | refine blk_alloc ?_ _)); refine blk_put (cs := #[.int .i64 0, .int .i64 0, .string (⟨#[]⟩ : ByteArray)]) ?_ 0 _ rfl; (with_reducible repeat (first | refine blk_drewN ?_ _ | refine blk_drew ?_ | refine blk_alloc ?_ _)); exact BK199.out⟩, ⟨by repeat (first | (with_reducible first | exact HB.out | apply below_alloc | apply pw_below_drewN | apply below_drew1 | refine below_set ?_ GE191.out | refine below_set ?_ GE192.out | refine below_set ?_ GE199.out) | exact HB.out)⟩⟩
                      · replace c54 := Bool.eq_false_iff.mpr c54
                        subst c54
                        have H1 : (cadastrelaw4_ArithExact.j4 kj37 l0 x3_1 x6_37 1 ((rd_T58 l0 x3_1).f0.f0) ((rd_T58 l0 x3_1).f0.f1) ((rd_T58 l0 x3_1).f0.f2) ((rd_T58 l0 x3_1).f1.f0) ((rd_T58 l0 x3_1).f1.f1) ((rd_T58 l0 x3_1).f1.f2) ((rd_T58 l0 x3_1).f2) x193000_37 x193001_37 x193002_37 0 0 (⟨#[]⟩ : ByteArray)) = some r := by rw [if_neg (show ¬ (false = true) by decide)] at H; exact H
                        clear H
                        have H := H1
                        clear H1
                        have H' := Aside0.mk H
                        clear H
                        go_wp2
                        go_meet
                        case rel => exact ⟨_, (1), (0), (0), ((⟨#[]⟩ : ByteArray)), (by first | rfl | (simp; done) | (simp [*]; done)), H', ⟨by have := HK1.out; have := HJ1.out; have := HJ6.out; have := HJ37.out; first | omega | exact Nat.le_refl _⟩, ⟨by (with_reducible repeat (first | refine blk_drewN ?_ _ | refine blk_drew ?_ | refine blk_alloc ?_ _)); exact BK191.out⟩, ⟨by (with_reducible repeat (first | refine blk_drewN ?_ _ | refine blk_drew ?_ | refine blk_alloc ?_ _)); exact BK192.out⟩, ⟨by (with_reducible repeat (first | refine blk_drewN ?_ _ | refine blk_drew ?_ | refine blk_alloc ?_ _)); exact BK199.out⟩, ⟨by repeat (first | (with_reducible first | exact HB.out | apply below_alloc | apply pw_below_drewN | apply below_drew1 | refine below_set ?_ GE191.out | refine below_set ?_ GE192.out | refine below_set ?_ GE199.out) | exact HB.out)⟩⟩
                    case rest =>
                      clear HC46
                      try clear c1
                      try clear p1
                      try clear q1
                      try clear hx1
                      try clear c2
                      try clear p2
                      try clear c3
                      try clear c3b0
                      try clear c4
                      try clear c5
                      try clear c5b0
                      try clear c6
                      try clear c6b0
                      try clear c11
                      try clear c14
                      try clear c16
                      try clear c17
                      try clear c17b0
                      try clear c18
                      try clear p19
                      try clear q19
                      try clear hx19
                      try clear c24
                      try clear c30
                      try clear c31
                      try clear c35
                      try clear c39
                      try clear c41
                      try clear c48
                      try clear c49
                      try clear c51
                      try clear c52
                      try clear c54
                      try clear c56
                      try clear c57
                      try clear c60
                      try clear hcz12_0
                      try clear hcz12_1
                      try clear hcz12_2
                      try clear hcz19_0
                      try clear hcz19_1
                      try clear hcz19_2
                      try clear hcz19_3
                      try clear hcz19_4
                      try clear hcz19_5
                      try clear hcz19_6
                      try clear hcz21_0
                      try clear hcz21_1
                      try clear hcz21_2
                      try clear hcz21_3
                      try clear hcz21_4
                      try clear hcz21_5
                      try clear hcz21_6
                      try clear hcz23_0
                      try clear hcz23_1
                      try clear hcz23_2
                      try clear hcz23_3
                      try clear hcz23_4
                      try clear hcz23_5
                      try clear hcz23_6
                      try clear hcz25_0
                      try clear hcz25_1
                      try clear hcz25_2
                      try clear hcz25_3
                      try clear hcz25_4
                      try clear hcz25_5
                      try clear hcz25_6
                      try clear hcz27_0
                      try clear hcz27_1
                      try clear hcz27_2
                      try clear hcz27_3
                      try clear hcz27_4
                      try clear hcz27_5
                      try clear hcz27_6
                      try clear hcz29_0
                      try clear hcz29_1
                      try clear hcz29_2
                      try clear hcz29_3
                      try clear hcz29_4
                      try clear hcz29_5
                      try clear hcz29_6
                      try clear hcz31_0
                      try clear hcz31_1
                      try clear hcz31_2
                      try clear hcz31_3
                      try clear hcz31_4
                      try clear hcz31_5
                      try clear hcz31_6
                      try clear hcz33_0
                      try clear hcz33_1
                      try clear hcz33_2
                      try clear hcz33_3
                      try clear hcz33_4
                      try clear hcz33_5
                      try clear hcz33_6
                      try clear hcz36_0
                      try clear hcz36_1
                      try clear hcz36_2
                      try clear hcz36_3
                      try clear hcz36_4
                      try clear hcz36_5
                      try clear hcz36_6
                      try clear hcz42_0
                      try clear hcz42_1
                      try clear hcz42_2
                      try clear hcz42_3
                      try clear hcz42_4
                      try clear hcz42_5
                      try clear hcz42_6
                      try clear hcz44_0
                      try clear hcz44_1
                      try clear hcz44_2
                      try clear hcz50_0
                      try clear hcz50_1
                      try clear hcz50_2
                      try clear hcz52_0
                      try clear hcz52_1
                      try clear hcz52_2
                      try clear hcz52_3
                      try clear hcz52_4
                      try clear hcz52_5
                      try clear hcz52_6
                      try clear hcz58_0
                      try clear hcz58_1
                      try clear hcz58_2
                      try clear hcz58_3
                      try clear hcz58_4
                      try clear hcz58_5
                      try clear hcz58_6
                      try clear hcz61_0
                      try clear hcz61_1
                      try clear hcz61_2
                      try clear hcz9_0
                      try clear hcz9_1
                      try clear hcz9_2
                      try clear hcz9_3
                      try clear hcz9_4
                      try clear hcz9_5
                      try clear hcz9_6
                      try clear hfz12_0
                      try clear hfz12_1
                      try clear hfz12_2
                      try clear hfz19_0
                      try clear hfz19_1
                      try clear hfz19_2
                      try clear hfz19_3
                      try clear hfz19_4
                      try clear hfz19_5
                      try clear hfz19_6
                      try clear hfz21_0
                      try clear hfz21_1
                      try clear hfz21_2
                      try clear hfz21_3
                      try clear hfz21_4
                      try clear hfz21_5
                      try clear hfz21_6
                      try clear hfz23_0
                      try clear hfz23_1
                      try clear hfz23_2
                      try clear hfz23_3
                      try clear hfz23_4
                      try clear hfz23_5
                      try clear hfz23_6
                      try clear hfz25_0
                      try clear hfz25_1
                      try clear hfz25_2
                      try clear hfz25_3
                      try clear hfz25_4
                      try clear hfz25_5
                      try clear hfz25_6
                      try clear hfz27_0
                      try clear hfz27_1
                      try clear hfz27_2
                      try clear hfz27_3
                      try clear hfz27_4
                      try clear hfz27_5
                      try clear hfz27_6
                      try clear hfz29_0
                      try clear hfz29_1
                      try clear hfz29_2
                      try clear hfz29_3
                      try clear hfz29_4
                      try clear hfz29_5
                      try clear hfz29_6
                      try clear hfz31_0
                      try clear hfz31_1
                      try clear hfz31_2
                      try clear hfz31_3
                      try clear hfz31_4
                      try clear hfz31_5
                      try clear hfz31_6
                      try clear hfz33_0
                      try clear hfz33_1
                      try clear hfz33_2
                      try clear hfz33_3
                      try clear hfz33_4
                      try clear hfz33_5
                      try clear hfz33_6
                      try clear hfz36_0
                      try clear hfz36_1
                      try clear hfz36_2
                      try clear hfz36_3
                      try clear hfz36_4
                      try clear hfz36_5
                      try clear hfz36_6
                      try clear hfz42_0
                      try clear hfz42_1
                      try clear hfz42_2
                      try clear hfz42_3
                      try clear hfz42_4
                      try clear hfz42_5
                      try clear hfz42_6
                      try clear hfz44_0
                      try clear hfz44_1
                      try clear hfz44_2
                      try clear hfz50_0
                      try clear hfz50_1
                      try clear hfz50_2
                      try clear hfz52_0
                      try clear hfz52_1
                      try clear hfz52_2
                      try clear hfz52_3
                      try clear hfz52_4
                      try clear hfz52_5
                      try clear hfz52_6
                      try clear hfz58_0
                      try clear hfz58_1
                      try clear hfz58_2
                      try clear hfz58_3
                      try clear hfz58_4
                      try clear hfz58_5
                      try clear hfz58_6
                      try clear hfz61_0
                      try clear hfz61_1
                      try clear hfz61_2
                      try clear hfz9_0
                      try clear hfz9_1
                      try clear hfz9_2
                      try clear hfz9_3
                      try clear hfz9_4
                      try clear hfz9_5
                      try clear hfz9_6
                      try clear hx190_0
                      try clear hx190_1
                      try clear hx190_2
                      try clear hx190_3
                      try clear hx190_4
                      try clear hx190_5
                      try clear hx190_6
                      try clear p1
                      try clear p19
                      try clear p190
                      try clear p2
                      try clear q1
                      try clear q19
                      try clear q190
                      obtain ⟨kq, x8_45, x200000_45, x200001_45, x200002_45, rfl, HA, HJ45, BK191, BK192, BK199, HB⟩ := hcut
                      cases kq with
                      | zero => exact absurd HA.out (by simp [cadastrelaw4_ArithExact.j4])
                      | succ kj45 =>
                        have H := HA.out
                        clear HA
                        simp only [cadastrelaw4_ArithExact.j4] at H
                        replace H := Option.bind_eq_some_iff.mp H
                        obtain ⟨⟨t205, t206, t207, t208⟩, A620, H⟩ := H
                        replace H : ((arith_Neg.f ((rd_T58 l0 x3_1).f0.f0) ((rd_T58 l0 x3_1).f0.f1) ((rd_T58 l0 x3_1).f0.f2)).bind fun bt210 => ((cadastrelaw4_is.f t205 t206 t207 t208 x193000_37 x193001_37 x193002_37 x6_37).bind fun t215 => (if t215 = true then ((cadastrelaw4_is.f bt210.1 bt210.2.1 bt210.2.2.1 bt210.2.2.2 x200000_45 x200001_45 x200002_45 x8_45).bind fun t216 => (if t216 = true then (cadastrelaw4_ArithExact.l0 kj45 l0 (wrap64 (x3_1 + 1))) else (some false))) else (some false)))) = some r := H
                        have A62 := Aside0.mk A620
                        clear A620
                        replace H := Option.bind_eq_some_iff.mp H
                        obtain ⟨⟨t210, t211, t212, t213⟩, A630, H⟩ := H
                        replace H : ((cadastrelaw4_is.f t205 t206 t207 t208 x193000_37 x193001_37 x193002_37 x6_37).bind fun t215 => (if t215 = true then ((cadastrelaw4_is.f t210 t211 t212 t213 x200000_45 x200001_45 x200002_45 x8_45).bind fun t216 => (if t216 = true then (cadastrelaw4_ArithExact.l0 kj45 l0 (wrap64 (x3_1 + 1))) else (some false))) else (some false))) = some r := H
                        have A63 := Aside0.mk A630
                        clear A630
                        replace H := Option.bind_eq_some_iff.mp H
                        obtain ⟨t215, A640, H⟩ := H
                        replace H : (if t215 = true then ((cadastrelaw4_is.f t210 t211 t212 t213 x200000_45 x200001_45 x200002_45 x8_45).bind fun t216 => (if t216 = true then (cadastrelaw4_ArithExact.l0 kj45 l0 (wrap64 (x3_1 + 1))) else (some false))) else (some false)) = some r := H
                        have A64 := Aside0.mk A640
                        clear A640
                        by_cases c65 : t215 = true
                        · subst c65
                          have H1 : ((cadastrelaw4_is.f t210 t211 t212 t213 x200000_45 x200001_45 x200002_45 x8_45).bind fun t216 => (if t216 = true then (cadastrelaw4_ArithExact.l0 kj45 l0 (wrap64 (x3_1 + 1))) else (some false))) = some r := by rw [if_pos rfl] at H; exact H
                          clear H
                          have H := H1
                          clear H1
                          replace H := Option.bind_eq_some_iff.mp H
                          obtain ⟨t216, A660, H⟩ := H
                          replace H : (if t216 = true then (cadastrelaw4_ArithExact.l0 kj45 l0 (wrap64 (x3_1 + 1))) else (some false)) = some r := H
                          have A66 := Aside0.mk A660
                          clear A660
                          by_cases c67 : t216 = true
                          · subst c67
                            have H1 : (cadastrelaw4_ArithExact.l0 kj45 l0 (wrap64 (x3_1 + 1))) = some r := by rw [if_pos rfl] at H; exact H
                            clear H
                            have H := H1
                            clear H1
                            have H' := Aside0.mk H
                            clear H
                            have hnb68 := NB191_192.out
                            have hnc68 := NB192_191.out
                            have hnb69 := NB191_199.out
                            have hnc69 := NB199_191.out
                            have hcz70_0 : wc.cell? ⟨gb191, 0, none⟩ = some (.int .i64 ((rd_T58 l0 x3_1).f0.f0)) := (blk_cell BK191.out 0).trans rfl
                            have hcz70_1 : wc.cell? ⟨gb191, 1, none⟩ = some (.int .i64 ((rd_T58 l0 x3_1).f0.f1)) := (blk_cell BK191.out 1).trans rfl
                            have hcz70_2 : wc.cell? ⟨gb191, 2, none⟩ = some (.string ((rd_T58 l0 x3_1).f0.f2)) := (blk_cell BK191.out 2).trans rfl
                            have hcz70_3 : wc.cell? ⟨gb191, 3, none⟩ = some (.int .i64 ((rd_T58 l0 x3_1).f1.f0)) := (blk_cell BK191.out 3).trans rfl
                            have hcz70_4 : wc.cell? ⟨gb191, 4, none⟩ = some (.int .i64 ((rd_T58 l0 x3_1).f1.f1)) := (blk_cell BK191.out 4).trans rfl
                            have hcz70_5 : wc.cell? ⟨gb191, 5, none⟩ = some (.string ((rd_T58 l0 x3_1).f1.f2)) := (blk_cell BK191.out 5).trans rfl
                            have hcz70_6 : wc.cell? ⟨gb191, 6, none⟩ = some (.int .i64 ((rd_T58 l0 x3_1).f2)) := (blk_cell BK191.out 6).trans rfl
                            have hfz70_0 := blk_frozen BK191.out 0
                            have hfz70_1 := blk_frozen BK191.out 1
                            have hfz70_2 := blk_frozen BK191.out 2
                            have hfz70_3 := blk_frozen BK191.out 3
                            have hfz70_4 := blk_frozen BK191.out 4
                            have hfz70_5 := blk_frozen BK191.out 5
                            have hfz70_6 := blk_frozen BK191.out 6
                            go_wp2_with (first | ((with_reducible refine gate_callee (f := 44) rfl ?_); refine goesL_ (some 73) rfl rfl Try.func44 (by kernel_rfl) rfl #[.int .i64 ((rd_T58 l0 x3_1).f2), .agg #[.int .i64 ((rd_T58 l0 x3_1).f0.f0), .int .i64 ((rd_T58 l0 x3_1).f0.f1), .string ((rd_T58 l0 x3_1).f0.f2)], .agg #[.int .i64 ((rd_T58 l0 x3_1).f1.f0), .int .i64 ((rd_T58 l0 x3_1).f1.f1), .string ((rd_T58 l0 x3_1).f1.f2)]] rfl (by (try simp only [List.map_toArray, List.map_cons, List.map_nil]); first | done | rfl | (simp only [List.length_drop, List.length_take]; rfl)) ?_; (with_reducible refine (arith_Do.calls kj45 ((rd_T58 l0 x3_1).f2) ((rd_T58 l0 x3_1).f0.f0) ((rd_T58 l0 x3_1).f0.f1) ((rd_T58 l0 x3_1).f0.f2) ((rd_T58 l0 x3_1).f1.f0) ((rd_T58 l0 x3_1).f1.f1) ((rd_T58 l0 x3_1).f1.f2) t205 t206 t207 t208 _ A62.out).mono ?_); rintro e w71 ⟨rfl, hb⟩; refine ⟨_, rfl, ?_⟩; have n0_ := Aside0.mk (blk_below (g := gb191) (o := .cells #[.int .i64 ((rd_T58 l0 x3_1).f0.f0), .int .i64 ((rd_T58 l0 x3_1).f0.f1), .string ((rd_T58 l0 x3_1).f0.f2), .int .i64 ((rd_T58 l0 x3_1).f1.f0), .int .i64 ((rd_T58 l0 x3_1).f1.f1), .string ((rd_T58 l0 x3_1).f1.f2), .int .i64 ((rd_T58 l0 x3_1).f2)] 58 (0, 0)) (by (with_reducible repeat (first | refine blk_drewN ?_ _ | refine blk_drew ?_ | refine blk_alloc ?_ _)); exact BK191.out) hb); have n1_ := Aside0.mk (blk_below (g := gb192) (o := .cells #[.int .i64 x193000_37, .int .i64 x193001_37, .string x193002_37] 24 (0, 0)) (by (with_reducible repeat (first | refine blk_drewN ?_ _ | refine blk_drew ?_ | refine blk_alloc ?_ _)); exact BK192.out) hb); have n2_ := Aside0.mk (blk_below (g := gb199) (o := .cells #[.int .i64 x200000_45, .int .i64 x200001_45, .string x200002_45] 24 (0, 0)) (by (with_reducible repeat (first | refine blk_drewN ?_ _ | refine blk_drew ?_ | refine blk_alloc ?_ _)); exact BK199.out) hb); have n3_ := Aside0.mk (below_step (by repeat (first | (with_reducible first | exact HB.out | apply below_alloc | apply pw_below_drewN | apply below_drew1 | refine below_set ?_ GE191.out | refine below_set ?_ GE192.out | refine below_set ?_ GE199.out) | exact HB.out)) hb); clear BK191; clear BK192; clear BK199; clear HB; have BK191 := n0_; have BK192 := n1_; have BK199 := n2_; have HB := n3_; clear n0_ n1_ n2_ n3_; (try clear hb); (try clear hb2); (try clear hk); (try clear hi)) | ((with_reducible refine gate_dst (N := 9) rfl ?_); refine box_event ?hg (N := 9) ?hd (cs := #[.int .i64 0, .int .i64 0, .string (⟨#[]⟩ : ByteArray)]) (t := 24) ?hr ?_; (case hd => rfl); (case hg => rfl); (case hr => first | (go_simp; done) | (go_simp; rfl)); intro gb209 hg w72 hbox hb; have n0_ := Aside0.mk (blk_below (g := gb191) (o := .cells #[.int .i64 ((rd_T58 l0 x3_1).f0.f0), .int .i64 ((rd_T58 l0 x3_1).f0.f1), .string ((rd_T58 l0 x3_1).f0.f2), .int .i64 ((rd_T58 l0 x3_1).f1.f0), .int .i64 ((rd_T58 l0 x3_1).f1.f1), .string ((rd_T58 l0 x3_1).f1.f2), .int .i64 ((rd_T58 l0 x3_1).f2)] 58 (0, 0)) (by (with_reducible repeat (first | refine blk_drewN ?_ _ | refine blk_drew ?_ | refine blk_alloc ?_ _)); exact BK191.out) hb); have n1_ := Aside0.mk (blk_below (g := gb192) (o := .cells #[.int .i64 x193000_37, .int .i64 x193001_37, .string x193002_37] 24 (0, 0)) (by (with_reducible repeat (first | refine blk_drewN ?_ _ | refine blk_drew ?_ | refine blk_alloc ?_ _)); exact BK192.out) hb); have n2_ := Aside0.mk (blk_below (g := gb199) (o := .cells #[.int .i64 x200000_45, .int .i64 x200001_45, .string x200002_45] 24 (0, 0)) (by (with_reducible repeat (first | refine blk_drewN ?_ _ | refine blk_drew ?_ | refine blk_alloc ?_ _)); exact BK199.out) hb); have n3_ := Aside0.mk (below_step (by repeat (first | (with_reducible first | exact HB.out | apply below_alloc | apply pw_below_drewN | apply below_drew1 | refine below_set ?_ GE191.out | refine below_set ?_ GE192.out | refine below_set ?_ GE199.out) | exact HB.out)) hb); have n4_ := Aside0.mk (hbox); have n5_ := Aside0.mk ((by rw [hg]; exact (below_size (by repeat (first | (with_reducible first | exact HB.out | apply below_alloc | apply pw_below_drewN | apply below_drew1 | refine below_set ?_ GE191.out | refine below_set ?_ GE192.out | refine below_set ?_ GE199.out) | exact HB.out))) : w.heap.size ≤ gb209)); have n6_ := Aside0.mk ((by rw [hg]; exact (below_size (by repeat (first | (with_reducible first | exact HB.out | apply below_alloc | apply pw_below_drewN | apply below_drew1 | refine below_set ?_ GE191.out | refine below_set ?_ GE192.out | refine below_set ?_ GE199.out) | exact HB.out))) : w.heap.size ≤ gb209)); have n7_ := Aside0.mk ((by rw [hg]; exact Nat.ne_of_lt (blk_lt (g := gb191) (o := .cells #[.int .i64 ((rd_T58 l0 x3_1).f0.f0), .int .i64 ((rd_T58 l0 x3_1).f0.f1), .string ((rd_T58 l0 x3_1).f0.f2), .int .i64 ((rd_T58 l0 x3_1).f1.f0), .int .i64 ((rd_T58 l0 x3_1).f1.f1), .string ((rd_T58 l0 x3_1).f1.f2), .int .i64 ((rd_T58 l0 x3_1).f2)] 58 (0, 0)) (by (with_reducible repeat (first | refine blk_drewN ?_ _ | refine blk_drew ?_ | refine blk_alloc ?_ _)); exact BK191.out)) : gb191 ≠ gb209)); have n8_ := Aside0.mk ((by rw [hg]; exact Nat.ne_of_gt (blk_lt (g := gb191) (o := .cells #[.int .i64 ((rd_T58 l0 x3_1).f0.f0), .int .i64 ((rd_T58 l0 x3_1).f0.f1), .string ((rd_T58 l0 x3_1).f0.f2), .int .i64 ((rd_T58 l0 x3_1).f1.f0), .int .i64 ((rd_T58 l0 x3_1).f1.f1), .string ((rd_T58 l0 x3_1).f1.f2), .int .i64 ((rd_T58 l0 x3_1).f2)] 58 (0, 0)) (by (with_reducible repeat (first | refine blk_drewN ?_ _ | refine blk_drew ?_ | refine blk_alloc ?_ _)); exact BK191.out)) : gb209 ≠ gb191)); have n9_ := Aside0.mk ((by rw [hg]; exact Nat.ne_of_lt (blk_lt (g := gb192) (o := .cells #[.int .i64 x193000_37, .int .i64 x193001_37, .string x193002_37] 24 (0, 0)) (by (with_reducible repeat (first | refine blk_drewN ?_ _ | refine blk_drew ?_ | refine blk_alloc ?_ _)); exact BK192.out)) : gb192 ≠ gb209)); have n10_ := Aside0.mk ((by rw [hg]; exact Nat.ne_of_gt (blk_lt (g := gb192) (o := .cells #[.int .i64 x193000_37, .int .i64 x193001_37, .string x193002_37] 24 (0, 0)) (by (with_reducible repeat (first | refine blk_drewN ?_ _ | refine blk_drew ?_ | refine blk_alloc ?_ _)); exact BK192.out)) : gb209 ≠ gb192)); have n11_ := Aside0.mk ((by rw [hg]; exact Nat.ne_of_lt (blk_lt (g := gb199) (o := .cells #[.int .i64 x200000_45, .int .i64 x200001_45, .string x200002_45] 24 (0, 0)) (by (with_reducible repeat (first | refine blk_drewN ?_ _ | refine blk_drew ?_ | refine blk_alloc ?_ _)); exact BK199.out)) : gb199 ≠ gb209)); have n12_ := Aside0.mk ((by rw [hg]; exact Nat.ne_of_gt (blk_lt (g := gb199) (o := .cells #[.int .i64 x200000_45, .int .i64 x200001_45, .string x200002_45] 24 (0, 0)) (by (with_reducible repeat (first | refine blk_drewN ?_ _ | refine blk_drew ?_ | refine blk_alloc ?_ _)); exact BK199.out)) : gb209 ≠ gb199)); clear BK191; clear BK192; clear BK199; clear HB; have BK191 := n0_; have BK192 := n1_; have BK199 := n2_; have HB := n3_; have BK209 := n4_; have GW209 := n5_; have GE209 := n6_; have NB191_209 := n7_; have NB209_191 := n8_; have NB192_209 := n9_; have NB209_192 := n10_; have NB199_209 := n11_; have NB209_199 := n12_; clear n0_ n1_ n2_ n3_ n4_ n5_ n6_ n7_ n8_ n9_ n10_ n11_ n12_; clear hb hbox hg; have hnb73 := NB209_191.out; have hnc73 := NB191_209.out; have hnb74 := NB209_192.out; have hnc74 := NB192_209.out; have hnb75 := NB209_199.out; have hnc75 := NB199_209.out; have hcz76_0 : w72.cell? ⟨gb209, 0, none⟩ = some (.int .i64 0) := (blk_cell BK209.out 0).trans rfl; have hcz76_1 : w72.cell? ⟨gb209, 1, none⟩ = some (.int .i64 0) := (blk_cell BK209.out 1).trans rfl; have hcz76_2 : w72.cell? ⟨gb209, 2, none⟩ = some (.string (⟨#[]⟩ : ByteArray)) := (blk_cell BK209.out 2).trans rfl; have hfz76_0 := blk_frozen BK209.out 0; have hfz76_1 := blk_frozen BK209.out 1; have hfz76_2 := blk_frozen BK209.out 2; have hcz77_0 : w72.cell? ⟨gb191, 0, none⟩ = some (.int .i64 ((rd_T58 l0 x3_1).f0.f0)) := (blk_cell BK191.out 0).trans rfl; have hcz77_1 : w72.cell? ⟨gb191, 1, none⟩ = some (.int .i64 ((rd_T58 l0 x3_1).f0.f1)) := (blk_cell BK191.out 1).trans rfl; have hcz77_2 : w72.cell? ⟨gb191, 2, none⟩ = some (.string ((rd_T58 l0 x3_1).f0.f2)) := (blk_cell BK191.out 2).trans rfl; have hcz77_3 : w72.cell? ⟨gb191, 3, none⟩ = some (.int .i64 ((rd_T58 l0 x3_1).f1.f0)) := (blk_cell BK191.out 3).trans rfl; have hcz77_4 : w72.cell? ⟨gb191, 4, none⟩ = some (.int .i64 ((rd_T58 l0 x3_1).f1.f1)) := (blk_cell BK191.out 4).trans rfl; have hcz77_5 : w72.cell? ⟨gb191, 5, none⟩ = some (.string ((rd_T58 l0 x3_1).f1.f2)) := (blk_cell BK191.out 5).trans rfl; have hcz77_6 : w72.cell? ⟨gb191, 6, none⟩ = some (.int .i64 ((rd_T58 l0 x3_1).f2)) := (blk_cell BK191.out 6).trans rfl; have hfz77_0 := blk_frozen BK191.out 0; have hfz77_1 := blk_frozen BK191.out 1; have hfz77_2 := blk_frozen BK191.out 2; have hfz77_3 := blk_frozen BK191.out 3; have hfz77_4 := blk_frozen BK191.out 4; have hfz77_5 := blk_frozen BK191.out 5; have hfz77_6 := blk_frozen BK191.out 6) | ((with_reducible refine gate_callee (f := 53) rfl ?_); refine goesL_ (some 79) rfl rfl Try.func53 (by kernel_rfl) rfl #[.agg #[.int .i64 ((rd_T58 l0 x3_1).f0.f0), .int .i64 ((rd_T58 l0 x3_1).f0.f1), .string ((rd_T58 l0 x3_1).f0.f2)]] rfl (by (try simp only [List.map_toArray, List.map_cons, List.map_nil]); first | done | rfl | (simp only [List.length_drop, List.length_take]; rfl)) ?_; (with_reducible refine (arith_Neg.calls ((rd_T58 l0 x3_1).f0.f0) ((rd_T58 l0 x3_1).f0.f1) ((rd_T58 l0 x3_1).f0.f2) t210 t211 t212 t213 _ A63.out).mono ?_); rintro e w78 ⟨rfl, hb⟩; refine ⟨_, rfl, ?_⟩; have n0_ := Aside0.mk (blk_below (g := gb191) (o := .cells #[.int .i64 ((rd_T58 l0 x3_1).f0.f0), .int .i64 ((rd_T58 l0 x3_1).f0.f1), .string ((rd_T58 l0 x3_1).f0.f2), .int .i64 ((rd_T58 l0 x3_1).f1.f0), .int .i64 ((rd_T58 l0 x3_1).f1.f1), .string ((rd_T58 l0 x3_1).f1.f2), .int .i64 ((rd_T58 l0 x3_1).f2)] 58 (0, 0)) (by (with_reducible repeat (first | refine blk_drewN ?_ _ | refine blk_drew ?_ | refine blk_alloc ?_ _)); refine blk_far ?_ NB191_209.out _; (with_reducible repeat (first | refine blk_drewN ?_ _ | refine blk_drew ?_ | refine blk_alloc ?_ _)); refine blk_far ?_ NB191_209.out _; (with_reducible repeat (first | refine blk_drewN ?_ _ | refine blk_drew ?_ | refine blk_alloc ?_ _)); refine blk_far ?_ NB191_209.out _; (with_reducible repeat (first | refine blk_drewN ?_ _ | refine blk_drew ?_ | refine blk_alloc ?_ _)); exact BK191.out) hb); have n1_ := Aside0.mk (blk_below (g := gb192) (o := .cells #[.int .i64 x193000_37, .int .i64 x193001_37, .string x193002_37] 24 (0, 0)) (by (with_reducible repeat (first | refine blk_drewN ?_ _ | refine blk_drew ?_ | refine blk_alloc ?_ _)); refine blk_far ?_ NB192_209.out _; (with_reducible repeat (first | refine blk_drewN ?_ _ | refine blk_drew ?_ | refine blk_alloc ?_ _)); refine blk_far ?_ NB192_209.out _; (with_reducible repeat (first | refine blk_drewN ?_ _ | refine blk_drew ?_ | refine blk_alloc ?_ _)); refine blk_far ?_ NB192_209.out _; (with_reducible repeat (first | refine blk_drewN ?_ _ | refine blk_drew ?_ | refine blk_alloc ?_ _)); exact BK192.out) hb); have n2_ := Aside0.mk (blk_below (g := gb199) (o := .cells #[.int .i64 x200000_45, .int .i64 x200001_45, .string x200002_45] 24 (0, 0)) (by (with_reducible repeat (first | refine blk_drewN ?_ _ | refine blk_drew ?_ | refine blk_alloc ?_ _)); refine blk_far ?_ NB199_209.out _; (with_reducible repeat (first | refine blk_drewN ?_ _ | refine blk_drew ?_ | refine blk_alloc ?_ _)); refine blk_far ?_ NB199_209.out _; (with_reducible repeat (first | refine blk_drewN ?_ _ | refine blk_drew ?_ | refine blk_alloc ?_ _)); refine blk_far ?_ NB199_209.out _; (with_reducible repeat (first | refine blk_drewN ?_ _ | refine blk_drew ?_ | refine blk_alloc ?_ _)); exact BK199.out) hb); have n3_ := Aside0.mk (blk_below (g := gb209) (o := .cells #[.int .i64 t205, .int .i64 t206, .string t207] 24 (0, 0)) (by (with_reducible repeat (first | refine blk_drewN ?_ _ | refine blk_drew ?_ | refine blk_alloc ?_ _)); refine blk_put (cs := #[.int .i64 t205, .int .i64 t206, .string (⟨#[]⟩ : ByteArray)]) ?_ 2 _ rfl; (with_reducible repeat (first | refine blk_drewN ?_ _ | refine blk_drew ?_ | refine blk_alloc ?_ _)); refine blk_put (cs := #[.int .i64 t205, .int .i64 0, .string (⟨#[]⟩ : ByteArray)]) ?_ 1 _ rfl; (with_reducible repeat (first | refine blk_drewN ?_ _ | refine blk_drew ?_ | refine blk_alloc ?_ _)); refine blk_put (cs := #[.int .i64 0, .int .i64 0, .string (⟨#[]⟩ : ByteArray)]) ?_ 0 _ rfl; (with_reducible repeat (first | refine blk_drewN ?_ _ | refine blk_drew ?_ | refine blk_alloc ?_ _)); exact BK209.out) hb); have n4_ := Aside0.mk (below_step (by repeat (first | (with_reducible first | exact HB.out | apply below_alloc | apply pw_below_drewN | apply below_drew1 | refine below_set ?_ GE191.out | refine below_set ?_ GE192.out | refine below_set ?_ GE199.out | refine below_set ?_ GE209.out) | exact HB.out)) hb); clear BK191; clear BK192; clear BK199; clear BK209; clear HB; have BK191 := n0_; have BK192 := n1_; have BK199 := n2_; have BK209 := n3_; have HB := n4_; clear n0_ n1_ n2_ n3_ n4_; (try clear hb); (try clear hb2); (try clear hk); (try clear hi)) | ((with_reducible refine gate_dst (N := 11) rfl ?_); refine box_event ?hg (N := 11) ?hd (cs := #[.int .i64 0, .int .i64 0, .string (⟨#[]⟩ : ByteArray)]) (t := 24) ?hr ?_; (case hd => rfl); (case hg => rfl); (case hr => first | (go_simp; done) | (go_simp; rfl)); intro gb214 hg w79 hbox hb; have n0_ := Aside0.mk (blk_below (g := gb191) (o := .cells #[.int .i64 ((rd_T58 l0 x3_1).f0.f0), .int .i64 ((rd_T58 l0 x3_1).f0.f1), .string ((rd_T58 l0 x3_1).f0.f2), .int .i64 ((rd_T58 l0 x3_1).f1.f0), .int .i64 ((rd_T58 l0 x3_1).f1.f1), .string ((rd_T58 l0 x3_1).f1.f2), .int .i64 ((rd_T58 l0 x3_1).f2)] 58 (0, 0)) (by (with_reducible repeat (first | refine blk_drewN ?_ _ | refine blk_drew ?_ | refine blk_alloc ?_ _)); exact BK191.out) hb); have n1_ := Aside0.mk (blk_below (g := gb192) (o := .cells #[.int .i64 x193000_37, .int .i64 x193001_37, .string x193002_37] 24 (0, 0)) (by (with_reducible repeat (first | refine blk_drewN ?_ _ | refine blk_drew ?_ | refine blk_alloc ?_ _)); exact BK192.out) hb); have n2_ := Aside0.mk (blk_below (g := gb199) (o := .cells #[.int .i64 x200000_45, .int .i64 x200001_45, .string x200002_45] 24 (0, 0)) (by (with_reducible repeat (first | refine blk_drewN ?_ _ | refine blk_drew ?_ | refine blk_alloc ?_ _)); exact BK199.out) hb); have n3_ := Aside0.mk (blk_below (g := gb209) (o := .cells #[.int .i64 t205, .int .i64 t206, .string t207] 24 (0, 0)) (by (with_reducible repeat (first | refine blk_drewN ?_ _ | refine blk_drew ?_ | refine blk_alloc ?_ _)); exact BK209.out) hb); have n4_ := Aside0.mk (below_step (by repeat (first | (with_reducible first | exact HB.out | apply below_alloc | apply pw_below_drewN | apply below_drew1 | refine below_set ?_ GE191.out | refine below_set ?_ GE192.out | refine below_set ?_ GE199.out | refine below_set ?_ GE209.out) | exact HB.out)) hb); have n5_ := Aside0.mk (hbox); have n6_ := Aside0.mk ((by rw [hg]; exact (below_size (by repeat (first | (with_reducible first | exact HB.out | apply below_alloc | apply pw_below_drewN | apply below_drew1 | refine below_set ?_ GE191.out | refine below_set ?_ GE192.out | refine below_set ?_ GE199.out | refine below_set ?_ GE209.out) | exact HB.out))) : w.heap.size ≤ gb214)); have n7_ := Aside0.mk ((by rw [hg]; exact (below_size (by repeat (first | (with_reducible first | exact HB.out | apply below_alloc | apply pw_below_drewN | apply below_drew1 | refine below_set ?_ GE191.out | refine below_set ?_ GE192.out | refine below_set ?_ GE199.out | refine below_set ?_ GE209.out) | exact HB.out))) : w.heap.size ≤ gb214)); have n8_ := Aside0.mk ((by rw [hg]; exact Nat.ne_of_lt (blk_lt (g := gb191) (o := .cells #[.int .i64 ((rd_T58 l0 x3_1).f0.f0), .int .i64 ((rd_T58 l0 x3_1).f0.f1), .string ((rd_T58 l0 x3_1).f0.f2), .int .i64 ((rd_T58 l0 x3_1).f1.f0), .int .i64 ((rd_T58 l0 x3_1).f1.f1), .string ((rd_T58 l0 x3_1).f1.f2), .int .i64 ((rd_T58 l0 x3_1).f2)] 58 (0, 0)) (by (with_reducible repeat (first | refine blk_drewN ?_ _ | refine blk_drew ?_ | refine blk_alloc ?_ _)); exact BK191.out)) : gb191 ≠ gb214)); have n9_ := Aside0.mk ((by rw [hg]; exact Nat.ne_of_gt (blk_lt (g := gb191) (o := .cells #[.int .i64 ((rd_T58 l0 x3_1).f0.f0), .int .i64 ((rd_T58 l0 x3_1).f0.f1), .string ((rd_T58 l0 x3_1).f0.f2), .int .i64 ((rd_T58 l0 x3_1).f1.f0), .int .i64 ((rd_T58 l0 x3_1).f1.f1), .string ((rd_T58 l0 x3_1).f1.f2), .int .i64 ((rd_T58 l0 x3_1).f2)] 58 (0, 0)) (by (with_reducible repeat (first | refine blk_drewN ?_ _ | refine blk_drew ?_ | refine blk_alloc ?_ _)); exact BK191.out)) : gb214 ≠ gb191)); have n10_ := Aside0.mk ((by rw [hg]; exact Nat.ne_of_lt (blk_lt (g := gb192) (o := .cells #[.int .i64 x193000_37, .int .i64 x193001_37, .string x193002_37] 24 (0, 0)) (by (with_reducible repeat (first | refine blk_drewN ?_ _ | refine blk_drew ?_ | refine blk_alloc ?_ _)); exact BK192.out)) : gb192 ≠ gb214)); have n11_ := Aside0.mk ((by rw [hg]; exact Nat.ne_of_gt (blk_lt (g := gb192) (o := .cells #[.int .i64 x193000_37, .int .i64 x193001_37, .string x193002_37] 24 (0, 0)) (by (with_reducible repeat (first | refine blk_drewN ?_ _ | refine blk_drew ?_ | refine blk_alloc ?_ _)); exact BK192.out)) : gb214 ≠ gb192)); have n12_ := Aside0.mk ((by rw [hg]; exact Nat.ne_of_lt (blk_lt (g := gb199) (o := .cells #[.int .i64 x200000_45, .int .i64 x200001_45, .string x200002_45] 24 (0, 0)) (by (with_reducible repeat (first | refine blk_drewN ?_ _ | refine blk_drew ?_ | refine blk_alloc ?_ _)); exact BK199.out)) : gb199 ≠ gb214)); have n13_ := Aside0.mk ((by rw [hg]; exact Nat.ne_of_gt (blk_lt (g := gb199) (o := .cells #[.int .i64 x200000_45, .int .i64 x200001_45, .string x200002_45] 24 (0, 0)) (by (with_reducible repeat (first | refine blk_drewN ?_ _ | refine blk_drew ?_ | refine blk_alloc ?_ _)); exact BK199.out)) : gb214 ≠ gb199)); have n14_ := Aside0.mk ((by rw [hg]; exact Nat.ne_of_lt (blk_lt (g := gb209) (o := .cells #[.int .i64 t205, .int .i64 t206, .string t207] 24 (0, 0)) (by (with_reducible repeat (first | refine blk_drewN ?_ _ | refine blk_drew ?_ | refine blk_alloc ?_ _)); exact BK209.out)) : gb209 ≠ gb214)); have n15_ := Aside0.mk ((by rw [hg]; exact Nat.ne_of_gt (blk_lt (g := gb209) (o := .cells #[.int .i64 t205, .int .i64 t206, .string t207] 24 (0, 0)) (by (with_reducible repeat (first | refine blk_drewN ?_ _ | refine blk_drew ?_ | refine blk_alloc ?_ _)); exact BK209.out)) : gb214 ≠ gb209)); clear BK191; clear BK192; clear BK199; clear BK209; clear HB; have BK191 := n0_; have BK192 := n1_; have BK199 := n2_; have BK209 := n3_; have HB := n4_; have BK214 := n5_; have GW214 := n6_; have GE214 := n7_; have NB191_214 := n8_; have NB214_191 := n9_; have NB192_214 := n10_; have NB214_192 := n11_; have NB199_214 := n12_; have NB214_199 := n13_; have NB209_214 := n14_; have NB214_209 := n15_; clear n0_ n1_ n2_ n3_ n4_ n5_ n6_ n7_ n8_ n9_ n10_ n11_ n12_ n13_ n14_ n15_; clear hb hbox hg; have hnb80 := NB214_191.out; have hnc80 := NB191_214.out; have hnb81 := NB214_192.out; have hnc81 := NB192_214.out; have hnb82 := NB214_199.out; have hnc82 := NB199_214.out; have hnb83 := NB214_209.out; have hnc83 := NB209_214.out; have hcz84_0 : w79.cell? ⟨gb214, 0, none⟩ = some (.int .i64 0) := (blk_cell BK214.out 0).trans rfl; have hcz84_1 : w79.cell? ⟨gb214, 1, none⟩ = some (.int .i64 0) := (blk_cell BK214.out 1).trans rfl; have hcz84_2 : w79.cell? ⟨gb214, 2, none⟩ = some (.string (⟨#[]⟩ : ByteArray)) := (blk_cell BK214.out 2).trans rfl; have hfz84_0 := blk_frozen BK214.out 0; have hfz84_1 := blk_frozen BK214.out 1; have hfz84_2 := blk_frozen BK214.out 2; have hcz85_0 : w79.cell? ⟨gb209, 0, none⟩ = some (.int .i64 t205) := (blk_cell BK209.out 0).trans rfl; have hcz85_1 : w79.cell? ⟨gb209, 1, none⟩ = some (.int .i64 t206) := (blk_cell BK209.out 1).trans rfl; have hcz85_2 : w79.cell? ⟨gb209, 2, none⟩ = some (.string t207) := (blk_cell BK209.out 2).trans rfl; have hfz85_0 := blk_frozen BK209.out 0; have hfz85_1 := blk_frozen BK209.out 1; have hfz85_2 := blk_frozen BK209.out 2; have hnb86 := NB192_199.out; have hnc86 := NB199_192.out; have hcz87_0 : w79.cell? ⟨gb192, 0, none⟩ = some (.int .i64 x193000_37) := (blk_cell BK192.out 0).trans rfl; have hcz87_1 : w79.cell? ⟨gb192, 1, none⟩ = some (.int .i64 x193001_37) := (blk_cell BK192.out 1).trans rfl; have hcz87_2 : w79.cell? ⟨gb192, 2, none⟩ = some (.string x193002_37) := (blk_cell BK192.out 2).trans rfl; have hfz87_0 := blk_frozen BK192.out 0; have hfz87_1 := blk_frozen BK192.out 1; have hfz87_2 := blk_frozen BK192.out 2) | ((with_reducible refine gate_callee (f := 54) rfl ?_); refine goesL_ (some 86) rfl rfl Try.func54 (by kernel_rfl) rfl #[.agg #[.int .i64 t205, .int .i64 t206, .string t207], .int .i64 t208, .agg #[.int .i64 x193000_37, .int .i64 x193001_37, .string x193002_37], .int .i64 x6_37] rfl (by (try simp only [List.map_toArray, List.map_cons, List.map_nil]); first | done | rfl | (simp only [List.length_drop, List.length_take]; rfl)) ?_; (with_reducible refine (cadastrelaw4_is.calls t205 t206 t207 t208 x193000_37 x193001_37 x193002_37 x6_37 true _ A64.out).mono ?_); rintro e w88 ⟨rfl, hb⟩; refine ⟨_, rfl, ?_⟩; have n0_ := Aside0.mk (blk_below (g := gb191) (o := .cells #[.int .i64 ((rd_T58 l0 x3_1).f0.f0), .int .i64 ((rd_T58 l0 x3_1).f0.f1), .string ((rd_T58 l0 x3_1).f0.f2), .int .i64 ((rd_T58 l0 x3_1).f1.f0), .int .i64 ((rd_T58 l0 x3_1).f1.f1), .string ((rd_T58 l0 x3_1).f1.f2), .int .i64 ((rd_T58 l0 x3_1).f2)] 58 (0, 0)) (by (with_reducible repeat (first | refine blk_drewN ?_ _ | refine blk_drew ?_ | refine blk_alloc ?_ _)); refine blk_far ?_ NB191_214.out _; (with_reducible repeat (first | refine blk_drewN ?_ _ | refine blk_drew ?_ | refine blk_alloc ?_ _)); refine blk_far ?_ NB191_214.out _; (with_reducible repeat (first | refine blk_drewN ?_ _ | refine blk_drew ?_ | refine blk_alloc ?_ _)); refine blk_far ?_ NB191_214.out _; (with_reducible repeat (first | refine blk_drewN ?_ _ | refine blk_drew ?_ | refine blk_alloc ?_ _)); exact BK191.out) hb); have n1_ := Aside0.mk (blk_below (g := gb192) (o := .cells #[.int .i64 x193000_37, .int .i64 x193001_37, .string x193002_37] 24 (0, 0)) (by (with_reducible repeat (first | refine blk_drewN ?_ _ | refine blk_drew ?_ | refine blk_alloc ?_ _)); refine blk_far ?_ NB192_214.out _; (with_reducible repeat (first | refine blk_drewN ?_ _ | refine blk_drew ?_ | refine blk_alloc ?_ _)); refine blk_far ?_ NB192_214.out _; (with_reducible repeat (first | refine blk_drewN ?_ _ | refine blk_drew ?_ | refine blk_alloc ?_ _)); refine blk_far ?_ NB192_214.out _; (with_reducible repeat (first | refine blk_drewN ?_ _ | refine blk_drew ?_ | refine blk_alloc ?_ _)); exact BK192.out) hb); have n2_ := Aside0.mk (blk_below (g := gb199) (o := .cells #[.int .i64 x200000_45, .int .i64 x200001_45, .string x200002_45] 24 (0, 0)) (by (with_reducible repeat (first | refine blk_drewN ?_ _ | refine blk_drew ?_ | refine blk_alloc ?_ _)); refine blk_far ?_ NB199_214.out _; (with_reducible repeat (first | refine blk_drewN ?_ _ | refine blk_drew ?_ | refine blk_alloc ?_ _)); refine blk_far ?_ NB199_214.out _; (with_reducible repeat (first | refine blk_drewN ?_ _ | refine blk_drew ?_ | refine blk_alloc ?_ _)); refine blk_far ?_ NB199_214.out _; (with_reducible repeat (first | refine blk_drewN ?_ _ | refine blk_drew ?_ | refine blk_alloc ?_ _)); exact BK199.out) hb); have n3_ := Aside0.mk (blk_below (g := gb209) (o := .cells #[.int .i64 t205, .int .i64 t206, .string t207] 24 (0, 0)) (by (with_reducible repeat (first | refine blk_drewN ?_ _ | refine blk_drew ?_ | refine blk_alloc ?_ _)); refine blk_far ?_ NB209_214.out _; (with_reducible repeat (first | refine blk_drewN ?_ _ | refine blk_drew ?_ | refine blk_alloc ?_ _)); refine blk_far ?_ NB209_214.out _; (with_reducible repeat (first | refine blk_drewN ?_ _ | refine blk_drew ?_ | refine blk_alloc ?_ _)); refine blk_far ?_ NB209_214.out _; (with_reducible repeat (first | refine blk_drewN ?_ _ | refine blk_drew ?_ | refine blk_alloc ?_ _)); exact BK209.out) hb); have n4_ := Aside0.mk (blk_below (g := gb214) (o := .cells #[.int .i64 t210, .int .i64 t211, .string t212] 24 (0, 0)) (by (with_reducible repeat (first | refine blk_drewN ?_ _ | refine blk_drew ?_ | refine blk_alloc ?_ _)); refine blk_put (cs := #[.int .i64 t210, .int .i64 t211, .string (⟨#[]⟩ : ByteArray)]) ?_ 2 _ rfl; (with_reducible repeat (first | refine blk_drewN ?_ _ | refine blk_drew ?_ | refine blk_alloc ?_ _)); refine blk_put (cs := #[.int .i64 t210, .int .i64 0, .string (⟨#[]⟩ : ByteArray)]) ?_ 1 _ rfl; (with_reducible repeat (first | refine blk_drewN ?_ _ | refine blk_drew ?_ | refine blk_alloc ?_ _)); refine blk_put (cs := #[.int .i64 0, .int .i64 0, .string (⟨#[]⟩ : ByteArray)]) ?_ 0 _ rfl; (with_reducible repeat (first | refine blk_drewN ?_ _ | refine blk_drew ?_ | refine blk_alloc ?_ _)); exact BK214.out) hb); have n5_ := Aside0.mk (below_step (by repeat (first | (with_reducible first | exact HB.out | apply below_alloc | apply pw_below_drewN | apply below_drew1 | refine below_set ?_ GE191.out | refine below_set ?_ GE192.out | refine below_set ?_ GE199.out | refine below_set ?_ GE209.out | refine below_set ?_ GE214.out) | exact HB.out)) hb); clear BK191; clear BK192; clear BK199; clear BK209; clear BK214; clear HB; have BK191 := n0_; have BK192 := n1_; have BK199 := n2_; have BK209 := n3_; have BK214 := n4_; have HB := n5_; clear n0_ n1_ n2_ n3_ n4_ n5_; (try clear hb); (try clear hb2); (try clear hk); (try clear hi); have hcz89_0 : w88.cell? ⟨gb214, 0, none⟩ = some (.int .i64 t210) := (blk_cell BK214.out 0).trans rfl; have hcz89_1 : w88.cell? ⟨gb214, 1, none⟩ = some (.int .i64 t211) := (blk_cell BK214.out 1).trans rfl; have hcz89_2 : w88.cell? ⟨gb214, 2, none⟩ = some (.string t212) := (blk_cell BK214.out 2).trans rfl; have hfz89_0 := blk_frozen BK214.out 0; have hfz89_1 := blk_frozen BK214.out 1; have hfz89_2 := blk_frozen BK214.out 2; have hcz90_0 : w88.cell? ⟨gb199, 0, none⟩ = some (.int .i64 x200000_45) := (blk_cell BK199.out 0).trans rfl; have hcz90_1 : w88.cell? ⟨gb199, 1, none⟩ = some (.int .i64 x200001_45) := (blk_cell BK199.out 1).trans rfl; have hcz90_2 : w88.cell? ⟨gb199, 2, none⟩ = some (.string x200002_45) := (blk_cell BK199.out 2).trans rfl; have hfz90_0 := blk_frozen BK199.out 0; have hfz90_1 := blk_frozen BK199.out 1; have hfz90_2 := blk_frozen BK199.out 2) | (go_at_call 54; (with_reducible refine (cadastrelaw4_is.calls t210 t211 t212 t213 x200000_45 x200001_45 x200002_45 x8_45 true _ A66.out).mono ?_); rintro e w91 ⟨rfl, hb⟩; have n0_ := Aside0.mk (blk_below (g := gb191) (o := .cells #[.int .i64 ((rd_T58 l0 x3_1).f0.f0), .int .i64 ((rd_T58 l0 x3_1).f0.f1), .string ((rd_T58 l0 x3_1).f0.f2), .int .i64 ((rd_T58 l0 x3_1).f1.f0), .int .i64 ((rd_T58 l0 x3_1).f1.f1), .string ((rd_T58 l0 x3_1).f1.f2), .int .i64 ((rd_T58 l0 x3_1).f2)] 58 (0, 0)) (by (with_reducible repeat (first | refine blk_drewN ?_ _ | refine blk_drew ?_ | refine blk_alloc ?_ _)); exact BK191.out) hb); have n1_ := Aside0.mk (blk_below (g := gb192) (o := .cells #[.int .i64 x193000_37, .int .i64 x193001_37, .string x193002_37] 24 (0, 0)) (by (with_reducible repeat (first | refine blk_drewN ?_ _ | refine blk_drew ?_ | refine blk_alloc ?_ _)); exact BK192.out) hb); have n2_ := Aside0.mk (blk_below (g := gb199) (o := .cells #[.int .i64 x200000_45, .int .i64 x200001_45, .string x200002_45] 24 (0, 0)) (by (with_reducible repeat (first | refine blk_drewN ?_ _ | refine blk_drew ?_ | refine blk_alloc ?_ _)); exact BK199.out) hb); have n3_ := Aside0.mk (blk_below (g := gb209) (o := .cells #[.int .i64 t205, .int .i64 t206, .string t207] 24 (0, 0)) (by (with_reducible repeat (first | refine blk_drewN ?_ _ | refine blk_drew ?_ | refine blk_alloc ?_ _)); exact BK209.out) hb); have n4_ := Aside0.mk (blk_below (g := gb214) (o := .cells #[.int .i64 t210, .int .i64 t211, .string t212] 24 (0, 0)) (by (with_reducible repeat (first | refine blk_drewN ?_ _ | refine blk_drew ?_ | refine blk_alloc ?_ _)); exact BK214.out) hb); have n5_ := Aside0.mk (below_step (by repeat (first | (with_reducible first | exact HB.out | apply below_alloc | apply pw_below_drewN | apply below_drew1 | refine below_set ?_ GE191.out | refine below_set ?_ GE192.out | refine below_set ?_ GE199.out | refine below_set ?_ GE209.out | refine below_set ?_ GE214.out) | exact HB.out)) hb); clear BK191; clear BK192; clear BK199; clear BK209; clear BK214; clear HB; have BK191 := n0_; have BK192 := n1_; have BK199 := n2_; have BK209 := n3_; have BK214 := n4_; have HB := n5_; clear n0_ n1_ n2_ n3_ n4_ n5_; (try clear hb); (try clear hb2); (try clear hk); (try clear hi); (try clear A66)))
                            go_roundg kj45
                            case measure => have := HK1.out; have := HJ1.out; have := HJ6.out; have := HJ37.out; have := HJ45.out; omega
                            case rel => exact ⟨(wrap64 (x3_1 + 1)), (by first | rfl | (simp; done) | (simp [*]; done)), H', ⟨by have := HK1.out; have := HJ1.out; have := HJ6.out; have := HJ37.out; have := HJ45.out; omega⟩, ⟨by repeat (first | (with_reducible first | exact HB.out | apply below_alloc | apply pw_below_drewN | apply below_drew1 | refine below_set ?_ GE191.out | refine below_set ?_ GE192.out | refine below_set ?_ GE199.out | refine below_set ?_ GE209.out | refine below_set ?_ GE214.out) | exact HB.out)⟩⟩
                          · replace c67 := Bool.eq_false_iff.mpr c67
                            subst c67
                            have H1 : (some false) = some r := by rw [if_neg (show ¬ (false = true) by decide)] at H; exact H
                            clear H
                            have H := H1
                            clear H1
                            obtain rfl := Option.some.inj H
                            have hnb92 := NB191_192.out
                            have hnc92 := NB192_191.out
                            have hnb93 := NB191_199.out
                            have hnc93 := NB199_191.out
                            have hcz94_0 : wc.cell? ⟨gb191, 0, none⟩ = some (.int .i64 ((rd_T58 l0 x3_1).f0.f0)) := (blk_cell BK191.out 0).trans rfl
                            have hcz94_1 : wc.cell? ⟨gb191, 1, none⟩ = some (.int .i64 ((rd_T58 l0 x3_1).f0.f1)) := (blk_cell BK191.out 1).trans rfl
                            have hcz94_2 : wc.cell? ⟨gb191, 2, none⟩ = some (.string ((rd_T58 l0 x3_1).f0.f2)) := (blk_cell BK191.out 2).trans rfl
                            have hcz94_3 : wc.cell? ⟨gb191, 3, none⟩ = some (.int .i64 ((rd_T58 l0 x3_1).f1.f0)) := (blk_cell BK191.out 3).trans rfl
                            have hcz94_4 : wc.cell? ⟨gb191, 4, none⟩ = some (.int .i64 ((rd_T58 l0 x3_1).f1.f1)) := (blk_cell BK191.out 4).trans rfl
                            have hcz94_5 : wc.cell? ⟨gb191, 5, none⟩ = some (.string ((rd_T58 l0 x3_1).f1.f2)) := (blk_cell BK191.out 5).trans rfl
                            have hcz94_6 : wc.cell? ⟨gb191, 6, none⟩ = some (.int .i64 ((rd_T58 l0 x3_1).f2)) := (blk_cell BK191.out 6).trans rfl
                            have hfz94_0 := blk_frozen BK191.out 0
                            have hfz94_1 := blk_frozen BK191.out 1
                            have hfz94_2 := blk_frozen BK191.out 2
                            have hfz94_3 := blk_frozen BK191.out 3
                            have hfz94_4 := blk_frozen BK191.out 4
                            have hfz94_5 := blk_frozen BK191.out 5
                            have hfz94_6 := blk_frozen BK191.out 6
                            go_wp2_with (first | ((with_reducible refine gate_callee (f := 44) rfl ?_); refine goesL_ (some 73) rfl rfl Try.func44 (by kernel_rfl) rfl #[.int .i64 ((rd_T58 l0 x3_1).f2), .agg #[.int .i64 ((rd_T58 l0 x3_1).f0.f0), .int .i64 ((rd_T58 l0 x3_1).f0.f1), .string ((rd_T58 l0 x3_1).f0.f2)], .agg #[.int .i64 ((rd_T58 l0 x3_1).f1.f0), .int .i64 ((rd_T58 l0 x3_1).f1.f1), .string ((rd_T58 l0 x3_1).f1.f2)]] rfl (by (try simp only [List.map_toArray, List.map_cons, List.map_nil]); first | done | rfl | (simp only [List.length_drop, List.length_take]; rfl)) ?_; (with_reducible refine (arith_Do.calls kj45 ((rd_T58 l0 x3_1).f2) ((rd_T58 l0 x3_1).f0.f0) ((rd_T58 l0 x3_1).f0.f1) ((rd_T58 l0 x3_1).f0.f2) ((rd_T58 l0 x3_1).f1.f0) ((rd_T58 l0 x3_1).f1.f1) ((rd_T58 l0 x3_1).f1.f2) t205 t206 t207 t208 _ A62.out).mono ?_); rintro e w95 ⟨rfl, hb⟩; refine ⟨_, rfl, ?_⟩; have n0_ := Aside0.mk (blk_below (g := gb191) (o := .cells #[.int .i64 ((rd_T58 l0 x3_1).f0.f0), .int .i64 ((rd_T58 l0 x3_1).f0.f1), .string ((rd_T58 l0 x3_1).f0.f2), .int .i64 ((rd_T58 l0 x3_1).f1.f0), .int .i64 ((rd_T58 l0 x3_1).f1.f1), .string ((rd_T58 l0 x3_1).f1.f2), .int .i64 ((rd_T58 l0 x3_1).f2)] 58 (0, 0)) (by (with_reducible repeat (first | refine blk_drewN ?_ _ | refine blk_drew ?_ | refine blk_alloc ?_ _)); exact BK191.out) hb); have n1_ := Aside0.mk (blk_below (g := gb192) (o := .cells #[.int .i64 x193000_37, .int .i64 x193001_37, .string x193002_37] 24 (0, 0)) (by (with_reducible repeat (first | refine blk_drewN ?_ _ | refine blk_drew ?_ | refine blk_alloc ?_ _)); exact BK192.out) hb); have n2_ := Aside0.mk (blk_below (g := gb199) (o := .cells #[.int .i64 x200000_45, .int .i64 x200001_45, .string x200002_45] 24 (0, 0)) (by (with_reducible repeat (first | refine blk_drewN ?_ _ | refine blk_drew ?_ | refine blk_alloc ?_ _)); exact BK199.out) hb); have n3_ := Aside0.mk (below_step (by repeat (first | (with_reducible first | exact HB.out | apply below_alloc | apply pw_below_drewN | apply below_drew1 | refine below_set ?_ GE191.out | refine below_set ?_ GE192.out | refine below_set ?_ GE199.out) | exact HB.out)) hb); clear BK191; clear BK192; clear BK199; clear HB; have BK191 := n0_; have BK192 := n1_; have BK199 := n2_; have HB := n3_; clear n0_ n1_ n2_ n3_; (try clear hb); (try clear hb2); (try clear hk); (try clear hi)) | ((with_reducible refine gate_dst (N := 9) rfl ?_); refine box_event ?hg (N := 9) ?hd (cs := #[.int .i64 0, .int .i64 0, .string (⟨#[]⟩ : ByteArray)]) (t := 24) ?hr ?_; (case hd => rfl); (case hg => rfl); (case hr => first | (go_simp; done) | (go_simp; rfl)); intro gb209 hg w96 hbox hb; have n0_ := Aside0.mk (blk_below (g := gb191) (o := .cells #[.int .i64 ((rd_T58 l0 x3_1).f0.f0), .int .i64 ((rd_T58 l0 x3_1).f0.f1), .string ((rd_T58 l0 x3_1).f0.f2), .int .i64 ((rd_T58 l0 x3_1).f1.f0), .int .i64 ((rd_T58 l0 x3_1).f1.f1), .string ((rd_T58 l0 x3_1).f1.f2), .int .i64 ((rd_T58 l0 x3_1).f2)] 58 (0, 0)) (by (with_reducible repeat (first | refine blk_drewN ?_ _ | refine blk_drew ?_ | refine blk_alloc ?_ _)); exact BK191.out) hb); have n1_ := Aside0.mk (blk_below (g := gb192) (o := .cells #[.int .i64 x193000_37, .int .i64 x193001_37, .string x193002_37] 24 (0, 0)) (by (with_reducible repeat (first | refine blk_drewN ?_ _ | refine blk_drew ?_ | refine blk_alloc ?_ _)); exact BK192.out) hb); have n2_ := Aside0.mk (blk_below (g := gb199) (o := .cells #[.int .i64 x200000_45, .int .i64 x200001_45, .string x200002_45] 24 (0, 0)) (by (with_reducible repeat (first | refine blk_drewN ?_ _ | refine blk_drew ?_ | refine blk_alloc ?_ _)); exact BK199.out) hb); have n3_ := Aside0.mk (below_step (by repeat (first | (with_reducible first | exact HB.out | apply below_alloc | apply pw_below_drewN | apply below_drew1 | refine below_set ?_ GE191.out | refine below_set ?_ GE192.out | refine below_set ?_ GE199.out) | exact HB.out)) hb); have n4_ := Aside0.mk (hbox); have n5_ := Aside0.mk ((by rw [hg]; exact (below_size (by repeat (first | (with_reducible first | exact HB.out | apply below_alloc | apply pw_below_drewN | apply below_drew1 | refine below_set ?_ GE191.out | refine below_set ?_ GE192.out | refine below_set ?_ GE199.out) | exact HB.out))) : w.heap.size ≤ gb209)); have n6_ := Aside0.mk ((by rw [hg]; exact (below_size (by repeat (first | (with_reducible first | exact HB.out | apply below_alloc | apply pw_below_drewN | apply below_drew1 | refine below_set ?_ GE191.out | refine below_set ?_ GE192.out | refine below_set ?_ GE199.out) | exact HB.out))) : w.heap.size ≤ gb209)); have n7_ := Aside0.mk ((by rw [hg]; exact Nat.ne_of_lt (blk_lt (g := gb191) (o := .cells #[.int .i64 ((rd_T58 l0 x3_1).f0.f0), .int .i64 ((rd_T58 l0 x3_1).f0.f1), .string ((rd_T58 l0 x3_1).f0.f2), .int .i64 ((rd_T58 l0 x3_1).f1.f0), .int .i64 ((rd_T58 l0 x3_1).f1.f1), .string ((rd_T58 l0 x3_1).f1.f2), .int .i64 ((rd_T58 l0 x3_1).f2)] 58 (0, 0)) (by (with_reducible repeat (first | refine blk_drewN ?_ _ | refine blk_drew ?_ | refine blk_alloc ?_ _)); exact BK191.out)) : gb191 ≠ gb209)); have n8_ := Aside0.mk ((by rw [hg]; exact Nat.ne_of_gt (blk_lt (g := gb191) (o := .cells #[.int .i64 ((rd_T58 l0 x3_1).f0.f0), .int .i64 ((rd_T58 l0 x3_1).f0.f1), .string ((rd_T58 l0 x3_1).f0.f2), .int .i64 ((rd_T58 l0 x3_1).f1.f0), .int .i64 ((rd_T58 l0 x3_1).f1.f1), .string ((rd_T58 l0 x3_1).f1.f2), .int .i64 ((rd_T58 l0 x3_1).f2)] 58 (0, 0)) (by (with_reducible repeat (first | refine blk_drewN ?_ _ | refine blk_drew ?_ | refine blk_alloc ?_ _)); exact BK191.out)) : gb209 ≠ gb191)); have n9_ := Aside0.mk ((by rw [hg]; exact Nat.ne_of_lt (blk_lt (g := gb192) (o := .cells #[.int .i64 x193000_37, .int .i64 x193001_37, .string x193002_37] 24 (0, 0)) (by (with_reducible repeat (first | refine blk_drewN ?_ _ | refine blk_drew ?_ | refine blk_alloc ?_ _)); exact BK192.out)) : gb192 ≠ gb209)); have n10_ := Aside0.mk ((by rw [hg]; exact Nat.ne_of_gt (blk_lt (g := gb192) (o := .cells #[.int .i64 x193000_37, .int .i64 x193001_37, .string x193002_37] 24 (0, 0)) (by (with_reducible repeat (first | refine blk_drewN ?_ _ | refine blk_drew ?_ | refine blk_alloc ?_ _)); exact BK192.out)) : gb209 ≠ gb192)); have n11_ := Aside0.mk ((by rw [hg]; exact Nat.ne_of_lt (blk_lt (g := gb199) (o := .cells #[.int .i64 x200000_45, .int .i64 x200001_45, .string x200002_45] 24 (0, 0)) (by (with_reducible repeat (first | refine blk_drewN ?_ _ | refine blk_drew ?_ | refine blk_alloc ?_ _)); exact BK199.out)) : gb199 ≠ gb209)); have n12_ := Aside0.mk ((by rw [hg]; exact Nat.ne_of_gt (blk_lt (g := gb199) (o := .cells #[.int .i64 x200000_45, .int .i64 x200001_45, .string x200002_45] 24 (0, 0)) (by (with_reducible repeat (first | refine blk_drewN ?_ _ | refine blk_drew ?_ | refine blk_alloc ?_ _)); exact BK199.out)) : gb209 ≠ gb199)); clear BK191; clear BK192; clear BK199; clear HB; have BK191 := n0_; have BK192 := n1_; have BK199 := n2_; have HB := n3_; have BK209 := n4_; have GW209 := n5_; have GE209 := n6_; have NB191_209 := n7_; have NB209_191 := n8_; have NB192_209 := n9_; have NB209_192 := n10_; have NB199_209 := n11_; have NB209_199 := n12_; clear n0_ n1_ n2_ n3_ n4_ n5_ n6_ n7_ n8_ n9_ n10_ n11_ n12_; clear hb hbox hg; have hnb97 := NB209_191.out; have hnc97 := NB191_209.out; have hnb98 := NB209_192.out; have hnc98 := NB192_209.out; have hnb99 := NB209_199.out; have hnc99 := NB199_209.out; have hcz100_0 : w96.cell? ⟨gb209, 0, none⟩ = some (.int .i64 0) := (blk_cell BK209.out 0).trans rfl; have hcz100_1 : w96.cell? ⟨gb209, 1, none⟩ = some (.int .i64 0) := (blk_cell BK209.out 1).trans rfl; have hcz100_2 : w96.cell? ⟨gb209, 2, none⟩ = some (.string (⟨#[]⟩ : ByteArray)) := (blk_cell BK209.out 2).trans rfl; have hfz100_0 := blk_frozen BK209.out 0; have hfz100_1 := blk_frozen BK209.out 1; have hfz100_2 := blk_frozen BK209.out 2; have hcz101_0 : w96.cell? ⟨gb191, 0, none⟩ = some (.int .i64 ((rd_T58 l0 x3_1).f0.f0)) := (blk_cell BK191.out 0).trans rfl; have hcz101_1 : w96.cell? ⟨gb191, 1, none⟩ = some (.int .i64 ((rd_T58 l0 x3_1).f0.f1)) := (blk_cell BK191.out 1).trans rfl; have hcz101_2 : w96.cell? ⟨gb191, 2, none⟩ = some (.string ((rd_T58 l0 x3_1).f0.f2)) := (blk_cell BK191.out 2).trans rfl; have hcz101_3 : w96.cell? ⟨gb191, 3, none⟩ = some (.int .i64 ((rd_T58 l0 x3_1).f1.f0)) := (blk_cell BK191.out 3).trans rfl; have hcz101_4 : w96.cell? ⟨gb191, 4, none⟩ = some (.int .i64 ((rd_T58 l0 x3_1).f1.f1)) := (blk_cell BK191.out 4).trans rfl; have hcz101_5 : w96.cell? ⟨gb191, 5, none⟩ = some (.string ((rd_T58 l0 x3_1).f1.f2)) := (blk_cell BK191.out 5).trans rfl; have hcz101_6 : w96.cell? ⟨gb191, 6, none⟩ = some (.int .i64 ((rd_T58 l0 x3_1).f2)) := (blk_cell BK191.out 6).trans rfl; have hfz101_0 := blk_frozen BK191.out 0; have hfz101_1 := blk_frozen BK191.out 1; have hfz101_2 := blk_frozen BK191.out 2; have hfz101_3 := blk_frozen BK191.out 3; have hfz101_4 := blk_frozen BK191.out 4; have hfz101_5 := blk_frozen BK191.out 5; have hfz101_6 := blk_frozen BK191.out 6) | ((with_reducible refine gate_callee (f := 53) rfl ?_); refine goesL_ (some 79) rfl rfl Try.func53 (by kernel_rfl) rfl #[.agg #[.int .i64 ((rd_T58 l0 x3_1).f0.f0), .int .i64 ((rd_T58 l0 x3_1).f0.f1), .string ((rd_T58 l0 x3_1).f0.f2)]] rfl (by (try simp only [List.map_toArray, List.map_cons, List.map_nil]); first | done | rfl | (simp only [List.length_drop, List.length_take]; rfl)) ?_; (with_reducible refine (arith_Neg.calls ((rd_T58 l0 x3_1).f0.f0) ((rd_T58 l0 x3_1).f0.f1) ((rd_T58 l0 x3_1).f0.f2) t210 t211 t212 t213 _ A63.out).mono ?_); rintro e w102 ⟨rfl, hb⟩; refine ⟨_, rfl, ?_⟩; have n0_ := Aside0.mk (blk_below (g := gb191) (o := .cells #[.int .i64 ((rd_T58 l0 x3_1).f0.f0), .int .i64 ((rd_T58 l0 x3_1).f0.f1), .string ((rd_T58 l0 x3_1).f0.f2), .int .i64 ((rd_T58 l0 x3_1).f1.f0), .int .i64 ((rd_T58 l0 x3_1).f1.f1), .string ((rd_T58 l0 x3_1).f1.f2), .int .i64 ((rd_T58 l0 x3_1).f2)] 58 (0, 0)) (by (with_reducible repeat (first | refine blk_drewN ?_ _ | refine blk_drew ?_ | refine blk_alloc ?_ _)); refine blk_far ?_ NB191_209.out _; (with_reducible repeat (first | refine blk_drewN ?_ _ | refine blk_drew ?_ | refine blk_alloc ?_ _)); refine blk_far ?_ NB191_209.out _; (with_reducible repeat (first | refine blk_drewN ?_ _ | refine blk_drew ?_ | refine blk_alloc ?_ _)); refine blk_far ?_ NB191_209.out _; (with_reducible repeat (first | refine blk_drewN ?_ _ | refine blk_drew ?_ | refine blk_alloc ?_ _)); exact BK191.out) hb); have n1_ := Aside0.mk (blk_below (g := gb192) (o := .cells #[.int .i64 x193000_37, .int .i64 x193001_37, .string x193002_37] 24 (0, 0)) (by (with_reducible repeat (first | refine blk_drewN ?_ _ | refine blk_drew ?_ | refine blk_alloc ?_ _)); refine blk_far ?_ NB192_209.out _; (with_reducible repeat (first | refine blk_drewN ?_ _ | refine blk_drew ?_ | refine blk_alloc ?_ _)); refine blk_far ?_ NB192_209.out _; (with_reducible repeat (first | refine blk_drewN ?_ _ | refine blk_drew ?_ | refine blk_alloc ?_ _)); refine blk_far ?_ NB192_209.out _; (with_reducible repeat (first | refine blk_drewN ?_ _ | refine blk_drew ?_ | refine blk_alloc ?_ _)); exact BK192.out) hb); have n2_ := Aside0.mk (blk_below (g := gb199) (o := .cells #[.int .i64 x200000_45, .int .i64 x200001_45, .string x200002_45] 24 (0, 0)) (by (with_reducible repeat (first | refine blk_drewN ?_ _ | refine blk_drew ?_ | refine blk_alloc ?_ _)); refine blk_far ?_ NB199_209.out _; (with_reducible repeat (first | refine blk_drewN ?_ _ | refine blk_drew ?_ | refine blk_alloc ?_ _)); refine blk_far ?_ NB199_209.out _; (with_reducible repeat (first | refine blk_drewN ?_ _ | refine blk_drew ?_ | refine blk_alloc ?_ _)); refine blk_far ?_ NB199_209.out _; (with_reducible repeat (first | refine blk_drewN ?_ _ | refine blk_drew ?_ | refine blk_alloc ?_ _)); exact BK199.out) hb); have n3_ := Aside0.mk (blk_below (g := gb209) (o := .cells #[.int .i64 t205, .int .i64 t206, .string t207] 24 (0, 0)) (by (with_reducible repeat (first | refine blk_drewN ?_ _ | refine blk_drew ?_ | refine blk_alloc ?_ _)); refine blk_put (cs := #[.int .i64 t205, .int .i64 t206, .string (⟨#[]⟩ : ByteArray)]) ?_ 2 _ rfl; (with_reducible repeat (first | refine blk_drewN ?_ _ | refine blk_drew ?_ | refine blk_alloc ?_ _)); refine blk_put (cs := #[.int .i64 t205, .int .i64 0, .string (⟨#[]⟩ : ByteArray)]) ?_ 1 _ rfl; (with_reducible repeat (first | refine blk_drewN ?_ _ | refine blk_drew ?_ | refine blk_alloc ?_ _)); refine blk_put (cs := #[.int .i64 0, .int .i64 0, .string (⟨#[]⟩ : ByteArray)]) ?_ 0 _ rfl; (with_reducible repeat (first | refine blk_drewN ?_ _ | refine blk_drew ?_ | refine blk_alloc ?_ _)); exact BK209.out) hb); have n4_ := Aside0.mk (below_step (by repeat (first | (with_reducible first | exact HB.out | apply below_alloc | apply pw_below_drewN | apply below_drew1 | refine below_set ?_ GE191.out | refine below_set ?_ GE192.out | refine below_set ?_ GE199.out | refine below_set ?_ GE209.out) | exact HB.out)) hb); clear BK191; clear BK192; clear BK199; clear BK209; clear HB; have BK191 := n0_; have BK192 := n1_; have BK199 := n2_; have BK209 := n3_; have HB := n4_; clear n0_ n1_ n2_ n3_ n4_; (try clear hb); (try clear hb2); (try clear hk); (try clear hi)) | ((with_reducible refine gate_dst (N := 11) rfl ?_); refine box_event ?hg (N := 11) ?hd (cs := #[.int .i64 0, .int .i64 0, .string (⟨#[]⟩ : ByteArray)]) (t := 24) ?hr ?_; (case hd => rfl); (case hg => rfl); (case hr => first | (go_simp; done) | (go_simp; rfl)); intro gb214 hg w103 hbox hb; have n0_ := Aside0.mk (blk_below (g := gb191) (o := .cells #[.int .i64 ((rd_T58 l0 x3_1).f0.f0), .int .i64 ((rd_T58 l0 x3_1).f0.f1), .string ((rd_T58 l0 x3_1).f0.f2), .int .i64 ((rd_T58 l0 x3_1).f1.f0), .int .i64 ((rd_T58 l0 x3_1).f1.f1), .string ((rd_T58 l0 x3_1).f1.f2), .int .i64 ((rd_T58 l0 x3_1).f2)] 58 (0, 0)) (by (with_reducible repeat (first | refine blk_drewN ?_ _ | refine blk_drew ?_ | refine blk_alloc ?_ _)); exact BK191.out) hb); have n1_ := Aside0.mk (blk_below (g := gb192) (o := .cells #[.int .i64 x193000_37, .int .i64 x193001_37, .string x193002_37] 24 (0, 0)) (by (with_reducible repeat (first | refine blk_drewN ?_ _ | refine blk_drew ?_ | refine blk_alloc ?_ _)); exact BK192.out) hb); have n2_ := Aside0.mk (blk_below (g := gb199) (o := .cells #[.int .i64 x200000_45, .int .i64 x200001_45, .string x200002_45] 24 (0, 0)) (by (with_reducible repeat (first | refine blk_drewN ?_ _ | refine blk_drew ?_ | refine blk_alloc ?_ _)); exact BK199.out) hb); have n3_ := Aside0.mk (blk_below (g := gb209) (o := .cells #[.int .i64 t205, .int .i64 t206, .string t207] 24 (0, 0)) (by (with_reducible repeat (first | refine blk_drewN ?_ _ | refine blk_drew ?_ | refine blk_alloc ?_ _)); exact BK209.out) hb); have n4_ := Aside0.mk (below_step (by repeat (first | (with_reducible first | exact HB.out | apply below_alloc | apply pw_below_drewN | apply below_drew1 | refine below_set ?_ GE191.out | refine below_set ?_ GE192.out | refine below_set ?_ GE199.out | refine below_set ?_ GE209.out) | exact HB.out)) hb); have n5_ := Aside0.mk (hbox); have n6_ := Aside0.mk ((by rw [hg]; exact (below_size (by repeat (first | (with_reducible first | exact HB.out | apply below_alloc | apply pw_below_drewN | apply below_drew1 | refine below_set ?_ GE191.out | refine below_set ?_ GE192.out | refine below_set ?_ GE199.out | refine below_set ?_ GE209.out) | exact HB.out))) : w.heap.size ≤ gb214)); have n7_ := Aside0.mk ((by rw [hg]; exact (below_size (by repeat (first | (with_reducible first | exact HB.out | apply below_alloc | apply pw_below_drewN | apply below_drew1 | refine below_set ?_ GE191.out | refine below_set ?_ GE192.out | refine below_set ?_ GE199.out | refine below_set ?_ GE209.out) | exact HB.out))) : w.heap.size ≤ gb214)); have n8_ := Aside0.mk ((by rw [hg]; exact Nat.ne_of_lt (blk_lt (g := gb191) (o := .cells #[.int .i64 ((rd_T58 l0 x3_1).f0.f0), .int .i64 ((rd_T58 l0 x3_1).f0.f1), .string ((rd_T58 l0 x3_1).f0.f2), .int .i64 ((rd_T58 l0 x3_1).f1.f0), .int .i64 ((rd_T58 l0 x3_1).f1.f1), .string ((rd_T58 l0 x3_1).f1.f2), .int .i64 ((rd_T58 l0 x3_1).f2)] 58 (0, 0)) (by (with_reducible repeat (first | refine blk_drewN ?_ _ | refine blk_drew ?_ | refine blk_alloc ?_ _)); exact BK191.out)) : gb191 ≠ gb214)); have n9_ := Aside0.mk ((by rw [hg]; exact Nat.ne_of_gt (blk_lt (g := gb191) (o := .cells #[.int .i64 ((rd_T58 l0 x3_1).f0.f0), .int .i64 ((rd_T58 l0 x3_1).f0.f1), .string ((rd_T58 l0 x3_1).f0.f2), .int .i64 ((rd_T58 l0 x3_1).f1.f0), .int .i64 ((rd_T58 l0 x3_1).f1.f1), .string ((rd_T58 l0 x3_1).f1.f2), .int .i64 ((rd_T58 l0 x3_1).f2)] 58 (0, 0)) (by (with_reducible repeat (first | refine blk_drewN ?_ _ | refine blk_drew ?_ | refine blk_alloc ?_ _)); exact BK191.out)) : gb214 ≠ gb191)); have n10_ := Aside0.mk ((by rw [hg]; exact Nat.ne_of_lt (blk_lt (g := gb192) (o := .cells #[.int .i64 x193000_37, .int .i64 x193001_37, .string x193002_37] 24 (0, 0)) (by (with_reducible repeat (first | refine blk_drewN ?_ _ | refine blk_drew ?_ | refine blk_alloc ?_ _)); exact BK192.out)) : gb192 ≠ gb214)); have n11_ := Aside0.mk ((by rw [hg]; exact Nat.ne_of_gt (blk_lt (g := gb192) (o := .cells #[.int .i64 x193000_37, .int .i64 x193001_37, .string x193002_37] 24 (0, 0)) (by (with_reducible repeat (first | refine blk_drewN ?_ _ | refine blk_drew ?_ | refine blk_alloc ?_ _)); exact BK192.out)) : gb214 ≠ gb192)); have n12_ := Aside0.mk ((by rw [hg]; exact Nat.ne_of_lt (blk_lt (g := gb199) (o := .cells #[.int .i64 x200000_45, .int .i64 x200001_45, .string x200002_45] 24 (0, 0)) (by (with_reducible repeat (first | refine blk_drewN ?_ _ | refine blk_drew ?_ | refine blk_alloc ?_ _)); exact BK199.out)) : gb199 ≠ gb214)); have n13_ := Aside0.mk ((by rw [hg]; exact Nat.ne_of_gt (blk_lt (g := gb199) (o := .cells #[.int .i64 x200000_45, .int .i64 x200001_45, .string x200002_45] 24 (0, 0)) (by (with_reducible repeat (first | refine blk_drewN ?_ _ | refine blk_drew ?_ | refine blk_alloc ?_ _)); exact BK199.out)) : gb214 ≠ gb199)); have n14_ := Aside0.mk ((by rw [hg]; exact Nat.ne_of_lt (blk_lt (g := gb209) (o := .cells #[.int .i64 t205, .int .i64 t206, .string t207] 24 (0, 0)) (by (with_reducible repeat (first | refine blk_drewN ?_ _ | refine blk_drew ?_ | refine blk_alloc ?_ _)); exact BK209.out)) : gb209 ≠ gb214)); have n15_ := Aside0.mk ((by rw [hg]; exact Nat.ne_of_gt (blk_lt (g := gb209) (o := .cells #[.int .i64 t205, .int .i64 t206, .string t207] 24 (0, 0)) (by (with_reducible repeat (first | refine blk_drewN ?_ _ | refine blk_drew ?_ | refine blk_alloc ?_ _)); exact BK209.out)) : gb214 ≠ gb209)); clear BK191; clear BK192; clear BK199; clear BK209; clear HB; have BK191 := n0_; have BK192 := n1_; have BK199 := n2_; have BK209 := n3_; have HB := n4_; have BK214 := n5_; have GW214 := n6_; have GE214 := n7_; have NB191_214 := n8_; have NB214_191 := n9_; have NB192_214 := n10_; have NB214_192 := n11_; have NB199_214 := n12_; have NB214_199 := n13_; have NB209_214 := n14_; have NB214_209 := n15_; clear n0_ n1_ n2_ n3_ n4_ n5_ n6_ n7_ n8_ n9_ n10_ n11_ n12_ n13_ n14_ n15_; clear hb hbox hg; have hnb104 := NB214_191.out; have hnc104 := NB191_214.out; have hnb105 := NB214_192.out; have hnc105 := NB192_214.out; have hnb106 := NB214_199.out; have hnc106 := NB199_214.out; have hnb107 := NB214_209.out; have hnc107 := NB209_214.out; have hcz108_0 : w103.cell? ⟨gb214, 0, none⟩ = some (.int .i64 0) := (blk_cell BK214.out 0).trans rfl; have hcz108_1 : w103.cell? ⟨gb214, 1, none⟩ = some (.int .i64 0) := (blk_cell BK214.out 1).trans rfl; have hcz108_2 : w103.cell? ⟨gb214, 2, none⟩ = some (.string (⟨#[]⟩ : ByteArray)) := (blk_cell BK214.out 2).trans rfl; have hfz108_0 := blk_frozen BK214.out 0; have hfz108_1 := blk_frozen BK214.out 1; have hfz108_2 := blk_frozen BK214.out 2; have hcz109_0 : w103.cell? ⟨gb209, 0, none⟩ = some (.int .i64 t205) := (blk_cell BK209.out 0).trans rfl; have hcz109_1 : w103.cell? ⟨gb209, 1, none⟩ = some (.int .i64 t206) := (blk_cell BK209.out 1).trans rfl; have hcz109_2 : w103.cell? ⟨gb209, 2, none⟩ = some (.string t207) := (blk_cell BK209.out 2).trans rfl; have hfz109_0 := blk_frozen BK209.out 0; have hfz109_1 := blk_frozen BK209.out 1; have hfz109_2 := blk_frozen BK209.out 2; have hnb110 := NB192_199.out; have hnc110 := NB199_192.out; have hcz111_0 : w103.cell? ⟨gb192, 0, none⟩ = some (.int .i64 x193000_37) := (blk_cell BK192.out 0).trans rfl; have hcz111_1 : w103.cell? ⟨gb192, 1, none⟩ = some (.int .i64 x193001_37) := (blk_cell BK192.out 1).trans rfl; have hcz111_2 : w103.cell? ⟨gb192, 2, none⟩ = some (.string x193002_37) := (blk_cell BK192.out 2).trans rfl; have hfz111_0 := blk_frozen BK192.out 0; have hfz111_1 := blk_frozen BK192.out 1; have hfz111_2 := blk_frozen BK192.out 2) | ((with_reducible refine gate_callee (f := 54) rfl ?_); refine goesL_ (some 86) rfl rfl Try.func54 (by kernel_rfl) rfl #[.agg #[.int .i64 t205, .int .i64 t206, .string t207], .int .i64 t208, .agg #[.int .i64 x193000_37, .int .i64 x193001_37, .string x193002_37], .int .i64 x6_37] rfl (by (try simp only [List.map_toArray, List.map_cons, List.map_nil]); first | done | rfl | (simp only [List.length_drop, List.length_take]; rfl)) ?_; (with_reducible refine (cadastrelaw4_is.calls t205 t206 t207 t208 x193000_37 x193001_37 x193002_37 x6_37 true _ A64.out).mono ?_); rintro e w112 ⟨rfl, hb⟩; refine ⟨_, rfl, ?_⟩; have n0_ := Aside0.mk (blk_below (g := gb191) (o := .cells #[.int .i64 ((rd_T58 l0 x3_1).f0.f0), .int .i64 ((rd_T58 l0 x3_1).f0.f1), .string ((rd_T58 l0 x3_1).f0.f2), .int .i64 ((rd_T58 l0 x3_1).f1.f0), .int .i64 ((rd_T58 l0 x3_1).f1.f1), .string ((rd_T58 l0 x3_1).f1.f2), .int .i64 ((rd_T58 l0 x3_1).f2)] 58 (0, 0)) (by (with_reducible repeat (first | refine blk_drewN ?_ _ | refine blk_drew ?_ | refine blk_alloc ?_ _)); refine blk_far ?_ NB191_214.out _; (with_reducible repeat (first | refine blk_drewN ?_ _ | refine blk_drew ?_ | refine blk_alloc ?_ _)); refine blk_far ?_ NB191_214.out _; (with_reducible repeat (first | refine blk_drewN ?_ _ | refine blk_drew ?_ | refine blk_alloc ?_ _)); refine blk_far ?_ NB191_214.out _; (with_reducible repeat (first | refine blk_drewN ?_ _ | refine blk_drew ?_ | refine blk_alloc ?_ _)); exact BK191.out) hb); have n1_ := Aside0.mk (blk_below (g := gb192) (o := .cells #[.int .i64 x193000_37, .int .i64 x193001_37, .string x193002_37] 24 (0, 0)) (by (with_reducible repeat (first | refine blk_drewN ?_ _ | refine blk_drew ?_ | refine blk_alloc ?_ _)); refine blk_far ?_ NB192_214.out _; (with_reducible repeat (first | refine blk_drewN ?_ _ | refine blk_drew ?_ | refine blk_alloc ?_ _)); refine blk_far ?_ NB192_214.out _; (with_reducible repeat (first | refine blk_drewN ?_ _ | refine blk_drew ?_ | refine blk_alloc ?_ _)); refine blk_far ?_ NB192_214.out _; (with_reducible repeat (first | refine blk_drewN ?_ _ | refine blk_drew ?_ | refine blk_alloc ?_ _)); exact BK192.out) hb); have n2_ := Aside0.mk (blk_below (g := gb199) (o := .cells #[.int .i64 x200000_45, .int .i64 x200001_45, .string x200002_45] 24 (0, 0)) (by (with_reducible repeat (first | refine blk_drewN ?_ _ | refine blk_drew ?_ | refine blk_alloc ?_ _)); refine blk_far ?_ NB199_214.out _; (with_reducible repeat (first | refine blk_drewN ?_ _ | refine blk_drew ?_ | refine blk_alloc ?_ _)); refine blk_far ?_ NB199_214.out _; (with_reducible repeat (first | refine blk_drewN ?_ _ | refine blk_drew ?_ | refine blk_alloc ?_ _)); refine blk_far ?_ NB199_214.out _; (with_reducible repeat (first | refine blk_drewN ?_ _ | refine blk_drew ?_ | refine blk_alloc ?_ _)); exact BK199.out) hb); have n3_ := Aside0.mk (blk_below (g := gb209) (o := .cells #[.int .i64 t205, .int .i64 t206, .string t207] 24 (0, 0)) (by (with_reducible repeat (first | refine blk_drewN ?_ _ | refine blk_drew ?_ | refine blk_alloc ?_ _)); refine blk_far ?_ NB209_214.out _; (with_reducible repeat (first | refine blk_drewN ?_ _ | refine blk_drew ?_ | refine blk_alloc ?_ _)); refine blk_far ?_ NB209_214.out _; (with_reducible repeat (first | refine blk_drewN ?_ _ | refine blk_drew ?_ | refine blk_alloc ?_ _)); refine blk_far ?_ NB209_214.out _; (with_reducible repeat (first | refine blk_drewN ?_ _ | refine blk_drew ?_ | refine blk_alloc ?_ _)); exact BK209.out) hb); have n4_ := Aside0.mk (blk_below (g := gb214) (o := .cells #[.int .i64 t210, .int .i64 t211, .string t212] 24 (0, 0)) (by (with_reducible repeat (first | refine blk_drewN ?_ _ | refine blk_drew ?_ | refine blk_alloc ?_ _)); refine blk_put (cs := #[.int .i64 t210, .int .i64 t211, .string (⟨#[]⟩ : ByteArray)]) ?_ 2 _ rfl; (with_reducible repeat (first | refine blk_drewN ?_ _ | refine blk_drew ?_ | refine blk_alloc ?_ _)); refine blk_put (cs := #[.int .i64 t210, .int .i64 0, .string (⟨#[]⟩ : ByteArray)]) ?_ 1 _ rfl; (with_reducible repeat (first | refine blk_drewN ?_ _ | refine blk_drew ?_ | refine blk_alloc ?_ _)); refine blk_put (cs := #[.int .i64 0, .int .i64 0, .string (⟨#[]⟩ : ByteArray)]) ?_ 0 _ rfl; (with_reducible repeat (first | refine blk_drewN ?_ _ | refine blk_drew ?_ | refine blk_alloc ?_ _)); exact BK214.out) hb); have n5_ := Aside0.mk (below_step (by repeat (first | (with_reducible first | exact HB.out | apply below_alloc | apply pw_below_drewN | apply below_drew1 | refine below_set ?_ GE191.out | refine below_set ?_ GE192.out | refine below_set ?_ GE199.out | refine below_set ?_ GE209.out | refine below_set ?_ GE214.out) | exact HB.out)) hb); clear BK191; clear BK192; clear BK199; clear BK209; clear BK214; clear HB; have BK191 := n0_; have BK192 := n1_; have BK199 := n2_; have BK209 := n3_; have BK214 := n4_; have HB := n5_; clear n0_ n1_ n2_ n3_ n4_ n5_; (try clear hb); (try clear hb2); (try clear hk); (try clear hi); have hcz113_0 : w112.cell? ⟨gb214, 0, none⟩ = some (.int .i64 t210) := (blk_cell BK214.out 0).trans rfl; have hcz113_1 : w112.cell? ⟨gb214, 1, none⟩ = some (.int .i64 t211) := (blk_cell BK214.out 1).trans rfl; have hcz113_2 : w112.cell? ⟨gb214, 2, none⟩ = some (.string t212) := (blk_cell BK214.out 2).trans rfl; have hfz113_0 := blk_frozen BK214.out 0; have hfz113_1 := blk_frozen BK214.out 1; have hfz113_2 := blk_frozen BK214.out 2; have hcz114_0 : w112.cell? ⟨gb199, 0, none⟩ = some (.int .i64 x200000_45) := (blk_cell BK199.out 0).trans rfl; have hcz114_1 : w112.cell? ⟨gb199, 1, none⟩ = some (.int .i64 x200001_45) := (blk_cell BK199.out 1).trans rfl; have hcz114_2 : w112.cell? ⟨gb199, 2, none⟩ = some (.string x200002_45) := (blk_cell BK199.out 2).trans rfl; have hfz114_0 := blk_frozen BK199.out 0; have hfz114_1 := blk_frozen BK199.out 1; have hfz114_2 := blk_frozen BK199.out 2) | (go_at_call 54; (with_reducible refine (cadastrelaw4_is.calls t210 t211 t212 t213 x200000_45 x200001_45 x200002_45 x8_45 false _ A66.out).mono ?_); rintro e w115 ⟨rfl, hb⟩; have n0_ := Aside0.mk (blk_below (g := gb191) (o := .cells #[.int .i64 ((rd_T58 l0 x3_1).f0.f0), .int .i64 ((rd_T58 l0 x3_1).f0.f1), .string ((rd_T58 l0 x3_1).f0.f2), .int .i64 ((rd_T58 l0 x3_1).f1.f0), .int .i64 ((rd_T58 l0 x3_1).f1.f1), .string ((rd_T58 l0 x3_1).f1.f2), .int .i64 ((rd_T58 l0 x3_1).f2)] 58 (0, 0)) (by (with_reducible repeat (first | refine blk_drewN ?_ _ | refine blk_drew ?_ | refine blk_alloc ?_ _)); exact BK191.out) hb); have n1_ := Aside0.mk (blk_below (g := gb192) (o := .cells #[.int .i64 x193000_37, .int .i64 x193001_37, .string x193002_37] 24 (0, 0)) (by (with_reducible repeat (first | refine blk_drewN ?_ _ | refine blk_drew ?_ | refine blk_alloc ?_ _)); exact BK192.out) hb); have n2_ := Aside0.mk (blk_below (g := gb199) (o := .cells #[.int .i64 x200000_45, .int .i64 x200001_45, .string x200002_45] 24 (0, 0)) (by (with_reducible repeat (first | refine blk_drewN ?_ _ | refine blk_drew ?_ | refine blk_alloc ?_ _)); exact BK199.out) hb); have n3_ := Aside0.mk (blk_below (g := gb209) (o := .cells #[.int .i64 t205, .int .i64 t206, .string t207] 24 (0, 0)) (by (with_reducible repeat (first | refine blk_drewN ?_ _ | refine blk_drew ?_ | refine blk_alloc ?_ _)); exact BK209.out) hb); have n4_ := Aside0.mk (blk_below (g := gb214) (o := .cells #[.int .i64 t210, .int .i64 t211, .string t212] 24 (0, 0)) (by (with_reducible repeat (first | refine blk_drewN ?_ _ | refine blk_drew ?_ | refine blk_alloc ?_ _)); exact BK214.out) hb); have n5_ := Aside0.mk (below_step (by repeat (first | (with_reducible first | exact HB.out | apply below_alloc | apply pw_below_drewN | apply below_drew1 | refine below_set ?_ GE191.out | refine below_set ?_ GE192.out | refine below_set ?_ GE199.out | refine below_set ?_ GE209.out | refine below_set ?_ GE214.out) | exact HB.out)) hb); clear BK191; clear BK192; clear BK199; clear BK209; clear BK214; clear HB; have BK191 := n0_; have BK192 := n1_; have BK199 := n2_; have BK209 := n3_; have BK214 := n4_; have HB := n5_; clear n0_ n1_ n2_ n3_ n4_ n5_; (try clear hb); (try clear hb2); (try clear hk); (try clear hi); (try clear A66)))
                            go_ret
                            exact ⟨by first | rfl | (simp [errW_none, errW_some] <;> rfl) | (simp [*, errW_none, errW_some] <;> rfl), by repeat (first | (with_reducible first | exact HB.out | apply below_alloc | apply pw_below_drewN | apply below_drew1 | refine below_set ?_ GE191.out | refine below_set ?_ GE192.out | refine below_set ?_ GE199.out | refine below_set ?_ GE209.out | refine below_set ?_ GE214.out) | exact HB.out)⟩
                        · replace c65 := Bool.eq_false_iff.mpr c65
                          subst c65
                          have H1 : (some false) = some r := by rw [if_neg (show ¬ (false = true) by decide)] at H; exact H
                          clear H
                          have H := H1
                          clear H1
                          obtain rfl := Option.some.inj H
                          have hnb116 := NB191_192.out
                          have hnc116 := NB192_191.out
                          have hnb117 := NB191_199.out
                          have hnc117 := NB199_191.out
                          have hcz118_0 : wc.cell? ⟨gb191, 0, none⟩ = some (.int .i64 ((rd_T58 l0 x3_1).f0.f0)) := (blk_cell BK191.out 0).trans rfl
                          have hcz118_1 : wc.cell? ⟨gb191, 1, none⟩ = some (.int .i64 ((rd_T58 l0 x3_1).f0.f1)) := (blk_cell BK191.out 1).trans rfl
                          have hcz118_2 : wc.cell? ⟨gb191, 2, none⟩ = some (.string ((rd_T58 l0 x3_1).f0.f2)) := (blk_cell BK191.out 2).trans rfl
                          have hcz118_3 : wc.cell? ⟨gb191, 3, none⟩ = some (.int .i64 ((rd_T58 l0 x3_1).f1.f0)) := (blk_cell BK191.out 3).trans rfl
                          have hcz118_4 : wc.cell? ⟨gb191, 4, none⟩ = some (.int .i64 ((rd_T58 l0 x3_1).f1.f1)) := (blk_cell BK191.out 4).trans rfl
                          have hcz118_5 : wc.cell? ⟨gb191, 5, none⟩ = some (.string ((rd_T58 l0 x3_1).f1.f2)) := (blk_cell BK191.out 5).trans rfl
                          have hcz118_6 : wc.cell? ⟨gb191, 6, none⟩ = some (.int .i64 ((rd_T58 l0 x3_1).f2)) := (blk_cell BK191.out 6).trans rfl
                          have hfz118_0 := blk_frozen BK191.out 0
                          have hfz118_1 := blk_frozen BK191.out 1
                          have hfz118_2 := blk_frozen BK191.out 2
                          have hfz118_3 := blk_frozen BK191.out 3
                          have hfz118_4 := blk_frozen BK191.out 4
                          have hfz118_5 := blk_frozen BK191.out 5
                          have hfz118_6 := blk_frozen BK191.out 6
                          go_wp2_with (first | ((with_reducible refine gate_callee (f := 44) rfl ?_); refine goesL_ (some 73) rfl rfl Try.func44 (by kernel_rfl) rfl #[.int .i64 ((rd_T58 l0 x3_1).f2), .agg #[.int .i64 ((rd_T58 l0 x3_1).f0.f0), .int .i64 ((rd_T58 l0 x3_1).f0.f1), .string ((rd_T58 l0 x3_1).f0.f2)], .agg #[.int .i64 ((rd_T58 l0 x3_1).f1.f0), .int .i64 ((rd_T58 l0 x3_1).f1.f1), .string ((rd_T58 l0 x3_1).f1.f2)]] rfl (by (try simp only [List.map_toArray, List.map_cons, List.map_nil]); first | done | rfl | (simp only [List.length_drop, List.length_take]; rfl)) ?_; (with_reducible refine (arith_Do.calls kj45 ((rd_T58 l0 x3_1).f2) ((rd_T58 l0 x3_1).f0.f0) ((rd_T58 l0 x3_1).f0.f1) ((rd_T58 l0 x3_1).f0.f2) ((rd_T58 l0 x3_1).f1.f0) ((rd_T58 l0 x3_1).f1.f1) ((rd_T58 l0 x3_1).f1.f2) t205 t206 t207 t208 _ A62.out).mono ?_); rintro e w119 ⟨rfl, hb⟩; refine ⟨_, rfl, ?_⟩; have n0_ := Aside0.mk (blk_below (g := gb191) (o := .cells #[.int .i64 ((rd_T58 l0 x3_1).f0.f0), .int .i64 ((rd_T58 l0 x3_1).f0.f1), .string ((rd_T58 l0 x3_1).f0.f2), .int .i64 ((rd_T58 l0 x3_1).f1.f0), .int .i64 ((rd_T58 l0 x3_1).f1.f1), .string ((rd_T58 l0 x3_1).f1.f2), .int .i64 ((rd_T58 l0 x3_1).f2)] 58 (0, 0)) (by (with_reducible repeat (first | refine blk_drewN ?_ _ | refine blk_drew ?_ | refine blk_alloc ?_ _)); exact BK191.out) hb); have n1_ := Aside0.mk (blk_below (g := gb192) (o := .cells #[.int .i64 x193000_37, .int .i64 x193001_37, .string x193002_37] 24 (0, 0)) (by (with_reducible repeat (first | refine blk_drewN ?_ _ | refine blk_drew ?_ | refine blk_alloc ?_ _)); exact BK192.out) hb); have n2_ := Aside0.mk (blk_below (g := gb199) (o := .cells #[.int .i64 x200000_45, .int .i64 x200001_45, .string x200002_45] 24 (0, 0)) (by (with_reducible repeat (first | refine blk_drewN ?_ _ | refine blk_drew ?_ | refine blk_alloc ?_ _)); exact BK199.out) hb); have n3_ := Aside0.mk (below_step (by repeat (first | (with_reducible first | exact HB.out | apply below_alloc | apply pw_below_drewN | apply below_drew1 | refine below_set ?_ GE191.out | refine below_set ?_ GE192.out | refine below_set ?_ GE199.out) | exact HB.out)) hb); clear BK191; clear BK192; clear BK199; clear HB; have BK191 := n0_; have BK192 := n1_; have BK199 := n2_; have HB := n3_; clear n0_ n1_ n2_ n3_; (try clear hb); (try clear hb2); (try clear hk); (try clear hi)) | ((with_reducible refine gate_dst (N := 9) rfl ?_); refine box_event ?hg (N := 9) ?hd (cs := #[.int .i64 0, .int .i64 0, .string (⟨#[]⟩ : ByteArray)]) (t := 24) ?hr ?_; (case hd => rfl); (case hg => rfl); (case hr => first | (go_simp; done) | (go_simp; rfl)); intro gb209 hg w120 hbox hb; have n0_ := Aside0.mk (blk_below (g := gb191) (o := .cells #[.int .i64 ((rd_T58 l0 x3_1).f0.f0), .int .i64 ((rd_T58 l0 x3_1).f0.f1), .string ((rd_T58 l0 x3_1).f0.f2), .int .i64 ((rd_T58 l0 x3_1).f1.f0), .int .i64 ((rd_T58 l0 x3_1).f1.f1), .string ((rd_T58 l0 x3_1).f1.f2), .int .i64 ((rd_T58 l0 x3_1).f2)] 58 (0, 0)) (by (with_reducible repeat (first | refine blk_drewN ?_ _ | refine blk_drew ?_ | refine blk_alloc ?_ _)); exact BK191.out) hb); have n1_ := Aside0.mk (blk_below (g := gb192) (o := .cells #[.int .i64 x193000_37, .int .i64 x193001_37, .string x193002_37] 24 (0, 0)) (by (with_reducible repeat (first | refine blk_drewN ?_ _ | refine blk_drew ?_ | refine blk_alloc ?_ _)); exact BK192.out) hb); have n2_ := Aside0.mk (blk_below (g := gb199) (o := .cells #[.int .i64 x200000_45, .int .i64 x200001_45, .string x200002_45] 24 (0, 0)) (by (with_reducible repeat (first | refine blk_drewN ?_ _ | refine blk_drew ?_ | refine blk_alloc ?_ _)); exact BK199.out) hb); have n3_ := Aside0.mk (below_step (by repeat (first | (with_reducible first | exact HB.out | apply below_alloc | apply pw_below_drewN | apply below_drew1 | refine below_set ?_ GE191.out | refine below_set ?_ GE192.out | refine below_set ?_ GE199.out) | exact HB.out)) hb); have n4_ := Aside0.mk (hbox); have n5_ := Aside0.mk ((by rw [hg]; exact (below_size (by repeat (first | (with_reducible first | exact HB.out | apply below_alloc | apply pw_below_drewN | apply below_drew1 | refine below_set ?_ GE191.out | refine below_set ?_ GE192.out | refine below_set ?_ GE199.out) | exact HB.out))) : w.heap.size ≤ gb209)); have n6_ := Aside0.mk ((by rw [hg]; exact (below_size (by repeat (first | (with_reducible first | exact HB.out | apply below_alloc | apply pw_below_drewN | apply below_drew1 | refine below_set ?_ GE191.out | refine below_set ?_ GE192.out | refine below_set ?_ GE199.out) | exact HB.out))) : w.heap.size ≤ gb209)); have n7_ := Aside0.mk ((by rw [hg]; exact Nat.ne_of_lt (blk_lt (g := gb191) (o := .cells #[.int .i64 ((rd_T58 l0 x3_1).f0.f0), .int .i64 ((rd_T58 l0 x3_1).f0.f1), .string ((rd_T58 l0 x3_1).f0.f2), .int .i64 ((rd_T58 l0 x3_1).f1.f0), .int .i64 ((rd_T58 l0 x3_1).f1.f1), .string ((rd_T58 l0 x3_1).f1.f2), .int .i64 ((rd_T58 l0 x3_1).f2)] 58 (0, 0)) (by (with_reducible repeat (first | refine blk_drewN ?_ _ | refine blk_drew ?_ | refine blk_alloc ?_ _)); exact BK191.out)) : gb191 ≠ gb209)); have n8_ := Aside0.mk ((by rw [hg]; exact Nat.ne_of_gt (blk_lt (g := gb191) (o := .cells #[.int .i64 ((rd_T58 l0 x3_1).f0.f0), .int .i64 ((rd_T58 l0 x3_1).f0.f1), .string ((rd_T58 l0 x3_1).f0.f2), .int .i64 ((rd_T58 l0 x3_1).f1.f0), .int .i64 ((rd_T58 l0 x3_1).f1.f1), .string ((rd_T58 l0 x3_1).f1.f2), .int .i64 ((rd_T58 l0 x3_1).f2)] 58 (0, 0)) (by (with_reducible repeat (first | refine blk_drewN ?_ _ | refine blk_drew ?_ | refine blk_alloc ?_ _)); exact BK191.out)) : gb209 ≠ gb191)); have n9_ := Aside0.mk ((by rw [hg]; exact Nat.ne_of_lt (blk_lt (g := gb192) (o := .cells #[.int .i64 x193000_37, .int .i64 x193001_37, .string x193002_37] 24 (0, 0)) (by (with_reducible repeat (first | refine blk_drewN ?_ _ | refine blk_drew ?_ | refine blk_alloc ?_ _)); exact BK192.out)) : gb192 ≠ gb209)); have n10_ := Aside0.mk ((by rw [hg]; exact Nat.ne_of_gt (blk_lt (g := gb192) (o := .cells #[.int .i64 x193000_37, .int .i64 x193001_37, .string x193002_37] 24 (0, 0)) (by (with_reducible repeat (first | refine blk_drewN ?_ _ | refine blk_drew ?_ | refine blk_alloc ?_ _)); exact BK192.out)) : gb209 ≠ gb192)); have n11_ := Aside0.mk ((by rw [hg]; exact Nat.ne_of_lt (blk_lt (g := gb199) (o := .cells #[.int .i64 x200000_45, .int .i64 x200001_45, .string x200002_45] 24 (0, 0)) (by (with_reducible repeat (first | refine blk_drewN ?_ _ | refine blk_drew ?_ | refine blk_alloc ?_ _)); exact BK199.out)) : gb199 ≠ gb209)); have n12_ := Aside0.mk ((by rw [hg]; exact Nat.ne_of_gt (blk_lt (g := gb199) (o := .cells #[.int .i64 x200000_45, .int .i64 x200001_45, .string x200002_45] 24 (0, 0)) (by (with_reducible repeat (first | refine blk_drewN ?_ _ | refine blk_drew ?_ | refine blk_alloc ?_ _)); exact BK199.out)) : gb209 ≠ gb199)); clear BK191; clear BK192; clear BK199; clear HB; have BK191 := n0_; have BK192 := n1_; have BK199 := n2_; have HB := n3_; have BK209 := n4_; have GW209 := n5_; have GE209 := n6_; have NB191_209 := n7_; have NB209_191 := n8_; have NB192_209 := n9_; have NB209_192 := n10_; have NB199_209 := n11_; have NB209_199 := n12_; clear n0_ n1_ n2_ n3_ n4_ n5_ n6_ n7_ n8_ n9_ n10_ n11_ n12_; clear hb hbox hg; have hnb121 := NB209_191.out; have hnc121 := NB191_209.out; have hnb122 := NB209_192.out; have hnc122 := NB192_209.out; have hnb123 := NB209_199.out; have hnc123 := NB199_209.out; have hcz124_0 : w120.cell? ⟨gb209, 0, none⟩ = some (.int .i64 0) := (blk_cell BK209.out 0).trans rfl; have hcz124_1 : w120.cell? ⟨gb209, 1, none⟩ = some (.int .i64 0) := (blk_cell BK209.out 1).trans rfl; have hcz124_2 : w120.cell? ⟨gb209, 2, none⟩ = some (.string (⟨#[]⟩ : ByteArray)) := (blk_cell BK209.out 2).trans rfl; have hfz124_0 := blk_frozen BK209.out 0; have hfz124_1 := blk_frozen BK209.out 1; have hfz124_2 := blk_frozen BK209.out 2; have hcz125_0 : w120.cell? ⟨gb191, 0, none⟩ = some (.int .i64 ((rd_T58 l0 x3_1).f0.f0)) := (blk_cell BK191.out 0).trans rfl; have hcz125_1 : w120.cell? ⟨gb191, 1, none⟩ = some (.int .i64 ((rd_T58 l0 x3_1).f0.f1)) := (blk_cell BK191.out 1).trans rfl; have hcz125_2 : w120.cell? ⟨gb191, 2, none⟩ = some (.string ((rd_T58 l0 x3_1).f0.f2)) := (blk_cell BK191.out 2).trans rfl; have hcz125_3 : w120.cell? ⟨gb191, 3, none⟩ = some (.int .i64 ((rd_T58 l0 x3_1).f1.f0)) := (blk_cell BK191.out 3).trans rfl; have hcz125_4 : w120.cell? ⟨gb191, 4, none⟩ = some (.int .i64 ((rd_T58 l0 x3_1).f1.f1)) := (blk_cell BK191.out 4).trans rfl; have hcz125_5 : w120.cell? ⟨gb191, 5, none⟩ = some (.string ((rd_T58 l0 x3_1).f1.f2)) := (blk_cell BK191.out 5).trans rfl; have hcz125_6 : w120.cell? ⟨gb191, 6, none⟩ = some (.int .i64 ((rd_T58 l0 x3_1).f2)) := (blk_cell BK191.out 6).trans rfl; have hfz125_0 := blk_frozen BK191.out 0; have hfz125_1 := blk_frozen BK191.out 1; have hfz125_2 := blk_frozen BK191.out 2; have hfz125_3 := blk_frozen BK191.out 3; have hfz125_4 := blk_frozen BK191.out 4; have hfz125_5 := blk_frozen BK191.out 5; have hfz125_6 := blk_frozen BK191.out 6) | ((with_reducible refine gate_callee (f := 53) rfl ?_); refine goesL_ (some 79) rfl rfl Try.func53 (by kernel_rfl) rfl #[.agg #[.int .i64 ((rd_T58 l0 x3_1).f0.f0), .int .i64 ((rd_T58 l0 x3_1).f0.f1), .string ((rd_T58 l0 x3_1).f0.f2)]] rfl (by (try simp only [List.map_toArray, List.map_cons, List.map_nil]); first | done | rfl | (simp only [List.length_drop, List.length_take]; rfl)) ?_; (with_reducible refine (arith_Neg.calls ((rd_T58 l0 x3_1).f0.f0) ((rd_T58 l0 x3_1).f0.f1) ((rd_T58 l0 x3_1).f0.f2) t210 t211 t212 t213 _ A63.out).mono ?_); rintro e w126 ⟨rfl, hb⟩; refine ⟨_, rfl, ?_⟩; have n0_ := Aside0.mk (blk_below (g := gb191) (o := .cells #[.int .i64 ((rd_T58 l0 x3_1).f0.f0), .int .i64 ((rd_T58 l0 x3_1).f0.f1), .string ((rd_T58 l0 x3_1).f0.f2), .int .i64 ((rd_T58 l0 x3_1).f1.f0), .int .i64 ((rd_T58 l0 x3_1).f1.f1), .string ((rd_T58 l0 x3_1).f1.f2), .int .i64 ((rd_T58 l0 x3_1).f2)] 58 (0, 0)) (by (with_reducible repeat (first | refine blk_drewN ?_ _ | refine blk_drew ?_ | refine blk_alloc ?_ _)); refine blk_far ?_ NB191_209.out _; (with_reducible repeat (first | refine blk_drewN ?_ _ | refine blk_drew ?_ | refine blk_alloc ?_ _)); refine blk_far ?_ NB191_209.out _; (with_reducible repeat (first | refine blk_drewN ?_ _ | refine blk_drew ?_ | refine blk_alloc ?_ _)); refine blk_far ?_ NB191_209.out _; (with_reducible repeat (first | refine blk_drewN ?_ _ | refine blk_drew ?_ | refine blk_alloc ?_ _)); exact BK191.out) hb); have n1_ := Aside0.mk (blk_below (g := gb192) (o := .cells #[.int .i64 x193000_37, .int .i64 x193001_37, .string x193002_37] 24 (0, 0)) (by (with_reducible repeat (first | refine blk_drewN ?_ _ | refine blk_drew ?_ | refine blk_alloc ?_ _)); refine blk_far ?_ NB192_209.out _; (with_reducible repeat (first | refine blk_drewN ?_ _ | refine blk_drew ?_ | refine blk_alloc ?_ _)); refine blk_far ?_ NB192_209.out _; (with_reducible repeat (first | refine blk_drewN ?_ _ | refine blk_drew ?_ | refine blk_alloc ?_ _)); refine blk_far ?_ NB192_209.out _; (with_reducible repeat (first | refine blk_drewN ?_ _ | refine blk_drew ?_ | refine blk_alloc ?_ _)); exact BK192.out) hb); have n2_ := Aside0.mk (blk_below (g := gb199) (o := .cells #[.int .i64 x200000_45, .int .i64 x200001_45, .string x200002_45] 24 (0, 0)) (by (with_reducible repeat (first | refine blk_drewN ?_ _ | refine blk_drew ?_ | refine blk_alloc ?_ _)); refine blk_far ?_ NB199_209.out _; (with_reducible repeat (first | refine blk_drewN ?_ _ | refine blk_drew ?_ | refine blk_alloc ?_ _)); refine blk_far ?_ NB199_209.out _; (with_reducible repeat (first | refine blk_drewN ?_ _ | refine blk_drew ?_ | refine blk_alloc ?_ _)); refine blk_far ?_ NB199_209.out _; (with_reducible repeat (first | refine blk_drewN ?_ _ | refine blk_drew ?_ | refine blk_alloc ?_ _)); exact BK199.out) hb); have n3_ := Aside0.mk (blk_below (g := gb209) (o := .cells #[.int .i64 t205, .int .i64 t206, .string t207] 24 (0, 0)) (by (with_reducible repeat (first | refine blk_drewN ?_ _ | refine blk_drew ?_ | refine blk_alloc ?_ _)); refine blk_put (cs := #[.int .i64 t205, .int .i64 t206, .string (⟨#[]⟩ : ByteArray)]) ?_ 2 _ rfl; (with_reducible repeat (first | refine blk_drewN ?_ _ | refine blk_drew ?_ | refine blk_alloc ?_ _)); refine blk_put (cs := #[.int .i64 t205, .int .i64 0, .string (⟨#[]⟩ : ByteArray)]) ?_ 1 _ rfl; (with_reducible repeat (first | refine blk_drewN ?_ _ | refine blk_drew ?_ | refine blk_alloc ?_ _)); refine blk_put (cs := #[.int .i64 0, .int .i64 0, .string (⟨#[]⟩ : ByteArray)]) ?_ 0 _ rfl; (with_reducible repeat (first | refine blk_drewN ?_ _ | refine blk_drew ?_ | refine blk_alloc ?_ _)); exact BK209.out) hb); have n4_ := Aside0.mk (below_step (by repeat (first | (with_reducible first | exact HB.out | apply below_alloc | apply pw_below_drewN | apply below_drew1 | refine below_set ?_ GE191.out | refine below_set ?_ GE192.out | refine below_set ?_ GE199.out | refine below_set ?_ GE209.out) | exact HB.out)) hb); clear BK191; clear BK192; clear BK199; clear BK209; clear HB; have BK191 := n0_; have BK192 := n1_; have BK199 := n2_; have BK209 := n3_; have HB := n4_; clear n0_ n1_ n2_ n3_ n4_; (try clear hb); (try clear hb2); (try clear hk); (try clear hi)) | ((with_reducible refine gate_dst (N := 11) rfl ?_); refine box_event ?hg (N := 11) ?hd (cs := #[.int .i64 0, .int .i64 0, .string (⟨#[]⟩ : ByteArray)]) (t := 24) ?hr ?_; (case hd => rfl); (case hg => rfl); (case hr => first | (go_simp; done) | (go_simp; rfl)); intro gb214 hg w127 hbox hb; have n0_ := Aside0.mk (blk_below (g := gb191) (o := .cells #[.int .i64 ((rd_T58 l0 x3_1).f0.f0), .int .i64 ((rd_T58 l0 x3_1).f0.f1), .string ((rd_T58 l0 x3_1).f0.f2), .int .i64 ((rd_T58 l0 x3_1).f1.f0), .int .i64 ((rd_T58 l0 x3_1).f1.f1), .string ((rd_T58 l0 x3_1).f1.f2), .int .i64 ((rd_T58 l0 x3_1).f2)] 58 (0, 0)) (by (with_reducible repeat (first | refine blk_drewN ?_ _ | refine blk_drew ?_ | refine blk_alloc ?_ _)); exact BK191.out) hb); have n1_ := Aside0.mk (blk_below (g := gb192) (o := .cells #[.int .i64 x193000_37, .int .i64 x193001_37, .string x193002_37] 24 (0, 0)) (by (with_reducible repeat (first | refine blk_drewN ?_ _ | refine blk_drew ?_ | refine blk_alloc ?_ _)); exact BK192.out) hb); have n2_ := Aside0.mk (blk_below (g := gb199) (o := .cells #[.int .i64 x200000_45, .int .i64 x200001_45, .string x200002_45] 24 (0, 0)) (by (with_reducible repeat (first | refine blk_drewN ?_ _ | refine blk_drew ?_ | refine blk_alloc ?_ _)); exact BK199.out) hb); have n3_ := Aside0.mk (blk_below (g := gb209) (o := .cells #[.int .i64 t205, .int .i64 t206, .string t207] 24 (0, 0)) (by (with_reducible repeat (first | refine blk_drewN ?_ _ | refine blk_drew ?_ | refine blk_alloc ?_ _)); exact BK209.out) hb); have n4_ := Aside0.mk (below_step (by repeat (first | (with_reducible first | exact HB.out | apply below_alloc | apply pw_below_drewN | apply below_drew1 | refine below_set ?_ GE191.out | refine below_set ?_ GE192.out | refine below_set ?_ GE199.out | refine below_set ?_ GE209.out) | exact HB.out)) hb); have n5_ := Aside0.mk (hbox); have n6_ := Aside0.mk ((by rw [hg]; exact (below_size (by repeat (first | (with_reducible first | exact HB.out | apply below_alloc | apply pw_below_drewN | apply below_drew1 | refine below_set ?_ GE191.out | refine below_set ?_ GE192.out | refine below_set ?_ GE199.out | refine below_set ?_ GE209.out) | exact HB.out))) : w.heap.size ≤ gb214)); have n7_ := Aside0.mk ((by rw [hg]; exact (below_size (by repeat (first | (with_reducible first | exact HB.out | apply below_alloc | apply pw_below_drewN | apply below_drew1 | refine below_set ?_ GE191.out | refine below_set ?_ GE192.out | refine below_set ?_ GE199.out | refine below_set ?_ GE209.out) | exact HB.out))) : w.heap.size ≤ gb214)); have n8_ := Aside0.mk ((by rw [hg]; exact Nat.ne_of_lt (blk_lt (g := gb191) (o := .cells #[.int .i64 ((rd_T58 l0 x3_1).f0.f0), .int .i64 ((rd_T58 l0 x3_1).f0.f1), .string ((rd_T58 l0 x3_1).f0.f2), .int .i64 ((rd_T58 l0 x3_1).f1.f0), .int .i64 ((rd_T58 l0 x3_1).f1.f1), .string ((rd_T58 l0 x3_1).f1.f2), .int .i64 ((rd_T58 l0 x3_1).f2)] 58 (0, 0)) (by (with_reducible repeat (first | refine blk_drewN ?_ _ | refine blk_drew ?_ | refine blk_alloc ?_ _)); exact BK191.out)) : gb191 ≠ gb214)); have n9_ := Aside0.mk ((by rw [hg]; exact Nat.ne_of_gt (blk_lt (g := gb191) (o := .cells #[.int .i64 ((rd_T58 l0 x3_1).f0.f0), .int .i64 ((rd_T58 l0 x3_1).f0.f1), .string ((rd_T58 l0 x3_1).f0.f2), .int .i64 ((rd_T58 l0 x3_1).f1.f0), .int .i64 ((rd_T58 l0 x3_1).f1.f1), .string ((rd_T58 l0 x3_1).f1.f2), .int .i64 ((rd_T58 l0 x3_1).f2)] 58 (0, 0)) (by (with_reducible repeat (first | refine blk_drewN ?_ _ | refine blk_drew ?_ | refine blk_alloc ?_ _)); exact BK191.out)) : gb214 ≠ gb191)); have n10_ := Aside0.mk ((by rw [hg]; exact Nat.ne_of_lt (blk_lt (g := gb192) (o := .cells #[.int .i64 x193000_37, .int .i64 x193001_37, .string x193002_37] 24 (0, 0)) (by (with_reducible repeat (first | refine blk_drewN ?_ _ | refine blk_drew ?_ | refine blk_alloc ?_ _)); exact BK192.out)) : gb192 ≠ gb214)); have n11_ := Aside0.mk ((by rw [hg]; exact Nat.ne_of_gt (blk_lt (g := gb192) (o := .cells #[.int .i64 x193000_37, .int .i64 x193001_37, .string x193002_37] 24 (0, 0)) (by (with_reducible repeat (first | refine blk_drewN ?_ _ | refine blk_drew ?_ | refine blk_alloc ?_ _)); exact BK192.out)) : gb214 ≠ gb192)); have n12_ := Aside0.mk ((by rw [hg]; exact Nat.ne_of_lt (blk_lt (g := gb199) (o := .cells #[.int .i64 x200000_45, .int .i64 x200001_45, .string x200002_45] 24 (0, 0)) (by (with_reducible repeat (first | refine blk_drewN ?_ _ | refine blk_drew ?_ | refine blk_alloc ?_ _)); exact BK199.out)) : gb199 ≠ gb214)); have n13_ := Aside0.mk ((by rw [hg]; exact Nat.ne_of_gt (blk_lt (g := gb199) (o := .cells #[.int .i64 x200000_45, .int .i64 x200001_45, .string x200002_45] 24 (0, 0)) (by (with_reducible repeat (first | refine blk_drewN ?_ _ | refine blk_drew ?_ | refine blk_alloc ?_ _)); exact BK199.out)) : gb214 ≠ gb199)); have n14_ := Aside0.mk ((by rw [hg]; exact Nat.ne_of_lt (blk_lt (g := gb209) (o := .cells #[.int .i64 t205, .int .i64 t206, .string t207] 24 (0, 0)) (by (with_reducible repeat (first | refine blk_drewN ?_ _ | refine blk_drew ?_ | refine blk_alloc ?_ _)); exact BK209.out)) : gb209 ≠ gb214)); have n15_ := Aside0.mk ((by rw [hg]; exact Nat.ne_of_gt (blk_lt (g := gb209) (o := .cells #[.int .i64 t205, .int .i64 t206, .string t207] 24 (0, 0)) (by (with_reducible repeat (first | refine blk_drewN ?_ _ | refine blk_drew ?_ | refine blk_alloc ?_ _)); exact BK209.out)) : gb214 ≠ gb209)); clear BK191; clear BK192; clear BK199; clear BK209; clear HB; have BK191 := n0_; have BK192 := n1_; have BK199 := n2_; have BK209 := n3_; have HB := n4_; have BK214 := n5_; have GW214 := n6_; have GE214 := n7_; have NB191_214 := n8_; have NB214_191 := n9_; have NB192_214 := n10_; have NB214_192 := n11_; have NB199_214 := n12_; have NB214_199 := n13_; have NB209_214 := n14_; have NB214_209 := n15_; clear n0_ n1_ n2_ n3_ n4_ n5_ n6_ n7_ n8_ n9_ n10_ n11_ n12_ n13_ n14_ n15_; clear hb hbox hg; have hnb128 := NB214_191.out; have hnc128 := NB191_214.out; have hnb129 := NB214_192.out; have hnc129 := NB192_214.out; have hnb130 := NB214_199.out; have hnc130 := NB199_214.out; have hnb131 := NB214_209.out; have hnc131 := NB209_214.out; have hcz132_0 : w127.cell? ⟨gb214, 0, none⟩ = some (.int .i64 0) := (blk_cell BK214.out 0).trans rfl; have hcz132_1 : w127.cell? ⟨gb214, 1, none⟩ = some (.int .i64 0) := (blk_cell BK214.out 1).trans rfl; have hcz132_2 : w127.cell? ⟨gb214, 2, none⟩ = some (.string (⟨#[]⟩ : ByteArray)) := (blk_cell BK214.out 2).trans rfl; have hfz132_0 := blk_frozen BK214.out 0; have hfz132_1 := blk_frozen BK214.out 1; have hfz132_2 := blk_frozen BK214.out 2; have hcz133_0 : w127.cell? ⟨gb209, 0, none⟩ = some (.int .i64 t205) := (blk_cell BK209.out 0).trans rfl; have hcz133_1 : w127.cell? ⟨gb209, 1, none⟩ = some (.int .i64 t206) := (blk_cell BK209.out 1).trans rfl; have hcz133_2 : w127.cell? ⟨gb209, 2, none⟩ = some (.string t207) := (blk_cell BK209.out 2).trans rfl; have hfz133_0 := blk_frozen BK209.out 0; have hfz133_1 := blk_frozen BK209.out 1; have hfz133_2 := blk_frozen BK209.out 2; have hnb134 := NB192_199.out; have hnc134 := NB199_192.out; have hcz135_0 : w127.cell? ⟨gb192, 0, none⟩ = some (.int .i64 x193000_37) := (blk_cell BK192.out 0).trans rfl; have hcz135_1 : w127.cell? ⟨gb192, 1, none⟩ = some (.int .i64 x193001_37) := (blk_cell BK192.out 1).trans rfl; have hcz135_2 : w127.cell? ⟨gb192, 2, none⟩ = some (.string x193002_37) := (blk_cell BK192.out 2).trans rfl; have hfz135_0 := blk_frozen BK192.out 0; have hfz135_1 := blk_frozen BK192.out 1; have hfz135_2 := blk_frozen BK192.out 2) | ((with_reducible refine gate_callee (f := 54) rfl ?_); refine goesL_ (some 86) rfl rfl Try.func54 (by kernel_rfl) rfl #[.agg #[.int .i64 t205, .int .i64 t206, .string t207], .int .i64 t208, .agg #[.int .i64 x193000_37, .int .i64 x193001_37, .string x193002_37], .int .i64 x6_37] rfl (by (try simp only [List.map_toArray, List.map_cons, List.map_nil]); first | done | rfl | (simp only [List.length_drop, List.length_take]; rfl)) ?_; (with_reducible refine (cadastrelaw4_is.calls t205 t206 t207 t208 x193000_37 x193001_37 x193002_37 x6_37 false _ A64.out).mono ?_); rintro e w136 ⟨rfl, hb⟩; refine ⟨_, rfl, ?_⟩; have n0_ := Aside0.mk (blk_below (g := gb191) (o := .cells #[.int .i64 ((rd_T58 l0 x3_1).f0.f0), .int .i64 ((rd_T58 l0 x3_1).f0.f1), .string ((rd_T58 l0 x3_1).f0.f2), .int .i64 ((rd_T58 l0 x3_1).f1.f0), .int .i64 ((rd_T58 l0 x3_1).f1.f1), .string ((rd_T58 l0 x3_1).f1.f2), .int .i64 ((rd_T58 l0 x3_1).f2)] 58 (0, 0)) (by (with_reducible repeat (first | refine blk_drewN ?_ _ | refine blk_drew ?_ | refine blk_alloc ?_ _)); refine blk_far ?_ NB191_214.out _; (with_reducible repeat (first | refine blk_drewN ?_ _ | refine blk_drew ?_ | refine blk_alloc ?_ _)); refine blk_far ?_ NB191_214.out _; (with_reducible repeat (first | refine blk_drewN ?_ _ | refine blk_drew ?_ | refine blk_alloc ?_ _)); refine blk_far ?_ NB191_214.out _; (with_reducible repeat (first | refine blk_drewN ?_ _ | refine blk_drew ?_ | refine blk_alloc ?_ _)); exact BK191.out) hb); have n1_ := Aside0.mk (blk_below (g := gb192) (o := .cells #[.int .i64 x193000_37, .int .i64 x193001_37, .string x193002_37] 24 (0, 0)) (by (with_reducible repeat (first | refine blk_drewN ?_ _ | refine blk_drew ?_ | refine blk_alloc ?_ _)); refine blk_far ?_ NB192_214.out _; (with_reducible repeat (first | refine blk_drewN ?_ _ | refine blk_drew ?_ | refine blk_alloc ?_ _)); refine blk_far ?_ NB192_214.out _; (with_reducible repeat (first | refine blk_drewN ?_ _ | refine blk_drew ?_ | refine blk_alloc ?_ _)); refine blk_far ?_ NB192_214.out _; (with_reducible repeat (first | refine blk_drewN ?_ _ | refine blk_drew ?_ | refine blk_alloc ?_ _)); exact BK192.out) hb); have n2_ := Aside0.mk (blk_below (g := gb199) (o := .cells #[.int .i64 x200000_45, .int .i64 x200001_45, .string x200002_45] 24 (0, 0)) (by (with_reducible repeat (first | refine blk_drewN ?_ _ | refine blk_drew ?_ | refine blk_alloc ?_ _)); refine blk_far ?_ NB199_214.out _; (with_reducible repeat (first | refine blk_drewN ?_ _ | refine blk_drew ?_ | refine blk_alloc ?_ _)); refine blk_far ?_ NB199_214.out _; (with_reducible repeat (first | refine blk_drewN ?_ _ | refine blk_drew ?_ | refine blk_alloc ?_ _)); refine blk_far ?_ NB199_214.out _; (with_reducible repeat (first | refine blk_drewN ?_ _ | refine blk_drew ?_ | refine blk_alloc ?_ _)); exact BK199.out) hb); have n3_ := Aside0.mk (blk_below (g := gb209) (o := .cells #[.int .i64 t205, .int .i64 t206, .string t207] 24 (0, 0)) (by (with_reducible repeat (first | refine blk_drewN ?_ _ | refine blk_drew ?_ | refine blk_alloc ?_ _)); refine blk_far ?_ NB209_214.out _; (with_reducible repeat (first | refine blk_drewN ?_ _ | refine blk_drew ?_ | refine blk_alloc ?_ _)); refine blk_far ?_ NB209_214.out _; (with_reducible repeat (first | refine blk_drewN ?_ _ | refine blk_drew ?_ | refine blk_alloc ?_ _)); refine blk_far ?_ NB209_214.out _; (with_reducible repeat (first | refine blk_drewN ?_ _ | refine blk_drew ?_ | refine blk_alloc ?_ _)); exact BK209.out) hb); have n4_ := Aside0.mk (blk_below (g := gb214) (o := .cells #[.int .i64 t210, .int .i64 t211, .string t212] 24 (0, 0)) (by (with_reducible repeat (first | refine blk_drewN ?_ _ | refine blk_drew ?_ | refine blk_alloc ?_ _)); refine blk_put (cs := #[.int .i64 t210, .int .i64 t211, .string (⟨#[]⟩ : ByteArray)]) ?_ 2 _ rfl; (with_reducible repeat (first | refine blk_drewN ?_ _ | refine blk_drew ?_ | refine blk_alloc ?_ _)); refine blk_put (cs := #[.int .i64 t210, .int .i64 0, .string (⟨#[]⟩ : ByteArray)]) ?_ 1 _ rfl; (with_reducible repeat (first | refine blk_drewN ?_ _ | refine blk_drew ?_ | refine blk_alloc ?_ _)); refine blk_put (cs := #[.int .i64 0, .int .i64 0, .string (⟨#[]⟩ : ByteArray)]) ?_ 0 _ rfl; (with_reducible repeat (first | refine blk_drewN ?_ _ | refine blk_drew ?_ | refine blk_alloc ?_ _)); exact BK214.out) hb); have n5_ := Aside0.mk (below_step (by repeat (first | (with_reducible first | exact HB.out | apply below_alloc | apply pw_below_drewN | apply below_drew1 | refine below_set ?_ GE191.out | refine below_set ?_ GE192.out | refine below_set ?_ GE199.out | refine below_set ?_ GE209.out | refine below_set ?_ GE214.out) | exact HB.out)) hb); clear BK191; clear BK192; clear BK199; clear BK209; clear BK214; clear HB; have BK191 := n0_; have BK192 := n1_; have BK199 := n2_; have BK209 := n3_; have BK214 := n4_; have HB := n5_; clear n0_ n1_ n2_ n3_ n4_ n5_; (try clear hb); (try clear hb2); (try clear hk); (try clear hi)))
                          go_ret
                          exact ⟨by first | rfl | (simp [errW_none, errW_some] <;> rfl) | (simp [*, errW_none, errW_some] <;> rfl), by repeat (first | (with_reducible first | exact HB.out | apply below_alloc | apply pw_below_drewN | apply below_drew1 | refine below_set ?_ GE191.out | refine below_set ?_ GE192.out | refine below_set ?_ GE199.out | refine below_set ?_ GE209.out | refine below_set ?_ GE214.out) | exact HB.out)⟩
          · replace c4 := Bool.eq_false_iff.mpr c4
            subst c4
            have H1 : ((cadastrelaw4_wakes.f kj1).bind fun t189 => (some t189)) = some r := by rw [if_neg (show ¬ (false = true) by decide)] at H; exact H
            clear H
            have H := H1
            clear H1
            replace H := Option.bind_eq_some_iff.mp H
            obtain ⟨t189, A1370, H⟩ := H
            replace H : (some t189) = some r := H
            have A137 := Aside0.mk A1370
            clear A1370
            obtain rfl := Option.some.inj H
            go_wp2_with (first | ((with_reducible refine gate_callee (f := 46) rfl ?_); refine goesL_ (some 96) rfl rfl Try.func46 (by kernel_rfl) rfl #[] rfl (by (try simp only [List.map_toArray, List.map_cons, List.map_nil]); first | done | rfl | (simp only [List.length_drop, List.length_take]; rfl)) ?_; (with_reducible refine (cadastrelaw4_wakes.calls kj1  t189 _ A137.out).mono ?_); rintro e w138 ⟨rfl, hb⟩; refine ⟨_, rfl, ?_⟩; have n0_ := Aside0.mk (below_step (by repeat (first | (with_reducible first | exact HB.out | apply below_alloc | apply pw_below_drewN | apply below_drew1) | exact HB.out)) hb); clear HB; have HB := n0_; clear n0_; (try clear hb); (try clear hb2); (try clear hk); (try clear hi)))
            go_ret
            exact ⟨by first | rfl | (simp [errW_none, errW_some] <;> rfl) | (simp [*, errW_none, errW_some] <;> rfl), by repeat (first | (with_reducible first | exact HB.out | apply below_alloc | apply pw_below_drewN | apply below_drew1) | exact HB.out)⟩

end Go.Proofs.Ytaodnkhpiiepiaa.A
