-- Made by a program of this session (gprint.py, over the kit's printing program).
import Derived.Test.YtaodnkhpiiepiaaVx0
import Derived.Test.YtaodnkhpiiepiaaVx1
import Derived.Test.YtaodnkhpiiepiaaVx2
namespace Go.Proofs.Ytaodnkhpiiepiaa.V
open Go.RowKit Go.Proofs.YtaodnkhpiiepiaaG Go.Proofs.YtaodnkhpiiepiaaW.PrintWords Go.Proofs.YtaodnkhpiiepiaaW.PrintLast Go.Proofs.YtaodnkhpiiepiaaW.PrintMore
attribute [local go_sem] max2_int min2_int max_two min_two max_three min_three max_four min_four   -- for this text's walks alone
set_option linter.unusedVariables false
set_option linter.unusedSimpArgs false

attribute [local go_sem high] eqA24
/-! ### cadastrelaw2_ValueOrder: function 6 -/
mutual
def cadastrelaw2_ValueOrder.l0 : Nat → List (S47) → Int → Option (Bool)
  | 0, _, _ => none
  | k + 1, x0, x3 => if x3 < (x0.length : Int) then (cadastrelaw2_ValueOrder.j1 k x0 x3 (decide (x3 < 30))) else (cadastrelaw2_ValueOrder.j1 k x0 x3 false)
def cadastrelaw2_ValueOrder.j1 : Nat → List (S47) → Int → Bool → Option (Bool)
  | 0, _, _, _ => none
  | k + 1, x0, x3, x20 => if x20 = true then (if 0 ≤ x3 then (if x3 < (x0.length : Int) then ((value_Cmp.f k ((rd_T47 x0 x3).f0.f0) ((rd_T47 x0 x3).f0.f1) ((rd_T47 x0 x3).f0.f2) ((rd_T47 x0 x3).f1.f0) ((rd_T47 x0 x3).f1.f1) ((rd_T47 x0 x3).f1.f2)).bind fun bt124 => ((value_Cmp.f k ((rd_T47 x0 x3).f1.f0) ((rd_T47 x0 x3).f1.f1) ((rd_T47 x0 x3).f1.f2) ((rd_T47 x0 x3).f0.f0) ((rd_T47 x0 x3).f0.f1) ((rd_T47 x0 x3).f0.f2)).bind fun bt126 => ((value_Cmp.f k ((rd_T47 x0 x3).f1.f0) ((rd_T47 x0 x3).f1.f1) ((rd_T47 x0 x3).f1.f2) ((rd_T47 x0 x3).f2.f0) ((rd_T47 x0 x3).f2.f1) ((rd_T47 x0 x3).f2.f2)).bind fun bt128 => ((value_Cmp.f k ((rd_T47 x0 x3).f0.f0) ((rd_T47 x0 x3).f0.f1) ((rd_T47 x0 x3).f0.f2) ((rd_T47 x0 x3).f2.f0) ((rd_T47 x0 x3).f2.f1) ((rd_T47 x0 x3).f2.f2)).bind fun bt130 => ((cadastrelaw2_num.f bt124.2).bind fun t132 => ((cadastrelaw2_num.f bt126.2).bind fun t133 => (if t132 = t133 then (cadastrelaw2_ValueOrder.j2 k x0 x3 bt124.1 bt124.2 bt128.1 bt128.2 bt130.1 bt130.2 (bt124.1 != (wrap64 (-bt126.1))) ((rd_T47 x0 x3).f0.f0) ((rd_T47 x0 x3).f0.f1) ((rd_T47 x0 x3).f0.f2) ((rd_T47 x0 x3).f1.f0) ((rd_T47 x0 x3).f1.f1) ((rd_T47 x0 x3).f1.f2) ((rd_T47 x0 x3).f2.f0) ((rd_T47 x0 x3).f2.f1) ((rd_T47 x0 x3).f2.f2) ((rd_T47 x0 x3).f3)) else (cadastrelaw2_ValueOrder.j2 k x0 x3 bt124.1 bt124.2 bt128.1 bt128.2 bt130.1 bt130.2 true ((rd_T47 x0 x3).f0.f0) ((rd_T47 x0 x3).f0.f1) ((rd_T47 x0 x3).f0.f2) ((rd_T47 x0 x3).f1.f0) ((rd_T47 x0 x3).f1.f1) ((rd_T47 x0 x3).f1.f2) ((rd_T47 x0 x3).f2.f0) ((rd_T47 x0 x3).f2.f1) ((rd_T47 x0 x3).f2.f2) ((rd_T47 x0 x3).f3))))))))) else (none)) else (none)) else ((cadastrelaw2_wakes.f k).bind fun t121 => (some t121))
def cadastrelaw2_ValueOrder.j2 : Nat → List (S47) → Int → Int → Int → Int → Int → Int → Int → Bool → Int → Int → ByteArray → Int → Int → ByteArray → Int → Int → ByteArray → Int → Option (Bool)
  | 0, _, _, _, _, _, _, _, _, _, _, _, _, _, _, _, _, _, _, _ => none
  | k + 1, x0, x3, x5, x6, x9, x10, x11, x12, x69, x124000, x124001, x124002, x124003, x124004, x124005, x124006, x124007, x124008, x124009 => if x69 = true then (some false) else ((cadastrelaw2_num.f x6).bind fun t134 => (if t134 = 0 then ((cadastrelaw2_num.f x10).bind fun t135 => (cadastrelaw2_ValueOrder.j3 k x0 x3 x5 x9 x11 x12 (t135 != 0) x124000 x124001 x124002 x124003 x124004 x124005 x124006 x124007 x124008 x124009)) else (cadastrelaw2_ValueOrder.j3 k x0 x3 x5 x9 x11 x12 true x124000 x124001 x124002 x124003 x124004 x124005 x124006 x124007 x124008 x124009)))
def cadastrelaw2_ValueOrder.j3 : Nat → List (S47) → Int → Int → Int → Int → Int → Bool → Int → Int → ByteArray → Int → Int → ByteArray → Int → Int → ByteArray → Int → Option (Bool)
  | 0, _, _, _, _, _, _, _, _, _, _, _, _, _, _, _, _, _ => none
  | k + 1, x0, x3, x5, x9, x11, x12, x77, x124000, x124001, x124002, x124003, x124004, x124005, x124006, x124007, x124008, x124009 => if x77 = true then (cadastrelaw2_ValueOrder.l0 k x0 (wrap64 (x3 + 1))) else ((cadastrelaw2_num.f x12).bind fun t136 => (if t136 = 0 then (if ((x5 == 0) != (x124000 == x124003 && (x124001 == x124004 && (x124002.toList == x124005.toList)))) = true then (some false) else (if x5 ≤ 0 then (if x9 ≤ 0 then (if x11 > 0 then (some false) else (if x5 < 0 then (if x9 < 0 then (if x11 ≥ 0 then (some false) else (if x5 < (-1) then (some false) else (if x5 > 1 then (some false) else (cadastrelaw2_ValueOrder.l0 k x0 (wrap64 (x3 + 1)))))) else (if x5 < (-1) then (some false) else (if x5 > 1 then (some false) else (cadastrelaw2_ValueOrder.l0 k x0 (wrap64 (x3 + 1)))))) else (if x5 < (-1) then (some false) else (if x5 > 1 then (some false) else (cadastrelaw2_ValueOrder.l0 k x0 (wrap64 (x3 + 1))))))) else (if x5 < 0 then (if x9 < 0 then (if x11 ≥ 0 then (some false) else (if x5 < (-1) then (some false) else (if x5 > 1 then (some false) else (cadastrelaw2_ValueOrder.l0 k x0 (wrap64 (x3 + 1)))))) else (if x5 < (-1) then (some false) else (if x5 > 1 then (some false) else (cadastrelaw2_ValueOrder.l0 k x0 (wrap64 (x3 + 1)))))) else (if x5 < (-1) then (some false) else (if x5 > 1 then (some false) else (cadastrelaw2_ValueOrder.l0 k x0 (wrap64 (x3 + 1))))))) else (if x5 < 0 then (if x9 < 0 then (if x11 ≥ 0 then (some false) else (if x5 < (-1) then (some false) else (if x5 > 1 then (some false) else (cadastrelaw2_ValueOrder.l0 k x0 (wrap64 (x3 + 1)))))) else (if x5 < (-1) then (some false) else (if x5 > 1 then (some false) else (cadastrelaw2_ValueOrder.l0 k x0 (wrap64 (x3 + 1)))))) else (if x5 < (-1) then (some false) else (if x5 > 1 then (some false) else (cadastrelaw2_ValueOrder.l0 k x0 (wrap64 (x3 + 1)))))))) else (some false)))
end
def cadastrelaw2_ValueOrder.f (k : Nat) (l0 : List (S47)) : Option (Bool) := cadastrelaw2_ValueOrder.l0 k l0 0
theorem cadastrelaw2_ValueOrder.mono_l : ∀ k, (∀ y0 y1, LeO (cadastrelaw2_ValueOrder.l0 k y0 y1) (cadastrelaw2_ValueOrder.l0 (k + 1) y0 y1)) ∧ (∀ y0 y1 y2, LeO (cadastrelaw2_ValueOrder.j1 k y0 y1 y2) (cadastrelaw2_ValueOrder.j1 (k + 1) y0 y1 y2)) ∧ (∀ y0 y1 y2 y3 y4 y5 y6 y7 y8 y9 y10 y11 y12 y13 y14 y15 y16 y17 y18, LeO (cadastrelaw2_ValueOrder.j2 k y0 y1 y2 y3 y4 y5 y6 y7 y8 y9 y10 y11 y12 y13 y14 y15 y16 y17 y18) (cadastrelaw2_ValueOrder.j2 (k + 1) y0 y1 y2 y3 y4 y5 y6 y7 y8 y9 y10 y11 y12 y13 y14 y15 y16 y17 y18)) ∧ (∀ y0 y1 y2 y3 y4 y5 y6 y7 y8 y9 y10 y11 y12 y13 y14 y15 y16, LeO (cadastrelaw2_ValueOrder.j3 k y0 y1 y2 y3 y4 y5 y6 y7 y8 y9 y10 y11 y12 y13 y14 y15 y16) (cadastrelaw2_ValueOrder.j3 (k + 1) y0 y1 y2 y3 y4 y5 y6 y7 y8 y9 y10 y11 y12 y13 y14 y15 y16))
  | 0 => ⟨fun _ _ r h => by simp [cadastrelaw2_ValueOrder.l0] at h, fun _ _ _ r h => by simp [cadastrelaw2_ValueOrder.j1] at h, fun _ _ _ _ _ _ _ _ _ _ _ _ _ _ _ _ _ _ _ r h => by simp [cadastrelaw2_ValueOrder.j2] at h, fun _ _ _ _ _ _ _ _ _ _ _ _ _ _ _ _ _ r h => by simp [cadastrelaw2_ValueOrder.j3] at h⟩
  | k + 1 => by
    obtain ⟨ih0, ih1, ih2, ih3⟩ := cadastrelaw2_ValueOrder.mono_l k
    refine ⟨?_, ?_, ?_, ?_⟩
    · intro y0 y1
      unfold cadastrelaw2_ValueOrder.l0
      repeat' first
      | (with_reducible exact ih0 _ _)
      | (with_reducible exact ih1 _ _ _)
      | (with_reducible exact ih2 _ _ _ _ _ _ _ _ _ _ _ _ _ _ _ _ _ _ _)
      | (with_reducible exact ih3 _ _ _ _ _ _ _ _ _ _ _ _ _ _ _ _ _)
      | (with_reducible exact cadastrelaw2_wakes.mono _)
      | (with_reducible exact value_Cmp.mono _ _ _ _ _ _ _)
      | (with_reducible exact LeO.refl _)
      | (with_reducible exact LeO.none _)
      | (with_reducible refine LeO.ite ?_ ?_)
      | (with_reducible refine LeO.bind ?_ (fun _ => ?_))
      | exact ih0 _ _
      | exact ih1 _ _ _
      | exact ih2 _ _ _ _ _ _ _ _ _ _ _ _ _ _ _ _ _ _ _
      | exact ih3 _ _ _ _ _ _ _ _ _ _ _ _ _ _ _ _ _
      | exact cadastrelaw2_wakes.mono _
      | exact value_Cmp.mono _ _ _ _ _ _ _
      | exact LeO.none _
      | refine LeO.ite ?_ ?_
      | refine LeO.bind ?_ (fun _ => ?_)
    · intro y0 y1 y2
      unfold cadastrelaw2_ValueOrder.j1
      repeat' first
      | (with_reducible exact ih0 _ _)
      | (with_reducible exact ih1 _ _ _)
      | (with_reducible exact ih2 _ _ _ _ _ _ _ _ _ _ _ _ _ _ _ _ _ _ _)
      | (with_reducible exact ih3 _ _ _ _ _ _ _ _ _ _ _ _ _ _ _ _ _)
      | (with_reducible exact cadastrelaw2_wakes.mono _)
      | (with_reducible exact value_Cmp.mono _ _ _ _ _ _ _)
      | (with_reducible exact LeO.refl _)
      | (with_reducible exact LeO.none _)
      | (with_reducible refine LeO.ite ?_ ?_)
      | (with_reducible refine LeO.bind ?_ (fun _ => ?_))
      | exact ih0 _ _
      | exact ih1 _ _ _
      | exact ih2 _ _ _ _ _ _ _ _ _ _ _ _ _ _ _ _ _ _ _
      | exact ih3 _ _ _ _ _ _ _ _ _ _ _ _ _ _ _ _ _
      | exact cadastrelaw2_wakes.mono _
      | exact value_Cmp.mono _ _ _ _ _ _ _
      | exact LeO.none _
      | refine LeO.ite ?_ ?_
      | refine LeO.bind ?_ (fun _ => ?_)
    · intro y0 y1 y2 y3 y4 y5 y6 y7 y8 y9 y10 y11 y12 y13 y14 y15 y16 y17 y18
      unfold cadastrelaw2_ValueOrder.j2
      repeat' first
      | (with_reducible exact ih0 _ _)
      | (with_reducible exact ih1 _ _ _)
      | (with_reducible exact ih2 _ _ _ _ _ _ _ _ _ _ _ _ _ _ _ _ _ _ _)
      | (with_reducible exact ih3 _ _ _ _ _ _ _ _ _ _ _ _ _ _ _ _ _)
      | (with_reducible exact cadastrelaw2_wakes.mono _)
      | (with_reducible exact value_Cmp.mono _ _ _ _ _ _ _)
      | (with_reducible exact LeO.refl _)
      | (with_reducible exact LeO.none _)
      | (with_reducible refine LeO.ite ?_ ?_)
      | (with_reducible refine LeO.bind ?_ (fun _ => ?_))
      | exact ih0 _ _
      | exact ih1 _ _ _
      | exact ih2 _ _ _ _ _ _ _ _ _ _ _ _ _ _ _ _ _ _ _
      | exact ih3 _ _ _ _ _ _ _ _ _ _ _ _ _ _ _ _ _
      | exact cadastrelaw2_wakes.mono _
      | exact value_Cmp.mono _ _ _ _ _ _ _
      | exact LeO.none _
      | refine LeO.ite ?_ ?_
      | refine LeO.bind ?_ (fun _ => ?_)
    · intro y0 y1 y2 y3 y4 y5 y6 y7 y8 y9 y10 y11 y12 y13 y14 y15 y16
      unfold cadastrelaw2_ValueOrder.j3
      repeat' first
      | (with_reducible exact ih0 _ _)
      | (with_reducible exact ih1 _ _ _)
      | (with_reducible exact ih2 _ _ _ _ _ _ _ _ _ _ _ _ _ _ _ _ _ _ _)
      | (with_reducible exact ih3 _ _ _ _ _ _ _ _ _ _ _ _ _ _ _ _ _)
      | (with_reducible exact cadastrelaw2_wakes.mono _)
      | (with_reducible exact value_Cmp.mono _ _ _ _ _ _ _)
      | (with_reducible exact LeO.refl _)
      | (with_reducible exact LeO.none _)
      | (with_reducible refine LeO.ite ?_ ?_)
      | (with_reducible refine LeO.bind ?_ (fun _ => ?_))
      | exact ih0 _ _
      | exact ih1 _ _ _
      | exact ih2 _ _ _ _ _ _ _ _ _ _ _ _ _ _ _ _ _ _ _
      | exact ih3 _ _ _ _ _ _ _ _ _ _ _ _ _ _ _ _ _
      | exact cadastrelaw2_wakes.mono _
      | exact value_Cmp.mono _ _ _ _ _ _ _
      | exact LeO.none _
      | refine LeO.ite ?_ ?_
      | refine LeO.bind ?_ (fun _ => ?_)
theorem cadastrelaw2_ValueOrder.mono : ∀ a0 k, LeO (cadastrelaw2_ValueOrder.f k a0) (cadastrelaw2_ValueOrder.f (k + 1) a0) := by
  intro a0 k
  obtain ⟨ih0, ih1, ih2, ih3⟩ := cadastrelaw2_ValueOrder.mono_l k
  unfold cadastrelaw2_ValueOrder.f
  repeat' first
      | (with_reducible exact ih0 _ _)
      | (with_reducible exact ih1 _ _ _)
      | (with_reducible exact ih2 _ _ _ _ _ _ _ _ _ _ _ _ _ _ _ _ _ _ _)
      | (with_reducible exact ih3 _ _ _ _ _ _ _ _ _ _ _ _ _ _ _ _ _)
      | (with_reducible exact cadastrelaw2_wakes.mono _)
      | (with_reducible exact value_Cmp.mono _ _ _ _ _ _ _)
      | (with_reducible exact LeO.refl _)
      | (with_reducible exact LeO.none _)
      | (with_reducible refine LeO.ite ?_ ?_)
      | (with_reducible refine LeO.bind ?_ (fun _ => ?_))
      | exact ih0 _ _
      | exact ih1 _ _ _
      | exact ih2 _ _ _ _ _ _ _ _ _ _ _ _ _ _ _ _ _ _ _
      | exact ih3 _ _ _ _ _ _ _ _ _ _ _ _ _ _ _ _ _
      | exact cadastrelaw2_wakes.mono _
      | exact value_Cmp.mono _ _ _ _ _ _ _
      | exact LeO.none _
      | refine LeO.ite ?_ ?_
      | refine LeO.bind ?_ (fun _ => ?_)
set_option maxHeartbeats 8000000 in
set_option maxRecDepth 100000 in
theorem cadastrelaw2_ValueOrder.calls (k : Nat) (A0 : Option Addr) (c0 : Nat) (l0 : List (S47)) (r : Bool) (w : World) (hr0 : Kd.C k47 w A0 l0.length l0) (hc0 : l0.length ≤ c0) (h : cadastrelaw2_ValueOrder.f k l0 = some r) :
    Calls Try.prog 6 #[.slice A0 l0.length c0] w fun e w' => e = .returned (.bool r) ∧ Below w.heap.size w w' := by
  have hu47 := Try.underlying47
  have hu24 := Try.underlying24
  have HR0 := Aside0.mk hr0
  have HC0 := Aside0.mk hc0
  clear hr0 hc0
  have HB := Aside0.mk (Below.refl w.heap.size w)
  have H : (cadastrelaw2_ValueOrder.l0 k l0 0) = some r := h
  clear h
  have H' := Aside0.mk H
  clear H
  go_enter Try.func6, Try.ntmps6
  go_wp2
  go_loopg [3] k (fun kq v3 w' => ∃ (x3_1 : Int), v3 = .int .i64 x3_1 ∧ Aside0 (cadastrelaw2_ValueOrder.l0 kq l0 x3_1 = some r) ∧ Aside0 (kq ≤ k) ∧ Aside0 (Below w.heap.size w w'))
  case atStart => exact ⟨(0), (by first | rfl | (simp; done) | (simp [*]; done)), H', ⟨Nat.le_refl _⟩, ⟨by repeat (first | (with_reducible first | exact HB.out | apply below_alloc | apply pw_below_drewN | apply below_drew1) | exact HB.out)⟩⟩
  case round =>
    clear H'
    obtain ⟨x3_1, rfl, HA, HK1, HB⟩ := hrel
    cases gk with
    | zero => exact absurd HA.out (by simp [cadastrelaw2_ValueOrder.l0])
    | succ k1 =>
      have H := HA.out
      clear HA
      simp only [cadastrelaw2_ValueOrder.l0] at H
      have HC2 := Aside0.mk H
      clear H
      go_upto_region 2 with (fail)
      go_cut [20] (fun v20 wc => ∃ (kq : Nat) (x20_1 : Bool), v20 = .bool x20_1 ∧ Aside0 (cadastrelaw2_ValueOrder.j1 kq l0 x3_1 x20_1 = some r) ∧ Aside0 (kq ≤ k1) ∧ Aside0 (Below w.heap.size w wc))
      case first =>
        have H := HC2.out
        clear HC2
        by_cases c3 : x3_1 < (l0.length : Int)
        · rw [if_pos c3] at H
          have c3b0 : decide (x3_1 < (l0.length : Int)) = true := decide_eq_true c3
          clear c3
          (first | rw [c3b0] | (simp only [i64_w, i32_w]; rw [c3b0]) | skip)
          have H' := Aside0.mk H
          clear H
          go_wp2
          go_meet
          case rel => exact ⟨_, (decide (x3_1 < 30)), (by first | rfl | (simp; done) | (simp [*]; done)), H', ⟨by have := HK1.out; first | omega | exact Nat.le_refl _⟩, ⟨by repeat (first | (with_reducible first | exact HB.out | apply below_alloc | apply pw_below_drewN | apply below_drew1) | exact HB.out)⟩⟩
        rw [if_neg c3] at H
        have c3b0 : decide (x3_1 < (l0.length : Int)) = false := decide_eq_false c3
        clear c3
        (first | rw [c3b0] | (simp only [i64_w, i32_w]; rw [c3b0]) | skip)
        have H' := Aside0.mk H
        clear H
        go_wp2
        go_meet
        case rel => exact ⟨_, (false), (by first | rfl | (simp; done) | (simp [*]; done)), H', ⟨by have := HK1.out; first | omega | exact Nat.le_refl _⟩, ⟨by repeat (first | (with_reducible first | exact HB.out | apply below_alloc | apply pw_below_drewN | apply below_drew1) | exact HB.out)⟩⟩
      case rest =>
        clear HC2
        try clear p2
        try clear c3
        try clear c3b0
        obtain ⟨kq, x20_1, rfl, HA, HJ1, HB⟩ := hcut
        cases kq with
        | zero => exact absurd HA.out (by simp [cadastrelaw2_ValueOrder.j1])
        | succ kj1 =>
          have H := HA.out
          clear HA
          simp only [cadastrelaw2_ValueOrder.j1] at H
          by_cases c4 : x20_1 = true
          · subst c4
            have H1 : (if 0 ≤ x3_1 then (if x3_1 < (l0.length : Int) then ((value_Cmp.f kj1 ((rd_T47 l0 x3_1).f0.f0) ((rd_T47 l0 x3_1).f0.f1) ((rd_T47 l0 x3_1).f0.f2) ((rd_T47 l0 x3_1).f1.f0) ((rd_T47 l0 x3_1).f1.f1) ((rd_T47 l0 x3_1).f1.f2)).bind fun bt124 => ((value_Cmp.f kj1 ((rd_T47 l0 x3_1).f1.f0) ((rd_T47 l0 x3_1).f1.f1) ((rd_T47 l0 x3_1).f1.f2) ((rd_T47 l0 x3_1).f0.f0) ((rd_T47 l0 x3_1).f0.f1) ((rd_T47 l0 x3_1).f0.f2)).bind fun bt126 => ((value_Cmp.f kj1 ((rd_T47 l0 x3_1).f1.f0) ((rd_T47 l0 x3_1).f1.f1) ((rd_T47 l0 x3_1).f1.f2) ((rd_T47 l0 x3_1).f2.f0) ((rd_T47 l0 x3_1).f2.f1) ((rd_T47 l0 x3_1).f2.f2)).bind fun bt128 => ((value_Cmp.f kj1 ((rd_T47 l0 x3_1).f0.f0) ((rd_T47 l0 x3_1).f0.f1) ((rd_T47 l0 x3_1).f0.f2) ((rd_T47 l0 x3_1).f2.f0) ((rd_T47 l0 x3_1).f2.f1) ((rd_T47 l0 x3_1).f2.f2)).bind fun bt130 => ((cadastrelaw2_num.f bt124.2).bind fun t132 => ((cadastrelaw2_num.f bt126.2).bind fun t133 => (if t132 = t133 then (cadastrelaw2_ValueOrder.j2 kj1 l0 x3_1 bt124.1 bt124.2 bt128.1 bt128.2 bt130.1 bt130.2 (bt124.1 != (wrap64 (-bt126.1))) ((rd_T47 l0 x3_1).f0.f0) ((rd_T47 l0 x3_1).f0.f1) ((rd_T47 l0 x3_1).f0.f2) ((rd_T47 l0 x3_1).f1.f0) ((rd_T47 l0 x3_1).f1.f1) ((rd_T47 l0 x3_1).f1.f2) ((rd_T47 l0 x3_1).f2.f0) ((rd_T47 l0 x3_1).f2.f1) ((rd_T47 l0 x3_1).f2.f2) ((rd_T47 l0 x3_1).f3)) else (cadastrelaw2_ValueOrder.j2 kj1 l0 x3_1 bt124.1 bt124.2 bt128.1 bt128.2 bt130.1 bt130.2 true ((rd_T47 l0 x3_1).f0.f0) ((rd_T47 l0 x3_1).f0.f1) ((rd_T47 l0 x3_1).f0.f2) ((rd_T47 l0 x3_1).f1.f0) ((rd_T47 l0 x3_1).f1.f1) ((rd_T47 l0 x3_1).f1.f2) ((rd_T47 l0 x3_1).f2.f0) ((rd_T47 l0 x3_1).f2.f1) ((rd_T47 l0 x3_1).f2.f2) ((rd_T47 l0 x3_1).f3))))))))) else (none)) else (none)) = some r := by rw [if_pos rfl] at H; exact H
            clear H
            have H := H1
            clear H1
            by_cases c5 : 0 ≤ x3_1
            rotate_left
            · rw [if_neg c5] at H
              exact absurd H (by simp)
            rw [if_pos c5] at H
            have c5b0 : decide (0 ≤ x3_1) = true := decide_eq_true c5
            clear c5
            by_cases c6 : x3_1 < (l0.length : Int)
            rotate_left
            · rw [if_neg c6] at H
              exact absurd H (by simp)
            rw [if_pos c6] at H
            have c6b0 : decide (x3_1 < (l0.length : Int)) = true := decide_eq_true c6
            clear c6
            replace H := Option.bind_eq_some_iff.mp H
            obtain ⟨⟨t124, t125⟩, A70, H⟩ := H
            replace H : ((value_Cmp.f kj1 ((rd_T47 l0 x3_1).f1.f0) ((rd_T47 l0 x3_1).f1.f1) ((rd_T47 l0 x3_1).f1.f2) ((rd_T47 l0 x3_1).f0.f0) ((rd_T47 l0 x3_1).f0.f1) ((rd_T47 l0 x3_1).f0.f2)).bind fun bt126 => ((value_Cmp.f kj1 ((rd_T47 l0 x3_1).f1.f0) ((rd_T47 l0 x3_1).f1.f1) ((rd_T47 l0 x3_1).f1.f2) ((rd_T47 l0 x3_1).f2.f0) ((rd_T47 l0 x3_1).f2.f1) ((rd_T47 l0 x3_1).f2.f2)).bind fun bt128 => ((value_Cmp.f kj1 ((rd_T47 l0 x3_1).f0.f0) ((rd_T47 l0 x3_1).f0.f1) ((rd_T47 l0 x3_1).f0.f2) ((rd_T47 l0 x3_1).f2.f0) ((rd_T47 l0 x3_1).f2.f1) ((rd_T47 l0 x3_1).f2.f2)).bind fun bt130 => ((cadastrelaw2_num.f t125).bind fun t132 => ((cadastrelaw2_num.f bt126.2).bind fun t133 => (if t132 = t133 then (cadastrelaw2_ValueOrder.j2 kj1 l0 x3_1 t124 t125 bt128.1 bt128.2 bt130.1 bt130.2 (t124 != (wrap64 (-bt126.1))) ((rd_T47 l0 x3_1).f0.f0) ((rd_T47 l0 x3_1).f0.f1) ((rd_T47 l0 x3_1).f0.f2) ((rd_T47 l0 x3_1).f1.f0) ((rd_T47 l0 x3_1).f1.f1) ((rd_T47 l0 x3_1).f1.f2) ((rd_T47 l0 x3_1).f2.f0) ((rd_T47 l0 x3_1).f2.f1) ((rd_T47 l0 x3_1).f2.f2) ((rd_T47 l0 x3_1).f3)) else (cadastrelaw2_ValueOrder.j2 kj1 l0 x3_1 t124 t125 bt128.1 bt128.2 bt130.1 bt130.2 true ((rd_T47 l0 x3_1).f0.f0) ((rd_T47 l0 x3_1).f0.f1) ((rd_T47 l0 x3_1).f0.f2) ((rd_T47 l0 x3_1).f1.f0) ((rd_T47 l0 x3_1).f1.f1) ((rd_T47 l0 x3_1).f1.f2) ((rd_T47 l0 x3_1).f2.f0) ((rd_T47 l0 x3_1).f2.f1) ((rd_T47 l0 x3_1).f2.f2) ((rd_T47 l0 x3_1).f3)))))))) = some r := H
            have A7 := Aside0.mk A70
            clear A70
            replace H := Option.bind_eq_some_iff.mp H
            obtain ⟨⟨t126, t127⟩, A80, H⟩ := H
            replace H : ((value_Cmp.f kj1 ((rd_T47 l0 x3_1).f1.f0) ((rd_T47 l0 x3_1).f1.f1) ((rd_T47 l0 x3_1).f1.f2) ((rd_T47 l0 x3_1).f2.f0) ((rd_T47 l0 x3_1).f2.f1) ((rd_T47 l0 x3_1).f2.f2)).bind fun bt128 => ((value_Cmp.f kj1 ((rd_T47 l0 x3_1).f0.f0) ((rd_T47 l0 x3_1).f0.f1) ((rd_T47 l0 x3_1).f0.f2) ((rd_T47 l0 x3_1).f2.f0) ((rd_T47 l0 x3_1).f2.f1) ((rd_T47 l0 x3_1).f2.f2)).bind fun bt130 => ((cadastrelaw2_num.f t125).bind fun t132 => ((cadastrelaw2_num.f t127).bind fun t133 => (if t132 = t133 then (cadastrelaw2_ValueOrder.j2 kj1 l0 x3_1 t124 t125 bt128.1 bt128.2 bt130.1 bt130.2 (t124 != (wrap64 (-t126))) ((rd_T47 l0 x3_1).f0.f0) ((rd_T47 l0 x3_1).f0.f1) ((rd_T47 l0 x3_1).f0.f2) ((rd_T47 l0 x3_1).f1.f0) ((rd_T47 l0 x3_1).f1.f1) ((rd_T47 l0 x3_1).f1.f2) ((rd_T47 l0 x3_1).f2.f0) ((rd_T47 l0 x3_1).f2.f1) ((rd_T47 l0 x3_1).f2.f2) ((rd_T47 l0 x3_1).f3)) else (cadastrelaw2_ValueOrder.j2 kj1 l0 x3_1 t124 t125 bt128.1 bt128.2 bt130.1 bt130.2 true ((rd_T47 l0 x3_1).f0.f0) ((rd_T47 l0 x3_1).f0.f1) ((rd_T47 l0 x3_1).f0.f2) ((rd_T47 l0 x3_1).f1.f0) ((rd_T47 l0 x3_1).f1.f1) ((rd_T47 l0 x3_1).f1.f2) ((rd_T47 l0 x3_1).f2.f0) ((rd_T47 l0 x3_1).f2.f1) ((rd_T47 l0 x3_1).f2.f2) ((rd_T47 l0 x3_1).f3))))))) = some r := H
            have A8 := Aside0.mk A80
            clear A80
            replace H := Option.bind_eq_some_iff.mp H
            obtain ⟨⟨t128, t129⟩, A90, H⟩ := H
            replace H : ((value_Cmp.f kj1 ((rd_T47 l0 x3_1).f0.f0) ((rd_T47 l0 x3_1).f0.f1) ((rd_T47 l0 x3_1).f0.f2) ((rd_T47 l0 x3_1).f2.f0) ((rd_T47 l0 x3_1).f2.f1) ((rd_T47 l0 x3_1).f2.f2)).bind fun bt130 => ((cadastrelaw2_num.f t125).bind fun t132 => ((cadastrelaw2_num.f t127).bind fun t133 => (if t132 = t133 then (cadastrelaw2_ValueOrder.j2 kj1 l0 x3_1 t124 t125 t128 t129 bt130.1 bt130.2 (t124 != (wrap64 (-t126))) ((rd_T47 l0 x3_1).f0.f0) ((rd_T47 l0 x3_1).f0.f1) ((rd_T47 l0 x3_1).f0.f2) ((rd_T47 l0 x3_1).f1.f0) ((rd_T47 l0 x3_1).f1.f1) ((rd_T47 l0 x3_1).f1.f2) ((rd_T47 l0 x3_1).f2.f0) ((rd_T47 l0 x3_1).f2.f1) ((rd_T47 l0 x3_1).f2.f2) ((rd_T47 l0 x3_1).f3)) else (cadastrelaw2_ValueOrder.j2 kj1 l0 x3_1 t124 t125 t128 t129 bt130.1 bt130.2 true ((rd_T47 l0 x3_1).f0.f0) ((rd_T47 l0 x3_1).f0.f1) ((rd_T47 l0 x3_1).f0.f2) ((rd_T47 l0 x3_1).f1.f0) ((rd_T47 l0 x3_1).f1.f1) ((rd_T47 l0 x3_1).f1.f2) ((rd_T47 l0 x3_1).f2.f0) ((rd_T47 l0 x3_1).f2.f1) ((rd_T47 l0 x3_1).f2.f2) ((rd_T47 l0 x3_1).f3)))))) = some r := H
            have A9 := Aside0.mk A90
            clear A90
            replace H := Option.bind_eq_some_iff.mp H
            obtain ⟨⟨t130, t131⟩, A100, H⟩ := H
            replace H : ((cadastrelaw2_num.f t125).bind fun t132 => ((cadastrelaw2_num.f t127).bind fun t133 => (if t132 = t133 then (cadastrelaw2_ValueOrder.j2 kj1 l0 x3_1 t124 t125 t128 t129 t130 t131 (t124 != (wrap64 (-t126))) ((rd_T47 l0 x3_1).f0.f0) ((rd_T47 l0 x3_1).f0.f1) ((rd_T47 l0 x3_1).f0.f2) ((rd_T47 l0 x3_1).f1.f0) ((rd_T47 l0 x3_1).f1.f1) ((rd_T47 l0 x3_1).f1.f2) ((rd_T47 l0 x3_1).f2.f0) ((rd_T47 l0 x3_1).f2.f1) ((rd_T47 l0 x3_1).f2.f2) ((rd_T47 l0 x3_1).f3)) else (cadastrelaw2_ValueOrder.j2 kj1 l0 x3_1 t124 t125 t128 t129 t130 t131 true ((rd_T47 l0 x3_1).f0.f0) ((rd_T47 l0 x3_1).f0.f1) ((rd_T47 l0 x3_1).f0.f2) ((rd_T47 l0 x3_1).f1.f0) ((rd_T47 l0 x3_1).f1.f1) ((rd_T47 l0 x3_1).f1.f2) ((rd_T47 l0 x3_1).f2.f0) ((rd_T47 l0 x3_1).f2.f1) ((rd_T47 l0 x3_1).f2.f2) ((rd_T47 l0 x3_1).f3))))) = some r := H
            have A10 := Aside0.mk A100
            clear A100
            have HC11 := Aside0.mk H
            clear H
            have p122 : 0 ≤ (x3_1 : Int) := of_decide_eq_true (by first | (with_reducible assumption) | assumption)
            have q122 : x3_1 < (l0.length : Int) := of_decide_eq_true (by first | (with_reducible assumption) | assumption)
            obtain ⟨ad122, e122, hx122_0, hx122_1, hx122_2, hx122_3, hx122_4, hx122_5, hx122_6, hx122_7, hx122_8, hx122_9⟩ := at_T47 HR0.out x3_1 p122 q122
            cases e122
            replace hx122_0 := (HB.out.cell (World.block_lt_of_cell? w _ hx122_0)).trans hx122_0
            replace hx122_1 := (HB.out.cell (World.block_lt_of_cell? w _ hx122_1)).trans hx122_1
            replace hx122_2 := (HB.out.cell (World.block_lt_of_cell? w _ hx122_2)).trans hx122_2
            replace hx122_3 := (HB.out.cell (World.block_lt_of_cell? w _ hx122_3)).trans hx122_3
            replace hx122_4 := (HB.out.cell (World.block_lt_of_cell? w _ hx122_4)).trans hx122_4
            replace hx122_5 := (HB.out.cell (World.block_lt_of_cell? w _ hx122_5)).trans hx122_5
            replace hx122_6 := (HB.out.cell (World.block_lt_of_cell? w _ hx122_6)).trans hx122_6
            replace hx122_7 := (HB.out.cell (World.block_lt_of_cell? w _ hx122_7)).trans hx122_7
            replace hx122_8 := (HB.out.cell (World.block_lt_of_cell? w _ hx122_8)).trans hx122_8
            replace hx122_9 := (HB.out.cell (World.block_lt_of_cell? w _ hx122_9)).trans hx122_9
            replace p122 := eq_true p122
            replace q122 := eq_true q122
            go_upto_region 9 with (first | ((with_reducible refine gate_dst (N := 4) rfl ?_); refine box_event ?hg (N := 4) ?hd (cs := #[.int .i64 0, .int .i64 0, .string (⟨#[]⟩ : ByteArray), .int .i64 0, .int .i64 0, .string (⟨#[]⟩ : ByteArray), .int .i64 0, .int .i64 0, .string (⟨#[]⟩ : ByteArray), .int .i64 0]) (t := 47) ?hr ?_; (case hd => rfl); (case hg => rfl); (case hr => first | (go_simp; done) | (go_simp; rfl)); intro gb123 hg w12 hbox hb; have n0_ := Aside0.mk (below_step (by repeat (first | (with_reducible first | exact HB.out | apply below_alloc | apply pw_below_drewN | apply below_drew1) | exact HB.out)) hb); have n1_ := Aside0.mk (hbox); have n2_ := Aside0.mk ((by rw [hg]; exact (below_size (by repeat (first | (with_reducible first | exact HB.out | apply below_alloc | apply pw_below_drewN | apply below_drew1) | exact HB.out))) : w.heap.size ≤ gb123)); have n3_ := Aside0.mk ((by rw [hg]; exact (below_size (by repeat (first | (with_reducible first | exact HB.out | apply below_alloc | apply pw_below_drewN | apply below_drew1) | exact HB.out))) : w.heap.size ≤ gb123)); clear HB; have HB := n0_; have BK123 := n1_; have GW123 := n2_; have GE123 := n3_; clear n0_ n1_ n2_ n3_; clear hb hbox hg; have hcz13_0 : w12.cell? ⟨gb123, 0, none⟩ = some (.int .i64 0) := (blk_cell BK123.out 0).trans rfl; have hcz13_1 : w12.cell? ⟨gb123, 1, none⟩ = some (.int .i64 0) := (blk_cell BK123.out 1).trans rfl; have hcz13_2 : w12.cell? ⟨gb123, 2, none⟩ = some (.string (⟨#[]⟩ : ByteArray)) := (blk_cell BK123.out 2).trans rfl; have hcz13_3 : w12.cell? ⟨gb123, 3, none⟩ = some (.int .i64 0) := (blk_cell BK123.out 3).trans rfl; have hcz13_4 : w12.cell? ⟨gb123, 4, none⟩ = some (.int .i64 0) := (blk_cell BK123.out 4).trans rfl; have hcz13_5 : w12.cell? ⟨gb123, 5, none⟩ = some (.string (⟨#[]⟩ : ByteArray)) := (blk_cell BK123.out 5).trans rfl; have hcz13_6 : w12.cell? ⟨gb123, 6, none⟩ = some (.int .i64 0) := (blk_cell BK123.out 6).trans rfl; have hcz13_7 : w12.cell? ⟨gb123, 7, none⟩ = some (.int .i64 0) := (blk_cell BK123.out 7).trans rfl; have hcz13_8 : w12.cell? ⟨gb123, 8, none⟩ = some (.string (⟨#[]⟩ : ByteArray)) := (blk_cell BK123.out 8).trans rfl; have hcz13_9 : w12.cell? ⟨gb123, 9, none⟩ = some (.int .i64 0) := (blk_cell BK123.out 9).trans rfl; have hfz13_0 := blk_frozen BK123.out 0; have hfz13_1 := blk_frozen BK123.out 1; have hfz13_2 := blk_frozen BK123.out 2; have hfz13_3 := blk_frozen BK123.out 3; have hfz13_4 := blk_frozen BK123.out 4; have hfz13_5 := blk_frozen BK123.out 5; have hfz13_6 := blk_frozen BK123.out 6; have hfz13_7 := blk_frozen BK123.out 7; have hfz13_8 := blk_frozen BK123.out 8; have hfz13_9 := blk_frozen BK123.out 9) | ((with_reducible refine gate_callee (f := 35) rfl ?_); refine goesL_ (some 32) rfl rfl Try.func35 (by kernel_rfl) rfl #[.agg #[.int .i64 ((rd_T47 l0 x3_1).f0.f0), .int .i64 ((rd_T47 l0 x3_1).f0.f1), .string ((rd_T47 l0 x3_1).f0.f2)], .agg #[.int .i64 ((rd_T47 l0 x3_1).f1.f0), .int .i64 ((rd_T47 l0 x3_1).f1.f1), .string ((rd_T47 l0 x3_1).f1.f2)]] rfl (by (try simp only [List.map_toArray, List.map_cons, List.map_nil]); first | done | rfl | (simp only [List.length_drop, List.length_take]; rfl)) ?_; (with_reducible refine (value_Cmp.calls kj1 ((rd_T47 l0 x3_1).f0.f0) ((rd_T47 l0 x3_1).f0.f1) ((rd_T47 l0 x3_1).f0.f2) ((rd_T47 l0 x3_1).f1.f0) ((rd_T47 l0 x3_1).f1.f1) ((rd_T47 l0 x3_1).f1.f2) t124 t125 _ A7.out).mono ?_); rintro e w14 ⟨rfl, hb⟩; refine ⟨_, rfl, ?_⟩; have n0_ := Aside0.mk (blk_below (g := gb123) (o := .cells #[.int .i64 ((rd_T47 l0 x3_1).f0.f0), .int .i64 ((rd_T47 l0 x3_1).f0.f1), .string ((rd_T47 l0 x3_1).f0.f2), .int .i64 ((rd_T47 l0 x3_1).f1.f0), .int .i64 ((rd_T47 l0 x3_1).f1.f1), .string ((rd_T47 l0 x3_1).f1.f2), .int .i64 ((rd_T47 l0 x3_1).f2.f0), .int .i64 ((rd_T47 l0 x3_1).f2.f1), .string ((rd_T47 l0 x3_1).f2.f2), .int .i64 ((rd_T47 l0 x3_1).f3)] 47 (0, 0)) (by (with_reducible repeat (first | refine blk_drewN ?_ _ | refine blk_drew ?_ | refine blk_alloc ?_ _)); refine blk_put (cs := #[.int .i64 ((rd_T47 l0 x3_1).f0.f0), .int .i64 ((rd_T47 l0 x3_1).f0.f1), .string ((rd_T47 l0 x3_1).f0.f2), .int .i64 ((rd_T47 l0 x3_1).f1.f0), .int .i64 ((rd_T47 l0 x3_1).f1.f1), .string ((rd_T47 l0 x3_1).f1.f2), .int .i64 ((rd_T47 l0 x3_1).f2.f0), .int .i64 ((rd_T47 l0 x3_1).f2.f1), .string ((rd_T47 l0 x3_1).f2.f2), .int .i64 0]) ?_ 9 _ rfl; (with_reducible repeat (first | refine blk_drewN ?_ _ | refine blk_drew ?_ | refine blk_alloc ?_ _)); refine blk_put (cs := #[.int .i64 ((rd_T47 l0 x3_1).f0.f0), .int .i64 ((rd_T47 l0 x3_1).f0.f1), .string ((rd_T47 l0 x3_1).f0.f2), .int .i64 ((rd_T47 l0 x3_1).f1.f0), .int .i64 ((rd_T47 l0 x3_1).f1.f1), .string ((rd_T47 l0 x3_1).f1.f2), .int .i64 ((rd_T47 l0 x3_1).f2.f0), .int .i64 ((rd_T47 l0 x3_1).f2.f1), .string (⟨#[]⟩ : ByteArray), .int .i64 0]) ?_ 8 _ rfl; (with_reducible repeat (first | refine blk_drewN ?_ _ | refine blk_drew ?_ | refine blk_alloc ?_ _)); refine blk_put (cs := #[.int .i64 ((rd_T47 l0 x3_1).f0.f0), .int .i64 ((rd_T47 l0 x3_1).f0.f1), .string ((rd_T47 l0 x3_1).f0.f2), .int .i64 ((rd_T47 l0 x3_1).f1.f0), .int .i64 ((rd_T47 l0 x3_1).f1.f1), .string ((rd_T47 l0 x3_1).f1.f2), .int .i64 ((rd_T47 l0 x3_1).f2.f0), .int .i64 0, .string (⟨#[]⟩ : ByteArray), .int .i64 0]) ?_ 7 _ rfl; (with_reducible repeat (first | refine blk_drewN ?_ _ | refine blk_drew ?_ | refine blk_alloc ?_ _)); refine blk_put (cs := #[.int .i64 ((rd_T47 l0 x3_1).f0.f0), .int .i64 ((rd_T47 l0 x3_1).f0.f1), .string ((rd_T47 l0 x3_1).f0.f2), .int .i64 ((rd_T47 l0 x3_1).f1.f0), .int .i64 ((rd_T47 l0 x3_1).f1.f1), .string ((rd_T47 l0 x3_1).f1.f2), .int .i64 0, .int .i64 0, .string (⟨#[]⟩ : ByteArray), .int .i64 0]) ?_ 6 _ rfl; (with_reducible repeat (first | refine blk_drewN ?_ _ | refine blk_drew ?_ | refine blk_alloc ?_ _)); refine blk_put (cs := #[.int .i64 ((rd_T47 l0 x3_1).f0.f0), .int .i64 ((rd_T47 l0 x3_1).f0.f1), .string ((rd_T47 l0 x3_1).f0.f2), .int .i64 ((rd_T47 l0 x3_1).f1.f0), .int .i64 ((rd_T47 l0 x3_1).f1.f1), .string (⟨#[]⟩ : ByteArray), .int .i64 0, .int .i64 0, .string (⟨#[]⟩ : ByteArray), .int .i64 0]) ?_ 5 _ rfl; (with_reducible repeat (first | refine blk_drewN ?_ _ | refine blk_drew ?_ | refine blk_alloc ?_ _)); refine blk_put (cs := #[.int .i64 ((rd_T47 l0 x3_1).f0.f0), .int .i64 ((rd_T47 l0 x3_1).f0.f1), .string ((rd_T47 l0 x3_1).f0.f2), .int .i64 ((rd_T47 l0 x3_1).f1.f0), .int .i64 0, .string (⟨#[]⟩ : ByteArray), .int .i64 0, .int .i64 0, .string (⟨#[]⟩ : ByteArray), .int .i64 0]) ?_ 4 _ rfl; (with_reducible repeat (first | refine blk_drewN ?_ _ | refine blk_drew ?_ | refine blk_alloc ?_ _)); refine blk_put (cs := #[.int .i64 ((rd_T47 l0 x3_1).f0.f0), .int .i64 ((rd_T47 l0 x3_1).f0.f1), .string ((rd_T47 l0 x3_1).f0.f2), .int .i64 0, .int .i64 0, .string (⟨#[]⟩ : ByteArray), .int .i64 0, .int .i64 0, .string (⟨#[]⟩ : ByteArray), .int .i64 0]) ?_ 3 _ rfl; (with_reducible repeat (first | refine blk_drewN ?_ _ | refine blk_drew ?_ | refine blk_alloc ?_ _)); refine blk_put (cs := #[.int .i64 ((rd_T47 l0 x3_1).f0.f0), .int .i64 ((rd_T47 l0 x3_1).f0.f1), .string (⟨#[]⟩ : ByteArray), .int .i64 0, .int .i64 0, .string (⟨#[]⟩ : ByteArray), .int .i64 0, .int .i64 0, .string (⟨#[]⟩ : ByteArray), .int .i64 0]) ?_ 2 _ rfl; (with_reducible repeat (first | refine blk_drewN ?_ _ | refine blk_drew ?_ | refine blk_alloc ?_ _)); refine blk_put (cs := #[.int .i64 ((rd_T47 l0 x3_1).f0.f0), .int .i64 0, .string (⟨#[]⟩ : ByteArray), .int .i64 0, .int .i64 0, .string (⟨#[]⟩ : ByteArray), .int .i64 0, .int .i64 0, .string (⟨#[]⟩ : ByteArray), .int .i64 0]) ?_ 1 _ rfl; (with_reducible repeat (first | refine blk_drewN ?_ _ | refine blk_drew ?_ | refine blk_alloc ?_ _)); refine blk_put (cs := #[.int .i64 0, .int .i64 0, .string (⟨#[]⟩ : ByteArray), .int .i64 0, .int .i64 0, .string (⟨#[]⟩ : ByteArray), .int .i64 0, .int .i64 0, .string (⟨#[]⟩ : ByteArray), .int .i64 0]) ?_ 0 _ rfl; (with_reducible repeat (first | refine blk_drewN ?_ _ | refine blk_drew ?_ | refine blk_alloc ?_ _)); exact BK123.out) hb); have n1_ := Aside0.mk (below_step (by repeat (first | (with_reducible first | exact HB.out | apply below_alloc | apply pw_below_drewN | apply below_drew1 | refine below_set ?_ GE123.out) | exact HB.out)) hb); clear BK123; clear HB; have BK123 := n0_; have HB := n1_; clear n0_ n1_; (try clear hb); (try clear hb2); (try clear hk); (try clear hi); have hcz15_0 : w14.cell? ⟨gb123, 0, none⟩ = some (.int .i64 ((rd_T47 l0 x3_1).f0.f0)) := (blk_cell BK123.out 0).trans rfl; have hcz15_1 : w14.cell? ⟨gb123, 1, none⟩ = some (.int .i64 ((rd_T47 l0 x3_1).f0.f1)) := (blk_cell BK123.out 1).trans rfl; have hcz15_2 : w14.cell? ⟨gb123, 2, none⟩ = some (.string ((rd_T47 l0 x3_1).f0.f2)) := (blk_cell BK123.out 2).trans rfl; have hcz15_3 : w14.cell? ⟨gb123, 3, none⟩ = some (.int .i64 ((rd_T47 l0 x3_1).f1.f0)) := (blk_cell BK123.out 3).trans rfl; have hcz15_4 : w14.cell? ⟨gb123, 4, none⟩ = some (.int .i64 ((rd_T47 l0 x3_1).f1.f1)) := (blk_cell BK123.out 4).trans rfl; have hcz15_5 : w14.cell? ⟨gb123, 5, none⟩ = some (.string ((rd_T47 l0 x3_1).f1.f2)) := (blk_cell BK123.out 5).trans rfl; have hcz15_6 : w14.cell? ⟨gb123, 6, none⟩ = some (.int .i64 ((rd_T47 l0 x3_1).f2.f0)) := (blk_cell BK123.out 6).trans rfl; have hcz15_7 : w14.cell? ⟨gb123, 7, none⟩ = some (.int .i64 ((rd_T47 l0 x3_1).f2.f1)) := (blk_cell BK123.out 7).trans rfl; have hcz15_8 : w14.cell? ⟨gb123, 8, none⟩ = some (.string ((rd_T47 l0 x3_1).f2.f2)) := (blk_cell BK123.out 8).trans rfl; have hcz15_9 : w14.cell? ⟨gb123, 9, none⟩ = some (.int .i64 ((rd_T47 l0 x3_1).f3)) := (blk_cell BK123.out 9).trans rfl; have hfz15_0 := blk_frozen BK123.out 0; have hfz15_1 := blk_frozen BK123.out 1; have hfz15_2 := blk_frozen BK123.out 2; have hfz15_3 := blk_frozen BK123.out 3; have hfz15_4 := blk_frozen BK123.out 4; have hfz15_5 := blk_frozen BK123.out 5; have hfz15_6 := blk_frozen BK123.out 6; have hfz15_7 := blk_frozen BK123.out 7; have hfz15_8 := blk_frozen BK123.out 8; have hfz15_9 := blk_frozen BK123.out 9) | ((with_reducible refine gate_callee (f := 35) rfl ?_); refine goesL_ (some 40) rfl rfl Try.func35 (by kernel_rfl) rfl #[.agg #[.int .i64 ((rd_T47 l0 x3_1).f1.f0), .int .i64 ((rd_T47 l0 x3_1).f1.f1), .string ((rd_T47 l0 x3_1).f1.f2)], .agg #[.int .i64 ((rd_T47 l0 x3_1).f0.f0), .int .i64 ((rd_T47 l0 x3_1).f0.f1), .string ((rd_T47 l0 x3_1).f0.f2)]] rfl (by (try simp only [List.map_toArray, List.map_cons, List.map_nil]); first | done | rfl | (simp only [List.length_drop, List.length_take]; rfl)) ?_; (with_reducible refine (value_Cmp.calls kj1 ((rd_T47 l0 x3_1).f1.f0) ((rd_T47 l0 x3_1).f1.f1) ((rd_T47 l0 x3_1).f1.f2) ((rd_T47 l0 x3_1).f0.f0) ((rd_T47 l0 x3_1).f0.f1) ((rd_T47 l0 x3_1).f0.f2) t126 t127 _ A8.out).mono ?_); rintro e w16 ⟨rfl, hb⟩; refine ⟨_, rfl, ?_⟩; have n0_ := Aside0.mk (blk_below (g := gb123) (o := .cells #[.int .i64 ((rd_T47 l0 x3_1).f0.f0), .int .i64 ((rd_T47 l0 x3_1).f0.f1), .string ((rd_T47 l0 x3_1).f0.f2), .int .i64 ((rd_T47 l0 x3_1).f1.f0), .int .i64 ((rd_T47 l0 x3_1).f1.f1), .string ((rd_T47 l0 x3_1).f1.f2), .int .i64 ((rd_T47 l0 x3_1).f2.f0), .int .i64 ((rd_T47 l0 x3_1).f2.f1), .string ((rd_T47 l0 x3_1).f2.f2), .int .i64 ((rd_T47 l0 x3_1).f3)] 47 (0, 0)) (by (with_reducible repeat (first | refine blk_drewN ?_ _ | refine blk_drew ?_ | refine blk_alloc ?_ _)); exact BK123.out) hb); have n1_ := Aside0.mk (below_step (by repeat (first | (with_reducible first | exact HB.out | apply below_alloc | apply pw_below_drewN | apply below_drew1 | refine below_set ?_ GE123.out) | exact HB.out)) hb); clear BK123; clear HB; have BK123 := n0_; have HB := n1_; clear n0_ n1_; (try clear hb); (try clear hb2); (try clear hk); (try clear hi); have hcz17_0 : w16.cell? ⟨gb123, 0, none⟩ = some (.int .i64 ((rd_T47 l0 x3_1).f0.f0)) := (blk_cell BK123.out 0).trans rfl; have hcz17_1 : w16.cell? ⟨gb123, 1, none⟩ = some (.int .i64 ((rd_T47 l0 x3_1).f0.f1)) := (blk_cell BK123.out 1).trans rfl; have hcz17_2 : w16.cell? ⟨gb123, 2, none⟩ = some (.string ((rd_T47 l0 x3_1).f0.f2)) := (blk_cell BK123.out 2).trans rfl; have hcz17_3 : w16.cell? ⟨gb123, 3, none⟩ = some (.int .i64 ((rd_T47 l0 x3_1).f1.f0)) := (blk_cell BK123.out 3).trans rfl; have hcz17_4 : w16.cell? ⟨gb123, 4, none⟩ = some (.int .i64 ((rd_T47 l0 x3_1).f1.f1)) := (blk_cell BK123.out 4).trans rfl; have hcz17_5 : w16.cell? ⟨gb123, 5, none⟩ = some (.string ((rd_T47 l0 x3_1).f1.f2)) := (blk_cell BK123.out 5).trans rfl; have hcz17_6 : w16.cell? ⟨gb123, 6, none⟩ = some (.int .i64 ((rd_T47 l0 x3_1).f2.f0)) := (blk_cell BK123.out 6).trans rfl; have hcz17_7 : w16.cell? ⟨gb123, 7, none⟩ = some (.int .i64 ((rd_T47 l0 x3_1).f2.f1)) := (blk_cell BK123.out 7).trans rfl; have hcz17_8 : w16.cell? ⟨gb123, 8, none⟩ = some (.string ((rd_T47 l0 x3_1).f2.f2)) := (blk_cell BK123.out 8).trans rfl; have hcz17_9 : w16.cell? ⟨gb123, 9, none⟩ = some (.int .i64 ((rd_T47 l0 x3_1).f3)) := (blk_cell BK123.out 9).trans rfl; have hfz17_0 := blk_frozen BK123.out 0; have hfz17_1 := blk_frozen BK123.out 1; have hfz17_2 := blk_frozen BK123.out 2; have hfz17_3 := blk_frozen BK123.out 3; have hfz17_4 := blk_frozen BK123.out 4; have hfz17_5 := blk_frozen BK123.out 5; have hfz17_6 := blk_frozen BK123.out 6; have hfz17_7 := blk_frozen BK123.out 7; have hfz17_8 := blk_frozen BK123.out 8; have hfz17_9 := blk_frozen BK123.out 9) | ((with_reducible refine gate_callee (f := 35) rfl ?_); refine goesL_ (some 48) rfl rfl Try.func35 (by kernel_rfl) rfl #[.agg #[.int .i64 ((rd_T47 l0 x3_1).f1.f0), .int .i64 ((rd_T47 l0 x3_1).f1.f1), .string ((rd_T47 l0 x3_1).f1.f2)], .agg #[.int .i64 ((rd_T47 l0 x3_1).f2.f0), .int .i64 ((rd_T47 l0 x3_1).f2.f1), .string ((rd_T47 l0 x3_1).f2.f2)]] rfl (by (try simp only [List.map_toArray, List.map_cons, List.map_nil]); first | done | rfl | (simp only [List.length_drop, List.length_take]; rfl)) ?_; (with_reducible refine (value_Cmp.calls kj1 ((rd_T47 l0 x3_1).f1.f0) ((rd_T47 l0 x3_1).f1.f1) ((rd_T47 l0 x3_1).f1.f2) ((rd_T47 l0 x3_1).f2.f0) ((rd_T47 l0 x3_1).f2.f1) ((rd_T47 l0 x3_1).f2.f2) t128 t129 _ A9.out).mono ?_); rintro e w18 ⟨rfl, hb⟩; refine ⟨_, rfl, ?_⟩; have n0_ := Aside0.mk (blk_below (g := gb123) (o := .cells #[.int .i64 ((rd_T47 l0 x3_1).f0.f0), .int .i64 ((rd_T47 l0 x3_1).f0.f1), .string ((rd_T47 l0 x3_1).f0.f2), .int .i64 ((rd_T47 l0 x3_1).f1.f0), .int .i64 ((rd_T47 l0 x3_1).f1.f1), .string ((rd_T47 l0 x3_1).f1.f2), .int .i64 ((rd_T47 l0 x3_1).f2.f0), .int .i64 ((rd_T47 l0 x3_1).f2.f1), .string ((rd_T47 l0 x3_1).f2.f2), .int .i64 ((rd_T47 l0 x3_1).f3)] 47 (0, 0)) (by (with_reducible repeat (first | refine blk_drewN ?_ _ | refine blk_drew ?_ | refine blk_alloc ?_ _)); exact BK123.out) hb); have n1_ := Aside0.mk (below_step (by repeat (first | (with_reducible first | exact HB.out | apply below_alloc | apply pw_below_drewN | apply below_drew1 | refine below_set ?_ GE123.out) | exact HB.out)) hb); clear BK123; clear HB; have BK123 := n0_; have HB := n1_; clear n0_ n1_; (try clear hb); (try clear hb2); (try clear hk); (try clear hi); have hcz19_0 : w18.cell? ⟨gb123, 0, none⟩ = some (.int .i64 ((rd_T47 l0 x3_1).f0.f0)) := (blk_cell BK123.out 0).trans rfl; have hcz19_1 : w18.cell? ⟨gb123, 1, none⟩ = some (.int .i64 ((rd_T47 l0 x3_1).f0.f1)) := (blk_cell BK123.out 1).trans rfl; have hcz19_2 : w18.cell? ⟨gb123, 2, none⟩ = some (.string ((rd_T47 l0 x3_1).f0.f2)) := (blk_cell BK123.out 2).trans rfl; have hcz19_3 : w18.cell? ⟨gb123, 3, none⟩ = some (.int .i64 ((rd_T47 l0 x3_1).f1.f0)) := (blk_cell BK123.out 3).trans rfl; have hcz19_4 : w18.cell? ⟨gb123, 4, none⟩ = some (.int .i64 ((rd_T47 l0 x3_1).f1.f1)) := (blk_cell BK123.out 4).trans rfl; have hcz19_5 : w18.cell? ⟨gb123, 5, none⟩ = some (.string ((rd_T47 l0 x3_1).f1.f2)) := (blk_cell BK123.out 5).trans rfl; have hcz19_6 : w18.cell? ⟨gb123, 6, none⟩ = some (.int .i64 ((rd_T47 l0 x3_1).f2.f0)) := (blk_cell BK123.out 6).trans rfl; have hcz19_7 : w18.cell? ⟨gb123, 7, none⟩ = some (.int .i64 ((rd_T47 l0 x3_1).f2.f1)) := (blk_cell BK123.out 7).trans rfl; have hcz19_8 : w18.cell? ⟨gb123, 8, none⟩ = some (.string ((rd_T47 l0 x3_1).f2.f2)) := (blk_cell BK123.out 8).trans rfl; have hcz19_9 : w18.cell? ⟨gb123, 9, none⟩ = some (.int .i64 ((rd_T47 l0 x3_1).f3)) := (blk_cell BK123.out 9).trans rfl; have hfz19_0 := blk_frozen BK123.out 0; have hfz19_1 := blk_frozen BK123.out 1; have hfz19_2 := blk_frozen BK123.out 2; have hfz19_3 := blk_frozen BK123.out 3; have hfz19_4 := blk_frozen BK123.out 4; have hfz19_5 := blk_frozen BK123.out 5; have hfz19_6 := blk_frozen BK123.out 6; have hfz19_7 := blk_frozen BK123.out 7; have hfz19_8 := blk_frozen BK123.out 8; have hfz19_9 := blk_frozen BK123.out 9) | ((with_reducible refine gate_callee (f := 35) rfl ?_); refine goesL_ (some 56) rfl rfl Try.func35 (by kernel_rfl) rfl #[.agg #[.int .i64 ((rd_T47 l0 x3_1).f0.f0), .int .i64 ((rd_T47 l0 x3_1).f0.f1), .string ((rd_T47 l0 x3_1).f0.f2)], .agg #[.int .i64 ((rd_T47 l0 x3_1).f2.f0), .int .i64 ((rd_T47 l0 x3_1).f2.f1), .string ((rd_T47 l0 x3_1).f2.f2)]] rfl (by (try simp only [List.map_toArray, List.map_cons, List.map_nil]); first | done | rfl | (simp only [List.length_drop, List.length_take]; rfl)) ?_; (with_reducible refine (value_Cmp.calls kj1 ((rd_T47 l0 x3_1).f0.f0) ((rd_T47 l0 x3_1).f0.f1) ((rd_T47 l0 x3_1).f0.f2) ((rd_T47 l0 x3_1).f2.f0) ((rd_T47 l0 x3_1).f2.f1) ((rd_T47 l0 x3_1).f2.f2) t130 t131 _ A10.out).mono ?_); rintro e w20 ⟨rfl, hb⟩; refine ⟨_, rfl, ?_⟩; have n0_ := Aside0.mk (blk_below (g := gb123) (o := .cells #[.int .i64 ((rd_T47 l0 x3_1).f0.f0), .int .i64 ((rd_T47 l0 x3_1).f0.f1), .string ((rd_T47 l0 x3_1).f0.f2), .int .i64 ((rd_T47 l0 x3_1).f1.f0), .int .i64 ((rd_T47 l0 x3_1).f1.f1), .string ((rd_T47 l0 x3_1).f1.f2), .int .i64 ((rd_T47 l0 x3_1).f2.f0), .int .i64 ((rd_T47 l0 x3_1).f2.f1), .string ((rd_T47 l0 x3_1).f2.f2), .int .i64 ((rd_T47 l0 x3_1).f3)] 47 (0, 0)) (by (with_reducible repeat (first | refine blk_drewN ?_ _ | refine blk_drew ?_ | refine blk_alloc ?_ _)); exact BK123.out) hb); have n1_ := Aside0.mk (below_step (by repeat (first | (with_reducible first | exact HB.out | apply below_alloc | apply pw_below_drewN | apply below_drew1 | refine below_set ?_ GE123.out) | exact HB.out)) hb); clear BK123; clear HB; have BK123 := n0_; have HB := n1_; clear n0_ n1_; (try clear hb); (try clear hb2); (try clear hk); (try clear hi)))
            (try simp only [Act.put, List.setIfInBounds_toArray, List.set_cons_zero, List.set_cons_succ])
            go_cut [69] (fun v69 wc => ∃ (kq : Nat) (x69_10 : Bool), v69 = .bool x69_10 ∧ Aside0 (cadastrelaw2_ValueOrder.j2 kq l0 x3_1 t124 t125 t128 t129 t130 t131 x69_10 ((rd_T47 l0 x3_1).f0.f0) ((rd_T47 l0 x3_1).f0.f1) ((rd_T47 l0 x3_1).f0.f2) ((rd_T47 l0 x3_1).f1.f0) ((rd_T47 l0 x3_1).f1.f1) ((rd_T47 l0 x3_1).f1.f2) ((rd_T47 l0 x3_1).f2.f0) ((rd_T47 l0 x3_1).f2.f1) ((rd_T47 l0 x3_1).f2.f2) ((rd_T47 l0 x3_1).f3) = some r) ∧ Aside0 (kq ≤ kj1) ∧ Aside0 (wc.heap[gb123]? = some (.cells #[.int .i64 ((rd_T47 l0 x3_1).f0.f0), .int .i64 ((rd_T47 l0 x3_1).f0.f1), .string ((rd_T47 l0 x3_1).f0.f2), .int .i64 ((rd_T47 l0 x3_1).f1.f0), .int .i64 ((rd_T47 l0 x3_1).f1.f1), .string ((rd_T47 l0 x3_1).f1.f2), .int .i64 ((rd_T47 l0 x3_1).f2.f0), .int .i64 ((rd_T47 l0 x3_1).f2.f1), .string ((rd_T47 l0 x3_1).f2.f2), .int .i64 ((rd_T47 l0 x3_1).f3)] 47 (0, 0))) ∧ Aside0 (Below w.heap.size w wc))
            case first =>
              have H := HC11.out
              clear HC11
              replace H := Option.bind_eq_some_iff.mp H
              obtain ⟨t132, A210, H⟩ := H
              replace H : ((cadastrelaw2_num.f t127).bind fun t133 => (if t132 = t133 then (cadastrelaw2_ValueOrder.j2 kj1 l0 x3_1 t124 t125 t128 t129 t130 t131 (t124 != (wrap64 (-t126))) ((rd_T47 l0 x3_1).f0.f0) ((rd_T47 l0 x3_1).f0.f1) ((rd_T47 l0 x3_1).f0.f2) ((rd_T47 l0 x3_1).f1.f0) ((rd_T47 l0 x3_1).f1.f1) ((rd_T47 l0 x3_1).f1.f2) ((rd_T47 l0 x3_1).f2.f0) ((rd_T47 l0 x3_1).f2.f1) ((rd_T47 l0 x3_1).f2.f2) ((rd_T47 l0 x3_1).f3)) else (cadastrelaw2_ValueOrder.j2 kj1 l0 x3_1 t124 t125 t128 t129 t130 t131 true ((rd_T47 l0 x3_1).f0.f0) ((rd_T47 l0 x3_1).f0.f1) ((rd_T47 l0 x3_1).f0.f2) ((rd_T47 l0 x3_1).f1.f0) ((rd_T47 l0 x3_1).f1.f1) ((rd_T47 l0 x3_1).f1.f2) ((rd_T47 l0 x3_1).f2.f0) ((rd_T47 l0 x3_1).f2.f1) ((rd_T47 l0 x3_1).f2.f2) ((rd_T47 l0 x3_1).f3)))) = some r := H
              have A21 := Aside0.mk A210
              clear A210
              replace H := Option.bind_eq_some_iff.mp H
              obtain ⟨t133, A220, H⟩ := H
              replace H : (if t132 = t133 then (cadastrelaw2_ValueOrder.j2 kj1 l0 x3_1 t124 t125 t128 t129 t130 t131 (t124 != (wrap64 (-t126))) ((rd_T47 l0 x3_1).f0.f0) ((rd_T47 l0 x3_1).f0.f1) ((rd_T47 l0 x3_1).f0.f2) ((rd_T47 l0 x3_1).f1.f0) ((rd_T47 l0 x3_1).f1.f1) ((rd_T47 l0 x3_1).f1.f2) ((rd_T47 l0 x3_1).f2.f0) ((rd_T47 l0 x3_1).f2.f1) ((rd_T47 l0 x3_1).f2.f2) ((rd_T47 l0 x3_1).f3)) else (cadastrelaw2_ValueOrder.j2 kj1 l0 x3_1 t124 t125 t128 t129 t130 t131 true ((rd_T47 l0 x3_1).f0.f0) ((rd_T47 l0 x3_1).f0.f1) ((rd_T47 l0 x3_1).f0.f2) ((rd_T47 l0 x3_1).f1.f0) ((rd_T47 l0 x3_1).f1.f1) ((rd_T47 l0 x3_1).f1.f2) ((rd_T47 l0 x3_1).f2.f0) ((rd_T47 l0 x3_1).f2.f1) ((rd_T47 l0 x3_1).f2.f2) ((rd_T47 l0 x3_1).f3))) = some r := H
              have A22 := Aside0.mk A220
              clear A220
              by_cases c23 : t132 = t133
              · rw [if_pos c23] at H
                have c23b0 : (t132 == t133) = true := beq_iff_eq.mpr c23
                have c23b1 : (t132 != t133) = false := bne_eq_false_iff_eq.mpr c23
                clear c23
                (first | rw [c23b0] | (simp only [i64_w, i32_w]; rw [c23b0]) | skip)
                have H' := Aside0.mk H
                clear H
                go_wp2_with (first | ((with_reducible refine gate_callee (f := 36) rfl ?_); refine goesL_ (some 60) rfl rfl Try.func36 (by kernel_rfl) rfl #[.int .i64 t125] rfl (by (try simp only [List.map_toArray, List.map_cons, List.map_nil]); first | done | rfl | (simp only [List.length_drop, List.length_take]; rfl)) ?_; (with_reducible refine (cadastrelaw2_num.calls t125 t132 _ A21.out).mono ?_); rintro e w' ⟨rfl, ⟨nd, rfl⟩⟩; refine ⟨_, rfl, ?_⟩) | ((with_reducible refine gate_callee (f := 36) rfl ?_); refine goesL_ (some 62) rfl rfl Try.func36 (by kernel_rfl) rfl #[.int .i64 t127] rfl (by (try simp only [List.map_toArray, List.map_cons, List.map_nil]); first | done | rfl | (simp only [List.length_drop, List.length_take]; rfl)) ?_; (with_reducible refine (cadastrelaw2_num.calls t127 t133 _ A22.out).mono ?_); rintro e w' ⟨rfl, ⟨nd, rfl⟩⟩; refine ⟨_, rfl, ?_⟩))
                go_meet
                case rel => exact ⟨_, ((t124 != (wrap64 (-t126)))), (by first | rfl | (simp; done) | (simp [*]; done)), H', ⟨by have := HK1.out; have := HJ1.out; first | omega | exact Nat.le_refl _⟩, ⟨by (with_reducible repeat (first | refine blk_drewN ?_ _ | refine blk_drew ?_ | refine blk_alloc ?_ _)); exact BK123.out⟩, ⟨by repeat (first | (with_reducible first | exact HB.out | apply below_alloc | apply pw_below_drewN | apply below_drew1 | refine below_set ?_ GE123.out) | exact HB.out)⟩⟩
              rw [if_neg c23] at H
              have c23b0 : (t132 == t133) = false := beq_eq_false_iff_ne.mpr c23
              have c23b1 : (t132 != t133) = true := bne_iff_ne.mpr c23
              (first | rw [c23b0] | (simp only [i64_w, i32_w]; rw [c23b0]) | skip)
              have H' := Aside0.mk H
              clear H
              go_wp2_with (first | ((with_reducible refine gate_callee (f := 36) rfl ?_); refine goesL_ (some 60) rfl rfl Try.func36 (by kernel_rfl) rfl #[.int .i64 t125] rfl (by (try simp only [List.map_toArray, List.map_cons, List.map_nil]); first | done | rfl | (simp only [List.length_drop, List.length_take]; rfl)) ?_; (with_reducible refine (cadastrelaw2_num.calls t125 t132 _ A21.out).mono ?_); rintro e w' ⟨rfl, ⟨nd, rfl⟩⟩; refine ⟨_, rfl, ?_⟩) | ((with_reducible refine gate_callee (f := 36) rfl ?_); refine goesL_ (some 62) rfl rfl Try.func36 (by kernel_rfl) rfl #[.int .i64 t127] rfl (by (try simp only [List.map_toArray, List.map_cons, List.map_nil]); first | done | rfl | (simp only [List.length_drop, List.length_take]; rfl)) ?_; (with_reducible refine (cadastrelaw2_num.calls t127 t133 _ A22.out).mono ?_); rintro e w' ⟨rfl, ⟨nd, rfl⟩⟩; refine ⟨_, rfl, ?_⟩))
              go_meet
              case rel => exact ⟨_, (true), (by first | rfl | (simp; done) | (simp [*]; done)), H', ⟨by have := HK1.out; have := HJ1.out; first | omega | exact Nat.le_refl _⟩, ⟨by (with_reducible repeat (first | refine blk_drewN ?_ _ | refine blk_drew ?_ | refine blk_alloc ?_ _)); exact BK123.out⟩, ⟨by repeat (first | (with_reducible first | exact HB.out | apply below_alloc | apply pw_below_drewN | apply below_drew1 | refine below_set ?_ GE123.out) | exact HB.out)⟩⟩
            case rest =>
              clear HC11
              try clear p1
              try clear q1
              try clear hx1
              try clear c2
              try clear p2
              try clear c3
              try clear c3b0
              try clear c4
              try clear c5
              try clear c5b0
              try clear c6
              try clear c6b0
              try clear p6
              try clear p12
              try clear q12
              try clear hx12
              try clear c23
              try clear c23b0
              try clear c23b1
              try clear hcz13_0
              try clear hcz13_1
              try clear hcz13_2
              try clear hcz13_3
              try clear hcz13_4
              try clear hcz13_5
              try clear hcz13_6
              try clear hcz13_7
              try clear hcz13_8
              try clear hcz13_9
              try clear hcz15_0
              try clear hcz15_1
              try clear hcz15_2
              try clear hcz15_3
              try clear hcz15_4
              try clear hcz15_5
              try clear hcz15_6
              try clear hcz15_7
              try clear hcz15_8
              try clear hcz15_9
              try clear hcz17_0
              try clear hcz17_1
              try clear hcz17_2
              try clear hcz17_3
              try clear hcz17_4
              try clear hcz17_5
              try clear hcz17_6
              try clear hcz17_7
              try clear hcz17_8
              try clear hcz17_9
              try clear hcz19_0
              try clear hcz19_1
              try clear hcz19_2
              try clear hcz19_3
              try clear hcz19_4
              try clear hcz19_5
              try clear hcz19_6
              try clear hcz19_7
              try clear hcz19_8
              try clear hcz19_9
              try clear hfz13_0
              try clear hfz13_1
              try clear hfz13_2
              try clear hfz13_3
              try clear hfz13_4
              try clear hfz13_5
              try clear hfz13_6
              try clear hfz13_7
              try clear hfz13_8
              try clear hfz13_9
              try clear hfz15_0
              try clear hfz15_1
              try clear hfz15_2
              try clear hfz15_3
              try clear hfz15_4
              try clear hfz15_5
              try clear hfz15_6
              try clear hfz15_7
              try clear hfz15_8
              try clear hfz15_9
              try clear hfz17_0
              try clear hfz17_1
              try clear hfz17_2
              try clear hfz17_3
              try clear hfz17_4
              try clear hfz17_5
              try clear hfz17_6
              try clear hfz17_7
              try clear hfz17_8
              try clear hfz17_9
              try clear hfz19_0
              try clear hfz19_1
              try clear hfz19_2
              try clear hfz19_3
              try clear hfz19_4
              try clear hfz19_5
              try clear hfz19_6
              try clear hfz19_7
              try clear hfz19_8
              try clear hfz19_9
              try clear hx122_0
              try clear hx122_1
              try clear hx122_2
              try clear hx122_3
              try clear hx122_4
              try clear hx122_5
              try clear hx122_6
              try clear hx122_7
              try clear hx122_8
              try clear hx122_9
              try clear p122
              try clear p2
              try clear q122
              obtain ⟨kq, x69_10, rfl, HA, HJ10, BK123, HB⟩ := hcut
              cases kq with
              | zero => exact absurd HA.out (by simp [cadastrelaw2_ValueOrder.j2])
              | succ kj10 =>
                have H := HA.out
                clear HA
                simp only [cadastrelaw2_ValueOrder.j2] at H
                by_cases c24 : x69_10 = true
                · subst c24
                  have H1 : (some false) = some r := by rw [if_pos rfl] at H; exact H
                  clear H
                  have H := H1
                  clear H1
                  obtain rfl := Option.some.inj H
                  go_wp2
                  go_ret
                  exact ⟨by first | rfl | (simp [errW_none, errW_some] <;> rfl) | (simp [*, errW_none, errW_some] <;> rfl), by repeat (first | (with_reducible first | exact HB.out | apply below_alloc | apply pw_below_drewN | apply below_drew1 | refine below_set ?_ GE123.out) | exact HB.out)⟩
                · replace c24 := Bool.eq_false_iff.mpr c24
                  subst c24
                  have H1 : ((cadastrelaw2_num.f t125).bind fun t134 => (if t134 = 0 then ((cadastrelaw2_num.f t129).bind fun t135 => (cadastrelaw2_ValueOrder.j3 kj10 l0 x3_1 t124 t128 t130 t131 (t135 != 0) ((rd_T47 l0 x3_1).f0.f0) ((rd_T47 l0 x3_1).f0.f1) ((rd_T47 l0 x3_1).f0.f2) ((rd_T47 l0 x3_1).f1.f0) ((rd_T47 l0 x3_1).f1.f1) ((rd_T47 l0 x3_1).f1.f2) ((rd_T47 l0 x3_1).f2.f0) ((rd_T47 l0 x3_1).f2.f1) ((rd_T47 l0 x3_1).f2.f2) ((rd_T47 l0 x3_1).f3))) else (cadastrelaw2_ValueOrder.j3 kj10 l0 x3_1 t124 t128 t130 t131 true ((rd_T47 l0 x3_1).f0.f0) ((rd_T47 l0 x3_1).f0.f1) ((rd_T47 l0 x3_1).f0.f2) ((rd_T47 l0 x3_1).f1.f0) ((rd_T47 l0 x3_1).f1.f1) ((rd_T47 l0 x3_1).f1.f2) ((rd_T47 l0 x3_1).f2.f0) ((rd_T47 l0 x3_1).f2.f1) ((rd_T47 l0 x3_1).f2.f2) ((rd_T47 l0 x3_1).f3)))) = some r := by rw [if_neg (show ¬ (false = true) by decide)] at H; exact H
                  clear H
                  have H := H1
                  clear H1
                  have HC25 := Aside0.mk H
                  clear H
                  go_upto_region 11 with (fail)
                  go_cut [77] (fun v77 wc => ∃ (kq : Nat) (x77_24 : Bool), v77 = .bool x77_24 ∧ Aside0 (cadastrelaw2_ValueOrder.j3 kq l0 x3_1 t124 t128 t130 t131 x77_24 ((rd_T47 l0 x3_1).f0.f0) ((rd_T47 l0 x3_1).f0.f1) ((rd_T47 l0 x3_1).f0.f2) ((rd_T47 l0 x3_1).f1.f0) ((rd_T47 l0 x3_1).f1.f1) ((rd_T47 l0 x3_1).f1.f2) ((rd_T47 l0 x3_1).f2.f0) ((rd_T47 l0 x3_1).f2.f1) ((rd_T47 l0 x3_1).f2.f2) ((rd_T47 l0 x3_1).f3) = some r) ∧ Aside0 (kq ≤ kj10) ∧ Aside0 (wc.heap[gb123]? = some (.cells #[.int .i64 ((rd_T47 l0 x3_1).f0.f0), .int .i64 ((rd_T47 l0 x3_1).f0.f1), .string ((rd_T47 l0 x3_1).f0.f2), .int .i64 ((rd_T47 l0 x3_1).f1.f0), .int .i64 ((rd_T47 l0 x3_1).f1.f1), .string ((rd_T47 l0 x3_1).f1.f2), .int .i64 ((rd_T47 l0 x3_1).f2.f0), .int .i64 ((rd_T47 l0 x3_1).f2.f1), .string ((rd_T47 l0 x3_1).f2.f2), .int .i64 ((rd_T47 l0 x3_1).f3)] 47 (0, 0))) ∧ Aside0 (Below w.heap.size w wc))
                  case first =>
                    have H := HC25.out
                    clear HC25
                    replace H := Option.bind_eq_some_iff.mp H
                    obtain ⟨t134, A260, H⟩ := H
                    replace H : (if t134 = 0 then ((cadastrelaw2_num.f t129).bind fun t135 => (cadastrelaw2_ValueOrder.j3 kj10 l0 x3_1 t124 t128 t130 t131 (t135 != 0) ((rd_T47 l0 x3_1).f0.f0) ((rd_T47 l0 x3_1).f0.f1) ((rd_T47 l0 x3_1).f0.f2) ((rd_T47 l0 x3_1).f1.f0) ((rd_T47 l0 x3_1).f1.f1) ((rd_T47 l0 x3_1).f1.f2) ((rd_T47 l0 x3_1).f2.f0) ((rd_T47 l0 x3_1).f2.f1) ((rd_T47 l0 x3_1).f2.f2) ((rd_T47 l0 x3_1).f3))) else (cadastrelaw2_ValueOrder.j3 kj10 l0 x3_1 t124 t128 t130 t131 true ((rd_T47 l0 x3_1).f0.f0) ((rd_T47 l0 x3_1).f0.f1) ((rd_T47 l0 x3_1).f0.f2) ((rd_T47 l0 x3_1).f1.f0) ((rd_T47 l0 x3_1).f1.f1) ((rd_T47 l0 x3_1).f1.f2) ((rd_T47 l0 x3_1).f2.f0) ((rd_T47 l0 x3_1).f2.f1) ((rd_T47 l0 x3_1).f2.f2) ((rd_T47 l0 x3_1).f3))) = some r := H
                    have A26 := Aside0.mk A260
                    clear A260
                    by_cases c27 : t134 = 0
                    rotate_left
                    · rw [if_neg c27] at H
                      have c27b0 : (t134 == 0) = false := beq_eq_false_iff_ne.mpr c27
                      have c27b1 : (t134 != 0) = true := bne_iff_ne.mpr c27
                      (first | rw [c27b0] | (simp only [i64_w, i32_w]; rw [c27b0]) | skip)
                      have H' := Aside0.mk H
                      clear H
                      go_wp2_with (first | ((with_reducible refine gate_callee (f := 36) rfl ?_); refine goesL_ (some 71) rfl rfl Try.func36 (by kernel_rfl) rfl #[.int .i64 t125] rfl (by (try simp only [List.map_toArray, List.map_cons, List.map_nil]); first | done | rfl | (simp only [List.length_drop, List.length_take]; rfl)) ?_; (with_reducible refine (cadastrelaw2_num.calls t125 t134 _ A26.out).mono ?_); rintro e w' ⟨rfl, ⟨nd, rfl⟩⟩; refine ⟨_, rfl, ?_⟩))
                      go_meet
                      case rel => exact ⟨_, (true), (by first | rfl | (simp; done) | (simp [*]; done)), H', ⟨by have := HK1.out; have := HJ1.out; have := HJ10.out; first | omega | exact Nat.le_refl _⟩, ⟨by (with_reducible repeat (first | refine blk_drewN ?_ _ | refine blk_drew ?_ | refine blk_alloc ?_ _)); exact BK123.out⟩, ⟨by repeat (first | (with_reducible first | exact HB.out | apply below_alloc | apply pw_below_drewN | apply below_drew1 | refine below_set ?_ GE123.out) | exact HB.out)⟩⟩
                    rw [if_pos c27] at H
                    have c27b0 : (t134 == 0) = true := beq_iff_eq.mpr c27
                    have c27b1 : (t134 != 0) = false := bne_eq_false_iff_eq.mpr c27
                    clear c27
                    (first | rw [c27b0] | (simp only [i64_w, i32_w]; rw [c27b0]) | skip)
                    replace H := Option.bind_eq_some_iff.mp H
                    obtain ⟨t135, A280, H⟩ := H
                    replace H : (cadastrelaw2_ValueOrder.j3 kj10 l0 x3_1 t124 t128 t130 t131 (t135 != 0) ((rd_T47 l0 x3_1).f0.f0) ((rd_T47 l0 x3_1).f0.f1) ((rd_T47 l0 x3_1).f0.f2) ((rd_T47 l0 x3_1).f1.f0) ((rd_T47 l0 x3_1).f1.f1) ((rd_T47 l0 x3_1).f1.f2) ((rd_T47 l0 x3_1).f2.f0) ((rd_T47 l0 x3_1).f2.f1) ((rd_T47 l0 x3_1).f2.f2) ((rd_T47 l0 x3_1).f3)) = some r := H
                    have A28 := Aside0.mk A280
                    clear A280
                    have H' := Aside0.mk H
                    clear H
                    go_wp2_with (first | ((with_reducible refine gate_callee (f := 36) rfl ?_); refine goesL_ (some 71) rfl rfl Try.func36 (by kernel_rfl) rfl #[.int .i64 t125] rfl (by (try simp only [List.map_toArray, List.map_cons, List.map_nil]); first | done | rfl | (simp only [List.length_drop, List.length_take]; rfl)) ?_; (with_reducible refine (cadastrelaw2_num.calls t125 t134 _ A26.out).mono ?_); rintro e w' ⟨rfl, ⟨nd, rfl⟩⟩; refine ⟨_, rfl, ?_⟩) | (go_at_call 36; (with_reducible refine (cadastrelaw2_num.calls t129 t135 _ A28.out).mono ?_); rintro e w' ⟨rfl, ⟨nd, rfl⟩⟩; (try clear A28)))
                    go_meet
                    case rel => exact ⟨_, ((t135 != 0)), (by first | rfl | (simp; done) | (simp [*]; done)), H', ⟨by have := HK1.out; have := HJ1.out; have := HJ10.out; first | omega | exact Nat.le_refl _⟩, ⟨by (with_reducible repeat (first | refine blk_drewN ?_ _ | refine blk_drew ?_ | refine blk_alloc ?_ _)); exact BK123.out⟩, ⟨by repeat (first | (with_reducible first | exact HB.out | apply below_alloc | apply pw_below_drewN | apply below_drew1 | refine below_set ?_ GE123.out) | exact HB.out)⟩⟩
                  case rest =>
                    clear HC25
                    try clear p1
                    try clear q1
                    try clear hx1
                    try clear c2
                    try clear p2
                    try clear c3
                    try clear c3b0
                    try clear c4
                    try clear c5
                    try clear c5b0
                    try clear c6
                    try clear c6b0
                    try clear p6
                    try clear p12
                    try clear q12
                    try clear hx12
                    try clear c23
                    try clear c23b0
                    try clear c23b1
                    try clear c24
                    try clear c27
                    try clear c27b0
                    try clear c27b1
                    try clear hcz13_0
                    try clear hcz13_1
                    try clear hcz13_2
                    try clear hcz13_3
                    try clear hcz13_4
                    try clear hcz13_5
                    try clear hcz13_6
                    try clear hcz13_7
                    try clear hcz13_8
                    try clear hcz13_9
                    try clear hcz15_0
                    try clear hcz15_1
                    try clear hcz15_2
                    try clear hcz15_3
                    try clear hcz15_4
                    try clear hcz15_5
                    try clear hcz15_6
                    try clear hcz15_7
                    try clear hcz15_8
                    try clear hcz15_9
                    try clear hcz17_0
                    try clear hcz17_1
                    try clear hcz17_2
                    try clear hcz17_3
                    try clear hcz17_4
                    try clear hcz17_5
                    try clear hcz17_6
                    try clear hcz17_7
                    try clear hcz17_8
                    try clear hcz17_9
                    try clear hcz19_0
                    try clear hcz19_1
                    try clear hcz19_2
                    try clear hcz19_3
                    try clear hcz19_4
                    try clear hcz19_5
                    try clear hcz19_6
                    try clear hcz19_7
                    try clear hcz19_8
                    try clear hcz19_9
                    try clear hfz13_0
                    try clear hfz13_1
                    try clear hfz13_2
                    try clear hfz13_3
                    try clear hfz13_4
                    try clear hfz13_5
                    try clear hfz13_6
                    try clear hfz13_7
                    try clear hfz13_8
                    try clear hfz13_9
                    try clear hfz15_0
                    try clear hfz15_1
                    try clear hfz15_2
                    try clear hfz15_3
                    try clear hfz15_4
                    try clear hfz15_5
                    try clear hfz15_6
                    try clear hfz15_7
                    try clear hfz15_8
                    try clear hfz15_9
                    try clear hfz17_0
                    try clear hfz17_1
                    try clear hfz17_2
                    try clear hfz17_3
                    try clear hfz17_4
                    try clear hfz17_5
                    try clear hfz17_6
                    try clear hfz17_7
                    try clear hfz17_8
                    try clear hfz17_9
                    try clear hfz19_0
                    try clear hfz19_1
                    try clear hfz19_2
                    try clear hfz19_3
                    try clear hfz19_4
                    try clear hfz19_5
                    try clear hfz19_6
                    try clear hfz19_7
                    try clear hfz19_8
                    try clear hfz19_9
                    try clear hx122_0
                    try clear hx122_1
                    try clear hx122_2
                    try clear hx122_3
                    try clear hx122_4
                    try clear hx122_5
                    try clear hx122_6
                    try clear hx122_7
                    try clear hx122_8
                    try clear hx122_9
                    try clear p1
                    try clear p12
                    try clear p122
                    try clear p2
                    try clear p6
                    try clear q1
                    try clear q12
                    try clear q122
                    obtain ⟨kq, x77_24, rfl, HA, HJ24, BK123, HB⟩ := hcut
                    cases kq with
                    | zero => exact absurd HA.out (by simp [cadastrelaw2_ValueOrder.j3])
                    | succ kj24 =>
                      have H := HA.out
                      clear HA
                      simp only [cadastrelaw2_ValueOrder.j3] at H
                      by_cases c29 : x77_24 = true
                      · subst c29
                        have H1 : (cadastrelaw2_ValueOrder.l0 kj24 l0 (wrap64 (x3_1 + 1))) = some r := by rw [if_pos rfl] at H; exact H
                        clear H
                        have H := H1
                        clear H1
                        have H' := Aside0.mk H
                        clear H
                        go_wp2
                        go_roundg kj24
                        case measure => have := HK1.out; have := HJ1.out; have := HJ10.out; have := HJ24.out; omega
                        case rel => exact ⟨(wrap64 (x3_1 + 1)), (by first | rfl | (simp; done) | (simp [*]; done)), H', ⟨by have := HK1.out; have := HJ1.out; have := HJ10.out; have := HJ24.out; omega⟩, ⟨by repeat (first | (with_reducible first | exact HB.out | apply below_alloc | apply pw_below_drewN | apply below_drew1 | refine below_set ?_ GE123.out) | exact HB.out)⟩⟩
                      · replace c29 := Bool.eq_false_iff.mpr c29
                        subst c29
                        have H1 : ((cadastrelaw2_num.f t131).bind fun t136 => (if t136 = 0 then (if ((t124 == 0) != (((rd_T47 l0 x3_1).f0.f0) == ((rd_T47 l0 x3_1).f1.f0) && (((rd_T47 l0 x3_1).f0.f1) == ((rd_T47 l0 x3_1).f1.f1) && (((rd_T47 l0 x3_1).f0.f2).toList == ((rd_T47 l0 x3_1).f1.f2).toList)))) = true then (some false) else (if t124 ≤ 0 then (if t128 ≤ 0 then (if t130 > 0 then (some false) else (if t124 < 0 then (if t128 < 0 then (if t130 ≥ 0 then (some false) else (if t124 < (-1) then (some false) else (if t124 > 1 then (some false) else (cadastrelaw2_ValueOrder.l0 kj24 l0 (wrap64 (x3_1 + 1)))))) else (if t124 < (-1) then (some false) else (if t124 > 1 then (some false) else (cadastrelaw2_ValueOrder.l0 kj24 l0 (wrap64 (x3_1 + 1)))))) else (if t124 < (-1) then (some false) else (if t124 > 1 then (some false) else (cadastrelaw2_ValueOrder.l0 kj24 l0 (wrap64 (x3_1 + 1))))))) else (if t124 < 0 then (if t128 < 0 then (if t130 ≥ 0 then (some false) else (if t124 < (-1) then (some false) else (if t124 > 1 then (some false) else (cadastrelaw2_ValueOrder.l0 kj24 l0 (wrap64 (x3_1 + 1)))))) else (if t124 < (-1) then (some false) else (if t124 > 1 then (some false) else (cadastrelaw2_ValueOrder.l0 kj24 l0 (wrap64 (x3_1 + 1)))))) else (if t124 < (-1) then (some false) else (if t124 > 1 then (some false) else (cadastrelaw2_ValueOrder.l0 kj24 l0 (wrap64 (x3_1 + 1))))))) else (if t124 < 0 then (if t128 < 0 then (if t130 ≥ 0 then (some false) else (if t124 < (-1) then (some false) else (if t124 > 1 then (some false) else (cadastrelaw2_ValueOrder.l0 kj24 l0 (wrap64 (x3_1 + 1)))))) else (if t124 < (-1) then (some false) else (if t124 > 1 then (some false) else (cadastrelaw2_ValueOrder.l0 kj24 l0 (wrap64 (x3_1 + 1)))))) else (if t124 < (-1) then (some false) else (if t124 > 1 then (some false) else (cadastrelaw2_ValueOrder.l0 kj24 l0 (wrap64 (x3_1 + 1)))))))) else (some false))) = some r := by rw [if_neg (show ¬ (false = true) by decide)] at H; exact H
                        clear H
                        have H := H1
                        clear H1
                        replace H := Option.bind_eq_some_iff.mp H
                        obtain ⟨t136, A300, H⟩ := H
                        replace H : (if t136 = 0 then (if ((t124 == 0) != (((rd_T47 l0 x3_1).f0.f0) == ((rd_T47 l0 x3_1).f1.f0) && (((rd_T47 l0 x3_1).f0.f1) == ((rd_T47 l0 x3_1).f1.f1) && (((rd_T47 l0 x3_1).f0.f2).toList == ((rd_T47 l0 x3_1).f1.f2).toList)))) = true then (some false) else (if t124 ≤ 0 then (if t128 ≤ 0 then (if t130 > 0 then (some false) else (if t124 < 0 then (if t128 < 0 then (if t130 ≥ 0 then (some false) else (if t124 < (-1) then (some false) else (if t124 > 1 then (some false) else (cadastrelaw2_ValueOrder.l0 kj24 l0 (wrap64 (x3_1 + 1)))))) else (if t124 < (-1) then (some false) else (if t124 > 1 then (some false) else (cadastrelaw2_ValueOrder.l0 kj24 l0 (wrap64 (x3_1 + 1)))))) else (if t124 < (-1) then (some false) else (if t124 > 1 then (some false) else (cadastrelaw2_ValueOrder.l0 kj24 l0 (wrap64 (x3_1 + 1))))))) else (if t124 < 0 then (if t128 < 0 then (if t130 ≥ 0 then (some false) else (if t124 < (-1) then (some false) else (if t124 > 1 then (some false) else (cadastrelaw2_ValueOrder.l0 kj24 l0 (wrap64 (x3_1 + 1)))))) else (if t124 < (-1) then (some false) else (if t124 > 1 then (some false) else (cadastrelaw2_ValueOrder.l0 kj24 l0 (wrap64 (x3_1 + 1)))))) else (if t124 < (-1) then (some false) else (if t124 > 1 then (some false) else (cadastrelaw2_ValueOrder.l0 kj24 l0 (wrap64 (x3_1 + 1))))))) else (if t124 < 0 then (if t128 < 0 then (if t130 ≥ 0 then (some false) else (if t124 < (-1) then (some false) else (if t124 > 1 then (some false) else (cadastrelaw2_ValueOrder.l0 kj24 l0 (wrap64 (x3_1 + 1)))))) else (if t124 < (-1) then (some false) else (if t124 > 1 then (some false) else (cadastrelaw2_ValueOrder.l0 kj24 l0 (wrap64 (x3_1 + 1)))))) else (if t124 < (-1) then (some false) else (if t124 > 1 then (some false) else (cadastrelaw2_ValueOrder.l0 kj24 l0 (wrap64 (x3_1 + 1)))))))) else (some false)) = some r := H
                        have A30 := Aside0.mk A300
                        clear A300
                        by_cases c31 : t136 = 0
                        rotate_left
                        · rw [if_neg c31] at H
                          have c31b0 : (t136 == 0) = false := beq_eq_false_iff_ne.mpr c31
                          have c31b1 : (t136 != 0) = true := bne_iff_ne.mpr c31
                          obtain rfl := Option.some.inj H
                          go_wp2_with (first | ((with_reducible refine gate_callee (f := 36) rfl ?_); refine goesL_ (some 79) rfl rfl Try.func36 (by kernel_rfl) rfl #[.int .i64 t131] rfl (by (try simp only [List.map_toArray, List.map_cons, List.map_nil]); first | done | rfl | (simp only [List.length_drop, List.length_take]; rfl)) ?_; (with_reducible refine (cadastrelaw2_num.calls t131 t136 _ A30.out).mono ?_); rintro e w' ⟨rfl, ⟨nd, rfl⟩⟩; refine ⟨_, rfl, ?_⟩))
                          go_ret
                          exact ⟨by first | rfl | (simp [errW_none, errW_some] <;> rfl) | (simp [*, errW_none, errW_some] <;> rfl), by repeat (first | (with_reducible first | exact HB.out | apply below_alloc | apply pw_below_drewN | apply below_drew1 | refine below_set ?_ GE123.out) | exact HB.out)⟩
                        rw [if_pos c31] at H
                        have c31b0 : (t136 == 0) = true := beq_iff_eq.mpr c31
                        have c31b1 : (t136 != 0) = false := bne_eq_false_iff_eq.mpr c31
                        clear c31
                        by_cases c32 : ((t124 == 0) != (((rd_T47 l0 x3_1).f0.f0) == ((rd_T47 l0 x3_1).f1.f0) && (((rd_T47 l0 x3_1).f0.f1) == ((rd_T47 l0 x3_1).f1.f1) && (((rd_T47 l0 x3_1).f0.f2).toList == ((rd_T47 l0 x3_1).f1.f2).toList)))) = true
                        · rw [if_pos c32] at H
                          have c32b0 : ((t124 == 0) != (((rd_T47 l0 x3_1).f0.f0) == ((rd_T47 l0 x3_1).f1.f0) && (((rd_T47 l0 x3_1).f0.f1) == ((rd_T47 l0 x3_1).f1.f1) && (((rd_T47 l0 x3_1).f0.f2).toList == ((rd_T47 l0 x3_1).f1.f2).toList)))) = true := c32
                          (try (have c32b1 : decide ((t124 == 0) = (((rd_T47 l0 x3_1).f0.f0) == ((rd_T47 l0 x3_1).f1.f0) && (((rd_T47 l0 x3_1).f0.f1) == ((rd_T47 l0 x3_1).f1.f1) && (((rd_T47 l0 x3_1).f0.f2).toList == ((rd_T47 l0 x3_1).f1.f2).toList)))) = false := by simpa using c32))
                          (try (have c32b2 : ((t124 == 0) == (((rd_T47 l0 x3_1).f0.f0) == ((rd_T47 l0 x3_1).f1.f0) && (((rd_T47 l0 x3_1).f0.f1) == ((rd_T47 l0 x3_1).f1.f1) && (((rd_T47 l0 x3_1).f0.f2).toList == ((rd_T47 l0 x3_1).f1.f2).toList)))) = false := by simpa using c32))
                          (try (have c32b3 : ¬ ((t124 == 0) = (((rd_T47 l0 x3_1).f0.f0) == ((rd_T47 l0 x3_1).f1.f0) && (((rd_T47 l0 x3_1).f0.f1) == ((rd_T47 l0 x3_1).f1.f1) && (((rd_T47 l0 x3_1).f0.f2).toList == ((rd_T47 l0 x3_1).f1.f2).toList)))) := by simpa using c32))
                          clear c32
                          obtain rfl := Option.some.inj H
                          go_wp2_with (first | ((with_reducible refine gate_callee (f := 36) rfl ?_); refine goesL_ (some 79) rfl rfl Try.func36 (by kernel_rfl) rfl #[.int .i64 t131] rfl (by (try simp only [List.map_toArray, List.map_cons, List.map_nil]); first | done | rfl | (simp only [List.length_drop, List.length_take]; rfl)) ?_; (with_reducible refine (cadastrelaw2_num.calls t131 t136 _ A30.out).mono ?_); rintro e w' ⟨rfl, ⟨nd, rfl⟩⟩; refine ⟨_, rfl, ?_⟩; have hcz33_0 : wc.cell? ⟨gb123, 0, none⟩ = some (.int .i64 ((rd_T47 l0 x3_1).f0.f0)) := (blk_cell BK123.out 0).trans rfl; have hcz33_1 : wc.cell? ⟨gb123, 1, none⟩ = some (.int .i64 ((rd_T47 l0 x3_1).f0.f1)) := (blk_cell BK123.out 1).trans rfl; have hcz33_2 : wc.cell? ⟨gb123, 2, none⟩ = some (.string ((rd_T47 l0 x3_1).f0.f2)) := (blk_cell BK123.out 2).trans rfl; have hcz33_3 : wc.cell? ⟨gb123, 3, none⟩ = some (.int .i64 ((rd_T47 l0 x3_1).f1.f0)) := (blk_cell BK123.out 3).trans rfl; have hcz33_4 : wc.cell? ⟨gb123, 4, none⟩ = some (.int .i64 ((rd_T47 l0 x3_1).f1.f1)) := (blk_cell BK123.out 4).trans rfl; have hcz33_5 : wc.cell? ⟨gb123, 5, none⟩ = some (.string ((rd_T47 l0 x3_1).f1.f2)) := (blk_cell BK123.out 5).trans rfl; have hcz33_6 : wc.cell? ⟨gb123, 6, none⟩ = some (.int .i64 ((rd_T47 l0 x3_1).f2.f0)) := (blk_cell BK123.out 6).trans rfl; have hcz33_7 : wc.cell? ⟨gb123, 7, none⟩ = some (.int .i64 ((rd_T47 l0 x3_1).f2.f1)) := (blk_cell BK123.out 7).trans rfl; have hcz33_8 : wc.cell? ⟨gb123, 8, none⟩ = some (.string ((rd_T47 l0 x3_1).f2.f2)) := (blk_cell BK123.out 8).trans rfl; have hcz33_9 : wc.cell? ⟨gb123, 9, none⟩ = some (.int .i64 ((rd_T47 l0 x3_1).f3)) := (blk_cell BK123.out 9).trans rfl; have hfz33_0 := blk_frozen BK123.out 0; have hfz33_1 := blk_frozen BK123.out 1; have hfz33_2 := blk_frozen BK123.out 2; have hfz33_3 := blk_frozen BK123.out 3; have hfz33_4 := blk_frozen BK123.out 4; have hfz33_5 := blk_frozen BK123.out 5; have hfz33_6 := blk_frozen BK123.out 6; have hfz33_7 := blk_frozen BK123.out 7; have hfz33_8 := blk_frozen BK123.out 8; have hfz33_9 := blk_frozen BK123.out 9))
                          go_ret
                          exact ⟨by first | rfl | (simp [errW_none, errW_some] <;> rfl) | (simp [*, errW_none, errW_some] <;> rfl), by repeat (first | (with_reducible first | exact HB.out | apply below_alloc | apply pw_below_drewN | apply below_drew1 | refine below_set ?_ GE123.out) | exact HB.out)⟩
                        rw [if_neg c32] at H
                        have c32b0 : ((t124 == 0) != (((rd_T47 l0 x3_1).f0.f0) == ((rd_T47 l0 x3_1).f1.f0) && (((rd_T47 l0 x3_1).f0.f1) == ((rd_T47 l0 x3_1).f1.f1) && (((rd_T47 l0 x3_1).f0.f2).toList == ((rd_T47 l0 x3_1).f1.f2).toList)))) = false := by simpa using c32
                        (try (have c32b1 : decide ((t124 == 0) = (((rd_T47 l0 x3_1).f0.f0) == ((rd_T47 l0 x3_1).f1.f0) && (((rd_T47 l0 x3_1).f0.f1) == ((rd_T47 l0 x3_1).f1.f1) && (((rd_T47 l0 x3_1).f0.f2).toList == ((rd_T47 l0 x3_1).f1.f2).toList)))) = true := by simpa using c32))
                        (try (have c32b2 : ((t124 == 0) == (((rd_T47 l0 x3_1).f0.f0) == ((rd_T47 l0 x3_1).f1.f0) && (((rd_T47 l0 x3_1).f0.f1) == ((rd_T47 l0 x3_1).f1.f1) && (((rd_T47 l0 x3_1).f0.f2).toList == ((rd_T47 l0 x3_1).f1.f2).toList)))) = true := by simpa using c32))
                        clear c32
                        by_cases c34 : t124 ≤ 0
                        rotate_left
                        · rw [if_neg c34] at H
                          have c34b0 : decide (t124 ≤ 0) = false := decide_eq_false c34
                          clear c34
                          by_cases c35 : t124 < 0
                          rotate_left
                          · rw [if_neg c35] at H
                            have c35b0 : decide (t124 < 0) = false := decide_eq_false c35
                            clear c35
                            by_cases c36 : t124 < (-1)
                            · rw [if_pos c36] at H
                              exact absurd c36 (by have h_ := c34b0; simp only [decide_eq_true_eq, decide_eq_false_iff_not, beq_iff_eq, beq_eq_false_iff_ne] at h_; omega)
                            rw [if_neg c36] at H
                            have c36b0 : decide (t124 < (-1)) = false := decide_eq_false c36
                            clear c36
                            by_cases c37 : t124 > 1
                            · rw [if_pos c37] at H
                              have c37b0 : decide (1 < t124) = true := decide_eq_true c37
                              clear c37
                              obtain rfl := Option.some.inj H
                              go_wp2_with (first | ((with_reducible refine gate_callee (f := 36) rfl ?_); refine goesL_ (some 79) rfl rfl Try.func36 (by kernel_rfl) rfl #[.int .i64 t131] rfl (by (try simp only [List.map_toArray, List.map_cons, List.map_nil]); first | done | rfl | (simp only [List.length_drop, List.length_take]; rfl)) ?_; (with_reducible refine (cadastrelaw2_num.calls t131 t136 _ A30.out).mono ?_); rintro e w' ⟨rfl, ⟨nd, rfl⟩⟩; refine ⟨_, rfl, ?_⟩; have hcz38_0 : wc.cell? ⟨gb123, 0, none⟩ = some (.int .i64 ((rd_T47 l0 x3_1).f0.f0)) := (blk_cell BK123.out 0).trans rfl; have hcz38_1 : wc.cell? ⟨gb123, 1, none⟩ = some (.int .i64 ((rd_T47 l0 x3_1).f0.f1)) := (blk_cell BK123.out 1).trans rfl; have hcz38_2 : wc.cell? ⟨gb123, 2, none⟩ = some (.string ((rd_T47 l0 x3_1).f0.f2)) := (blk_cell BK123.out 2).trans rfl; have hcz38_3 : wc.cell? ⟨gb123, 3, none⟩ = some (.int .i64 ((rd_T47 l0 x3_1).f1.f0)) := (blk_cell BK123.out 3).trans rfl; have hcz38_4 : wc.cell? ⟨gb123, 4, none⟩ = some (.int .i64 ((rd_T47 l0 x3_1).f1.f1)) := (blk_cell BK123.out 4).trans rfl; have hcz38_5 : wc.cell? ⟨gb123, 5, none⟩ = some (.string ((rd_T47 l0 x3_1).f1.f2)) := (blk_cell BK123.out 5).trans rfl; have hcz38_6 : wc.cell? ⟨gb123, 6, none⟩ = some (.int .i64 ((rd_T47 l0 x3_1).f2.f0)) := (blk_cell BK123.out 6).trans rfl; have hcz38_7 : wc.cell? ⟨gb123, 7, none⟩ = some (.int .i64 ((rd_T47 l0 x3_1).f2.f1)) := (blk_cell BK123.out 7).trans rfl; have hcz38_8 : wc.cell? ⟨gb123, 8, none⟩ = some (.string ((rd_T47 l0 x3_1).f2.f2)) := (blk_cell BK123.out 8).trans rfl; have hcz38_9 : wc.cell? ⟨gb123, 9, none⟩ = some (.int .i64 ((rd_T47 l0 x3_1).f3)) := (blk_cell BK123.out 9).trans rfl; have hfz38_0 := blk_frozen BK123.out 0; have hfz38_1 := blk_frozen BK123.out 1; have hfz38_2 := blk_frozen BK123.out 2; have hfz38_3 := blk_frozen BK123.out 3; have hfz38_4 := blk_frozen BK123.out 4; have hfz38_5 := blk_frozen BK123.out 5; have hfz38_6 := blk_frozen BK123.out 6; have hfz38_7 := blk_frozen BK123.out 7; have hfz38_8 := blk_frozen BK123.out 8; have hfz38_9 := blk_frozen BK123.out 9))
                              go_ret
                              exact ⟨by first | rfl | (simp [errW_none, errW_some] <;> rfl) | (simp [*, errW_none, errW_some] <;> rfl), by repeat (first | (with_reducible first | exact HB.out | apply below_alloc | apply pw_below_drewN | apply below_drew1 | refine below_set ?_ GE123.out) | exact HB.out)⟩
                            rw [if_neg c37] at H
                            have c37b0 : decide (1 < t124) = false := decide_eq_false c37
                            clear c37
                            have H' := Aside0.mk H
                            clear H
                            go_wp2_with (first | ((with_reducible refine gate_callee (f := 36) rfl ?_); refine goesL_ (some 79) rfl rfl Try.func36 (by kernel_rfl) rfl #[.int .i64 t131] rfl (by (try simp only [List.map_toArray, List.map_cons, List.map_nil]); first | done | rfl | (simp only [List.length_drop, List.length_take]; rfl)) ?_; (with_reducible refine (cadastrelaw2_num.calls t131 t136 _ A30.out).mono ?_); rintro e w' ⟨rfl, ⟨nd, rfl⟩⟩; refine ⟨_, rfl, ?_⟩; have hcz39_0 : wc.cell? ⟨gb123, 0, none⟩ = some (.int .i64 ((rd_T47 l0 x3_1).f0.f0)) := (blk_cell BK123.out 0).trans rfl; have hcz39_1 : wc.cell? ⟨gb123, 1, none⟩ = some (.int .i64 ((rd_T47 l0 x3_1).f0.f1)) := (blk_cell BK123.out 1).trans rfl; have hcz39_2 : wc.cell? ⟨gb123, 2, none⟩ = some (.string ((rd_T47 l0 x3_1).f0.f2)) := (blk_cell BK123.out 2).trans rfl; have hcz39_3 : wc.cell? ⟨gb123, 3, none⟩ = some (.int .i64 ((rd_T47 l0 x3_1).f1.f0)) := (blk_cell BK123.out 3).trans rfl; have hcz39_4 : wc.cell? ⟨gb123, 4, none⟩ = some (.int .i64 ((rd_T47 l0 x3_1).f1.f1)) := (blk_cell BK123.out 4).trans rfl; have hcz39_5 : wc.cell? ⟨gb123, 5, none⟩ = some (.string ((rd_T47 l0 x3_1).f1.f2)) := (blk_cell BK123.out 5).trans rfl; have hcz39_6 : wc.cell? ⟨gb123, 6, none⟩ = some (.int .i64 ((rd_T47 l0 x3_1).f2.f0)) := (blk_cell BK123.out 6).trans rfl; have hcz39_7 : wc.cell? ⟨gb123, 7, none⟩ = some (.int .i64 ((rd_T47 l0 x3_1).f2.f1)) := (blk_cell BK123.out 7).trans rfl; have hcz39_8 : wc.cell? ⟨gb123, 8, none⟩ = some (.string ((rd_T47 l0 x3_1).f2.f2)) := (blk_cell BK123.out 8).trans rfl; have hcz39_9 : wc.cell? ⟨gb123, 9, none⟩ = some (.int .i64 ((rd_T47 l0 x3_1).f3)) := (blk_cell BK123.out 9).trans rfl; have hfz39_0 := blk_frozen BK123.out 0; have hfz39_1 := blk_frozen BK123.out 1; have hfz39_2 := blk_frozen BK123.out 2; have hfz39_3 := blk_frozen BK123.out 3; have hfz39_4 := blk_frozen BK123.out 4; have hfz39_5 := blk_frozen BK123.out 5; have hfz39_6 := blk_frozen BK123.out 6; have hfz39_7 := blk_frozen BK123.out 7; have hfz39_8 := blk_frozen BK123.out 8; have hfz39_9 := blk_frozen BK123.out 9))
                            go_roundg kj24
                            case measure => have := HK1.out; have := HJ1.out; have := HJ10.out; have := HJ24.out; omega
                            case rel => exact ⟨(wrap64 (x3_1 + 1)), (by first | rfl | (simp; done) | (simp [*]; done)), H', ⟨by have := HK1.out; have := HJ1.out; have := HJ10.out; have := HJ24.out; omega⟩, ⟨by repeat (first | (with_reducible first | exact HB.out | apply below_alloc | apply pw_below_drewN | apply below_drew1 | refine below_set ?_ GE123.out) | exact HB.out)⟩⟩
                          rw [if_pos c35] at H
                          exact absurd c35 (by have h_ := c34b0; simp only [decide_eq_true_eq, decide_eq_false_iff_not, beq_iff_eq, beq_eq_false_iff_ne] at h_; omega)
                        rw [if_pos c34] at H
                        have c34b0 : decide (t124 ≤ 0) = true := decide_eq_true c34
                        clear c34
                        by_cases c40 : t128 ≤ 0
                        rotate_left
                        · rw [if_neg c40] at H
                          have c40b0 : decide (t128 ≤ 0) = false := decide_eq_false c40
                          clear c40
                          by_cases c41 : t124 < 0
                          rotate_left
                          · rw [if_neg c41] at H
                            have c41b0 : decide (t124 < 0) = false := decide_eq_false c41
                            clear c41
                            by_cases c42 : t124 < (-1)
                            · rw [if_pos c42] at H
                              exact absurd c42 (by have h_ := c41b0; simp only [decide_eq_true_eq, decide_eq_false_iff_not, beq_iff_eq, beq_eq_false_iff_ne] at h_; omega)
                            rw [if_neg c42] at H
                            have c42b0 : decide (t124 < (-1)) = false := decide_eq_false c42
                            clear c42
                            by_cases c43 : t124 > 1
                            · rw [if_pos c43] at H
                              exact absurd c43 (by have h_ := c34b0; simp only [decide_eq_true_eq, decide_eq_false_iff_not, beq_iff_eq, beq_eq_false_iff_ne] at h_; omega)
                            rw [if_neg c43] at H
                            have c43b0 : decide (1 < t124) = false := decide_eq_false c43
                            clear c43
                            have H' := Aside0.mk H
                            clear H
                            go_wp2_with (first | ((with_reducible refine gate_callee (f := 36) rfl ?_); refine goesL_ (some 79) rfl rfl Try.func36 (by kernel_rfl) rfl #[.int .i64 t131] rfl (by (try simp only [List.map_toArray, List.map_cons, List.map_nil]); first | done | rfl | (simp only [List.length_drop, List.length_take]; rfl)) ?_; (with_reducible refine (cadastrelaw2_num.calls t131 t136 _ A30.out).mono ?_); rintro e w' ⟨rfl, ⟨nd, rfl⟩⟩; refine ⟨_, rfl, ?_⟩; have hcz44_0 : wc.cell? ⟨gb123, 0, none⟩ = some (.int .i64 ((rd_T47 l0 x3_1).f0.f0)) := (blk_cell BK123.out 0).trans rfl; have hcz44_1 : wc.cell? ⟨gb123, 1, none⟩ = some (.int .i64 ((rd_T47 l0 x3_1).f0.f1)) := (blk_cell BK123.out 1).trans rfl; have hcz44_2 : wc.cell? ⟨gb123, 2, none⟩ = some (.string ((rd_T47 l0 x3_1).f0.f2)) := (blk_cell BK123.out 2).trans rfl; have hcz44_3 : wc.cell? ⟨gb123, 3, none⟩ = some (.int .i64 ((rd_T47 l0 x3_1).f1.f0)) := (blk_cell BK123.out 3).trans rfl; have hcz44_4 : wc.cell? ⟨gb123, 4, none⟩ = some (.int .i64 ((rd_T47 l0 x3_1).f1.f1)) := (blk_cell BK123.out 4).trans rfl; have hcz44_5 : wc.cell? ⟨gb123, 5, none⟩ = some (.string ((rd_T47 l0 x3_1).f1.f2)) := (blk_cell BK123.out 5).trans rfl; have hcz44_6 : wc.cell? ⟨gb123, 6, none⟩ = some (.int .i64 ((rd_T47 l0 x3_1).f2.f0)) := (blk_cell BK123.out 6).trans rfl; have hcz44_7 : wc.cell? ⟨gb123, 7, none⟩ = some (.int .i64 ((rd_T47 l0 x3_1).f2.f1)) := (blk_cell BK123.out 7).trans rfl; have hcz44_8 : wc.cell? ⟨gb123, 8, none⟩ = some (.string ((rd_T47 l0 x3_1).f2.f2)) := (blk_cell BK123.out 8).trans rfl; have hcz44_9 : wc.cell? ⟨gb123, 9, none⟩ = some (.int .i64 ((rd_T47 l0 x3_1).f3)) := (blk_cell BK123.out 9).trans rfl; have hfz44_0 := blk_frozen BK123.out 0; have hfz44_1 := blk_frozen BK123.out 1; have hfz44_2 := blk_frozen BK123.out 2; have hfz44_3 := blk_frozen BK123.out 3; have hfz44_4 := blk_frozen BK123.out 4; have hfz44_5 := blk_frozen BK123.out 5; have hfz44_6 := blk_frozen BK123.out 6; have hfz44_7 := blk_frozen BK123.out 7; have hfz44_8 := blk_frozen BK123.out 8; have hfz44_9 := blk_frozen BK123.out 9))
                            go_roundg kj24
                            case measure => have := HK1.out; have := HJ1.out; have := HJ10.out; have := HJ24.out; omega
                            case rel => exact ⟨(wrap64 (x3_1 + 1)), (by first | rfl | (simp; done) | (simp [*]; done)), H', ⟨by have := HK1.out; have := HJ1.out; have := HJ10.out; have := HJ24.out; omega⟩, ⟨by repeat (first | (with_reducible first | exact HB.out | apply below_alloc | apply pw_below_drewN | apply below_drew1 | refine below_set ?_ GE123.out) | exact HB.out)⟩⟩
                          rw [if_pos c41] at H
                          have c41b0 : decide (t124 < 0) = true := decide_eq_true c41
                          clear c41
                          by_cases c45 : t128 < 0
                          rotate_left
                          · rw [if_neg c45] at H
                            have c45b0 : decide (t128 < 0) = false := decide_eq_false c45
                            clear c45
                            by_cases c46 : t124 < (-1)
                            · rw [if_pos c46] at H
                              have c46b0 : decide (t124 < (-1)) = true := decide_eq_true c46
                              clear c46
                              obtain rfl := Option.some.inj H
                              go_wp2_with (first | ((with_reducible refine gate_callee (f := 36) rfl ?_); refine goesL_ (some 79) rfl rfl Try.func36 (by kernel_rfl) rfl #[.int .i64 t131] rfl (by (try simp only [List.map_toArray, List.map_cons, List.map_nil]); first | done | rfl | (simp only [List.length_drop, List.length_take]; rfl)) ?_; (with_reducible refine (cadastrelaw2_num.calls t131 t136 _ A30.out).mono ?_); rintro e w' ⟨rfl, ⟨nd, rfl⟩⟩; refine ⟨_, rfl, ?_⟩; have hcz47_0 : wc.cell? ⟨gb123, 0, none⟩ = some (.int .i64 ((rd_T47 l0 x3_1).f0.f0)) := (blk_cell BK123.out 0).trans rfl; have hcz47_1 : wc.cell? ⟨gb123, 1, none⟩ = some (.int .i64 ((rd_T47 l0 x3_1).f0.f1)) := (blk_cell BK123.out 1).trans rfl; have hcz47_2 : wc.cell? ⟨gb123, 2, none⟩ = some (.string ((rd_T47 l0 x3_1).f0.f2)) := (blk_cell BK123.out 2).trans rfl; have hcz47_3 : wc.cell? ⟨gb123, 3, none⟩ = some (.int .i64 ((rd_T47 l0 x3_1).f1.f0)) := (blk_cell BK123.out 3).trans rfl; have hcz47_4 : wc.cell? ⟨gb123, 4, none⟩ = some (.int .i64 ((rd_T47 l0 x3_1).f1.f1)) := (blk_cell BK123.out 4).trans rfl; have hcz47_5 : wc.cell? ⟨gb123, 5, none⟩ = some (.string ((rd_T47 l0 x3_1).f1.f2)) := (blk_cell BK123.out 5).trans rfl; have hcz47_6 : wc.cell? ⟨gb123, 6, none⟩ = some (.int .i64 ((rd_T47 l0 x3_1).f2.f0)) := (blk_cell BK123.out 6).trans rfl; have hcz47_7 : wc.cell? ⟨gb123, 7, none⟩ = some (.int .i64 ((rd_T47 l0 x3_1).f2.f1)) := (blk_cell BK123.out 7).trans rfl; have hcz47_8 : wc.cell? ⟨gb123, 8, none⟩ = some (.string ((rd_T47 l0 x3_1).f2.f2)) := (blk_cell BK123.out 8).trans rfl; have hcz47_9 : wc.cell? ⟨gb123, 9, none⟩ = some (.int .i64 ((rd_T47 l0 x3_1).f3)) := (blk_cell BK123.out 9).trans rfl; have hfz47_0 := blk_frozen BK123.out 0; have hfz47_1 := blk_frozen BK123.out 1; have hfz47_2 := blk_frozen BK123.out 2; have hfz47_3 := blk_frozen BK123.out 3; have hfz47_4 := blk_frozen BK123.out 4; have hfz47_5 := blk_frozen BK123.out 5; have hfz47_6 := blk_frozen BK123.out 6; have hfz47_7 := blk_frozen BK123.out 7; have hfz47_8 := blk_frozen BK123.out 8; have hfz47_9 := blk_frozen BK123.out 9))
                              go_ret
                              exact ⟨by first | rfl | (simp [errW_none, errW_some] <;> rfl) | (simp [*, errW_none, errW_some] <;> rfl), by repeat (first | (with_reducible first | exact HB.out | apply below_alloc | apply pw_below_drewN | apply below_drew1 | refine below_set ?_ GE123.out) | exact HB.out)⟩
                            rw [if_neg c46] at H
                            have c46b0 : decide (t124 < (-1)) = false := decide_eq_false c46
                            clear c46
                            by_cases c48 : t124 > 1
                            · rw [if_pos c48] at H
                              exact absurd c48 (by have h_ := c34b0; simp only [decide_eq_true_eq, decide_eq_false_iff_not, beq_iff_eq, beq_eq_false_iff_ne] at h_; omega)
                            rw [if_neg c48] at H
                            have c48b0 : decide (1 < t124) = false := decide_eq_false c48
                            clear c48
                            have H' := Aside0.mk H
                            clear H
                            go_wp2_with (first | ((with_reducible refine gate_callee (f := 36) rfl ?_); refine goesL_ (some 79) rfl rfl Try.func36 (by kernel_rfl) rfl #[.int .i64 t131] rfl (by (try simp only [List.map_toArray, List.map_cons, List.map_nil]); first | done | rfl | (simp only [List.length_drop, List.length_take]; rfl)) ?_; (with_reducible refine (cadastrelaw2_num.calls t131 t136 _ A30.out).mono ?_); rintro e w' ⟨rfl, ⟨nd, rfl⟩⟩; refine ⟨_, rfl, ?_⟩; have hcz49_0 : wc.cell? ⟨gb123, 0, none⟩ = some (.int .i64 ((rd_T47 l0 x3_1).f0.f0)) := (blk_cell BK123.out 0).trans rfl; have hcz49_1 : wc.cell? ⟨gb123, 1, none⟩ = some (.int .i64 ((rd_T47 l0 x3_1).f0.f1)) := (blk_cell BK123.out 1).trans rfl; have hcz49_2 : wc.cell? ⟨gb123, 2, none⟩ = some (.string ((rd_T47 l0 x3_1).f0.f2)) := (blk_cell BK123.out 2).trans rfl; have hcz49_3 : wc.cell? ⟨gb123, 3, none⟩ = some (.int .i64 ((rd_T47 l0 x3_1).f1.f0)) := (blk_cell BK123.out 3).trans rfl; have hcz49_4 : wc.cell? ⟨gb123, 4, none⟩ = some (.int .i64 ((rd_T47 l0 x3_1).f1.f1)) := (blk_cell BK123.out 4).trans rfl; have hcz49_5 : wc.cell? ⟨gb123, 5, none⟩ = some (.string ((rd_T47 l0 x3_1).f1.f2)) := (blk_cell BK123.out 5).trans rfl; have hcz49_6 : wc.cell? ⟨gb123, 6, none⟩ = some (.int .i64 ((rd_T47 l0 x3_1).f2.f0)) := (blk_cell BK123.out 6).trans rfl; have hcz49_7 : wc.cell? ⟨gb123, 7, none⟩ = some (.int .i64 ((rd_T47 l0 x3_1).f2.f1)) := (blk_cell BK123.out 7).trans rfl; have hcz49_8 : wc.cell? ⟨gb123, 8, none⟩ = some (.string ((rd_T47 l0 x3_1).f2.f2)) := (blk_cell BK123.out 8).trans rfl; have hcz49_9 : wc.cell? ⟨gb123, 9, none⟩ = some (.int .i64 ((rd_T47 l0 x3_1).f3)) := (blk_cell BK123.out 9).trans rfl; have hfz49_0 := blk_frozen BK123.out 0; have hfz49_1 := blk_frozen BK123.out 1; have hfz49_2 := blk_frozen BK123.out 2; have hfz49_3 := blk_frozen BK123.out 3; have hfz49_4 := blk_frozen BK123.out 4; have hfz49_5 := blk_frozen BK123.out 5; have hfz49_6 := blk_frozen BK123.out 6; have hfz49_7 := blk_frozen BK123.out 7; have hfz49_8 := blk_frozen BK123.out 8; have hfz49_9 := blk_frozen BK123.out 9))
                            go_roundg kj24
                            case measure => have := HK1.out; have := HJ1.out; have := HJ10.out; have := HJ24.out; omega
                            case rel => exact ⟨(wrap64 (x3_1 + 1)), (by first | rfl | (simp; done) | (simp [*]; done)), H', ⟨by have := HK1.out; have := HJ1.out; have := HJ10.out; have := HJ24.out; omega⟩, ⟨by repeat (first | (with_reducible first | exact HB.out | apply below_alloc | apply pw_below_drewN | apply below_drew1 | refine below_set ?_ GE123.out) | exact HB.out)⟩⟩
                          rw [if_pos c45] at H
                          exact absurd c45 (by have h_ := c40b0; simp only [decide_eq_true_eq, decide_eq_false_iff_not, beq_iff_eq, beq_eq_false_iff_ne] at h_; omega)
                        rw [if_pos c40] at H
                        have c40b0 : decide (t128 ≤ 0) = true := decide_eq_true c40
                        clear c40
                        by_cases c50 : t130 > 0
                        · rw [if_pos c50] at H
                          have c50b0 : decide (0 < t130) = true := decide_eq_true c50
                          clear c50
                          obtain rfl := Option.some.inj H
                          go_wp2_with (first | ((with_reducible refine gate_callee (f := 36) rfl ?_); refine goesL_ (some 79) rfl rfl Try.func36 (by kernel_rfl) rfl #[.int .i64 t131] rfl (by (try simp only [List.map_toArray, List.map_cons, List.map_nil]); first | done | rfl | (simp only [List.length_drop, List.length_take]; rfl)) ?_; (with_reducible refine (cadastrelaw2_num.calls t131 t136 _ A30.out).mono ?_); rintro e w' ⟨rfl, ⟨nd, rfl⟩⟩; refine ⟨_, rfl, ?_⟩; have hcz51_0 : wc.cell? ⟨gb123, 0, none⟩ = some (.int .i64 ((rd_T47 l0 x3_1).f0.f0)) := (blk_cell BK123.out 0).trans rfl; have hcz51_1 : wc.cell? ⟨gb123, 1, none⟩ = some (.int .i64 ((rd_T47 l0 x3_1).f0.f1)) := (blk_cell BK123.out 1).trans rfl; have hcz51_2 : wc.cell? ⟨gb123, 2, none⟩ = some (.string ((rd_T47 l0 x3_1).f0.f2)) := (blk_cell BK123.out 2).trans rfl; have hcz51_3 : wc.cell? ⟨gb123, 3, none⟩ = some (.int .i64 ((rd_T47 l0 x3_1).f1.f0)) := (blk_cell BK123.out 3).trans rfl; have hcz51_4 : wc.cell? ⟨gb123, 4, none⟩ = some (.int .i64 ((rd_T47 l0 x3_1).f1.f1)) := (blk_cell BK123.out 4).trans rfl; have hcz51_5 : wc.cell? ⟨gb123, 5, none⟩ = some (.string ((rd_T47 l0 x3_1).f1.f2)) := (blk_cell BK123.out 5).trans rfl; have hcz51_6 : wc.cell? ⟨gb123, 6, none⟩ = some (.int .i64 ((rd_T47 l0 x3_1).f2.f0)) := (blk_cell BK123.out 6).trans rfl; have hcz51_7 : wc.cell? ⟨gb123, 7, none⟩ = some (.int .i64 ((rd_T47 l0 x3_1).f2.f1)) := (blk_cell BK123.out 7).trans rfl; have hcz51_8 : wc.cell? ⟨gb123, 8, none⟩ = some (.string ((rd_T47 l0 x3_1).f2.f2)) := (blk_cell BK123.out 8).trans rfl; have hcz51_9 : wc.cell? ⟨gb123, 9, none⟩ = some (.int .i64 ((rd_T47 l0 x3_1).f3)) := (blk_cell BK123.out 9).trans rfl; have hfz51_0 := blk_frozen BK123.out 0; have hfz51_1 := blk_frozen BK123.out 1; have hfz51_2 := blk_frozen BK123.out 2; have hfz51_3 := blk_frozen BK123.out 3; have hfz51_4 := blk_frozen BK123.out 4; have hfz51_5 := blk_frozen BK123.out 5; have hfz51_6 := blk_frozen BK123.out 6; have hfz51_7 := blk_frozen BK123.out 7; have hfz51_8 := blk_frozen BK123.out 8; have hfz51_9 := blk_frozen BK123.out 9))
                          go_ret
                          exact ⟨by first | rfl | (simp [errW_none, errW_some] <;> rfl) | (simp [*, errW_none, errW_some] <;> rfl), by repeat (first | (with_reducible first | exact HB.out | apply below_alloc | apply pw_below_drewN | apply below_drew1 | refine below_set ?_ GE123.out) | exact HB.out)⟩
                        rw [if_neg c50] at H
                        have c50b0 : decide (0 < t130) = false := decide_eq_false c50
                        clear c50
                        by_cases c52 : t124 < 0
                        rotate_left
                        · rw [if_neg c52] at H
                          have c52b0 : decide (t124 < 0) = false := decide_eq_false c52
                          clear c52
                          by_cases c53 : t124 < (-1)
                          · rw [if_pos c53] at H
                            exact absurd c53 (by have h_ := c52b0; simp only [decide_eq_true_eq, decide_eq_false_iff_not, beq_iff_eq, beq_eq_false_iff_ne] at h_; omega)
                          rw [if_neg c53] at H
                          have c53b0 : decide (t124 < (-1)) = false := decide_eq_false c53
                          clear c53
                          by_cases c54 : t124 > 1
                          · rw [if_pos c54] at H
                            exact absurd c54 (by have h_ := c34b0; simp only [decide_eq_true_eq, decide_eq_false_iff_not, beq_iff_eq, beq_eq_false_iff_ne] at h_; omega)
                          rw [if_neg c54] at H
                          have c54b0 : decide (1 < t124) = false := decide_eq_false c54
                          clear c54
                          have H' := Aside0.mk H
                          clear H
                          go_wp2_with (first | ((with_reducible refine gate_callee (f := 36) rfl ?_); refine goesL_ (some 79) rfl rfl Try.func36 (by kernel_rfl) rfl #[.int .i64 t131] rfl (by (try simp only [List.map_toArray, List.map_cons, List.map_nil]); first | done | rfl | (simp only [List.length_drop, List.length_take]; rfl)) ?_; (with_reducible refine (cadastrelaw2_num.calls t131 t136 _ A30.out).mono ?_); rintro e w' ⟨rfl, ⟨nd, rfl⟩⟩; refine ⟨_, rfl, ?_⟩; have hcz55_0 : wc.cell? ⟨gb123, 0, none⟩ = some (.int .i64 ((rd_T47 l0 x3_1).f0.f0)) := (blk_cell BK123.out 0).trans rfl; have hcz55_1 : wc.cell? ⟨gb123, 1, none⟩ = some (.int .i64 ((rd_T47 l0 x3_1).f0.f1)) := (blk_cell BK123.out 1).trans rfl; have hcz55_2 : wc.cell? ⟨gb123, 2, none⟩ = some (.string ((rd_T47 l0 x3_1).f0.f2)) := (blk_cell BK123.out 2).trans rfl; have hcz55_3 : wc.cell? ⟨gb123, 3, none⟩ = some (.int .i64 ((rd_T47 l0 x3_1).f1.f0)) := (blk_cell BK123.out 3).trans rfl; have hcz55_4 : wc.cell? ⟨gb123, 4, none⟩ = some (.int .i64 ((rd_T47 l0 x3_1).f1.f1)) := (blk_cell BK123.out 4).trans rfl; have hcz55_5 : wc.cell? ⟨gb123, 5, none⟩ = some (.string ((rd_T47 l0 x3_1).f1.f2)) := (blk_cell BK123.out 5).trans rfl; have hcz55_6 : wc.cell? ⟨gb123, 6, none⟩ = some (.int .i64 ((rd_T47 l0 x3_1).f2.f0)) := (blk_cell BK123.out 6).trans rfl; have hcz55_7 : wc.cell? ⟨gb123, 7, none⟩ = some (.int .i64 ((rd_T47 l0 x3_1).f2.f1)) := (blk_cell BK123.out 7).trans rfl; have hcz55_8 : wc.cell? ⟨gb123, 8, none⟩ = some (.string ((rd_T47 l0 x3_1).f2.f2)) := (blk_cell BK123.out 8).trans rfl; have hcz55_9 : wc.cell? ⟨gb123, 9, none⟩ = some (.int .i64 ((rd_T47 l0 x3_1).f3)) := (blk_cell BK123.out 9).trans rfl; have hfz55_0 := blk_frozen BK123.out 0; have hfz55_1 := blk_frozen BK123.out 1; have hfz55_2 := blk_frozen BK123.out 2; have hfz55_3 := blk_frozen BK123.out 3; have hfz55_4 := blk_frozen BK123.out 4; have hfz55_5 := blk_frozen BK123.out 5; have hfz55_6 := blk_frozen BK123.out 6; have hfz55_7 := blk_frozen BK123.out 7; have hfz55_8 := blk_frozen BK123.out 8; have hfz55_9 := blk_frozen BK123.out 9))
                          go_roundg kj24
                          case measure => have := HK1.out; have := HJ1.out; have := HJ10.out; have := HJ24.out; omega
                          case rel => exact ⟨(wrap64 (x3_1 + 1)), (by first | rfl | (simp; done) | (simp [*]; done)), H', ⟨by have := HK1.out; have := HJ1.out; have := HJ10.out; have := HJ24.out; omega⟩, ⟨by repeat (first | (with_reducible first | exact HB.out | apply below_alloc | apply pw_below_drewN | apply below_drew1 | refine below_set ?_ GE123.out) | exact HB.out)⟩⟩
                        rw [if_pos c52] at H
                        have c52b0 : decide (t124 < 0) = true := decide_eq_true c52
                        clear c52
                        by_cases c56 : t128 < 0
                        rotate_left
                        · rw [if_neg c56] at H
                          have c56b0 : decide (t128 < 0) = false := decide_eq_false c56
                          clear c56
                          by_cases c57 : t124 < (-1)
                          · rw [if_pos c57] at H
                            have c57b0 : decide (t124 < (-1)) = true := decide_eq_true c57
                            clear c57
                            obtain rfl := Option.some.inj H
                            go_wp2_with (first | ((with_reducible refine gate_callee (f := 36) rfl ?_); refine goesL_ (some 79) rfl rfl Try.func36 (by kernel_rfl) rfl #[.int .i64 t131] rfl (by (try simp only [List.map_toArray, List.map_cons, List.map_nil]); first | done | rfl | (simp only [List.length_drop, List.length_take]; rfl)) ?_; (with_reducible refine (cadastrelaw2_num.calls t131 t136 _ A30.out).mono ?_); rintro e w' ⟨rfl, ⟨nd, rfl⟩⟩; refine ⟨_, rfl, ?_⟩; have hcz58_0 : wc.cell? ⟨gb123, 0, none⟩ = some (.int .i64 ((rd_T47 l0 x3_1).f0.f0)) := (blk_cell BK123.out 0).trans rfl; have hcz58_1 : wc.cell? ⟨gb123, 1, none⟩ = some (.int .i64 ((rd_T47 l0 x3_1).f0.f1)) := (blk_cell BK123.out 1).trans rfl; have hcz58_2 : wc.cell? ⟨gb123, 2, none⟩ = some (.string ((rd_T47 l0 x3_1).f0.f2)) := (blk_cell BK123.out 2).trans rfl; have hcz58_3 : wc.cell? ⟨gb123, 3, none⟩ = some (.int .i64 ((rd_T47 l0 x3_1).f1.f0)) := (blk_cell BK123.out 3).trans rfl; have hcz58_4 : wc.cell? ⟨gb123, 4, none⟩ = some (.int .i64 ((rd_T47 l0 x3_1).f1.f1)) := (blk_cell BK123.out 4).trans rfl; have hcz58_5 : wc.cell? ⟨gb123, 5, none⟩ = some (.string ((rd_T47 l0 x3_1).f1.f2)) := (blk_cell BK123.out 5).trans rfl; have hcz58_6 : wc.cell? ⟨gb123, 6, none⟩ = some (.int .i64 ((rd_T47 l0 x3_1).f2.f0)) := (blk_cell BK123.out 6).trans rfl; have hcz58_7 : wc.cell? ⟨gb123, 7, none⟩ = some (.int .i64 ((rd_T47 l0 x3_1).f2.f1)) := (blk_cell BK123.out 7).trans rfl; have hcz58_8 : wc.cell? ⟨gb123, 8, none⟩ = some (.string ((rd_T47 l0 x3_1).f2.f2)) := (blk_cell BK123.out 8).trans rfl; have hcz58_9 : wc.cell? ⟨gb123, 9, none⟩ = some (.int .i64 ((rd_T47 l0 x3_1).f3)) := (blk_cell BK123.out 9).trans rfl; have hfz58_0 := blk_frozen BK123.out 0; have hfz58_1 := blk_frozen BK123.out 1; have hfz58_2 := blk_frozen BK123.out 2; have hfz58_3 := blk_frozen BK123.out 3; have hfz58_4 := blk_frozen BK123.out 4; have hfz58_5 := blk_frozen BK123.out 5; have hfz58_6 := blk_frozen BK123.out 6; have hfz58_7 := blk_frozen BK123.out 7; have hfz58_8 := blk_frozen BK123.out 8; have hfz58_9 := blk_frozen BK123.out 9))
                            go_ret
                            exact ⟨by first | rfl | (simp [errW_none, errW_some] <;> rfl) | (simp [*, errW_none, errW_some] <;> rfl), by repeat (first | (with_reducible first | exact HB.out | apply below_alloc | apply pw_below_drewN | apply below_drew1 | refine below_set ?_ GE123.out) | exact HB.out)⟩
                          rw [if_neg c57] at H
                          have c57b0 : decide (t124 < (-1)) = false := decide_eq_false c57
                          clear c57
                          by_cases c59 : t124 > 1
                          · rw [if_pos c59] at H
                            exact absurd c59 (by have h_ := c34b0; simp only [decide_eq_true_eq, decide_eq_false_iff_not, beq_iff_eq, beq_eq_false_iff_ne] at h_; omega)
                          rw [if_neg c59] at H
                          have c59b0 : decide (1 < t124) = false := decide_eq_false c59
                          clear c59
                          have H' := Aside0.mk H
                          clear H
                          go_wp2_with (first | ((with_reducible refine gate_callee (f := 36) rfl ?_); refine goesL_ (some 79) rfl rfl Try.func36 (by kernel_rfl) rfl #[.int .i64 t131] rfl (by (try simp only [List.map_toArray, List.map_cons, List.map_nil]); first | done | rfl | (simp only [List.length_drop, List.length_take]; rfl)) ?_; (with_reducible refine (cadastrelaw2_num.calls t131 t136 _ A30.out).mono ?_); rintro e w' ⟨rfl, ⟨nd, rfl⟩⟩; refine ⟨_, rfl, ?_⟩; have hcz60_0 : wc.cell? ⟨gb123, 0, none⟩ = some (.int .i64 ((rd_T47 l0 x3_1).f0.f0)) := (blk_cell BK123.out 0).trans rfl; have hcz60_1 : wc.cell? ⟨gb123, 1, none⟩ = some (.int .i64 ((rd_T47 l0 x3_1).f0.f1)) := (blk_cell BK123.out 1).trans rfl; have hcz60_2 : wc.cell? ⟨gb123, 2, none⟩ = some (.string ((rd_T47 l0 x3_1).f0.f2)) := (blk_cell BK123.out 2).trans rfl; have hcz60_3 : wc.cell? ⟨gb123, 3, none⟩ = some (.int .i64 ((rd_T47 l0 x3_1).f1.f0)) := (blk_cell BK123.out 3).trans rfl; have hcz60_4 : wc.cell? ⟨gb123, 4, none⟩ = some (.int .i64 ((rd_T47 l0 x3_1).f1.f1)) := (blk_cell BK123.out 4).trans rfl; have hcz60_5 : wc.cell? ⟨gb123, 5, none⟩ = some (.string ((rd_T47 l0 x3_1).f1.f2)) := (blk_cell BK123.out 5).trans rfl; have hcz60_6 : wc.cell? ⟨gb123, 6, none⟩ = some (.int .i64 ((rd_T47 l0 x3_1).f2.f0)) := (blk_cell BK123.out 6).trans rfl; have hcz60_7 : wc.cell? ⟨gb123, 7, none⟩ = some (.int .i64 ((rd_T47 l0 x3_1).f2.f1)) := (blk_cell BK123.out 7).trans rfl; have hcz60_8 : wc.cell? ⟨gb123, 8, none⟩ = some (.string ((rd_T47 l0 x3_1).f2.f2)) := (blk_cell BK123.out 8).trans rfl; have hcz60_9 : wc.cell? ⟨gb123, 9, none⟩ = some (.int .i64 ((rd_T47 l0 x3_1).f3)) := (blk_cell BK123.out 9).trans rfl; have hfz60_0 := blk_frozen BK123.out 0; have hfz60_1 := blk_frozen BK123.out 1; have hfz60_2 := blk_frozen BK123.out 2; have hfz60_3 := blk_frozen BK123.out 3; have hfz60_4 := blk_frozen BK123.out 4; have hfz60_5 := blk_frozen BK123.out 5; have hfz60_6 := blk_frozen BK123.out 6; have hfz60_7 := blk_frozen BK123.out 7; have hfz60_8 := blk_frozen BK123.out 8; have hfz60_9 := blk_frozen BK123.out 9))
                          go_roundg kj24
                          case measure => have := HK1.out; have := HJ1.out; have := HJ10.out; have := HJ24.out; omega
                          case rel => exact ⟨(wrap64 (x3_1 + 1)), (by first | rfl | (simp; done) | (simp [*]; done)), H', ⟨by have := HK1.out; have := HJ1.out; have := HJ10.out; have := HJ24.out; omega⟩, ⟨by repeat (first | (with_reducible first | exact HB.out | apply below_alloc | apply pw_below_drewN | apply below_drew1 | refine below_set ?_ GE123.out) | exact HB.out)⟩⟩
                        rw [if_pos c56] at H
                        have c56b0 : decide (t128 < 0) = true := decide_eq_true c56
                        clear c56
                        by_cases c61 : t130 ≥ 0
                        · rw [if_pos c61] at H
                          have c61b0 : decide (0 ≤ t130) = true := decide_eq_true c61
                          clear c61
                          obtain rfl := Option.some.inj H
                          go_wp2_with (first | ((with_reducible refine gate_callee (f := 36) rfl ?_); refine goesL_ (some 79) rfl rfl Try.func36 (by kernel_rfl) rfl #[.int .i64 t131] rfl (by (try simp only [List.map_toArray, List.map_cons, List.map_nil]); first | done | rfl | (simp only [List.length_drop, List.length_take]; rfl)) ?_; (with_reducible refine (cadastrelaw2_num.calls t131 t136 _ A30.out).mono ?_); rintro e w' ⟨rfl, ⟨nd, rfl⟩⟩; refine ⟨_, rfl, ?_⟩; have hcz62_0 : wc.cell? ⟨gb123, 0, none⟩ = some (.int .i64 ((rd_T47 l0 x3_1).f0.f0)) := (blk_cell BK123.out 0).trans rfl; have hcz62_1 : wc.cell? ⟨gb123, 1, none⟩ = some (.int .i64 ((rd_T47 l0 x3_1).f0.f1)) := (blk_cell BK123.out 1).trans rfl; have hcz62_2 : wc.cell? ⟨gb123, 2, none⟩ = some (.string ((rd_T47 l0 x3_1).f0.f2)) := (blk_cell BK123.out 2).trans rfl; have hcz62_3 : wc.cell? ⟨gb123, 3, none⟩ = some (.int .i64 ((rd_T47 l0 x3_1).f1.f0)) := (blk_cell BK123.out 3).trans rfl; have hcz62_4 : wc.cell? ⟨gb123, 4, none⟩ = some (.int .i64 ((rd_T47 l0 x3_1).f1.f1)) := (blk_cell BK123.out 4).trans rfl; have hcz62_5 : wc.cell? ⟨gb123, 5, none⟩ = some (.string ((rd_T47 l0 x3_1).f1.f2)) := (blk_cell BK123.out 5).trans rfl; have hcz62_6 : wc.cell? ⟨gb123, 6, none⟩ = some (.int .i64 ((rd_T47 l0 x3_1).f2.f0)) := (blk_cell BK123.out 6).trans rfl; have hcz62_7 : wc.cell? ⟨gb123, 7, none⟩ = some (.int .i64 ((rd_T47 l0 x3_1).f2.f1)) := (blk_cell BK123.out 7).trans rfl; have hcz62_8 : wc.cell? ⟨gb123, 8, none⟩ = some (.string ((rd_T47 l0 x3_1).f2.f2)) := (blk_cell BK123.out 8).trans rfl; have hcz62_9 : wc.cell? ⟨gb123, 9, none⟩ = some (.int .i64 ((rd_T47 l0 x3_1).f3)) := (blk_cell BK123.out 9).trans rfl; have hfz62_0 := blk_frozen BK123.out 0; have hfz62_1 := blk_frozen BK123.out 1; have hfz62_2 := blk_frozen BK123.out 2; have hfz62_3 := blk_frozen BK123.out 3; have hfz62_4 := blk_frozen BK123.out 4; have hfz62_5 := blk_frozen BK123.out 5; have hfz62_6 := blk_frozen BK123.out 6; have hfz62_7 := blk_frozen BK123.out 7; have hfz62_8 := blk_frozen BK123.out 8; have hfz62_9 := blk_frozen BK123.out 9))
                          go_ret
                          exact ⟨by first | rfl | (simp [errW_none, errW_some] <;> rfl) | (simp [*, errW_none, errW_some] <;> rfl), by repeat (first | (with_reducible first | exact HB.out | apply below_alloc | apply pw_below_drewN | apply below_drew1 | refine below_set ?_ GE123.out) | exact HB.out)⟩
                        rw [if_neg c61] at H
                        have c61b0 : decide (0 ≤ t130) = false := decide_eq_false c61
                        clear c61
                        by_cases c63 : t124 < (-1)
                        · rw [if_pos c63] at H
                          have c63b0 : decide (t124 < (-1)) = true := decide_eq_true c63
                          clear c63
                          obtain rfl := Option.some.inj H
                          go_wp2_with (first | ((with_reducible refine gate_callee (f := 36) rfl ?_); refine goesL_ (some 79) rfl rfl Try.func36 (by kernel_rfl) rfl #[.int .i64 t131] rfl (by (try simp only [List.map_toArray, List.map_cons, List.map_nil]); first | done | rfl | (simp only [List.length_drop, List.length_take]; rfl)) ?_; (with_reducible refine (cadastrelaw2_num.calls t131 t136 _ A30.out).mono ?_); rintro e w' ⟨rfl, ⟨nd, rfl⟩⟩; refine ⟨_, rfl, ?_⟩; have hcz64_0 : wc.cell? ⟨gb123, 0, none⟩ = some (.int .i64 ((rd_T47 l0 x3_1).f0.f0)) := (blk_cell BK123.out 0).trans rfl; have hcz64_1 : wc.cell? ⟨gb123, 1, none⟩ = some (.int .i64 ((rd_T47 l0 x3_1).f0.f1)) := (blk_cell BK123.out 1).trans rfl; have hcz64_2 : wc.cell? ⟨gb123, 2, none⟩ = some (.string ((rd_T47 l0 x3_1).f0.f2)) := (blk_cell BK123.out 2).trans rfl; have hcz64_3 : wc.cell? ⟨gb123, 3, none⟩ = some (.int .i64 ((rd_T47 l0 x3_1).f1.f0)) := (blk_cell BK123.out 3).trans rfl; have hcz64_4 : wc.cell? ⟨gb123, 4, none⟩ = some (.int .i64 ((rd_T47 l0 x3_1).f1.f1)) := (blk_cell BK123.out 4).trans rfl; have hcz64_5 : wc.cell? ⟨gb123, 5, none⟩ = some (.string ((rd_T47 l0 x3_1).f1.f2)) := (blk_cell BK123.out 5).trans rfl; have hcz64_6 : wc.cell? ⟨gb123, 6, none⟩ = some (.int .i64 ((rd_T47 l0 x3_1).f2.f0)) := (blk_cell BK123.out 6).trans rfl; have hcz64_7 : wc.cell? ⟨gb123, 7, none⟩ = some (.int .i64 ((rd_T47 l0 x3_1).f2.f1)) := (blk_cell BK123.out 7).trans rfl; have hcz64_8 : wc.cell? ⟨gb123, 8, none⟩ = some (.string ((rd_T47 l0 x3_1).f2.f2)) := (blk_cell BK123.out 8).trans rfl; have hcz64_9 : wc.cell? ⟨gb123, 9, none⟩ = some (.int .i64 ((rd_T47 l0 x3_1).f3)) := (blk_cell BK123.out 9).trans rfl; have hfz64_0 := blk_frozen BK123.out 0; have hfz64_1 := blk_frozen BK123.out 1; have hfz64_2 := blk_frozen BK123.out 2; have hfz64_3 := blk_frozen BK123.out 3; have hfz64_4 := blk_frozen BK123.out 4; have hfz64_5 := blk_frozen BK123.out 5; have hfz64_6 := blk_frozen BK123.out 6; have hfz64_7 := blk_frozen BK123.out 7; have hfz64_8 := blk_frozen BK123.out 8; have hfz64_9 := blk_frozen BK123.out 9))
                          go_ret
                          exact ⟨by first | rfl | (simp [errW_none, errW_some] <;> rfl) | (simp [*, errW_none, errW_some] <;> rfl), by repeat (first | (with_reducible first | exact HB.out | apply below_alloc | apply pw_below_drewN | apply below_drew1 | refine below_set ?_ GE123.out) | exact HB.out)⟩
                        rw [if_neg c63] at H
                        have c63b0 : decide (t124 < (-1)) = false := decide_eq_false c63
                        clear c63
                        by_cases c65 : t124 > 1
                        · rw [if_pos c65] at H
                          exact absurd c65 (by have h_ := c34b0; simp only [decide_eq_true_eq, decide_eq_false_iff_not, beq_iff_eq, beq_eq_false_iff_ne] at h_; omega)
                        rw [if_neg c65] at H
                        have c65b0 : decide (1 < t124) = false := decide_eq_false c65
                        clear c65
                        have H' := Aside0.mk H
                        clear H
                        go_wp2_with (first | ((with_reducible refine gate_callee (f := 36) rfl ?_); refine goesL_ (some 79) rfl rfl Try.func36 (by kernel_rfl) rfl #[.int .i64 t131] rfl (by (try simp only [List.map_toArray, List.map_cons, List.map_nil]); first | done | rfl | (simp only [List.length_drop, List.length_take]; rfl)) ?_; (with_reducible refine (cadastrelaw2_num.calls t131 t136 _ A30.out).mono ?_); rintro e w' ⟨rfl, ⟨nd, rfl⟩⟩; refine ⟨_, rfl, ?_⟩; have hcz66_0 : wc.cell? ⟨gb123, 0, none⟩ = some (.int .i64 ((rd_T47 l0 x3_1).f0.f0)) := (blk_cell BK123.out 0).trans rfl; have hcz66_1 : wc.cell? ⟨gb123, 1, none⟩ = some (.int .i64 ((rd_T47 l0 x3_1).f0.f1)) := (blk_cell BK123.out 1).trans rfl; have hcz66_2 : wc.cell? ⟨gb123, 2, none⟩ = some (.string ((rd_T47 l0 x3_1).f0.f2)) := (blk_cell BK123.out 2).trans rfl; have hcz66_3 : wc.cell? ⟨gb123, 3, none⟩ = some (.int .i64 ((rd_T47 l0 x3_1).f1.f0)) := (blk_cell BK123.out 3).trans rfl; have hcz66_4 : wc.cell? ⟨gb123, 4, none⟩ = some (.int .i64 ((rd_T47 l0 x3_1).f1.f1)) := (blk_cell BK123.out 4).trans rfl; have hcz66_5 : wc.cell? ⟨gb123, 5, none⟩ = some (.string ((rd_T47 l0 x3_1).f1.f2)) := (blk_cell BK123.out 5).trans rfl; have hcz66_6 : wc.cell? ⟨gb123, 6, none⟩ = some (.int .i64 ((rd_T47 l0 x3_1).f2.f0)) := (blk_cell BK123.out 6).trans rfl; have hcz66_7 : wc.cell? ⟨gb123, 7, none⟩ = some (.int .i64 ((rd_T47 l0 x3_1).f2.f1)) := (blk_cell BK123.out 7).trans rfl; have hcz66_8 : wc.cell? ⟨gb123, 8, none⟩ = some (.string ((rd_T47 l0 x3_1).f2.f2)) := (blk_cell BK123.out 8).trans rfl; have hcz66_9 : wc.cell? ⟨gb123, 9, none⟩ = some (.int .i64 ((rd_T47 l0 x3_1).f3)) := (blk_cell BK123.out 9).trans rfl; have hfz66_0 := blk_frozen BK123.out 0; have hfz66_1 := blk_frozen BK123.out 1; have hfz66_2 := blk_frozen BK123.out 2; have hfz66_3 := blk_frozen BK123.out 3; have hfz66_4 := blk_frozen BK123.out 4; have hfz66_5 := blk_frozen BK123.out 5; have hfz66_6 := blk_frozen BK123.out 6; have hfz66_7 := blk_frozen BK123.out 7; have hfz66_8 := blk_frozen BK123.out 8; have hfz66_9 := blk_frozen BK123.out 9))
                        go_roundg kj24
                        case measure => have := HK1.out; have := HJ1.out; have := HJ10.out; have := HJ24.out; omega
                        case rel => exact ⟨(wrap64 (x3_1 + 1)), (by first | rfl | (simp; done) | (simp [*]; done)), H', ⟨by have := HK1.out; have := HJ1.out; have := HJ10.out; have := HJ24.out; omega⟩, ⟨by repeat (first | (with_reducible first | exact HB.out | apply below_alloc | apply pw_below_drewN | apply below_drew1 | refine below_set ?_ GE123.out) | exact HB.out)⟩⟩
          · replace c4 := Bool.eq_false_iff.mpr c4
            subst c4
            have H1 : ((cadastrelaw2_wakes.f kj1).bind fun t121 => (some t121)) = some r := by rw [if_neg (show ¬ (false = true) by decide)] at H; exact H
            clear H
            have H := H1
            clear H1
            replace H := Option.bind_eq_some_iff.mp H
            obtain ⟨t121, A670, H⟩ := H
            replace H : (some t121) = some r := H
            have A67 := Aside0.mk A670
            clear A670
            obtain rfl := Option.some.inj H
            go_wp2_with (first | ((with_reducible refine gate_callee (f := 37) rfl ?_); refine goesL_ (some 123) rfl rfl Try.func37 (by kernel_rfl) rfl #[] rfl (by (try simp only [List.map_toArray, List.map_cons, List.map_nil]); first | done | rfl | (simp only [List.length_drop, List.length_take]; rfl)) ?_; (with_reducible refine (cadastrelaw2_wakes.calls kj1  t121 _ A67.out).mono ?_); rintro e w68 ⟨rfl, hb⟩; refine ⟨_, rfl, ?_⟩; have n0_ := Aside0.mk (below_step (by repeat (first | (with_reducible first | exact HB.out | apply below_alloc | apply pw_below_drewN | apply below_drew1) | exact HB.out)) hb); clear HB; have HB := n0_; clear n0_; (try clear hb); (try clear hb2); (try clear hk); (try clear hi)))
            go_ret
            exact ⟨by first | rfl | (simp [errW_none, errW_some] <;> rfl) | (simp [*, errW_none, errW_some] <;> rfl), by repeat (first | (with_reducible first | exact HB.out | apply below_alloc | apply pw_below_drewN | apply below_drew1) | exact HB.out)⟩

end Go.Proofs.Ytaodnkhpiiepiaa.V
