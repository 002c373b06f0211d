-- Made by a program of this session (gprint.py, over the kit's printing program).
import Derived.Test.YtaodnkhpiiepiaaAx0
import Derived.Test.YtaodnkhpiiepiaaAx2
import Derived.Test.YtaodnkhpiiepiaaAx4
import Derived.Test.YtaodnkhpiiepiaaAx5
import Derived.Test.YtaodnkhpiiepiaaAx6
namespace Go.Proofs.Ytaodnkhpiiepiaa.A
open Go.RowKit Go.Proofs.YtaodnkhpiiepiaaG Go.Proofs.YtaodnkhpiiepiaaW.PrintWords Go.Proofs.YtaodnkhpiiepiaaW.PrintLast Go.Proofs.YtaodnkhpiiepiaaW.PrintMore
attribute [local go_sem] max2_int min2_int max_two min_two max_three min_three max_four min_four   -- for this text's walks alone
set_option linter.unusedVariables false
set_option linter.unusedSimpArgs false

/-! ### cadastrelaw4_do: function 47 -/
mutual
def cadastrelaw4_do.l0 : Nat → List (S58) → Int → Int → Int → Option (Bool)
  | 0, _, _, _, _ => none
  | k + 1, x0, x1, x2, x7 => if x7 < (x0.length : Int) then (cadastrelaw4_do.j1 k x0 x1 x2 x7 (decide (x7 < 30))) else (cadastrelaw4_do.j1 k x0 x1 x2 x7 false)
def cadastrelaw4_do.j1 : Nat → List (S58) → Int → Int → Int → Bool → Option (Bool)
  | 0, _, _, _, _, _ => none
  | k + 1, x0, x1, x2, x7, x21 => if x21 = true then (if 0 ≤ x7 then (if x7 < (x0.length : Int) then (cadastrelaw4_do.l1 k x0 x1 x2 x7 x1 ((rd_T58 x0 x7).f0.f0) ((rd_T58 x0 x7).f0.f1) ((rd_T58 x0 x7).f0.f2) ((rd_T58 x0 x7).f1.f0) ((rd_T58 x0 x7).f1.f1) ((rd_T58 x0 x7).f1.f2) ((rd_T58 x0 x7).f2)) else (none)) else (none)) else ((cadastrelaw4_wakes.f k).bind fun t154 => (some t154))
def cadastrelaw4_do.l1 : Nat → List (S58) → Int → Int → Int → Int → Int → Int → ByteArray → Int → Int → ByteArray → Int → Option (Bool)
  | 0, _, _, _, _, _, _, _, _, _, _, _, _ => none
  | k + 1, x0, x1, x2, x7, x9, x157000, x157001, x157002, x157003, x157004, x157005, x157006 => if x9 ≤ x2 then ((arith_Do.f k x9 x157000 x157001 x157002 x157003 x157004 x157005).bind fun bt157 => ((cadastreref2_May.f x157000 x157001 x157002).bind fun t163 => (if t163 = true then ((cadastreref2_May.f x157003 x157004 x157005).bind fun t164 => (cadastrelaw4_do.j3 k x0 x1 x2 x7 x9 bt157.2.2.2 1 t164 x157000 x157001 x157002 x157003 x157004 x157005 x157006 bt157.1 bt157.2.1 bt157.2.2.1 0 0 (⟨#[]⟩ : ByteArray))) else (cadastrelaw4_do.j3 k x0 x1 x2 x7 x9 bt157.2.2.2 1 false x157000 x157001 x157002 x157003 x157004 x157005 x157006 bt157.1 bt157.2.1 bt157.2.2.1 0 0 (⟨#[]⟩ : ByteArray))))) else (cadastrelaw4_do.l0 k x0 x1 x2 (wrap64 (x7 + 1)))
def cadastrelaw4_do.j3 : Nat → List (S58) → Int → Int → Int → Int → Int → Int → Bool → Int → Int → ByteArray → Int → Int → ByteArray → Int → Int → Int → ByteArray → Int → Int → ByteArray → Option (Bool)
  | 0, _, _, _, _, _, _, _, _, _, _, _, _, _, _, _, _, _, _, _, _, _ => none
  | k + 1, x0, x1, x2, x7, x9, x11, x13, x51, x157000, x157001, x157002, x157003, x157004, x157005, x157006, x162000, x162001, x162002, x163000, x163001, x163002 => if x51 = true then ((cadastreref4_Do.f k x9 x157000 x157001 x157002 x157003 x157004 x157005).bind fun bt165 => ((cadastrelaw4_is.f x162000 x162001 x162002 x11 bt165.1 bt165.2.1 bt165.2.2.1 bt165.2.2.2).bind fun t169 => (if t169 = true then (cadastrelaw4_do.l1 k x0 x1 x2 x7 (wrap64 (x9 + 1)) x157000 x157001 x157002 x157003 x157004 x157005 x157006) else (some false)))) else ((cadastrelaw4_is.f x162000 x162001 x162002 x11 x163000 x163001 x163002 x13).bind fun t170 => (if t170 = true then (cadastrelaw4_do.l1 k x0 x1 x2 x7 (wrap64 (x9 + 1)) x157000 x157001 x157002 x157003 x157004 x157005 x157006) else (some false)))
end
def cadastrelaw4_do.f (k : Nat) (l0 : List (S58)) (a1 : Int) (a2 : Int) : Option (Bool) := cadastrelaw4_do.l0 k l0 a1 a2 0
theorem cadastrelaw4_do.mono_l : ∀ k, (∀ y0 y1 y2 y3, LeO (cadastrelaw4_do.l0 k y0 y1 y2 y3) (cadastrelaw4_do.l0 (k + 1) y0 y1 y2 y3)) ∧ (∀ y0 y1 y2 y3 y4, LeO (cadastrelaw4_do.j1 k y0 y1 y2 y3 y4) (cadastrelaw4_do.j1 (k + 1) y0 y1 y2 y3 y4)) ∧ (∀ y0 y1 y2 y3 y4 y5 y6 y7 y8 y9 y10 y11, LeO (cadastrelaw4_do.l1 k y0 y1 y2 y3 y4 y5 y6 y7 y8 y9 y10 y11) (cadastrelaw4_do.l1 (k + 1) y0 y1 y2 y3 y4 y5 y6 y7 y8 y9 y10 y11)) ∧ (∀ y0 y1 y2 y3 y4 y5 y6 y7 y8 y9 y10 y11 y12 y13 y14 y15 y16 y17 y18 y19 y20, LeO (cadastrelaw4_do.j3 k y0 y1 y2 y3 y4 y5 y6 y7 y8 y9 y10 y11 y12 y13 y14 y15 y16 y17 y18 y19 y20) (cadastrelaw4_do.j3 (k + 1) y0 y1 y2 y3 y4 y5 y6 y7 y8 y9 y10 y11 y12 y13 y14 y15 y16 y17 y18 y19 y20))
  | 0 => ⟨fun _ _ _ _ r h => by simp [cadastrelaw4_do.l0] at h, fun _ _ _ _ _ r h => by simp [cadastrelaw4_do.j1] at h, fun _ _ _ _ _ _ _ _ _ _ _ _ r h => by simp [cadastrelaw4_do.l1] at h, fun _ _ _ _ _ _ _ _ _ _ _ _ _ _ _ _ _ _ _ _ _ r h => by simp [cadastrelaw4_do.j3] at h⟩
  | k + 1 => by
    obtain ⟨ih0, ih1, ih2, ih3⟩ := cadastrelaw4_do.mono_l k
    refine ⟨?_, ?_, ?_, ?_⟩
    · intro y0 y1 y2 y3
      unfold cadastrelaw4_do.l0
      repeat' first
      | (with_reducible exact ih0 _ _ _ _)
      | (with_reducible exact ih1 _ _ _ _ _)
      | (with_reducible exact ih2 _ _ _ _ _ _ _ _ _ _ _ _)
      | (with_reducible exact ih3 _ _ _ _ _ _ _ _ _ _ _ _ _ _ _ _ _ _ _ _ _)
      | (with_reducible exact arith_Do.mono _ _ _ _ _ _ _ _)
      | (with_reducible exact cadastrelaw4_wakes.mono _)
      | (with_reducible exact cadastreref4_Do.mono _ _ _ _ _ _ _ _)
      | (with_reducible exact LeO.refl _)
      | (with_reducible exact LeO.none _)
      | (with_reducible refine LeO.ite ?_ ?_)
      | (with_reducible refine LeO.bind ?_ (fun _ => ?_))
      | exact ih0 _ _ _ _
      | exact ih1 _ _ _ _ _
      | exact ih2 _ _ _ _ _ _ _ _ _ _ _ _
      | exact ih3 _ _ _ _ _ _ _ _ _ _ _ _ _ _ _ _ _ _ _ _ _
      | exact arith_Do.mono _ _ _ _ _ _ _ _
      | exact cadastrelaw4_wakes.mono _
      | exact cadastreref4_Do.mono _ _ _ _ _ _ _ _
      | exact LeO.none _
      | refine LeO.ite ?_ ?_
      | refine LeO.bind ?_ (fun _ => ?_)
    · intro y0 y1 y2 y3 y4
      unfold cadastrelaw4_do.j1
      repeat' first
      | (with_reducible exact ih0 _ _ _ _)
      | (with_reducible exact ih1 _ _ _ _ _)
      | (with_reducible exact ih2 _ _ _ _ _ _ _ _ _ _ _ _)
      | (with_reducible exact ih3 _ _ _ _ _ _ _ _ _ _ _ _ _ _ _ _ _ _ _ _ _)
      | (with_reducible exact arith_Do.mono _ _ _ _ _ _ _ _)
      | (with_reducible exact cadastrelaw4_wakes.mono _)
      | (with_reducible exact cadastreref4_Do.mono _ _ _ _ _ _ _ _)
      | (with_reducible exact LeO.refl _)
      | (with_reducible exact LeO.none _)
      | (with_reducible refine LeO.ite ?_ ?_)
      | (with_reducible refine LeO.bind ?_ (fun _ => ?_))
      | exact ih0 _ _ _ _
      | exact ih1 _ _ _ _ _
      | exact ih2 _ _ _ _ _ _ _ _ _ _ _ _
      | exact ih3 _ _ _ _ _ _ _ _ _ _ _ _ _ _ _ _ _ _ _ _ _
      | exact arith_Do.mono _ _ _ _ _ _ _ _
      | exact cadastrelaw4_wakes.mono _
      | exact cadastreref4_Do.mono _ _ _ _ _ _ _ _
      | exact LeO.none _
      | refine LeO.ite ?_ ?_
      | refine LeO.bind ?_ (fun _ => ?_)
    · intro y0 y1 y2 y3 y4 y5 y6 y7 y8 y9 y10 y11
      unfold cadastrelaw4_do.l1
      repeat' first
      | (with_reducible exact ih0 _ _ _ _)
      | (with_reducible exact ih1 _ _ _ _ _)
      | (with_reducible exact ih2 _ _ _ _ _ _ _ _ _ _ _ _)
      | (with_reducible exact ih3 _ _ _ _ _ _ _ _ _ _ _ _ _ _ _ _ _ _ _ _ _)
      | (with_reducible exact arith_Do.mono _ _ _ _ _ _ _ _)
      | (with_reducible exact cadastrelaw4_wakes.mono _)
      | (with_reducible exact cadastreref4_Do.mono _ _ _ _ _ _ _ _)
      | (with_reducible exact LeO.refl _)
      | (with_reducible exact LeO.none _)
      | (with_reducible refine LeO.ite ?_ ?_)
      | (with_reducible refine LeO.bind ?_ (fun _ => ?_))
      | exact ih0 _ _ _ _
      | exact ih1 _ _ _ _ _
      | exact ih2 _ _ _ _ _ _ _ _ _ _ _ _
      | exact ih3 _ _ _ _ _ _ _ _ _ _ _ _ _ _ _ _ _ _ _ _ _
      | exact arith_Do.mono _ _ _ _ _ _ _ _
      | exact cadastrelaw4_wakes.mono _
      | exact cadastreref4_Do.mono _ _ _ _ _ _ _ _
      | exact LeO.none _
      | refine LeO.ite ?_ ?_
      | refine LeO.bind ?_ (fun _ => ?_)
    · intro y0 y1 y2 y3 y4 y5 y6 y7 y8 y9 y10 y11 y12 y13 y14 y15 y16 y17 y18 y19 y20
      unfold cadastrelaw4_do.j3
      repeat' first
      | (with_reducible exact ih0 _ _ _ _)
      | (with_reducible exact ih1 _ _ _ _ _)
      | (with_reducible exact ih2 _ _ _ _ _ _ _ _ _ _ _ _)
      | (with_reducible exact ih3 _ _ _ _ _ _ _ _ _ _ _ _ _ _ _ _ _ _ _ _ _)
      | (with_reducible exact arith_Do.mono _ _ _ _ _ _ _ _)
      | (with_reducible exact cadastrelaw4_wakes.mono _)
      | (with_reducible exact cadastreref4_Do.mono _ _ _ _ _ _ _ _)
      | (with_reducible exact LeO.refl _)
      | (with_reducible exact LeO.none _)
      | (with_reducible refine LeO.ite ?_ ?_)
      | (with_reducible refine LeO.bind ?_ (fun _ => ?_))
      | exact ih0 _ _ _ _
      | exact ih1 _ _ _ _ _
      | exact ih2 _ _ _ _ _ _ _ _ _ _ _ _
      | exact ih3 _ _ _ _ _ _ _ _ _ _ _ _ _ _ _ _ _ _ _ _ _
      | exact arith_Do.mono _ _ _ _ _ _ _ _
      | exact cadastrelaw4_wakes.mono _
      | exact cadastreref4_Do.mono _ _ _ _ _ _ _ _
      | exact LeO.none _
      | refine LeO.ite ?_ ?_
      | refine LeO.bind ?_ (fun _ => ?_)
theorem cadastrelaw4_do.mono : ∀ a0 a1 a2 k, LeO (cadastrelaw4_do.f k a0 a1 a2) (cadastrelaw4_do.f (k + 1) a0 a1 a2) := by
  intro a0 a1 a2 k
  obtain ⟨ih0, ih1, ih2, ih3⟩ := cadastrelaw4_do.mono_l k
  unfold cadastrelaw4_do.f
  repeat' first
      | (with_reducible exact ih0 _ _ _ _)
      | (with_reducible exact ih1 _ _ _ _ _)
      | (with_reducible exact ih2 _ _ _ _ _ _ _ _ _ _ _ _)
      | (with_reducible exact ih3 _ _ _ _ _ _ _ _ _ _ _ _ _ _ _ _ _ _ _ _ _)
      | (with_reducible exact arith_Do.mono _ _ _ _ _ _ _ _)
      | (with_reducible exact cadastrelaw4_wakes.mono _)
      | (with_reducible exact cadastreref4_Do.mono _ _ _ _ _ _ _ _)
      | (with_reducible exact LeO.refl _)
      | (with_reducible exact LeO.none _)
      | (with_reducible refine LeO.ite ?_ ?_)
      | (with_reducible refine LeO.bind ?_ (fun _ => ?_))
      | exact ih0 _ _ _ _
      | exact ih1 _ _ _ _ _
      | exact ih2 _ _ _ _ _ _ _ _ _ _ _ _
      | exact ih3 _ _ _ _ _ _ _ _ _ _ _ _ _ _ _ _ _ _ _ _ _
      | exact arith_Do.mono _ _ _ _ _ _ _ _
      | exact cadastrelaw4_wakes.mono _
      | exact cadastreref4_Do.mono _ _ _ _ _ _ _ _
      | exact LeO.none _
      | refine LeO.ite ?_ ?_
      | refine LeO.bind ?_ (fun _ => ?_)
set_option maxHeartbeats 8000000 in
set_option maxRecDepth 100000 in
theorem cadastrelaw4_do.calls (k : Nat) (A0 : Option Addr) (c0 : Nat) (l0 : List (S58)) (a1 : Int) (a2 : Int) (r : Bool) (w : World) (hr0 : Kd.C k58 w A0 l0.length l0) (hc0 : l0.length ≤ c0) (h : cadastrelaw4_do.f k l0 a1 a2 = some r) :
    Calls Try.prog 47 #[.slice A0 l0.length c0, .int .i64 a1, .int .i64 a2] w fun e w' => e = .returned (.bool r) ∧ Below w.heap.size w w' := by
  have hu58 := Try.underlying58
  have hu24 := Try.underlying24
  have HR0 := Aside0.mk hr0
  have HC0 := Aside0.mk hc0
  clear hr0 hc0
  have HB := Aside0.mk (Below.refl w.heap.size w)
  have H : (cadastrelaw4_do.l0 k l0 a1 a2 0) = some r := h
  clear h
  have H' := Aside0.mk H
  clear H
  go_enter Try.func47, Try.ntmps47
  go_wp2
  go_loopg [7] k (fun kq v7 w' => ∃ (x7_1 : Int), v7 = .int .i64 x7_1 ∧ Aside0 (cadastrelaw4_do.l0 kq l0 a1 a2 x7_1 = some r) ∧ Aside0 (kq ≤ k) ∧ Aside0 (Below w.heap.size w w'))
  case atStart => exact ⟨(0), (by first | rfl | (simp; done) | (simp [*]; done)), H', ⟨Nat.le_refl _⟩, ⟨by repeat (first | (with_reducible first | exact HB.out | apply below_alloc | apply pw_below_drewN | apply below_drew1) | exact HB.out)⟩⟩
  case round =>
    clear H'
    try clear p2
    obtain ⟨x7_1, rfl, HA, HK1, HB⟩ := hrel
    cases gk with
    | zero => exact absurd HA.out (by simp [cadastrelaw4_do.l0])
    | succ k1 =>
      have H := HA.out
      clear HA
      simp only [cadastrelaw4_do.l0] at H
      have HC4 := Aside0.mk H
      clear H
      go_upto_region 2 with (fail)
      go_cut [21] (fun v21 wc => ∃ (kq : Nat) (x21_3 : Bool), v21 = .bool x21_3 ∧ Aside0 (cadastrelaw4_do.j1 kq l0 a1 a2 x7_1 x21_3 = some r) ∧ Aside0 (kq ≤ k1) ∧ Aside0 (Below w.heap.size w wc))
      case first =>
        have H := HC4.out
        clear HC4
        by_cases c5 : x7_1 < (l0.length : Int)
        · rw [if_pos c5] at H
          have c5b0 : decide (x7_1 < (l0.length : Int)) = true := decide_eq_true c5
          clear c5
          (first | rw [c5b0] | (simp only [i64_w, i32_w]; rw [c5b0]) | skip)
          have H' := Aside0.mk H
          clear H
          go_wp2
          go_meet
          case rel => exact ⟨_, (decide (x7_1 < 30)), (by first | rfl | (simp; done) | (simp [*]; done)), H', ⟨by have := HK1.out; first | omega | exact Nat.le_refl _⟩, ⟨by repeat (first | (with_reducible first | exact HB.out | apply below_alloc | apply pw_below_drewN | apply below_drew1) | exact HB.out)⟩⟩
        rw [if_neg c5] at H
        have c5b0 : decide (x7_1 < (l0.length : Int)) = false := decide_eq_false c5
        clear c5
        (first | rw [c5b0] | (simp only [i64_w, i32_w]; rw [c5b0]) | skip)
        have H' := Aside0.mk H
        clear H
        go_wp2
        go_meet
        case rel => exact ⟨_, (false), (by first | rfl | (simp; done) | (simp [*]; done)), H', ⟨by have := HK1.out; first | omega | exact Nat.le_refl _⟩, ⟨by repeat (first | (with_reducible first | exact HB.out | apply below_alloc | apply pw_below_drewN | apply below_drew1) | exact HB.out)⟩⟩
      case rest =>
        clear HC4
        try clear p2
        try clear c4
        try clear c5
        try clear c5b0
        try clear p2
        obtain ⟨kq, x21_3, rfl, HA, HJ3, HB⟩ := hcut
        cases kq with
        | zero => exact absurd HA.out (by simp [cadastrelaw4_do.j1])
        | succ kj3 =>
          have H := HA.out
          clear HA
          simp only [cadastrelaw4_do.j1] at H
          by_cases c6 : x21_3 = true
          · subst c6
            have H1 : (if 0 ≤ x7_1 then (if x7_1 < (l0.length : Int) then (cadastrelaw4_do.l1 kj3 l0 a1 a2 x7_1 a1 ((rd_T58 l0 x7_1).f0.f0) ((rd_T58 l0 x7_1).f0.f1) ((rd_T58 l0 x7_1).f0.f2) ((rd_T58 l0 x7_1).f1.f0) ((rd_T58 l0 x7_1).f1.f1) ((rd_T58 l0 x7_1).f1.f2) ((rd_T58 l0 x7_1).f2)) else (none)) else (none)) = some r := by rw [if_pos rfl] at H; exact H
            clear H
            have H := H1
            clear H1
            by_cases c7 : 0 ≤ x7_1
            rotate_left
            · rw [if_neg c7] at H
              exact absurd H (by simp)
            rw [if_pos c7] at H
            have c7b0 : decide (0 ≤ x7_1) = true := decide_eq_true c7
            clear c7
            by_cases c8 : x7_1 < (l0.length : Int)
            rotate_left
            · rw [if_neg c8] at H
              exact absurd H (by simp)
            rw [if_pos c8] at H
            have c8b0 : decide (x7_1 < (l0.length : Int)) = true := decide_eq_true c8
            clear c8
            have H' := Aside0.mk H
            clear H
            have p155 : 0 ≤ (x7_1 : Int) := of_decide_eq_true (by first | (with_reducible assumption) | assumption)
            have q155 : x7_1 < (l0.length : Int) := of_decide_eq_true (by first | (with_reducible assumption) | assumption)
            obtain ⟨ad155, e155, hx155_0, hx155_1, hx155_2, hx155_3, hx155_4, hx155_5, hx155_6⟩ := at_T58 HR0.out x7_1 p155 q155
            cases e155
            replace hx155_0 := (HB.out.cell (World.block_lt_of_cell? w _ hx155_0)).trans hx155_0
            replace hx155_1 := (HB.out.cell (World.block_lt_of_cell? w _ hx155_1)).trans hx155_1
            replace hx155_2 := (HB.out.cell (World.block_lt_of_cell? w _ hx155_2)).trans hx155_2
            replace hx155_3 := (HB.out.cell (World.block_lt_of_cell? w _ hx155_3)).trans hx155_3
            replace hx155_4 := (HB.out.cell (World.block_lt_of_cell? w _ hx155_4)).trans hx155_4
            replace hx155_5 := (HB.out.cell (World.block_lt_of_cell? w _ hx155_5)).trans hx155_5
            replace hx155_6 := (HB.out.cell (World.block_lt_of_cell? w _ hx155_6)).trans hx155_6
            replace p155 := eq_true p155
            replace q155 := eq_true q155
            go_wp2_with (first | ((with_reducible refine gate_dst (N := 8) rfl ?_); refine box_event ?hg (N := 8) ?hd (cs := #[.int .i64 0, .int .i64 0, .string (⟨#[]⟩ : ByteArray), .int .i64 0, .int .i64 0, .string (⟨#[]⟩ : ByteArray), .int .i64 0]) (t := 58) ?hr ?_; (case hd => rfl); (case hg => rfl); (case hr => first | (go_simp; done) | (go_simp; rfl)); intro gb156 hg w9 hbox hb; have n0_ := Aside0.mk (below_step (by repeat (first | (with_reducible first | exact HB.out | apply below_alloc | apply pw_below_drewN | apply below_drew1) | exact HB.out)) hb); have n1_ := Aside0.mk (hbox); have n2_ := Aside0.mk ((by rw [hg]; exact (below_size (by repeat (first | (with_reducible first | exact HB.out | apply below_alloc | apply pw_below_drewN | apply below_drew1) | exact HB.out))) : w.heap.size ≤ gb156)); have n3_ := Aside0.mk ((by rw [hg]; exact (below_size (by repeat (first | (with_reducible first | exact HB.out | apply below_alloc | apply pw_below_drewN | apply below_drew1) | exact HB.out))) : w.heap.size ≤ gb156)); clear HB; have HB := n0_; have BK156 := n1_; have GW156 := n2_; have GE156 := n3_; clear n0_ n1_ n2_ n3_; clear hb hbox hg; have hcz10_0 : w9.cell? ⟨gb156, 0, none⟩ = some (.int .i64 0) := (blk_cell BK156.out 0).trans rfl; have hcz10_1 : w9.cell? ⟨gb156, 1, none⟩ = some (.int .i64 0) := (blk_cell BK156.out 1).trans rfl; have hcz10_2 : w9.cell? ⟨gb156, 2, none⟩ = some (.string (⟨#[]⟩ : ByteArray)) := (blk_cell BK156.out 2).trans rfl; have hcz10_3 : w9.cell? ⟨gb156, 3, none⟩ = some (.int .i64 0) := (blk_cell BK156.out 3).trans rfl; have hcz10_4 : w9.cell? ⟨gb156, 4, none⟩ = some (.int .i64 0) := (blk_cell BK156.out 4).trans rfl; have hcz10_5 : w9.cell? ⟨gb156, 5, none⟩ = some (.string (⟨#[]⟩ : ByteArray)) := (blk_cell BK156.out 5).trans rfl; have hcz10_6 : w9.cell? ⟨gb156, 6, none⟩ = some (.int .i64 0) := (blk_cell BK156.out 6).trans rfl; have hfz10_0 := blk_frozen BK156.out 0; have hfz10_1 := blk_frozen BK156.out 1; have hfz10_2 := blk_frozen BK156.out 2; have hfz10_3 := blk_frozen BK156.out 3; have hfz10_4 := blk_frozen BK156.out 4; have hfz10_5 := blk_frozen BK156.out 5; have hfz10_6 := blk_frozen BK156.out 6))
            go_loopg [9] kj3 (fun kq v9 w' => ∃ (x9_3 : Int), v9 = .int .i64 x9_3 ∧ Aside0 (cadastrelaw4_do.l1 kq l0 a1 a2 x7_1 x9_3 ((rd_T58 l0 x7_1).f0.f0) ((rd_T58 l0 x7_1).f0.f1) ((rd_T58 l0 x7_1).f0.f2) ((rd_T58 l0 x7_1).f1.f0) ((rd_T58 l0 x7_1).f1.f1) ((rd_T58 l0 x7_1).f1.f2) ((rd_T58 l0 x7_1).f2) = some r) ∧ Aside0 (kq ≤ kj3) ∧ Aside0 (w'.heap[gb156]? = some (.cells #[.int .i64 ((rd_T58 l0 x7_1).f0.f0), .int .i64 ((rd_T58 l0 x7_1).f0.f1), .string ((rd_T58 l0 x7_1).f0.f2), .int .i64 ((rd_T58 l0 x7_1).f1.f0), .int .i64 ((rd_T58 l0 x7_1).f1.f1), .string ((rd_T58 l0 x7_1).f1.f2), .int .i64 ((rd_T58 l0 x7_1).f2)] 58 (0, 0))) ∧ Aside0 (Below w.heap.size w w'))
            case atStart => exact ⟨(a1), (by first | rfl | (simp; done) | (simp [*]; done)), H', ⟨Nat.le_refl _⟩, ⟨by (with_reducible repeat (first | refine blk_drewN ?_ _ | refine blk_drew ?_ | refine blk_alloc ?_ _)); refine blk_put (cs := #[.int .i64 ((rd_T58 l0 x7_1).f0.f0), .int .i64 ((rd_T58 l0 x7_1).f0.f1), .string ((rd_T58 l0 x7_1).f0.f2), .int .i64 ((rd_T58 l0 x7_1).f1.f0), .int .i64 ((rd_T58 l0 x7_1).f1.f1), .string ((rd_T58 l0 x7_1).f1.f2), .int .i64 0]) ?_ 6 _ rfl; (with_reducible repeat (first | refine blk_drewN ?_ _ | refine blk_drew ?_ | refine blk_alloc ?_ _)); refine blk_put (cs := #[.int .i64 ((rd_T58 l0 x7_1).f0.f0), .int .i64 ((rd_T58 l0 x7_1).f0.f1), .string ((rd_T58 l0 x7_1).f0.f2), .int .i64 ((rd_T58 l0 x7_1).f1.f0), .int .i64 ((rd_T58 l0 x7_1).f1.f1), .string (⟨#[]⟩ : ByteArray), .int .i64 0]) ?_ 5 _ rfl; (with_reducible repeat (first | refine blk_drewN ?_ _ | refine blk_drew ?_ | refine blk_alloc ?_ _)); refine blk_put (cs := #[.int .i64 ((rd_T58 l0 x7_1).f0.f0), .int .i64 ((rd_T58 l0 x7_1).f0.f1), .string ((rd_T58 l0 x7_1).f0.f2), .int .i64 ((rd_T58 l0 x7_1).f1.f0), .int .i64 0, .string (⟨#[]⟩ : ByteArray), .int .i64 0]) ?_ 4 _ rfl; (with_reducible repeat (first | refine blk_drewN ?_ _ | refine blk_drew ?_ | refine blk_alloc ?_ _)); refine blk_put (cs := #[.int .i64 ((rd_T58 l0 x7_1).f0.f0), .int .i64 ((rd_T58 l0 x7_1).f0.f1), .string ((rd_T58 l0 x7_1).f0.f2), .int .i64 0, .int .i64 0, .string (⟨#[]⟩ : ByteArray), .int .i64 0]) ?_ 3 _ rfl; (with_reducible repeat (first | refine blk_drewN ?_ _ | refine blk_drew ?_ | refine blk_alloc ?_ _)); refine blk_put (cs := #[.int .i64 ((rd_T58 l0 x7_1).f0.f0), .int .i64 ((rd_T58 l0 x7_1).f0.f1), .string (⟨#[]⟩ : ByteArray), .int .i64 0, .int .i64 0, .string (⟨#[]⟩ : ByteArray), .int .i64 0]) ?_ 2 _ rfl; (with_reducible repeat (first | refine blk_drewN ?_ _ | refine blk_drew ?_ | refine blk_alloc ?_ _)); refine blk_put (cs := #[.int .i64 ((rd_T58 l0 x7_1).f0.f0), .int .i64 0, .string (⟨#[]⟩ : ByteArray), .int .i64 0, .int .i64 0, .string (⟨#[]⟩ : ByteArray), .int .i64 0]) ?_ 1 _ rfl; (with_reducible repeat (first | refine blk_drewN ?_ _ | refine blk_drew ?_ | refine blk_alloc ?_ _)); refine blk_put (cs := #[.int .i64 0, .int .i64 0, .string (⟨#[]⟩ : ByteArray), .int .i64 0, .int .i64 0, .string (⟨#[]⟩ : ByteArray), .int .i64 0]) ?_ 0 _ rfl; (with_reducible repeat (first | refine blk_drewN ?_ _ | refine blk_drew ?_ | refine blk_alloc ?_ _)); exact BK156.out⟩, ⟨by repeat (first | (with_reducible first | exact HB.out | apply below_alloc | apply pw_below_drewN | apply below_drew1 | refine below_set ?_ GE156.out) | exact HB.out)⟩⟩
            case round =>
              clear H'
              try clear p1
              try clear q1
              try clear hx1
              try clear p2
              try clear c4
              try clear c5
              try clear c5b0
              try clear c6
              try clear c7
              try clear c7b0
              try clear c8
              try clear c8b0
              try clear hcz10_0
              try clear hcz10_1
              try clear hcz10_2
              try clear hcz10_3
              try clear hcz10_4
              try clear hcz10_5
              try clear hcz10_6
              try clear hfz10_0
              try clear hfz10_1
              try clear hfz10_2
              try clear hfz10_3
              try clear hfz10_4
              try clear hfz10_5
              try clear hfz10_6
              try clear hx155_0
              try clear hx155_1
              try clear hx155_2
              try clear hx155_3
              try clear hx155_4
              try clear hx155_5
              try clear hx155_6
              try clear p155
              try clear p2
              try clear q155
              obtain ⟨x9_3, rfl, HA, HK3, BK156, HB⟩ := hrel
              cases gk with
              | zero => exact absurd HA.out (by simp [cadastrelaw4_do.l1])
              | succ k3 =>
                have H := HA.out
                clear HA
                simp only [cadastrelaw4_do.l1] at H
                by_cases c11 : x9_3 ≤ a2
                rotate_left
                · rw [if_neg c11] at H
                  have c11b0 : decide (x9_3 ≤ a2) = false := decide_eq_false c11
                  clear c11
                  have H' := Aside0.mk H
                  clear H
                  go_wp2
                  go_roundg k3
                  case measure => have := HK1.out; have := HJ3.out; have := HK3.out; omega
                  case rel => exact ⟨(wrap64 (x7_1 + 1)), (by first | rfl | (simp; done) | (simp [*]; done)), H', ⟨by have := HK1.out; have := HJ3.out; have := HK3.out; omega⟩, ⟨by repeat (first | (with_reducible first | exact HB.out | apply below_alloc | apply pw_below_drewN | apply below_drew1 | refine below_set ?_ GE156.out) | exact HB.out)⟩⟩
                rw [if_pos c11] at H
                have c11b0 : decide (x9_3 ≤ a2) = true := decide_eq_true c11
                clear c11
                replace H := Option.bind_eq_some_iff.mp H
                obtain ⟨⟨t157, t158, t159, t160⟩, A120, H⟩ := H
                replace H : ((cadastreref2_May.f ((rd_T58 l0 x7_1).f0.f0) ((rd_T58 l0 x7_1).f0.f1) ((rd_T58 l0 x7_1).f0.f2)).bind fun t163 => (if t163 = true then ((cadastreref2_May.f ((rd_T58 l0 x7_1).f1.f0) ((rd_T58 l0 x7_1).f1.f1) ((rd_T58 l0 x7_1).f1.f2)).bind fun t164 => (cadastrelaw4_do.j3 k3 l0 a1 a2 x7_1 x9_3 t160 1 t164 ((rd_T58 l0 x7_1).f0.f0) ((rd_T58 l0 x7_1).f0.f1) ((rd_T58 l0 x7_1).f0.f2) ((rd_T58 l0 x7_1).f1.f0) ((rd_T58 l0 x7_1).f1.f1) ((rd_T58 l0 x7_1).f1.f2) ((rd_T58 l0 x7_1).f2) t157 t158 t159 0 0 (⟨#[]⟩ : ByteArray))) else (cadastrelaw4_do.j3 k3 l0 a1 a2 x7_1 x9_3 t160 1 false ((rd_T58 l0 x7_1).f0.f0) ((rd_T58 l0 x7_1).f0.f1) ((rd_T58 l0 x7_1).f0.f2) ((rd_T58 l0 x7_1).f1.f0) ((rd_T58 l0 x7_1).f1.f1) ((rd_T58 l0 x7_1).f1.f2) ((rd_T58 l0 x7_1).f2) t157 t158 t159 0 0 (⟨#[]⟩ : ByteArray)))) = some r := H
                have A12 := Aside0.mk A120
                clear A120
                have HC13 := Aside0.mk H
                clear H
                have hcz14_0 : wr.cell? ⟨gb156, 0, none⟩ = some (.int .i64 ((rd_T58 l0 x7_1).f0.f0)) := (blk_cell BK156.out 0).trans rfl
                have hcz14_1 : wr.cell? ⟨gb156, 1, none⟩ = some (.int .i64 ((rd_T58 l0 x7_1).f0.f1)) := (blk_cell BK156.out 1).trans rfl
                have hcz14_2 : wr.cell? ⟨gb156, 2, none⟩ = some (.string ((rd_T58 l0 x7_1).f0.f2)) := (blk_cell BK156.out 2).trans rfl
                have hcz14_3 : wr.cell? ⟨gb156, 3, none⟩ = some (.int .i64 ((rd_T58 l0 x7_1).f1.f0)) := (blk_cell BK156.out 3).trans rfl
                have hcz14_4 : wr.cell? ⟨gb156, 4, none⟩ = some (.int .i64 ((rd_T58 l0 x7_1).f1.f1)) := (blk_cell BK156.out 4).trans rfl
                have hcz14_5 : wr.cell? ⟨gb156, 5, none⟩ = some (.string ((rd_T58 l0 x7_1).f1.f2)) := (blk_cell BK156.out 5).trans rfl
                have hcz14_6 : wr.cell? ⟨gb156, 6, none⟩ = some (.int .i64 ((rd_T58 l0 x7_1).f2)) := (blk_cell BK156.out 6).trans rfl
                have hfz14_0 := blk_frozen BK156.out 0
                have hfz14_1 := blk_frozen BK156.out 1
                have hfz14_2 := blk_frozen BK156.out 2
                have hfz14_3 := blk_frozen BK156.out 3
                have hfz14_4 := blk_frozen BK156.out 4
                have hfz14_5 := blk_frozen BK156.out 5
                have hfz14_6 := blk_frozen BK156.out 6
                go_upto_region 10 with (first | ((with_reducible refine gate_callee (f := 44) rfl ?_); refine goesL_ (some 40) rfl rfl Try.func44 (by kernel_rfl) rfl #[.int .i64 x9_3, .agg #[.int .i64 ((rd_T58 l0 x7_1).f0.f0), .int .i64 ((rd_T58 l0 x7_1).f0.f1), .string ((rd_T58 l0 x7_1).f0.f2)], .agg #[.int .i64 ((rd_T58 l0 x7_1).f1.f0), .int .i64 ((rd_T58 l0 x7_1).f1.f1), .string ((rd_T58 l0 x7_1).f1.f2)]] rfl (by (try simp only [List.map_toArray, List.map_cons, List.map_nil]); first | done | rfl | (simp only [List.length_drop, List.length_take]; rfl)) ?_; (with_reducible refine (arith_Do.calls k3 x9_3 ((rd_T58 l0 x7_1).f0.f0) ((rd_T58 l0 x7_1).f0.f1) ((rd_T58 l0 x7_1).f0.f2) ((rd_T58 l0 x7_1).f1.f0) ((rd_T58 l0 x7_1).f1.f1) ((rd_T58 l0 x7_1).f1.f2) t157 t158 t159 t160 _ A12.out).mono ?_); rintro e w15 ⟨rfl, hb⟩; refine ⟨_, rfl, ?_⟩; have n0_ := Aside0.mk (blk_below (g := gb156) (o := .cells #[.int .i64 ((rd_T58 l0 x7_1).f0.f0), .int .i64 ((rd_T58 l0 x7_1).f0.f1), .string ((rd_T58 l0 x7_1).f0.f2), .int .i64 ((rd_T58 l0 x7_1).f1.f0), .int .i64 ((rd_T58 l0 x7_1).f1.f1), .string ((rd_T58 l0 x7_1).f1.f2), .int .i64 ((rd_T58 l0 x7_1).f2)] 58 (0, 0)) (by (with_reducible repeat (first | refine blk_drewN ?_ _ | refine blk_drew ?_ | refine blk_alloc ?_ _)); exact BK156.out) hb); have n1_ := Aside0.mk (below_step (by repeat (first | (with_reducible first | exact HB.out | apply below_alloc | apply pw_below_drewN | apply below_drew1 | refine below_set ?_ GE156.out) | exact HB.out)) hb); clear BK156; clear HB; have BK156 := n0_; have HB := n1_; clear n0_ n1_; (try clear hb); (try clear hb2); (try clear hk); (try clear hi)) | ((with_reducible refine gate_dst (N := 10) rfl ?_); refine box_event ?hg (N := 10) ?hd (cs := #[.int .i64 0, .int .i64 0, .string (⟨#[]⟩ : ByteArray)]) (t := 24) ?hr ?_; (case hd => rfl); (case hg => rfl); (case hr => first | (go_simp; done) | (go_simp; rfl)); intro gb161 hg w16 hbox hb; have n0_ := Aside0.mk (blk_below (g := gb156) (o := .cells #[.int .i64 ((rd_T58 l0 x7_1).f0.f0), .int .i64 ((rd_T58 l0 x7_1).f0.f1), .string ((rd_T58 l0 x7_1).f0.f2), .int .i64 ((rd_T58 l0 x7_1).f1.f0), .int .i64 ((rd_T58 l0 x7_1).f1.f1), .string ((rd_T58 l0 x7_1).f1.f2), .int .i64 ((rd_T58 l0 x7_1).f2)] 58 (0, 0)) (by (with_reducible repeat (first | refine blk_drewN ?_ _ | refine blk_drew ?_ | refine blk_alloc ?_ _)); exact BK156.out) hb); have n1_ := Aside0.mk (below_step (by repeat (first | (with_reducible first | exact HB.out | apply below_alloc | apply pw_below_drewN | apply below_drew1 | refine below_set ?_ GE156.out) | exact HB.out)) hb); have n2_ := Aside0.mk (hbox); have n3_ := Aside0.mk ((by rw [hg]; exact (below_size (by repeat (first | (with_reducible first | exact HB.out | apply below_alloc | apply pw_below_drewN | apply below_drew1 | refine below_set ?_ GE156.out) | exact HB.out))) : w.heap.size ≤ gb161)); have n4_ := Aside0.mk ((by rw [hg]; exact (below_size (by repeat (first | (with_reducible first | exact HB.out | apply below_alloc | apply pw_below_drewN | apply below_drew1 | refine below_set ?_ GE156.out) | exact HB.out))) : w.heap.size ≤ gb161)); have n5_ := Aside0.mk ((by rw [hg]; exact Nat.ne_of_lt (blk_lt (g := gb156) (o := .cells #[.int .i64 ((rd_T58 l0 x7_1).f0.f0), .int .i64 ((rd_T58 l0 x7_1).f0.f1), .string ((rd_T58 l0 x7_1).f0.f2), .int .i64 ((rd_T58 l0 x7_1).f1.f0), .int .i64 ((rd_T58 l0 x7_1).f1.f1), .string ((rd_T58 l0 x7_1).f1.f2), .int .i64 ((rd_T58 l0 x7_1).f2)] 58 (0, 0)) (by (with_reducible repeat (first | refine blk_drewN ?_ _ | refine blk_drew ?_ | refine blk_alloc ?_ _)); exact BK156.out)) : gb156 ≠ gb161)); have n6_ := Aside0.mk ((by rw [hg]; exact Nat.ne_of_gt (blk_lt (g := gb156) (o := .cells #[.int .i64 ((rd_T58 l0 x7_1).f0.f0), .int .i64 ((rd_T58 l0 x7_1).f0.f1), .string ((rd_T58 l0 x7_1).f0.f2), .int .i64 ((rd_T58 l0 x7_1).f1.f0), .int .i64 ((rd_T58 l0 x7_1).f1.f1), .string ((rd_T58 l0 x7_1).f1.f2), .int .i64 ((rd_T58 l0 x7_1).f2)] 58 (0, 0)) (by (with_reducible repeat (first | refine blk_drewN ?_ _ | refine blk_drew ?_ | refine blk_alloc ?_ _)); exact BK156.out)) : gb161 ≠ gb156)); clear BK156; clear HB; have BK156 := n0_; have HB := n1_; have BK161 := n2_; have GW161 := n3_; have GE161 := n4_; have NB156_161 := n5_; have NB161_156 := n6_; clear n0_ n1_ n2_ n3_ n4_ n5_ n6_; clear hb hbox hg; have hnb17 := NB161_156.out; have hnc17 := NB156_161.out; have hcz18_0 : w16.cell? ⟨gb161, 0, none⟩ = some (.int .i64 0) := (blk_cell BK161.out 0).trans rfl; have hcz18_1 : w16.cell? ⟨gb161, 1, none⟩ = some (.int .i64 0) := (blk_cell BK161.out 1).trans rfl; have hcz18_2 : w16.cell? ⟨gb161, 2, none⟩ = some (.string (⟨#[]⟩ : ByteArray)) := (blk_cell BK161.out 2).trans rfl; have hfz18_0 := blk_frozen BK161.out 0; have hfz18_1 := blk_frozen BK161.out 1; have hfz18_2 := blk_frozen BK161.out 2) | ((with_reducible refine gate_dst (N := 12) rfl ?_); refine box_event ?hg (N := 12) ?hd (cs := #[.int .i64 0, .int .i64 0, .string (⟨#[]⟩ : ByteArray)]) (t := 24) ?hr ?_; (case hd => rfl); (case hg => rfl); (case hr => first | (go_simp; done) | (go_simp; rfl)); intro gb162 hg w19 hbox hb; have n0_ := Aside0.mk (blk_below (g := gb156) (o := .cells #[.int .i64 ((rd_T58 l0 x7_1).f0.f0), .int .i64 ((rd_T58 l0 x7_1).f0.f1), .string ((rd_T58 l0 x7_1).f0.f2), .int .i64 ((rd_T58 l0 x7_1).f1.f0), .int .i64 ((rd_T58 l0 x7_1).f1.f1), .string ((rd_T58 l0 x7_1).f1.f2), .int .i64 ((rd_T58 l0 x7_1).f2)] 58 (0, 0)) (by (with_reducible repeat (first | refine blk_drewN ?_ _ | refine blk_drew ?_ | refine blk_alloc ?_ _)); refine blk_far ?_ NB156_161.out _; (with_reducible repeat (first | refine blk_drewN ?_ _ | refine blk_drew ?_ | refine blk_alloc ?_ _)); refine blk_far ?_ NB156_161.out _; (with_reducible repeat (first | refine blk_drewN ?_ _ | refine blk_drew ?_ | refine blk_alloc ?_ _)); refine blk_far ?_ NB156_161.out _; (with_reducible repeat (first | refine blk_drewN ?_ _ | refine blk_drew ?_ | refine blk_alloc ?_ _)); exact BK156.out) hb); have n1_ := Aside0.mk (blk_below (g := gb161) (o := .cells #[.int .i64 t157, .int .i64 t158, .string t159] 24 (0, 0)) (by (with_reducible repeat (first | refine blk_drewN ?_ _ | refine blk_drew ?_ | refine blk_alloc ?_ _)); refine blk_put (cs := #[.int .i64 t157, .int .i64 t158, .string (⟨#[]⟩ : ByteArray)]) ?_ 2 _ rfl; (with_reducible repeat (first | refine blk_drewN ?_ _ | refine blk_drew ?_ | refine blk_alloc ?_ _)); refine blk_put (cs := #[.int .i64 t157, .int .i64 0, .string (⟨#[]⟩ : ByteArray)]) ?_ 1 _ rfl; (with_reducible repeat (first | refine blk_drewN ?_ _ | refine blk_drew ?_ | refine blk_alloc ?_ _)); refine blk_put (cs := #[.int .i64 0, .int .i64 0, .string (⟨#[]⟩ : ByteArray)]) ?_ 0 _ rfl; (with_reducible repeat (first | refine blk_drewN ?_ _ | refine blk_drew ?_ | refine blk_alloc ?_ _)); exact BK161.out) hb); have n2_ := Aside0.mk (below_step (by repeat (first | (with_reducible first | exact HB.out | apply below_alloc | apply pw_below_drewN | apply below_drew1 | refine below_set ?_ GE156.out | refine below_set ?_ GE161.out) | exact HB.out)) hb); have n3_ := Aside0.mk (hbox); have n4_ := Aside0.mk ((by rw [hg]; exact (below_size (by repeat (first | (with_reducible first | exact HB.out | apply below_alloc | apply pw_below_drewN | apply below_drew1 | refine below_set ?_ GE156.out | refine below_set ?_ GE161.out) | exact HB.out))) : w.heap.size ≤ gb162)); have n5_ := Aside0.mk ((by rw [hg]; exact (below_size (by repeat (first | (with_reducible first | exact HB.out | apply below_alloc | apply pw_below_drewN | apply below_drew1 | refine below_set ?_ GE156.out | refine below_set ?_ GE161.out) | exact HB.out))) : w.heap.size ≤ gb162)); have n6_ := Aside0.mk ((by rw [hg]; exact Nat.ne_of_lt (blk_lt (g := gb156) (o := .cells #[.int .i64 ((rd_T58 l0 x7_1).f0.f0), .int .i64 ((rd_T58 l0 x7_1).f0.f1), .string ((rd_T58 l0 x7_1).f0.f2), .int .i64 ((rd_T58 l0 x7_1).f1.f0), .int .i64 ((rd_T58 l0 x7_1).f1.f1), .string ((rd_T58 l0 x7_1).f1.f2), .int .i64 ((rd_T58 l0 x7_1).f2)] 58 (0, 0)) (by (with_reducible repeat (first | refine blk_drewN ?_ _ | refine blk_drew ?_ | refine blk_alloc ?_ _)); refine blk_far ?_ NB156_161.out _; (with_reducible repeat (first | refine blk_drewN ?_ _ | refine blk_drew ?_ | refine blk_alloc ?_ _)); refine blk_far ?_ NB156_161.out _; (with_reducible repeat (first | refine blk_drewN ?_ _ | refine blk_drew ?_ | refine blk_alloc ?_ _)); refine blk_far ?_ NB156_161.out _; (with_reducible repeat (first | refine blk_drewN ?_ _ | refine blk_drew ?_ | refine blk_alloc ?_ _)); exact BK156.out)) : gb156 ≠ gb162)); have n7_ := Aside0.mk ((by rw [hg]; exact Nat.ne_of_gt (blk_lt (g := gb156) (o := .cells #[.int .i64 ((rd_T58 l0 x7_1).f0.f0), .int .i64 ((rd_T58 l0 x7_1).f0.f1), .string ((rd_T58 l0 x7_1).f0.f2), .int .i64 ((rd_T58 l0 x7_1).f1.f0), .int .i64 ((rd_T58 l0 x7_1).f1.f1), .string ((rd_T58 l0 x7_1).f1.f2), .int .i64 ((rd_T58 l0 x7_1).f2)] 58 (0, 0)) (by (with_reducible repeat (first | refine blk_drewN ?_ _ | refine blk_drew ?_ | refine blk_alloc ?_ _)); refine blk_far ?_ NB156_161.out _; (with_reducible repeat (first | refine blk_drewN ?_ _ | refine blk_drew ?_ | refine blk_alloc ?_ _)); refine blk_far ?_ NB156_161.out _; (with_reducible repeat (first | refine blk_drewN ?_ _ | refine blk_drew ?_ | refine blk_alloc ?_ _)); refine blk_far ?_ NB156_161.out _; (with_reducible repeat (first | refine blk_drewN ?_ _ | refine blk_drew ?_ | refine blk_alloc ?_ _)); exact BK156.out)) : gb162 ≠ gb156)); have n8_ := Aside0.mk ((by rw [hg]; exact Nat.ne_of_lt (blk_lt (g := gb161) (o := .cells #[.int .i64 t157, .int .i64 t158, .string t159] 24 (0, 0)) (by (with_reducible repeat (first | refine blk_drewN ?_ _ | refine blk_drew ?_ | refine blk_alloc ?_ _)); refine blk_put (cs := #[.int .i64 t157, .int .i64 t158, .string (⟨#[]⟩ : ByteArray)]) ?_ 2 _ rfl; (with_reducible repeat (first | refine blk_drewN ?_ _ | refine blk_drew ?_ | refine blk_alloc ?_ _)); refine blk_put (cs := #[.int .i64 t157, .int .i64 0, .string (⟨#[]⟩ : ByteArray)]) ?_ 1 _ rfl; (with_reducible repeat (first | refine blk_drewN ?_ _ | refine blk_drew ?_ | refine blk_alloc ?_ _)); refine blk_put (cs := #[.int .i64 0, .int .i64 0, .string (⟨#[]⟩ : ByteArray)]) ?_ 0 _ rfl; (with_reducible repeat (first | refine blk_drewN ?_ _ | refine blk_drew ?_ | refine blk_alloc ?_ _)); exact BK161.out)) : gb161 ≠ gb162)); have n9_ := Aside0.mk ((by rw [hg]; exact Nat.ne_of_gt (blk_lt (g := gb161) (o := .cells #[.int .i64 t157, .int .i64 t158, .string t159] 24 (0, 0)) (by (with_reducible repeat (first | refine blk_drewN ?_ _ | refine blk_drew ?_ | refine blk_alloc ?_ _)); refine blk_put (cs := #[.int .i64 t157, .int .i64 t158, .string (⟨#[]⟩ : ByteArray)]) ?_ 2 _ rfl; (with_reducible repeat (first | refine blk_drewN ?_ _ | refine blk_drew ?_ | refine blk_alloc ?_ _)); refine blk_put (cs := #[.int .i64 t157, .int .i64 0, .string (⟨#[]⟩ : ByteArray)]) ?_ 1 _ rfl; (with_reducible repeat (first | refine blk_drewN ?_ _ | refine blk_drew ?_ | refine blk_alloc ?_ _)); refine blk_put (cs := #[.int .i64 0, .int .i64 0, .string (⟨#[]⟩ : ByteArray)]) ?_ 0 _ rfl; (with_reducible repeat (first | refine blk_drewN ?_ _ | refine blk_drew ?_ | refine blk_alloc ?_ _)); exact BK161.out)) : gb162 ≠ gb161)); clear BK156; clear BK161; clear HB; have BK156 := n0_; have BK161 := n1_; have HB := n2_; have BK162 := n3_; have GW162 := n4_; have GE162 := n5_; have NB156_162 := n6_; have NB162_156 := n7_; have NB161_162 := n8_; have NB162_161 := n9_; clear n0_ n1_ n2_ n3_ n4_ n5_ n6_ n7_ n8_ n9_; clear hb hbox hg; have hnb20 := NB162_156.out; have hnc20 := NB156_162.out; have hnb21 := NB162_161.out; have hnc21 := NB161_162.out; have hcz22_0 : w19.cell? ⟨gb162, 0, none⟩ = some (.int .i64 0) := (blk_cell BK162.out 0).trans rfl; have hcz22_1 : w19.cell? ⟨gb162, 1, none⟩ = some (.int .i64 0) := (blk_cell BK162.out 1).trans rfl; have hcz22_2 : w19.cell? ⟨gb162, 2, none⟩ = some (.string (⟨#[]⟩ : ByteArray)) := (blk_cell BK162.out 2).trans rfl; have hfz22_0 := blk_frozen BK162.out 0; have hfz22_1 := blk_frozen BK162.out 1; have hfz22_2 := blk_frozen BK162.out 2))
                (try simp only [Act.put, List.setIfInBounds_toArray, List.set_cons_zero, List.set_cons_succ])
                go_cut [51] (fun v51 wc => ∃ (kq : Nat) (x51_12 : Bool), v51 = .bool x51_12 ∧ Aside0 (cadastrelaw4_do.j3 kq l0 a1 a2 x7_1 x9_3 t160 1 x51_12 ((rd_T58 l0 x7_1).f0.f0) ((rd_T58 l0 x7_1).f0.f1) ((rd_T58 l0 x7_1).f0.f2) ((rd_T58 l0 x7_1).f1.f0) ((rd_T58 l0 x7_1).f1.f1) ((rd_T58 l0 x7_1).f1.f2) ((rd_T58 l0 x7_1).f2) t157 t158 t159 0 0 (⟨#[]⟩ : ByteArray) = some r) ∧ Aside0 (kq ≤ k3) ∧ Aside0 (wc.heap[gb156]? = some (.cells #[.int .i64 ((rd_T58 l0 x7_1).f0.f0), .int .i64 ((rd_T58 l0 x7_1).f0.f1), .string ((rd_T58 l0 x7_1).f0.f2), .int .i64 ((rd_T58 l0 x7_1).f1.f0), .int .i64 ((rd_T58 l0 x7_1).f1.f1), .string ((rd_T58 l0 x7_1).f1.f2), .int .i64 ((rd_T58 l0 x7_1).f2)] 58 (0, 0))) ∧ Aside0 (wc.heap[gb161]? = some (.cells #[.int .i64 t157, .int .i64 t158, .string t159] 24 (0, 0))) ∧ Aside0 (wc.heap[gb162]? = some (.cells #[.int .i64 0, .int .i64 0, .string (⟨#[]⟩ : ByteArray)] 24 (0, 0))) ∧ Aside0 (Below w.heap.size w wc))
                case first =>
                  have H := HC13.out
                  clear HC13
                  replace H := Option.bind_eq_some_iff.mp H
                  obtain ⟨t163, A230, H⟩ := H
                  replace H : (if t163 = true then ((cadastreref2_May.f ((rd_T58 l0 x7_1).f1.f0) ((rd_T58 l0 x7_1).f1.f1) ((rd_T58 l0 x7_1).f1.f2)).bind fun t164 => (cadastrelaw4_do.j3 k3 l0 a1 a2 x7_1 x9_3 t160 1 t164 ((rd_T58 l0 x7_1).f0.f0) ((rd_T58 l0 x7_1).f0.f1) ((rd_T58 l0 x7_1).f0.f2) ((rd_T58 l0 x7_1).f1.f0) ((rd_T58 l0 x7_1).f1.f1) ((rd_T58 l0 x7_1).f1.f2) ((rd_T58 l0 x7_1).f2) t157 t158 t159 0 0 (⟨#[]⟩ : ByteArray))) else (cadastrelaw4_do.j3 k3 l0 a1 a2 x7_1 x9_3 t160 1 false ((rd_T58 l0 x7_1).f0.f0) ((rd_T58 l0 x7_1).f0.f1) ((rd_T58 l0 x7_1).f0.f2) ((rd_T58 l0 x7_1).f1.f0) ((rd_T58 l0 x7_1).f1.f1) ((rd_T58 l0 x7_1).f1.f2) ((rd_T58 l0 x7_1).f2) t157 t158 t159 0 0 (⟨#[]⟩ : ByteArray))) = some r := H
                  have A23 := Aside0.mk A230
                  clear A230
                  by_cases c24 : t163 = true
                  · subst c24
                    have H1 : ((cadastreref2_May.f ((rd_T58 l0 x7_1).f1.f0) ((rd_T58 l0 x7_1).f1.f1) ((rd_T58 l0 x7_1).f1.f2)).bind fun t164 => (cadastrelaw4_do.j3 k3 l0 a1 a2 x7_1 x9_3 t160 1 t164 ((rd_T58 l0 x7_1).f0.f0) ((rd_T58 l0 x7_1).f0.f1) ((rd_T58 l0 x7_1).f0.f2) ((rd_T58 l0 x7_1).f1.f0) ((rd_T58 l0 x7_1).f1.f1) ((rd_T58 l0 x7_1).f1.f2) ((rd_T58 l0 x7_1).f2) t157 t158 t159 0 0 (⟨#[]⟩ : ByteArray))) = some r := by rw [if_pos rfl] at H; exact H
                    clear H
                    have H := H1
                    clear H1
                    replace H := Option.bind_eq_some_iff.mp H
                    obtain ⟨t164, A250, H⟩ := H
                    replace H : (cadastrelaw4_do.j3 k3 l0 a1 a2 x7_1 x9_3 t160 1 t164 ((rd_T58 l0 x7_1).f0.f0) ((rd_T58 l0 x7_1).f0.f1) ((rd_T58 l0 x7_1).f0.f2) ((rd_T58 l0 x7_1).f1.f0) ((rd_T58 l0 x7_1).f1.f1) ((rd_T58 l0 x7_1).f1.f2) ((rd_T58 l0 x7_1).f2) t157 t158 t159 0 0 (⟨#[]⟩ : ByteArray)) = some r := H
                    have A25 := Aside0.mk A250
                    clear A250
                    have H' := Aside0.mk H
                    clear H
                    have hnb26 := NB156_161.out
                    have hnc26 := NB161_156.out
                    have hnb27 := NB156_162.out
                    have hnc27 := NB162_156.out
                    have hcz28_0 : w19.cell? ⟨gb156, 0, none⟩ = some (.int .i64 ((rd_T58 l0 x7_1).f0.f0)) := (blk_cell BK156.out 0).trans rfl
                    have hcz28_1 : w19.cell? ⟨gb156, 1, none⟩ = some (.int .i64 ((rd_T58 l0 x7_1).f0.f1)) := (blk_cell BK156.out 1).trans rfl
                    have hcz28_2 : w19.cell? ⟨gb156, 2, none⟩ = some (.string ((rd_T58 l0 x7_1).f0.f2)) := (blk_cell BK156.out 2).trans rfl
                    have hcz28_3 : w19.cell? ⟨gb156, 3, none⟩ = some (.int .i64 ((rd_T58 l0 x7_1).f1.f0)) := (blk_cell BK156.out 3).trans rfl
                    have hcz28_4 : w19.cell? ⟨gb156, 4, none⟩ = some (.int .i64 ((rd_T58 l0 x7_1).f1.f1)) := (blk_cell BK156.out 4).trans rfl
                    have hcz28_5 : w19.cell? ⟨gb156, 5, none⟩ = some (.string ((rd_T58 l0 x7_1).f1.f2)) := (blk_cell BK156.out 5).trans rfl
                    have hcz28_6 : w19.cell? ⟨gb156, 6, none⟩ = some (.int .i64 ((rd_T58 l0 x7_1).f2)) := (blk_cell BK156.out 6).trans rfl
                    have hfz28_0 := blk_frozen BK156.out 0
                    have hfz28_1 := blk_frozen BK156.out 1
                    have hfz28_2 := blk_frozen BK156.out 2
                    have hfz28_3 := blk_frozen BK156.out 3
                    have hfz28_4 := blk_frozen BK156.out 4
                    have hfz28_5 := blk_frozen BK156.out 5
                    have hfz28_6 := blk_frozen BK156.out 6
                    go_wp2_with (first | ((with_reducible refine gate_callee (f := 31) rfl ?_); refine goesL_ (some 46) rfl rfl Try.func31 (by kernel_rfl) rfl #[.agg #[.int .i64 ((rd_T58 l0 x7_1).f0.f0), .int .i64 ((rd_T58 l0 x7_1).f0.f1), .string ((rd_T58 l0 x7_1).f0.f2)]] rfl (by (try simp only [List.map_toArray, List.map_cons, List.map_nil]); first | done | rfl | (simp only [List.length_drop, List.length_take]; rfl)) ?_; (with_reducible refine (cadastreref2_May.calls ((rd_T58 l0 x7_1).f0.f0) ((rd_T58 l0 x7_1).f0.f1) ((rd_T58 l0 x7_1).f0.f2) true _ A23.out).mono ?_); rintro e w29 ⟨rfl, hb⟩; refine ⟨_, rfl, ?_⟩; have n0_ := Aside0.mk (blk_below (g := gb156) (o := .cells #[.int .i64 ((rd_T58 l0 x7_1).f0.f0), .int .i64 ((rd_T58 l0 x7_1).f0.f1), .string ((rd_T58 l0 x7_1).f0.f2), .int .i64 ((rd_T58 l0 x7_1).f1.f0), .int .i64 ((rd_T58 l0 x7_1).f1.f1), .string ((rd_T58 l0 x7_1).f1.f2), .int .i64 ((rd_T58 l0 x7_1).f2)] 58 (0, 0)) (by (with_reducible repeat (first | refine blk_drewN ?_ _ | refine blk_drew ?_ | refine blk_alloc ?_ _)); refine blk_far ?_ NB156_162.out _; (with_reducible repeat (first | refine blk_drewN ?_ _ | refine blk_drew ?_ | refine blk_alloc ?_ _)); refine blk_far ?_ NB156_162.out _; (with_reducible repeat (first | refine blk_drewN ?_ _ | refine blk_drew ?_ | refine blk_alloc ?_ _)); refine blk_far ?_ NB156_162.out _; (with_reducible repeat (first | refine blk_drewN ?_ _ | refine blk_drew ?_ | refine blk_alloc ?_ _)); exact BK156.out) hb); have n1_ := Aside0.mk (blk_below (g := gb161) (o := .cells #[.int .i64 t157, .int .i64 t158, .string t159] 24 (0, 0)) (by (with_reducible repeat (first | refine blk_drewN ?_ _ | refine blk_drew ?_ | refine blk_alloc ?_ _)); refine blk_far ?_ NB161_162.out _; (with_reducible repeat (first | refine blk_drewN ?_ _ | refine blk_drew ?_ | refine blk_alloc ?_ _)); refine blk_far ?_ NB161_162.out _; (with_reducible repeat (first | refine blk_drewN ?_ _ | refine blk_drew ?_ | refine blk_alloc ?_ _)); refine blk_far ?_ NB161_162.out _; (with_reducible repeat (first | refine blk_drewN ?_ _ | refine blk_drew ?_ | refine blk_alloc ?_ _)); exact BK161.out) hb); have n2_ := Aside0.mk (blk_below (g := gb162) (o := .cells #[.int .i64 0, .int .i64 0, .string (⟨#[]⟩ : ByteArray)] 24 (0, 0)) (by (with_reducible repeat (first | refine blk_drewN ?_ _ | refine blk_drew ?_ | refine blk_alloc ?_ _)); refine blk_put (cs := #[.int .i64 0, .int .i64 0, .string (⟨#[]⟩ : ByteArray)]) ?_ 2 _ rfl; (with_reducible repeat (first | refine blk_drewN ?_ _ | refine blk_drew ?_ | refine blk_alloc ?_ _)); refine blk_put (cs := #[.int .i64 0, .int .i64 0, .string (⟨#[]⟩ : ByteArray)]) ?_ 1 _ rfl; (with_reducible repeat (first | refine blk_drewN ?_ _ | refine blk_drew ?_ | refine blk_alloc ?_ _)); refine blk_put (cs := #[.int .i64 0, .int .i64 0, .string (⟨#[]⟩ : ByteArray)]) ?_ 0 _ rfl; (with_reducible repeat (first | refine blk_drewN ?_ _ | refine blk_drew ?_ | refine blk_alloc ?_ _)); exact BK162.out) hb); have n3_ := Aside0.mk (below_step (by repeat (first | (with_reducible first | exact HB.out | apply below_alloc | apply pw_below_drewN | apply below_drew1 | refine below_set ?_ GE156.out | refine below_set ?_ GE161.out | refine below_set ?_ GE162.out) | exact HB.out)) hb); clear BK156; clear BK161; clear BK162; clear HB; have BK156 := n0_; have BK161 := n1_; have BK162 := n2_; have HB := n3_; clear n0_ n1_ n2_ n3_; (try clear hb); (try clear hb2); (try clear hk); (try clear hi); have hcz30_0 : w29.cell? ⟨gb156, 0, none⟩ = some (.int .i64 ((rd_T58 l0 x7_1).f0.f0)) := (blk_cell BK156.out 0).trans rfl; have hcz30_1 : w29.cell? ⟨gb156, 1, none⟩ = some (.int .i64 ((rd_T58 l0 x7_1).f0.f1)) := (blk_cell BK156.out 1).trans rfl; have hcz30_2 : w29.cell? ⟨gb156, 2, none⟩ = some (.string ((rd_T58 l0 x7_1).f0.f2)) := (blk_cell BK156.out 2).trans rfl; have hcz30_3 : w29.cell? ⟨gb156, 3, none⟩ = some (.int .i64 ((rd_T58 l0 x7_1).f1.f0)) := (blk_cell BK156.out 3).trans rfl; have hcz30_4 : w29.cell? ⟨gb156, 4, none⟩ = some (.int .i64 ((rd_T58 l0 x7_1).f1.f1)) := (blk_cell BK156.out 4).trans rfl; have hcz30_5 : w29.cell? ⟨gb156, 5, none⟩ = some (.string ((rd_T58 l0 x7_1).f1.f2)) := (blk_cell BK156.out 5).trans rfl; have hcz30_6 : w29.cell? ⟨gb156, 6, none⟩ = some (.int .i64 ((rd_T58 l0 x7_1).f2)) := (blk_cell BK156.out 6).trans rfl; have hfz30_0 := blk_frozen BK156.out 0; have hfz30_1 := blk_frozen BK156.out 1; have hfz30_2 := blk_frozen BK156.out 2; have hfz30_3 := blk_frozen BK156.out 3; have hfz30_4 := blk_frozen BK156.out 4; have hfz30_5 := blk_frozen BK156.out 5; have hfz30_6 := blk_frozen BK156.out 6) | (go_at_call 31; (with_reducible refine (cadastreref2_May.calls ((rd_T58 l0 x7_1).f1.f0) ((rd_T58 l0 x7_1).f1.f1) ((rd_T58 l0 x7_1).f1.f2) t164 _ A25.out).mono ?_); rintro e w31 ⟨rfl, hb⟩; have n0_ := Aside0.mk (blk_below (g := gb156) (o := .cells #[.int .i64 ((rd_T58 l0 x7_1).f0.f0), .int .i64 ((rd_T58 l0 x7_1).f0.f1), .string ((rd_T58 l0 x7_1).f0.f2), .int .i64 ((rd_T58 l0 x7_1).f1.f0), .int .i64 ((rd_T58 l0 x7_1).f1.f1), .string ((rd_T58 l0 x7_1).f1.f2), .int .i64 ((rd_T58 l0 x7_1).f2)] 58 (0, 0)) (by (with_reducible repeat (first | refine blk_drewN ?_ _ | refine blk_drew ?_ | refine blk_alloc ?_ _)); exact BK156.out) hb); have n1_ := Aside0.mk (blk_below (g := gb161) (o := .cells #[.int .i64 t157, .int .i64 t158, .string t159] 24 (0, 0)) (by (with_reducible repeat (first | refine blk_drewN ?_ _ | refine blk_drew ?_ | refine blk_alloc ?_ _)); exact BK161.out) hb); have n2_ := Aside0.mk (blk_below (g := gb162) (o := .cells #[.int .i64 0, .int .i64 0, .string (⟨#[]⟩ : ByteArray)] 24 (0, 0)) (by (with_reducible repeat (first | refine blk_drewN ?_ _ | refine blk_drew ?_ | refine blk_alloc ?_ _)); exact BK162.out) hb); have n3_ := Aside0.mk (below_step (by repeat (first | (with_reducible first | exact HB.out | apply below_alloc | apply pw_below_drewN | apply below_drew1 | refine below_set ?_ GE156.out | refine below_set ?_ GE161.out | refine below_set ?_ GE162.out) | exact HB.out)) hb); clear BK156; clear BK161; clear BK162; clear HB; have BK156 := n0_; have BK161 := n1_; have BK162 := n2_; have HB := n3_; clear n0_ n1_ n2_ n3_; (try clear hb); (try clear hb2); (try clear hk); (try clear hi); (try clear A25)))
                    go_meet
                    case rel => exact ⟨_, (t164), (by first | rfl | (simp; done) | (simp [*]; done)), H', ⟨by have := HK1.out; have := HJ3.out; have := HK3.out; first | omega | exact Nat.le_refl _⟩, ⟨by (with_reducible repeat (first | refine blk_drewN ?_ _ | refine blk_drew ?_ | refine blk_alloc ?_ _)); exact BK156.out⟩, ⟨by (with_reducible repeat (first | refine blk_drewN ?_ _ | refine blk_drew ?_ | refine blk_alloc ?_ _)); exact BK161.out⟩, ⟨by (with_reducible repeat (first | refine blk_drewN ?_ _ | refine blk_drew ?_ | refine blk_alloc ?_ _)); exact BK162.out⟩, ⟨by repeat (first | (with_reducible first | exact HB.out | apply below_alloc | apply pw_below_drewN | apply below_drew1 | refine below_set ?_ GE156.out | refine below_set ?_ GE161.out | refine below_set ?_ GE162.out) | exact HB.out)⟩⟩
                  · replace c24 := Bool.eq_false_iff.mpr c24
                    subst c24
                    have H1 : (cadastrelaw4_do.j3 k3 l0 a1 a2 x7_1 x9_3 t160 1 false ((rd_T58 l0 x7_1).f0.f0) ((rd_T58 l0 x7_1).f0.f1) ((rd_T58 l0 x7_1).f0.f2) ((rd_T58 l0 x7_1).f1.f0) ((rd_T58 l0 x7_1).f1.f1) ((rd_T58 l0 x7_1).f1.f2) ((rd_T58 l0 x7_1).f2) t157 t158 t159 0 0 (⟨#[]⟩ : ByteArray)) = some r := by rw [if_neg (show ¬ (false = true) by decide)] at H; exact H
                    clear H
                    have H := H1
                    clear H1
                    have H' := Aside0.mk H
                    clear H
                    have hnb32 := NB156_161.out
                    have hnc32 := NB161_156.out
                    have hnb33 := NB156_162.out
                    have hnc33 := NB162_156.out
                    have hcz34_0 : w19.cell? ⟨gb156, 0, none⟩ = some (.int .i64 ((rd_T58 l0 x7_1).f0.f0)) := (blk_cell BK156.out 0).trans rfl
                    have hcz34_1 : w19.cell? ⟨gb156, 1, none⟩ = some (.int .i64 ((rd_T58 l0 x7_1).f0.f1)) := (blk_cell BK156.out 1).trans rfl
                    have hcz34_2 : w19.cell? ⟨gb156, 2, none⟩ = some (.string ((rd_T58 l0 x7_1).f0.f2)) := (blk_cell BK156.out 2).trans rfl
                    have hcz34_3 : w19.cell? ⟨gb156, 3, none⟩ = some (.int .i64 ((rd_T58 l0 x7_1).f1.f0)) := (blk_cell BK156.out 3).trans rfl
                    have hcz34_4 : w19.cell? ⟨gb156, 4, none⟩ = some (.int .i64 ((rd_T58 l0 x7_1).f1.f1)) := (blk_cell BK156.out 4).trans rfl
                    have hcz34_5 : w19.cell? ⟨gb156, 5, none⟩ = some (.string ((rd_T58 l0 x7_1).f1.f2)) := (blk_cell BK156.out 5).trans rfl
                    have hcz34_6 : w19.cell? ⟨gb156, 6, none⟩ = some (.int .i64 ((rd_T58 l0 x7_1).f2)) := (blk_cell BK156.out 6).trans rfl
                    have hfz34_0 := blk_frozen BK156.out 0
                    have hfz34_1 := blk_frozen BK156.out 1
                    have hfz34_2 := blk_frozen BK156.out 2
                    have hfz34_3 := blk_frozen BK156.out 3
                    have hfz34_4 := blk_frozen BK156.out 4
                    have hfz34_5 := blk_frozen BK156.out 5
                    have hfz34_6 := blk_frozen BK156.out 6
                    go_wp2_with (first | ((with_reducible refine gate_callee (f := 31) rfl ?_); refine goesL_ (some 46) rfl rfl Try.func31 (by kernel_rfl) rfl #[.agg #[.int .i64 ((rd_T58 l0 x7_1).f0.f0), .int .i64 ((rd_T58 l0 x7_1).f0.f1), .string ((rd_T58 l0 x7_1).f0.f2)]] rfl (by (try simp only [List.map_toArray, List.map_cons, List.map_nil]); first | done | rfl | (simp only [List.length_drop, List.length_take]; rfl)) ?_; (with_reducible refine (cadastreref2_May.calls ((rd_T58 l0 x7_1).f0.f0) ((rd_T58 l0 x7_1).f0.f1) ((rd_T58 l0 x7_1).f0.f2) false _ A23.out).mono ?_); rintro e w35 ⟨rfl, hb⟩; refine ⟨_, rfl, ?_⟩; have n0_ := Aside0.mk (blk_below (g := gb156) (o := .cells #[.int .i64 ((rd_T58 l0 x7_1).f0.f0), .int .i64 ((rd_T58 l0 x7_1).f0.f1), .string ((rd_T58 l0 x7_1).f0.f2), .int .i64 ((rd_T58 l0 x7_1).f1.f0), .int .i64 ((rd_T58 l0 x7_1).f1.f1), .string ((rd_T58 l0 x7_1).f1.f2), .int .i64 ((rd_T58 l0 x7_1).f2)] 58 (0, 0)) (by (with_reducible repeat (first | refine blk_drewN ?_ _ | refine blk_drew ?_ | refine blk_alloc ?_ _)); refine blk_far ?_ NB156_162.out _; (with_reducible repeat (first | refine blk_drewN ?_ _ | refine blk_drew ?_ | refine blk_alloc ?_ _)); refine blk_far ?_ NB156_162.out _; (with_reducible repeat (first | refine blk_drewN ?_ _ | refine blk_drew ?_ | refine blk_alloc ?_ _)); refine blk_far ?_ NB156_162.out _; (with_reducible repeat (first | refine blk_drewN ?_ _ | refine blk_drew ?_ | refine blk_alloc ?_ _)); exact BK156.out) hb); have n1_ := Aside0.mk (blk_below (g := gb161) (o := .cells #[.int .i64 t157, .int .i64 t158, .string t159] 24 (0, 0)) (by (with_reducible repeat (first | refine blk_drewN ?_ _ | refine blk_drew ?_ | refine blk_alloc ?_ _)); refine blk_far ?_ NB161_162.out _; (with_reducible repeat (first | refine blk_drewN ?_ _ | refine blk_drew ?_ | refine blk_alloc ?_ _)); refine blk_far ?_ NB161_162.out _; (with_reducible repeat (first | refine blk_drewN ?_ _ | refine blk_drew ?_ | refine blk_alloc ?_ _)); refine blk_far ?_ NB161_162.out _; (with_reducible repeat (first | refine blk_drewN ?_ _ | refine blk_drew ?_ | refine blk_alloc ?_ _)); exact BK161.out) hb); have n2_ := Aside0.mk (blk_below (g := gb162) (o := .cells #[.int .i64 0, .int .i64 0, .string (⟨#[]⟩ : ByteArray)] 24 (0, 0)) (by (with_reducible repeat (first | refine blk_drewN ?_ _ | refine blk_drew ?_ | refine blk_alloc ?_ _)); refine blk_put (cs := #[.int .i64 0, .int .i64 0, .string (⟨#[]⟩ : ByteArray)]) ?_ 2 _ rfl; (with_reducible repeat (first | refine blk_drewN ?_ _ | refine blk_drew ?_ | refine blk_alloc ?_ _)); refine blk_put (cs := #[.int .i64 0, .int .i64 0, .string (⟨#[]⟩ : ByteArray)]) ?_ 1 _ rfl; (with_reducible repeat (first | refine blk_drewN ?_ _ | refine blk_drew ?_ | refine blk_alloc ?_ _)); refine blk_put (cs := #[.int .i64 0, .int .i64 0, .string (⟨#[]⟩ : ByteArray)]) ?_ 0 _ rfl; (with_reducible repeat (first | refine blk_drewN ?_ _ | refine blk_drew ?_ | refine blk_alloc ?_ _)); exact BK162.out) hb); have n3_ := Aside0.mk (below_step (by repeat (first | (with_reducible first | exact HB.out | apply below_alloc | apply pw_below_drewN | apply below_drew1 | refine below_set ?_ GE156.out | refine below_set ?_ GE161.out | refine below_set ?_ GE162.out) | exact HB.out)) hb); clear BK156; clear BK161; clear BK162; clear HB; have BK156 := n0_; have BK161 := n1_; have BK162 := n2_; have HB := n3_; clear n0_ n1_ n2_ n3_; (try clear hb); (try clear hb2); (try clear hk); (try clear hi)))
                    go_meet
                    case rel => exact ⟨_, (false), (by first | rfl | (simp; done) | (simp [*]; done)), H', ⟨by have := HK1.out; have := HJ3.out; have := HK3.out; first | omega | exact Nat.le_refl _⟩, ⟨by (with_reducible repeat (first | refine blk_drewN ?_ _ | refine blk_drew ?_ | refine blk_alloc ?_ _)); exact BK156.out⟩, ⟨by (with_reducible repeat (first | refine blk_drewN ?_ _ | refine blk_drew ?_ | refine blk_alloc ?_ _)); exact BK161.out⟩, ⟨by (with_reducible repeat (first | refine blk_drewN ?_ _ | refine blk_drew ?_ | refine blk_alloc ?_ _)); exact BK162.out⟩, ⟨by repeat (first | (with_reducible first | exact HB.out | apply below_alloc | apply pw_below_drewN | apply below_drew1 | refine below_set ?_ GE156.out | refine below_set ?_ GE161.out | refine below_set ?_ GE162.out) | exact HB.out)⟩⟩
                case rest =>
                  clear HC13
                  try clear c1
                  try clear p1
                  try clear q1
                  try clear hx1
                  try clear c2
                  try clear p2
                  try clear c3
                  try clear c4
                  try clear c5
                  try clear c5b0
                  try clear c6
                  try clear p6
                  try clear c7
                  try clear c7b0
                  try clear c8
                  try clear c8b0
                  try clear c11
                  try clear c11b0
                  try clear p15
                  try clear q15
                  try clear hx15
                  try clear c17
                  try clear c20
                  try clear c21
                  try clear c24
                  try clear c26
                  try clear c27
                  try clear c31
                  try clear c32
                  try clear c33
                  try clear hcz10_0
                  try clear hcz10_1
                  try clear hcz10_2
                  try clear hcz10_3
                  try clear hcz10_4
                  try clear hcz10_5
                  try clear hcz10_6
                  try clear hcz14_0
                  try clear hcz14_1
                  try clear hcz14_2
                  try clear hcz14_3
                  try clear hcz14_4
                  try clear hcz14_5
                  try clear hcz14_6
                  try clear hcz18_0
                  try clear hcz18_1
                  try clear hcz18_2
                  try clear hcz22_0
                  try clear hcz22_1
                  try clear hcz22_2
                  try clear hcz28_0
                  try clear hcz28_1
                  try clear hcz28_2
                  try clear hcz28_3
                  try clear hcz28_4
                  try clear hcz28_5
                  try clear hcz28_6
                  try clear hcz30_0
                  try clear hcz30_1
                  try clear hcz30_2
                  try clear hcz30_3
                  try clear hcz30_4
                  try clear hcz30_5
                  try clear hcz30_6
                  try clear hcz34_0
                  try clear hcz34_1
                  try clear hcz34_2
                  try clear hcz34_3
                  try clear hcz34_4
                  try clear hcz34_5
                  try clear hcz34_6
                  try clear hfz10_0
                  try clear hfz10_1
                  try clear hfz10_2
                  try clear hfz10_3
                  try clear hfz10_4
                  try clear hfz10_5
                  try clear hfz10_6
                  try clear hfz14_0
                  try clear hfz14_1
                  try clear hfz14_2
                  try clear hfz14_3
                  try clear hfz14_4
                  try clear hfz14_5
                  try clear hfz14_6
                  try clear hfz18_0
                  try clear hfz18_1
                  try clear hfz18_2
                  try clear hfz22_0
                  try clear hfz22_1
                  try clear hfz22_2
                  try clear hfz28_0
                  try clear hfz28_1
                  try clear hfz28_2
                  try clear hfz28_3
                  try clear hfz28_4
                  try clear hfz28_5
                  try clear hfz28_6
                  try clear hfz30_0
                  try clear hfz30_1
                  try clear hfz30_2
                  try clear hfz30_3
                  try clear hfz30_4
                  try clear hfz30_5
                  try clear hfz30_6
                  try clear hfz34_0
                  try clear hfz34_1
                  try clear hfz34_2
                  try clear hfz34_3
                  try clear hfz34_4
                  try clear hfz34_5
                  try clear hfz34_6
                  try clear hx155_0
                  try clear hx155_1
                  try clear hx155_2
                  try clear hx155_3
                  try clear hx155_4
                  try clear hx155_5
                  try clear hx155_6
                  try clear p1
                  try clear p155
                  try clear p2
                  try clear q1
                  try clear q155
                  obtain ⟨kq, x51_12, rfl, HA, HJ12, BK156, BK161, BK162, HB⟩ := hcut
                  cases kq with
                  | zero => exact absurd HA.out (by simp [cadastrelaw4_do.j3])
                  | succ kj12 =>
                    have H := HA.out
                    clear HA
                    simp only [cadastrelaw4_do.j3] at H
                    by_cases c36 : x51_12 = true
                    · subst c36
                      have H1 : ((cadastreref4_Do.f kj12 x9_3 ((rd_T58 l0 x7_1).f0.f0) ((rd_T58 l0 x7_1).f0.f1) ((rd_T58 l0 x7_1).f0.f2) ((rd_T58 l0 x7_1).f1.f0) ((rd_T58 l0 x7_1).f1.f1) ((rd_T58 l0 x7_1).f1.f2)).bind fun bt165 => ((cadastrelaw4_is.f t157 t158 t159 t160 bt165.1 bt165.2.1 bt165.2.2.1 bt165.2.2.2).bind fun t169 => (if t169 = true then (cadastrelaw4_do.l1 kj12 l0 a1 a2 x7_1 (wrap64 (x9_3 + 1)) ((rd_T58 l0 x7_1).f0.f0) ((rd_T58 l0 x7_1).f0.f1) ((rd_T58 l0 x7_1).f0.f2) ((rd_T58 l0 x7_1).f1.f0) ((rd_T58 l0 x7_1).f1.f1) ((rd_T58 l0 x7_1).f1.f2) ((rd_T58 l0 x7_1).f2)) else (some false)))) = some r := by rw [if_pos rfl] at H; exact H
                      clear H
                      have H := H1
                      clear H1
                      replace H := Option.bind_eq_some_iff.mp H
                      obtain ⟨⟨t165, t166, t167, t168⟩, A370, H⟩ := H
                      replace H : ((cadastrelaw4_is.f t157 t158 t159 t160 t165 t166 t167 t168).bind fun t169 => (if t169 = true then (cadastrelaw4_do.l1 kj12 l0 a1 a2 x7_1 (wrap64 (x9_3 + 1)) ((rd_T58 l0 x7_1).f0.f0) ((rd_T58 l0 x7_1).f0.f1) ((rd_T58 l0 x7_1).f0.f2) ((rd_T58 l0 x7_1).f1.f0) ((rd_T58 l0 x7_1).f1.f1) ((rd_T58 l0 x7_1).f1.f2) ((rd_T58 l0 x7_1).f2)) else (some false))) = some r := H
                      have A37 := Aside0.mk A370
                      clear A370
                      replace H := Option.bind_eq_some_iff.mp H
                      obtain ⟨t169, A380, H⟩ := H
                      replace H : (if t169 = true then (cadastrelaw4_do.l1 kj12 l0 a1 a2 x7_1 (wrap64 (x9_3 + 1)) ((rd_T58 l0 x7_1).f0.f0) ((rd_T58 l0 x7_1).f0.f1) ((rd_T58 l0 x7_1).f0.f2) ((rd_T58 l0 x7_1).f1.f0) ((rd_T58 l0 x7_1).f1.f1) ((rd_T58 l0 x7_1).f1.f2) ((rd_T58 l0 x7_1).f2)) else (some false)) = some r := H
                      have A38 := Aside0.mk A380
                      clear A380
                      by_cases c39 : t169 = true
                      · subst c39
                        have H1 : (cadastrelaw4_do.l1 kj12 l0 a1 a2 x7_1 (wrap64 (x9_3 + 1)) ((rd_T58 l0 x7_1).f0.f0) ((rd_T58 l0 x7_1).f0.f1) ((rd_T58 l0 x7_1).f0.f2) ((rd_T58 l0 x7_1).f1.f0) ((rd_T58 l0 x7_1).f1.f1) ((rd_T58 l0 x7_1).f1.f2) ((rd_T58 l0 x7_1).f2)) = some r := by rw [if_pos rfl] at H; exact H
                        clear H
                        have H := H1
                        clear H1
                        have H' := Aside0.mk H
                        clear H
                        have hnb40 := NB156_161.out
                        have hnc40 := NB161_156.out
                        have hnb41 := NB156_162.out
                        have hnc41 := NB162_156.out
                        have hcz42_0 : wc.cell? ⟨gb156, 0, none⟩ = some (.int .i64 ((rd_T58 l0 x7_1).f0.f0)) := (blk_cell BK156.out 0).trans rfl
                        have hcz42_1 : wc.cell? ⟨gb156, 1, none⟩ = some (.int .i64 ((rd_T58 l0 x7_1).f0.f1)) := (blk_cell BK156.out 1).trans rfl
                        have hcz42_2 : wc.cell? ⟨gb156, 2, none⟩ = some (.string ((rd_T58 l0 x7_1).f0.f2)) := (blk_cell BK156.out 2).trans rfl
                        have hcz42_3 : wc.cell? ⟨gb156, 3, none⟩ = some (.int .i64 ((rd_T58 l0 x7_1).f1.f0)) := (blk_cell BK156.out 3).trans rfl
                        have hcz42_4 : wc.cell? ⟨gb156, 4, none⟩ = some (.int .i64 ((rd_T58 l0 x7_1).f1.f1)) := (blk_cell BK156.out 4).trans rfl
                        have hcz42_5 : wc.cell? ⟨gb156, 5, none⟩ = some (.string ((rd_T58 l0 x7_1).f1.f2)) := (blk_cell BK156.out 5).trans rfl
                        have hcz42_6 : wc.cell? ⟨gb156, 6, none⟩ = some (.int .i64 ((rd_T58 l0 x7_1).f2)) := (blk_cell BK156.out 6).trans rfl
                        have hfz42_0 := blk_frozen BK156.out 0
                        have hfz42_1 := blk_frozen BK156.out 1
                        have hfz42_2 := blk_frozen BK156.out 2
                        have hfz42_3 := blk_frozen BK156.out 3
                        have hfz42_4 := blk_frozen BK156.out 4
                        have hfz42_5 := blk_frozen BK156.out 5
                        have hfz42_6 := blk_frozen BK156.out 6
                        go_wp2_with (first | ((with_reducible refine gate_callee (f := 51) rfl ?_); refine goesL_ (some 58) rfl rfl Try.func51 (by kernel_rfl) rfl #[.int .i64 x9_3, .agg #[.int .i64 ((rd_T58 l0 x7_1).f0.f0), .int .i64 ((rd_T58 l0 x7_1).f0.f1), .string ((rd_T58 l0 x7_1).f0.f2)], .agg #[.int .i64 ((rd_T58 l0 x7_1).f1.f0), .int .i64 ((rd_T58 l0 x7_1).f1.f1), .string ((rd_T58 l0 x7_1).f1.f2)]] rfl (by (try simp only [List.map_toArray, List.map_cons, List.map_nil]); first | done | rfl | (simp only [List.length_drop, List.length_take]; rfl)) ?_; (with_reducible refine (cadastreref4_Do.calls kj12 x9_3 ((rd_T58 l0 x7_1).f0.f0) ((rd_T58 l0 x7_1).f0.f1) ((rd_T58 l0 x7_1).f0.f2) ((rd_T58 l0 x7_1).f1.f0) ((rd_T58 l0 x7_1).f1.f1) ((rd_T58 l0 x7_1).f1.f2) t165 t166 t167 t168 _ A37.out).mono ?_); rintro e w43 ⟨rfl, hb⟩; refine ⟨_, rfl, ?_⟩; have n0_ := Aside0.mk (blk_below (g := gb156) (o := .cells #[.int .i64 ((rd_T58 l0 x7_1).f0.f0), .int .i64 ((rd_T58 l0 x7_1).f0.f1), .string ((rd_T58 l0 x7_1).f0.f2), .int .i64 ((rd_T58 l0 x7_1).f1.f0), .int .i64 ((rd_T58 l0 x7_1).f1.f1), .string ((rd_T58 l0 x7_1).f1.f2), .int .i64 ((rd_T58 l0 x7_1).f2)] 58 (0, 0)) (by (with_reducible repeat (first | refine blk_drewN ?_ _ | refine blk_drew ?_ | refine blk_alloc ?_ _)); exact BK156.out) hb); have n1_ := Aside0.mk (blk_below (g := gb161) (o := .cells #[.int .i64 t157, .int .i64 t158, .string t159] 24 (0, 0)) (by (with_reducible repeat (first | refine blk_drewN ?_ _ | refine blk_drew ?_ | refine blk_alloc ?_ _)); exact BK161.out) hb); have n2_ := Aside0.mk (blk_below (g := gb162) (o := .cells #[.int .i64 0, .int .i64 0, .string (⟨#[]⟩ : ByteArray)] 24 (0, 0)) (by (with_reducible repeat (first | refine blk_drewN ?_ _ | refine blk_drew ?_ | refine blk_alloc ?_ _)); exact BK162.out) hb); have n3_ := Aside0.mk (below_step (by repeat (first | (with_reducible first | exact HB.out | apply below_alloc | apply pw_below_drewN | apply below_drew1 | refine below_set ?_ GE156.out | refine below_set ?_ GE161.out | refine below_set ?_ GE162.out) | exact HB.out)) hb); clear BK156; clear BK161; clear BK162; clear HB; have BK156 := n0_; have BK161 := n1_; have BK162 := n2_; have HB := n3_; clear n0_ n1_ n2_ n3_; (try clear hb); (try clear hb2); (try clear hk); (try clear hi); have hnb44 := NB162_161.out; have hnc44 := NB161_162.out; have hcz45_0 : w43.cell? ⟨gb162, 0, none⟩ = some (.int .i64 0) := (blk_cell BK162.out 0).trans rfl; have hcz45_1 : w43.cell? ⟨gb162, 1, none⟩ = some (.int .i64 0) := (blk_cell BK162.out 1).trans rfl; have hcz45_2 : w43.cell? ⟨gb162, 2, none⟩ = some (.string (⟨#[]⟩ : ByteArray)) := (blk_cell BK162.out 2).trans rfl; have hfz45_0 := blk_frozen BK162.out 0; have hfz45_1 := blk_frozen BK162.out 1; have hfz45_2 := blk_frozen BK162.out 2; have hcz46_0 : w43.cell? ⟨gb161, 0, none⟩ = some (.int .i64 t157) := (blk_cell BK161.out 0).trans rfl; have hcz46_1 : w43.cell? ⟨gb161, 1, none⟩ = some (.int .i64 t158) := (blk_cell BK161.out 1).trans rfl; have hcz46_2 : w43.cell? ⟨gb161, 2, none⟩ = some (.string t159) := (blk_cell BK161.out 2).trans rfl; have hfz46_0 := blk_frozen BK161.out 0; have hfz46_1 := blk_frozen BK161.out 1; have hfz46_2 := blk_frozen BK161.out 2) | ((with_reducible refine gate_callee (f := 54) rfl ?_); refine goesL_ (some 65) rfl rfl Try.func54 (by kernel_rfl) rfl #[.agg #[.int .i64 t157, .int .i64 t158, .string t159], .int .i64 t160, .agg #[.int .i64 t165, .int .i64 t166, .string t167], .int .i64 t168] rfl (by (try simp only [List.map_toArray, List.map_cons, List.map_nil]); first | done | rfl | (simp only [List.length_drop, List.length_take]; rfl)) ?_; (with_reducible refine (cadastrelaw4_is.calls t157 t158 t159 t160 t165 t166 t167 t168 true _ A38.out).mono ?_); rintro e w47 ⟨rfl, hb⟩; refine ⟨_, rfl, ?_⟩; have n0_ := Aside0.mk (blk_below (g := gb156) (o := .cells #[.int .i64 ((rd_T58 l0 x7_1).f0.f0), .int .i64 ((rd_T58 l0 x7_1).f0.f1), .string ((rd_T58 l0 x7_1).f0.f2), .int .i64 ((rd_T58 l0 x7_1).f1.f0), .int .i64 ((rd_T58 l0 x7_1).f1.f1), .string ((rd_T58 l0 x7_1).f1.f2), .int .i64 ((rd_T58 l0 x7_1).f2)] 58 (0, 0)) (by (with_reducible repeat (first | refine blk_drewN ?_ _ | refine blk_drew ?_ | refine blk_alloc ?_ _)); refine blk_far ?_ NB156_162.out _; (with_reducible repeat (first | refine blk_drewN ?_ _ | refine blk_drew ?_ | refine blk_alloc ?_ _)); refine blk_far ?_ NB156_162.out _; (with_reducible repeat (first | refine blk_drewN ?_ _ | refine blk_drew ?_ | refine blk_alloc ?_ _)); refine blk_far ?_ NB156_162.out _; (with_reducible repeat (first | refine blk_drewN ?_ _ | refine blk_drew ?_ | refine blk_alloc ?_ _)); exact BK156.out) hb); have n1_ := Aside0.mk (blk_below (g := gb161) (o := .cells #[.int .i64 t157, .int .i64 t158, .string t159] 24 (0, 0)) (by (with_reducible repeat (first | refine blk_drewN ?_ _ | refine blk_drew ?_ | refine blk_alloc ?_ _)); refine blk_far ?_ NB161_162.out _; (with_reducible repeat (first | refine blk_drewN ?_ _ | refine blk_drew ?_ | refine blk_alloc ?_ _)); refine blk_far ?_ NB161_162.out _; (with_reducible repeat (first | refine blk_drewN ?_ _ | refine blk_drew ?_ | refine blk_alloc ?_ _)); refine blk_far ?_ NB161_162.out _; (with_reducible repeat (first | refine blk_drewN ?_ _ | refine blk_drew ?_ | refine blk_alloc ?_ _)); exact BK161.out) hb); have n2_ := Aside0.mk (blk_below (g := gb162) (o := .cells #[.int .i64 t165, .int .i64 t166, .string t167] 24 (0, 0)) (by (with_reducible repeat (first | refine blk_drewN ?_ _ | refine blk_drew ?_ | refine blk_alloc ?_ _)); refine blk_put (cs := #[.int .i64 t165, .int .i64 t166, .string (⟨#[]⟩ : ByteArray)]) ?_ 2 _ rfl; (with_reducible repeat (first | refine blk_drewN ?_ _ | refine blk_drew ?_ | refine blk_alloc ?_ _)); refine blk_put (cs := #[.int .i64 t165, .int .i64 0, .string (⟨#[]⟩ : ByteArray)]) ?_ 1 _ rfl; (with_reducible repeat (first | refine blk_drewN ?_ _ | refine blk_drew ?_ | refine blk_alloc ?_ _)); refine blk_put (cs := #[.int .i64 0, .int .i64 0, .string (⟨#[]⟩ : ByteArray)]) ?_ 0 _ rfl; (with_reducible repeat (first | refine blk_drewN ?_ _ | refine blk_drew ?_ | refine blk_alloc ?_ _)); exact BK162.out) hb); have n3_ := Aside0.mk (below_step (by repeat (first | (with_reducible first | exact HB.out | apply below_alloc | apply pw_below_drewN | apply below_drew1 | refine below_set ?_ GE156.out | refine below_set ?_ GE161.out | refine below_set ?_ GE162.out) | exact HB.out)) hb); clear BK156; clear BK161; clear BK162; clear HB; have BK156 := n0_; have BK161 := n1_; have BK162 := n2_; have HB := n3_; clear n0_ n1_ n2_ n3_; (try clear hb); (try clear hb2); (try clear hk); (try clear hi)))
                        go_roundg kj12
                        case measure => have := HK1.out; have := HJ3.out; have := HK3.out; have := HJ12.out; omega
                        case rel => exact ⟨(wrap64 (x9_3 + 1)), (by first | rfl | (simp; done) | (simp [*]; done)), H', ⟨by have := HK1.out; have := HJ3.out; have := HK3.out; have := HJ12.out; omega⟩, ⟨by (with_reducible repeat (first | refine blk_drewN ?_ _ | refine blk_drew ?_ | refine blk_alloc ?_ _)); exact BK156.out⟩, ⟨by repeat (first | (with_reducible first | exact HB.out | apply below_alloc | apply pw_below_drewN | apply below_drew1 | refine below_set ?_ GE156.out | refine below_set ?_ GE161.out | refine below_set ?_ GE162.out) | exact HB.out)⟩⟩
                      · replace c39 := Bool.eq_false_iff.mpr c39
                        subst c39
                        have H1 : (some false) = some r := by rw [if_neg (show ¬ (false = true) by decide)] at H; exact H
                        clear H
                        have H := H1
                        clear H1
                        obtain rfl := Option.some.inj H
                        have hnb48 := NB156_161.out
                        have hnc48 := NB161_156.out
                        have hnb49 := NB156_162.out
                        have hnc49 := NB162_156.out
                        have hcz50_0 : wc.cell? ⟨gb156, 0, none⟩ = some (.int .i64 ((rd_T58 l0 x7_1).f0.f0)) := (blk_cell BK156.out 0).trans rfl
                        have hcz50_1 : wc.cell? ⟨gb156, 1, none⟩ = some (.int .i64 ((rd_T58 l0 x7_1).f0.f1)) := (blk_cell BK156.out 1).trans rfl
                        have hcz50_2 : wc.cell? ⟨gb156, 2, none⟩ = some (.string ((rd_T58 l0 x7_1).f0.f2)) := (blk_cell BK156.out 2).trans rfl
                        have hcz50_3 : wc.cell? ⟨gb156, 3, none⟩ = some (.int .i64 ((rd_T58 l0 x7_1).f1.f0)) := (blk_cell BK156.out 3).trans rfl
                        have hcz50_4 : wc.cell? ⟨gb156, 4, none⟩ = some (.int .i64 ((rd_T58 l0 x7_1).f1.f1)) := (blk_cell BK156.out 4).trans rfl
                        have hcz50_5 : wc.cell? ⟨gb156, 5, none⟩ = some (.string ((rd_T58 l0 x7_1).f1.f2)) := (blk_cell BK156.out 5).trans rfl
                        have hcz50_6 : wc.cell? ⟨gb156, 6, none⟩ = some (.int .i64 ((rd_T58 l0 x7_1).f2)) := (blk_cell BK156.out 6).trans rfl
                        have hfz50_0 := blk_frozen BK156.out 0
                        have hfz50_1 := blk_frozen BK156.out 1
                        have hfz50_2 := blk_frozen BK156.out 2
                        have hfz50_3 := blk_frozen BK156.out 3
                        have hfz50_4 := blk_frozen BK156.out 4
                        have hfz50_5 := blk_frozen BK156.out 5
                        have hfz50_6 := blk_frozen BK156.out 6
                        go_wp2_with (first | ((with_reducible refine gate_callee (f := 51) rfl ?_); refine goesL_ (some 58) rfl rfl Try.func51 (by kernel_rfl) rfl #[.int .i64 x9_3, .agg #[.int .i64 ((rd_T58 l0 x7_1).f0.f0), .int .i64 ((rd_T58 l0 x7_1).f0.f1), .string ((rd_T58 l0 x7_1).f0.f2)], .agg #[.int .i64 ((rd_T58 l0 x7_1).f1.f0), .int .i64 ((rd_T58 l0 x7_1).f1.f1), .string ((rd_T58 l0 x7_1).f1.f2)]] rfl (by (try simp only [List.map_toArray, List.map_cons, List.map_nil]); first | done | rfl | (simp only [List.length_drop, List.length_take]; rfl)) ?_; (with_reducible refine (cadastreref4_Do.calls kj12 x9_3 ((rd_T58 l0 x7_1).f0.f0) ((rd_T58 l0 x7_1).f0.f1) ((rd_T58 l0 x7_1).f0.f2) ((rd_T58 l0 x7_1).f1.f0) ((rd_T58 l0 x7_1).f1.f1) ((rd_T58 l0 x7_1).f1.f2) t165 t166 t167 t168 _ A37.out).mono ?_); rintro e w51 ⟨rfl, hb⟩; refine ⟨_, rfl, ?_⟩; have n0_ := Aside0.mk (blk_below (g := gb156) (o := .cells #[.int .i64 ((rd_T58 l0 x7_1).f0.f0), .int .i64 ((rd_T58 l0 x7_1).f0.f1), .string ((rd_T58 l0 x7_1).f0.f2), .int .i64 ((rd_T58 l0 x7_1).f1.f0), .int .i64 ((rd_T58 l0 x7_1).f1.f1), .string ((rd_T58 l0 x7_1).f1.f2), .int .i64 ((rd_T58 l0 x7_1).f2)] 58 (0, 0)) (by (with_reducible repeat (first | refine blk_drewN ?_ _ | refine blk_drew ?_ | refine blk_alloc ?_ _)); exact BK156.out) hb); have n1_ := Aside0.mk (blk_below (g := gb161) (o := .cells #[.int .i64 t157, .int .i64 t158, .string t159] 24 (0, 0)) (by (with_reducible repeat (first | refine blk_drewN ?_ _ | refine blk_drew ?_ | refine blk_alloc ?_ _)); exact BK161.out) hb); have n2_ := Aside0.mk (blk_below (g := gb162) (o := .cells #[.int .i64 0, .int .i64 0, .string (⟨#[]⟩ : ByteArray)] 24 (0, 0)) (by (with_reducible repeat (first | refine blk_drewN ?_ _ | refine blk_drew ?_ | refine blk_alloc ?_ _)); exact BK162.out) hb); have n3_ := Aside0.mk (below_step (by repeat (first | (with_reducible first | exact HB.out | apply below_alloc | apply pw_below_drewN | apply below_drew1 | refine below_set ?_ GE156.out | refine below_set ?_ GE161.out | refine below_set ?_ GE162.out) | exact HB.out)) hb); clear BK156; clear BK161; clear BK162; clear HB; have BK156 := n0_; have BK161 := n1_; have BK162 := n2_; have HB := n3_; clear n0_ n1_ n2_ n3_; (try clear hb); (try clear hb2); (try clear hk); (try clear hi); have hnb52 := NB162_161.out; have hnc52 := NB161_162.out; have hcz53_0 : w51.cell? ⟨gb162, 0, none⟩ = some (.int .i64 0) := (blk_cell BK162.out 0).trans rfl; have hcz53_1 : w51.cell? ⟨gb162, 1, none⟩ = some (.int .i64 0) := (blk_cell BK162.out 1).trans rfl; have hcz53_2 : w51.cell? ⟨gb162, 2, none⟩ = some (.string (⟨#[]⟩ : ByteArray)) := (blk_cell BK162.out 2).trans rfl; have hfz53_0 := blk_frozen BK162.out 0; have hfz53_1 := blk_frozen BK162.out 1; have hfz53_2 := blk_frozen BK162.out 2; have hcz54_0 : w51.cell? ⟨gb161, 0, none⟩ = some (.int .i64 t157) := (blk_cell BK161.out 0).trans rfl; have hcz54_1 : w51.cell? ⟨gb161, 1, none⟩ = some (.int .i64 t158) := (blk_cell BK161.out 1).trans rfl; have hcz54_2 : w51.cell? ⟨gb161, 2, none⟩ = some (.string t159) := (blk_cell BK161.out 2).trans rfl; have hfz54_0 := blk_frozen BK161.out 0; have hfz54_1 := blk_frozen BK161.out 1; have hfz54_2 := blk_frozen BK161.out 2) | ((with_reducible refine gate_callee (f := 54) rfl ?_); refine goesL_ (some 65) rfl rfl Try.func54 (by kernel_rfl) rfl #[.agg #[.int .i64 t157, .int .i64 t158, .string t159], .int .i64 t160, .agg #[.int .i64 t165, .int .i64 t166, .string t167], .int .i64 t168] rfl (by (try simp only [List.map_toArray, List.map_cons, List.map_nil]); first | done | rfl | (simp only [List.length_drop, List.length_take]; rfl)) ?_; (with_reducible refine (cadastrelaw4_is.calls t157 t158 t159 t160 t165 t166 t167 t168 false _ A38.out).mono ?_); rintro e w55 ⟨rfl, hb⟩; refine ⟨_, rfl, ?_⟩; have n0_ := Aside0.mk (blk_below (g := gb156) (o := .cells #[.int .i64 ((rd_T58 l0 x7_1).f0.f0), .int .i64 ((rd_T58 l0 x7_1).f0.f1), .string ((rd_T58 l0 x7_1).f0.f2), .int .i64 ((rd_T58 l0 x7_1).f1.f0), .int .i64 ((rd_T58 l0 x7_1).f1.f1), .string ((rd_T58 l0 x7_1).f1.f2), .int .i64 ((rd_T58 l0 x7_1).f2)] 58 (0, 0)) (by (with_reducible repeat (first | refine blk_drewN ?_ _ | refine blk_drew ?_ | refine blk_alloc ?_ _)); refine blk_far ?_ NB156_162.out _; (with_reducible repeat (first | refine blk_drewN ?_ _ | refine blk_drew ?_ | refine blk_alloc ?_ _)); refine blk_far ?_ NB156_162.out _; (with_reducible repeat (first | refine blk_drewN ?_ _ | refine blk_drew ?_ | refine blk_alloc ?_ _)); refine blk_far ?_ NB156_162.out _; (with_reducible repeat (first | refine blk_drewN ?_ _ | refine blk_drew ?_ | refine blk_alloc ?_ _)); exact BK156.out) hb); have n1_ := Aside0.mk (blk_below (g := gb161) (o := .cells #[.int .i64 t157, .int .i64 t158, .string t159] 24 (0, 0)) (by (with_reducible repeat (first | refine blk_drewN ?_ _ | refine blk_drew ?_ | refine blk_alloc ?_ _)); refine blk_far ?_ NB161_162.out _; (with_reducible repeat (first | refine blk_drewN ?_ _ | refine blk_drew ?_ | refine blk_alloc ?_ _)); refine blk_far ?_ NB161_162.out _; (with_reducible repeat (first | refine blk_drewN ?_ _ | refine blk_drew ?_ | refine blk_alloc ?_ _)); refine blk_far ?_ NB161_162.out _; (with_reducible repeat (first | refine blk_drewN ?_ _ | refine blk_drew ?_ | refine blk_alloc ?_ _)); exact BK161.out) hb); have n2_ := Aside0.mk (blk_below (g := gb162) (o := .cells #[.int .i64 t165, .int .i64 t166, .string t167] 24 (0, 0)) (by (with_reducible repeat (first | refine blk_drewN ?_ _ | refine blk_drew ?_ | refine blk_alloc ?_ _)); refine blk_put (cs := #[.int .i64 t165, .int .i64 t166, .string (⟨#[]⟩ : ByteArray)]) ?_ 2 _ rfl; (with_reducible repeat (first | refine blk_drewN ?_ _ | refine blk_drew ?_ | refine blk_alloc ?_ _)); refine blk_put (cs := #[.int .i64 t165, .int .i64 0, .string (⟨#[]⟩ : ByteArray)]) ?_ 1 _ rfl; (with_reducible repeat (first | refine blk_drewN ?_ _ | refine blk_drew ?_ | refine blk_alloc ?_ _)); refine blk_put (cs := #[.int .i64 0, .int .i64 0, .string (⟨#[]⟩ : ByteArray)]) ?_ 0 _ rfl; (with_reducible repeat (first | refine blk_drewN ?_ _ | refine blk_drew ?_ | refine blk_alloc ?_ _)); exact BK162.out) hb); have n3_ := Aside0.mk (below_step (by repeat (first | (with_reducible first | exact HB.out | apply below_alloc | apply pw_below_drewN | apply below_drew1 | refine below_set ?_ GE156.out | refine below_set ?_ GE161.out | refine below_set ?_ GE162.out) | exact HB.out)) hb); clear BK156; clear BK161; clear BK162; clear HB; have BK156 := n0_; have BK161 := n1_; have BK162 := n2_; have HB := n3_; clear n0_ n1_ n2_ n3_; (try clear hb); (try clear hb2); (try clear hk); (try clear hi)))
                        go_ret
                        exact ⟨by first | rfl | (simp [errW_none, errW_some] <;> rfl) | (simp [*, errW_none, errW_some] <;> rfl), by repeat (first | (with_reducible first | exact HB.out | apply below_alloc | apply pw_below_drewN | apply below_drew1 | refine below_set ?_ GE156.out | refine below_set ?_ GE161.out | refine below_set ?_ GE162.out) | exact HB.out)⟩
                    · replace c36 := Bool.eq_false_iff.mpr c36
                      subst c36
                      have H1 : ((cadastrelaw4_is.f t157 t158 t159 t160 0 0 (⟨#[]⟩ : ByteArray) 1).bind fun t170 => (if t170 = true then (cadastrelaw4_do.l1 kj12 l0 a1 a2 x7_1 (wrap64 (x9_3 + 1)) ((rd_T58 l0 x7_1).f0.f0) ((rd_T58 l0 x7_1).f0.f1) ((rd_T58 l0 x7_1).f0.f2) ((rd_T58 l0 x7_1).f1.f0) ((rd_T58 l0 x7_1).f1.f1) ((rd_T58 l0 x7_1).f1.f2) ((rd_T58 l0 x7_1).f2)) else (some false))) = some r := by rw [if_neg (show ¬ (false = true) by decide)] at H; exact H
                      clear H
                      have H := H1
                      clear H1
                      replace H := Option.bind_eq_some_iff.mp H
                      obtain ⟨t170, A560, H⟩ := H
                      replace H : (if t170 = true then (cadastrelaw4_do.l1 kj12 l0 a1 a2 x7_1 (wrap64 (x9_3 + 1)) ((rd_T58 l0 x7_1).f0.f0) ((rd_T58 l0 x7_1).f0.f1) ((rd_T58 l0 x7_1).f0.f2) ((rd_T58 l0 x7_1).f1.f0) ((rd_T58 l0 x7_1).f1.f1) ((rd_T58 l0 x7_1).f1.f2) ((rd_T58 l0 x7_1).f2)) else (some false)) = some r := H
                      have A56 := Aside0.mk A560
                      clear A560
                      by_cases c57 : t170 = true
                      · subst c57
                        have H1 : (cadastrelaw4_do.l1 kj12 l0 a1 a2 x7_1 (wrap64 (x9_3 + 1)) ((rd_T58 l0 x7_1).f0.f0) ((rd_T58 l0 x7_1).f0.f1) ((rd_T58 l0 x7_1).f0.f2) ((rd_T58 l0 x7_1).f1.f0) ((rd_T58 l0 x7_1).f1.f1) ((rd_T58 l0 x7_1).f1.f2) ((rd_T58 l0 x7_1).f2)) = some r := by rw [if_pos rfl] at H; exact H
                        clear H
                        have H := H1
                        clear H1
                        have H' := Aside0.mk H
                        clear H
                        have hnb58 := NB161_156.out
                        have hnc58 := NB156_161.out
                        have hnb59 := NB161_162.out
                        have hnc59 := NB162_161.out
                        have hcz60_0 : wc.cell? ⟨gb161, 0, none⟩ = some (.int .i64 t157) := (blk_cell BK161.out 0).trans rfl
                        have hcz60_1 : wc.cell? ⟨gb161, 1, none⟩ = some (.int .i64 t158) := (blk_cell BK161.out 1).trans rfl
                        have hcz60_2 : wc.cell? ⟨gb161, 2, none⟩ = some (.string t159) := (blk_cell BK161.out 2).trans rfl
                        have hfz60_0 := blk_frozen BK161.out 0
                        have hfz60_1 := blk_frozen BK161.out 1
                        have hfz60_2 := blk_frozen BK161.out 2
                        have hnb61 := NB162_156.out
                        have hnc61 := NB156_162.out
                        have hcz62_0 : wc.cell? ⟨gb162, 0, none⟩ = some (.int .i64 0) := (blk_cell BK162.out 0).trans rfl
                        have hcz62_1 : wc.cell? ⟨gb162, 1, none⟩ = some (.int .i64 0) := (blk_cell BK162.out 1).trans rfl
                        have hcz62_2 : wc.cell? ⟨gb162, 2, none⟩ = some (.string (⟨#[]⟩ : ByteArray)) := (blk_cell BK162.out 2).trans rfl
                        have hfz62_0 := blk_frozen BK162.out 0
                        have hfz62_1 := blk_frozen BK162.out 1
                        have hfz62_2 := blk_frozen BK162.out 2
                        go_wp2_with (first | ((with_reducible refine gate_callee (f := 54) rfl ?_); refine goesL_ (some 65) rfl rfl Try.func54 (by kernel_rfl) rfl #[.agg #[.int .i64 t157, .int .i64 t158, .string t159], .int .i64 t160, .agg #[.int .i64 0, .int .i64 0, .string (⟨#[]⟩ : ByteArray)], .int .i64 1] rfl (by (try simp only [List.map_toArray, List.map_cons, List.map_nil]); first | done | rfl | (simp only [List.length_drop, List.length_take]; rfl)) ?_; (with_reducible refine (cadastrelaw4_is.calls t157 t158 t159 t160 0 0 (⟨#[]⟩ : ByteArray) 1 true _ A56.out).mono ?_); rintro e w63 ⟨rfl, hb⟩; refine ⟨_, rfl, ?_⟩; have n0_ := Aside0.mk (blk_below (g := gb156) (o := .cells #[.int .i64 ((rd_T58 l0 x7_1).f0.f0), .int .i64 ((rd_T58 l0 x7_1).f0.f1), .string ((rd_T58 l0 x7_1).f0.f2), .int .i64 ((rd_T58 l0 x7_1).f1.f0), .int .i64 ((rd_T58 l0 x7_1).f1.f1), .string ((rd_T58 l0 x7_1).f1.f2), .int .i64 ((rd_T58 l0 x7_1).f2)] 58 (0, 0)) (by (with_reducible repeat (first | refine blk_drewN ?_ _ | refine blk_drew ?_ | refine blk_alloc ?_ _)); exact BK156.out) hb); have n1_ := Aside0.mk (blk_below (g := gb161) (o := .cells #[.int .i64 t157, .int .i64 t158, .string t159] 24 (0, 0)) (by (with_reducible repeat (first | refine blk_drewN ?_ _ | refine blk_drew ?_ | refine blk_alloc ?_ _)); exact BK161.out) hb); have n2_ := Aside0.mk (blk_below (g := gb162) (o := .cells #[.int .i64 0, .int .i64 0, .string (⟨#[]⟩ : ByteArray)] 24 (0, 0)) (by (with_reducible repeat (first | refine blk_drewN ?_ _ | refine blk_drew ?_ | refine blk_alloc ?_ _)); exact BK162.out) hb); have n3_ := Aside0.mk (below_step (by repeat (first | (with_reducible first | exact HB.out | apply below_alloc | apply pw_below_drewN | apply below_drew1 | refine below_set ?_ GE156.out | refine below_set ?_ GE161.out | refine below_set ?_ GE162.out) | exact HB.out)) hb); clear BK156; clear BK161; clear BK162; clear HB; have BK156 := n0_; have BK161 := n1_; have BK162 := n2_; have HB := n3_; clear n0_ n1_ n2_ n3_; (try clear hb); (try clear hb2); (try clear hk); (try clear hi)))
                        go_roundg kj12
                        case measure => have := HK1.out; have := HJ3.out; have := HK3.out; have := HJ12.out; omega
                        case rel => exact ⟨(wrap64 (x9_3 + 1)), (by first | rfl | (simp; done) | (simp [*]; done)), H', ⟨by have := HK1.out; have := HJ3.out; have := HK3.out; have := HJ12.out; omega⟩, ⟨by (with_reducible repeat (first | refine blk_drewN ?_ _ | refine blk_drew ?_ | refine blk_alloc ?_ _)); exact BK156.out⟩, ⟨by repeat (first | (with_reducible first | exact HB.out | apply below_alloc | apply pw_below_drewN | apply below_drew1 | refine below_set ?_ GE156.out | refine below_set ?_ GE161.out | refine below_set ?_ GE162.out) | exact HB.out)⟩⟩
                      · replace c57 := Bool.eq_false_iff.mpr c57
                        subst c57
                        have H1 : (some false) = some r := by rw [if_neg (show ¬ (false = true) by decide)] at H; exact H
                        clear H
                        have H := H1
                        clear H1
                        obtain rfl := Option.some.inj H
                        have hnb64 := NB161_156.out
                        have hnc64 := NB156_161.out
                        have hnb65 := NB161_162.out
                        have hnc65 := NB162_161.out
                        have hcz66_0 : wc.cell? ⟨gb161, 0, none⟩ = some (.int .i64 t157) := (blk_cell BK161.out 0).trans rfl
                        have hcz66_1 : wc.cell? ⟨gb161, 1, none⟩ = some (.int .i64 t158) := (blk_cell BK161.out 1).trans rfl
                        have hcz66_2 : wc.cell? ⟨gb161, 2, none⟩ = some (.string t159) := (blk_cell BK161.out 2).trans rfl
                        have hfz66_0 := blk_frozen BK161.out 0
                        have hfz66_1 := blk_frozen BK161.out 1
                        have hfz66_2 := blk_frozen BK161.out 2
                        have hnb67 := NB162_156.out
                        have hnc67 := NB156_162.out
                        have hcz68_0 : wc.cell? ⟨gb162, 0, none⟩ = some (.int .i64 0) := (blk_cell BK162.out 0).trans rfl
                        have hcz68_1 : wc.cell? ⟨gb162, 1, none⟩ = some (.int .i64 0) := (blk_cell BK162.out 1).trans rfl
                        have hcz68_2 : wc.cell? ⟨gb162, 2, none⟩ = some (.string (⟨#[]⟩ : ByteArray)) := (blk_cell BK162.out 2).trans rfl
                        have hfz68_0 := blk_frozen BK162.out 0
                        have hfz68_1 := blk_frozen BK162.out 1
                        have hfz68_2 := blk_frozen BK162.out 2
                        go_wp2_with (first | ((with_reducible refine gate_callee (f := 54) rfl ?_); refine goesL_ (some 65) rfl rfl Try.func54 (by kernel_rfl) rfl #[.agg #[.int .i64 t157, .int .i64 t158, .string t159], .int .i64 t160, .agg #[.int .i64 0, .int .i64 0, .string (⟨#[]⟩ : ByteArray)], .int .i64 1] rfl (by (try simp only [List.map_toArray, List.map_cons, List.map_nil]); first | done | rfl | (simp only [List.length_drop, List.length_take]; rfl)) ?_; (with_reducible refine (cadastrelaw4_is.calls t157 t158 t159 t160 0 0 (⟨#[]⟩ : ByteArray) 1 false _ A56.out).mono ?_); rintro e w69 ⟨rfl, hb⟩; refine ⟨_, rfl, ?_⟩; have n0_ := Aside0.mk (blk_below (g := gb156) (o := .cells #[.int .i64 ((rd_T58 l0 x7_1).f0.f0), .int .i64 ((rd_T58 l0 x7_1).f0.f1), .string ((rd_T58 l0 x7_1).f0.f2), .int .i64 ((rd_T58 l0 x7_1).f1.f0), .int .i64 ((rd_T58 l0 x7_1).f1.f1), .string ((rd_T58 l0 x7_1).f1.f2), .int .i64 ((rd_T58 l0 x7_1).f2)] 58 (0, 0)) (by (with_reducible repeat (first | refine blk_drewN ?_ _ | refine blk_drew ?_ | refine blk_alloc ?_ _)); exact BK156.out) hb); have n1_ := Aside0.mk (blk_below (g := gb161) (o := .cells #[.int .i64 t157, .int .i64 t158, .string t159] 24 (0, 0)) (by (with_reducible repeat (first | refine blk_drewN ?_ _ | refine blk_drew ?_ | refine blk_alloc ?_ _)); exact BK161.out) hb); have n2_ := Aside0.mk (blk_below (g := gb162) (o := .cells #[.int .i64 0, .int .i64 0, .string (⟨#[]⟩ : ByteArray)] 24 (0, 0)) (by (with_reducible repeat (first | refine blk_drewN ?_ _ | refine blk_drew ?_ | refine blk_alloc ?_ _)); exact BK162.out) hb); have n3_ := Aside0.mk (below_step (by repeat (first | (with_reducible first | exact HB.out | apply below_alloc | apply pw_below_drewN | apply below_drew1 | refine below_set ?_ GE156.out | refine below_set ?_ GE161.out | refine below_set ?_ GE162.out) | exact HB.out)) hb); clear BK156; clear BK161; clear BK162; clear HB; have BK156 := n0_; have BK161 := n1_; have BK162 := n2_; have HB := n3_; clear n0_ n1_ n2_ n3_; (try clear hb); (try clear hb2); (try clear hk); (try clear hi)))
                        go_ret
                        exact ⟨by first | rfl | (simp [errW_none, errW_some] <;> rfl) | (simp [*, errW_none, errW_some] <;> rfl), by repeat (first | (with_reducible first | exact HB.out | apply below_alloc | apply pw_below_drewN | apply below_drew1 | refine below_set ?_ GE156.out | refine below_set ?_ GE161.out | refine below_set ?_ GE162.out) | exact HB.out)⟩
          · replace c6 := Bool.eq_false_iff.mpr c6
            subst c6
            have H1 : ((cadastrelaw4_wakes.f kj3).bind fun t154 => (some t154)) = some r := by rw [if_neg (show ¬ (false = true) by decide)] at H; exact H
            clear H
            have H := H1
            clear H1
            replace H := Option.bind_eq_some_iff.mp H
            obtain ⟨t154, A700, H⟩ := H
            replace H : (some t154) = some r := H
            have A70 := Aside0.mk A700
            clear A700
            obtain rfl := Option.some.inj H
            go_wp2_with (first | ((with_reducible refine gate_callee (f := 46) rfl ?_); refine goesL_ (some 67) rfl rfl Try.func46 (by kernel_rfl) rfl #[] rfl (by (try simp only [List.map_toArray, List.map_cons, List.map_nil]); first | done | rfl | (simp only [List.length_drop, List.length_take]; rfl)) ?_; (with_reducible refine (cadastrelaw4_wakes.calls kj3  t154 _ A70.out).mono ?_); rintro e w71 ⟨rfl, hb⟩; refine ⟨_, rfl, ?_⟩; have n0_ := Aside0.mk (below_step (by repeat (first | (with_reducible first | exact HB.out | apply below_alloc | apply pw_below_drewN | apply below_drew1) | exact HB.out)) hb); clear HB; have HB := n0_; clear n0_; (try clear hb); (try clear hb2); (try clear hk); (try clear hi)))
            go_ret
            exact ⟨by first | rfl | (simp [errW_none, errW_some] <;> rfl) | (simp [*, errW_none, errW_some] <;> rfl), by repeat (first | (with_reducible first | exact HB.out | apply below_alloc | apply pw_below_drewN | apply below_drew1) | exact HB.out)⟩

/-! ### cadastrelaw4_ArithSums: function 12 -/
def cadastrelaw4_ArithSums.f (k : Nat) (l0 : List (S58)) : Option (Bool) := (cadastrelaw4_do.f k l0 12 13).bind fun t171 => (some t171)
theorem cadastrelaw4_ArithSums.mono : ∀ a0 k, LeO (cadastrelaw4_ArithSums.f k a0) (cadastrelaw4_ArithSums.f (k + 1) a0) := by
  intro a0 k
  unfold cadastrelaw4_ArithSums.f
  repeat' first
      | (with_reducible exact cadastrelaw4_do.mono _ _ _ _)
      | (with_reducible exact LeO.refl _)
      | (with_reducible exact LeO.none _)
      | (with_reducible refine LeO.ite ?_ ?_)
      | (with_reducible refine LeO.bind ?_ (fun _ => ?_))
      | exact cadastrelaw4_do.mono _ _ _ _
      | exact LeO.none _
      | refine LeO.ite ?_ ?_
      | refine LeO.bind ?_ (fun _ => ?_)
set_option maxHeartbeats 8000000 in
set_option maxRecDepth 100000 in
theorem cadastrelaw4_ArithSums.calls (k : Nat) (A0 : Option Addr) (c0 : Nat) (l0 : List (S58)) (r : Bool) (w : World) (hr0 : Kd.C k58 w A0 l0.length l0) (hc0 : l0.length ≤ c0) (h : cadastrelaw4_ArithSums.f k l0 = some r) :
    Calls Try.prog 12 #[.slice A0 l0.length c0] w fun e w' => e = .returned (.bool r) ∧ Below w.heap.size w w' := by
  have HR0 := Aside0.mk hr0
  have HC0 := Aside0.mk hc0
  clear hr0 hc0
  have HB := Aside0.mk (Below.refl w.heap.size w)
  have H : ((cadastrelaw4_do.f k l0 12 13).bind fun t171 => (some t171)) = some r := h
  clear h
  replace H := Option.bind_eq_some_iff.mp H
  obtain ⟨t171, A20, H⟩ := H
  replace H : (some t171) = some r := H
  have A2 := Aside0.mk A20
  clear A20
  obtain rfl := Option.some.inj H
  go_enter Try.func12, Try.ntmps12
  go_wp2_with (first | ((with_reducible refine gate_callee (f := 47) rfl ?_); refine goesL_ (some 4) rfl rfl Try.func47 (by kernel_rfl) rfl #[.slice A0 l0.length c0, .int .i64 12, .int .i64 13] rfl (by (try simp only [List.map_toArray, List.map_cons, List.map_nil]); first | done | rfl | (simp only [List.length_drop, List.length_take]; rfl)) ?_; (with_reducible refine (cadastrelaw4_do.calls k _ _ l0 12 13 t171 _ ?side1 ?side2 A2.out).mono ?_); (case side1 => repeat (first | exact HR0.out | (with_reducible refine Kd.C_alloc ?_ _) | (with_reducible refine Kd.C_drewN ?_ _) | (with_reducible refine Kd.C_drew ?_))); (case side2 => exact HC0.out); rintro e w3 ⟨rfl, hb⟩; refine ⟨_, rfl, ?_⟩; have n0_ := Aside0.mk (below_step (by repeat (first | (with_reducible first | exact HB.out | apply below_alloc | apply pw_below_drewN | apply below_drew1) | exact HB.out)) hb); clear HB; have HB := n0_; clear n0_; (try clear hb); (try clear hb2); (try clear hk); (try clear hi)))
  go_ret
  exact ⟨by first | rfl | (simp [errW_none, errW_some] <;> rfl) | (simp [*, errW_none, errW_some] <;> rfl), by repeat (first | (with_reducible first | exact HB.out | apply below_alloc | apply pw_below_drewN | apply below_drew1) | exact HB.out)⟩

/-! ### cadastrelaw4_ArithProducts: function 13 -/
def cadastrelaw4_ArithProducts.f (k : Nat) (l0 : List (S58)) : Option (Bool) := (cadastrelaw4_do.f k l0 9 9).bind fun t172 => (some t172)
theorem cadastrelaw4_ArithProducts.mono : ∀ a0 k, LeO (cadastrelaw4_ArithProducts.f k a0) (cadastrelaw4_ArithProducts.f (k + 1) a0) := by
  intro a0 k
  unfold cadastrelaw4_ArithProducts.f
  repeat' first
      | (with_reducible exact cadastrelaw4_do.mono _ _ _ _)
      | (with_reducible exact LeO.refl _)
      | (with_reducible exact LeO.none _)
      | (with_reducible refine LeO.ite ?_ ?_)
      | (with_reducible refine LeO.bind ?_ (fun _ => ?_))
      | exact cadastrelaw4_do.mono _ _ _ _
      | exact LeO.none _
      | refine LeO.ite ?_ ?_
      | refine LeO.bind ?_ (fun _ => ?_)
set_option maxHeartbeats 8000000 in
set_option maxRecDepth 100000 in
theorem cadastrelaw4_ArithProducts.calls (k : Nat) (A0 : Option Addr) (c0 : Nat) (l0 : List (S58)) (r : Bool) (w : World) (hr0 : Kd.C k58 w A0 l0.length l0) (hc0 : l0.length ≤ c0) (h : cadastrelaw4_ArithProducts.f k l0 = some r) :
    Calls Try.prog 13 #[.slice A0 l0.length c0] w fun e w' => e = .returned (.bool r) ∧ Below w.heap.size w w' := by
  have HR0 := Aside0.mk hr0
  have HC0 := Aside0.mk hc0
  clear hr0 hc0
  have HB := Aside0.mk (Below.refl w.heap.size w)
  have H : ((cadastrelaw4_do.f k l0 9 9).bind fun t172 => (some t172)) = some r := h
  clear h
  replace H := Option.bind_eq_some_iff.mp H
  obtain ⟨t172, A20, H⟩ := H
  replace H : (some t172) = some r := H
  have A2 := Aside0.mk A20
  clear A20
  obtain rfl := Option.some.inj H
  go_enter Try.func13, Try.ntmps13
  go_wp2_with (first | ((with_reducible refine gate_callee (f := 47) rfl ?_); refine goesL_ (some 4) rfl rfl Try.func47 (by kernel_rfl) rfl #[.slice A0 l0.length c0, .int .i64 9, .int .i64 9] rfl (by (try simp only [List.map_toArray, List.map_cons, List.map_nil]); first | done | rfl | (simp only [List.length_drop, List.length_take]; rfl)) ?_; (with_reducible refine (cadastrelaw4_do.calls k _ _ l0 9 9 t172 _ ?side1 ?side2 A2.out).mono ?_); (case side1 => repeat (first | exact HR0.out | (with_reducible refine Kd.C_alloc ?_ _) | (with_reducible refine Kd.C_drewN ?_ _) | (with_reducible refine Kd.C_drew ?_))); (case side2 => exact HC0.out); rintro e w3 ⟨rfl, hb⟩; refine ⟨_, rfl, ?_⟩; have n0_ := Aside0.mk (below_step (by repeat (first | (with_reducible first | exact HB.out | apply below_alloc | apply pw_below_drewN | apply below_drew1) | exact HB.out)) hb); clear HB; have HB := n0_; clear n0_; (try clear hb); (try clear hb2); (try clear hk); (try clear hi)))
  go_ret
  exact ⟨by first | rfl | (simp [errW_none, errW_some] <;> rfl) | (simp [*, errW_none, errW_some] <;> rfl), by repeat (first | (with_reducible first | exact HB.out | apply below_alloc | apply pw_below_drewN | apply below_drew1) | exact HB.out)⟩

/-! ### cadastrelaw4_ArithQuotients: function 14 -/
def cadastrelaw4_ArithQuotients.f (k : Nat) (l0 : List (S58)) : Option (Bool) := (cadastrelaw4_do.f k l0 10 11).bind fun t173 => (some t173)
theorem cadastrelaw4_ArithQuotients.mono : ∀ a0 k, LeO (cadastrelaw4_ArithQuotients.f k a0) (cadastrelaw4_ArithQuotients.f (k + 1) a0) := by
  intro a0 k
  unfold cadastrelaw4_ArithQuotients.f
  repeat' first
      | (with_reducible exact cadastrelaw4_do.mono _ _ _ _)
      | (with_reducible exact LeO.refl _)
      | (with_reducible exact LeO.none _)
      | (with_reducible refine LeO.ite ?_ ?_)
      | (with_reducible refine LeO.bind ?_ (fun _ => ?_))
      | exact cadastrelaw4_do.mono _ _ _ _
      | exact LeO.none _
      | refine LeO.ite ?_ ?_
      | refine LeO.bind ?_ (fun _ => ?_)
set_option maxHeartbeats 8000000 in
set_option maxRecDepth 100000 in
theorem cadastrelaw4_ArithQuotients.calls (k : Nat) (A0 : Option Addr) (c0 : Nat) (l0 : List (S58)) (r : Bool) (w : World) (hr0 : Kd.C k58 w A0 l0.length l0) (hc0 : l0.length ≤ c0) (h : cadastrelaw4_ArithQuotients.f k l0 = some r) :
    Calls Try.prog 14 #[.slice A0 l0.length c0] w fun e w' => e = .returned (.bool r) ∧ Below w.heap.size w w' := by
  have HR0 := Aside0.mk hr0
  have HC0 := Aside0.mk hc0
  clear hr0 hc0
  have HB := Aside0.mk (Below.refl w.heap.size w)
  have H : ((cadastrelaw4_do.f k l0 10 11).bind fun t173 => (some t173)) = some r := h
  clear h
  replace H := Option.bind_eq_some_iff.mp H
  obtain ⟨t173, A20, H⟩ := H
  replace H : (some t173) = some r := H
  have A2 := Aside0.mk A20
  clear A20
  obtain rfl := Option.some.inj H
  go_enter Try.func14, Try.ntmps14
  go_wp2_with (first | ((with_reducible refine gate_callee (f := 47) rfl ?_); refine goesL_ (some 4) rfl rfl Try.func47 (by kernel_rfl) rfl #[.slice A0 l0.length c0, .int .i64 10, .int .i64 11] rfl (by (try simp only [List.map_toArray, List.map_cons, List.map_nil]); first | done | rfl | (simp only [List.length_drop, List.length_take]; rfl)) ?_; (with_reducible refine (cadastrelaw4_do.calls k _ _ l0 10 11 t173 _ ?side1 ?side2 A2.out).mono ?_); (case side1 => repeat (first | exact HR0.out | (with_reducible refine Kd.C_alloc ?_ _) | (with_reducible refine Kd.C_drewN ?_ _) | (with_reducible refine Kd.C_drew ?_))); (case side2 => exact HC0.out); rintro e w3 ⟨rfl, hb⟩; refine ⟨_, rfl, ?_⟩; have n0_ := Aside0.mk (below_step (by repeat (first | (with_reducible first | exact HB.out | apply below_alloc | apply pw_below_drewN | apply below_drew1) | exact HB.out)) hb); clear HB; have HB := n0_; clear n0_; (try clear hb); (try clear hb2); (try clear hk); (try clear hi)))
  go_ret
  exact ⟨by first | rfl | (simp [errW_none, errW_some] <;> rfl) | (simp [*, errW_none, errW_some] <;> rfl), by repeat (first | (with_reducible first | exact HB.out | apply below_alloc | apply pw_below_drewN | apply below_drew1) | exact HB.out)⟩

end Go.Proofs.Ytaodnkhpiiepiaa.A
