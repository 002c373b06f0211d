-- Made by a program of this session (gprint.py, over the kit's printing program).
import Derived.Test.YtaodnkhpiiepiaaLx0
import Derived.Test.YtaodnkhpiiepiaaLx2
import Derived.Test.YtaodnkhpiiepiaaLx3
import Derived.Test.YtaodnkhpiiepiaaLx4
namespace Go.Proofs.Ytaodnkhpiiepiaa.L
open Go.RowKit Go.Proofs.YtaodnkhpiiepiaaG Go.Proofs.YtaodnkhpiiepiaaW.PrintWords Go.Proofs.YtaodnkhpiiepiaaW.PrintLast Go.Proofs.YtaodnkhpiiepiaaW.PrintMore
attribute [local go_sem] max2_int min2_int max_two min_two max_three min_three max_four min_four   -- for this text's walks alone
set_option linter.unusedVariables false
set_option linter.unusedSimpArgs false

/-! ### cadastrelaw3_LogicNots: function 10 -/
mutual
def cadastrelaw3_LogicNots.l0 : Nat → List (S37) → Int → Option (Bool)
  | 0, _, _ => none
  | k + 1, x0, x3 => if x3 < (x0.length : Int) then (cadastrelaw3_LogicNots.j1 k x0 x3 (decide (x3 < 30))) else (cadastrelaw3_LogicNots.j1 k x0 x3 false)
def cadastrelaw3_LogicNots.j1 : Nat → List (S37) → Int → Bool → Option (Bool)
  | 0, _, _, _ => none
  | k + 1, x0, x3, x22 => if x22 = true then (if 0 ≤ x3 then (if x3 < (x0.length : Int) then ((logic_Not.f ((rd_T37 x0 x3).f0.f0) ((rd_T37 x0 x3).f0.f1) ((rd_T37 x0 x3).f0.f2)).bind fun bt203 => ((cadastreref2_May.f ((rd_T37 x0 x3).f0.f0) ((rd_T37 x0 x3).f0.f1) ((rd_T37 x0 x3).f0.f2)).bind fun t209 => (if t209 = true then ((cadastreref2_Not.f ((rd_T37 x0 x3).f0.f0) ((rd_T37 x0 x3).f0.f1) ((rd_T37 x0 x3).f0.f2)).bind fun bt210 => (cadastrelaw3_LogicNots.j2 k x0 x3 bt203.2.2.2 bt210.2.2.2 ((rd_T37 x0 x3).f0.f0) ((rd_T37 x0 x3).f0.f1) ((rd_T37 x0 x3).f0.f2) bt203.1 bt203.2.1 bt203.2.2.1 bt210.1 bt210.2.1 bt210.2.2.1)) else (cadastrelaw3_LogicNots.j2 k x0 x3 bt203.2.2.2 1 ((rd_T37 x0 x3).f0.f0) ((rd_T37 x0 x3).f0.f1) ((rd_T37 x0 x3).f0.f2) bt203.1 bt203.2.1 bt203.2.2.1 0 0 (⟨#[]⟩ : ByteArray))))) else (none)) else (none)) else ((cadastrelaw3_wakes.f k).bind fun t200 => (some t200))
def cadastrelaw3_LogicNots.j2 : Nat → List (S37) → Int → Int → Int → Int → Int → ByteArray → Int → Int → ByteArray → Int → Int → ByteArray → Option (Bool)
  | 0, _, _, _, _, _, _, _, _, _, _, _, _, _ => none
  | k + 1, x0, x3, x6, x8, x203000, x203001, x203002, x208000, x208001, x208002, x209000, x209001, x209002 => (cadastrelaw3_is.f x208000 x208001 x208002 x6 x209000 x209001 x209002 x8).bind fun t214 => (if t214 = true then (if x8 = 0 then ((logic_Not.f x208000 x208001 x208002).bind fun bt215 => ((logic_True.f x203000 x203001 x203002).bind fun bt220 => ((logic_True.f bt215.1 bt215.2.1 bt215.2.2.1).bind fun bt222 => ((cadastrelaw3_num.f bt215.2.2.2).bind fun t224 => (if t224 = 0 then ((cadastrelaw3_num.f bt220.2).bind fun t225 => (if t225 = 0 then ((cadastrelaw3_num.f bt222.2).bind fun t226 => (if t226 = 0 then (if (bt220.1 != bt222.1) = true then (some false) else (cadastrelaw3_LogicNots.l0 k x0 (wrap64 (x3 + 1)))) else (some false))) else (some false))) else (some false)))))) else (cadastrelaw3_LogicNots.l0 k x0 (wrap64 (x3 + 1)))) else (some false))
end
def cadastrelaw3_LogicNots.f (k : Nat) (l0 : List (S37)) : Option (Bool) := cadastrelaw3_LogicNots.l0 k l0 0
theorem cadastrelaw3_LogicNots.mono_l : ∀ k, (∀ y0 y1, LeO (cadastrelaw3_LogicNots.l0 k y0 y1) (cadastrelaw3_LogicNots.l0 (k + 1) y0 y1)) ∧ (∀ y0 y1 y2, LeO (cadastrelaw3_LogicNots.j1 k y0 y1 y2) (cadastrelaw3_LogicNots.j1 (k + 1) y0 y1 y2)) ∧ (∀ y0 y1 y2 y3 y4 y5 y6 y7 y8 y9 y10 y11 y12, LeO (cadastrelaw3_LogicNots.j2 k y0 y1 y2 y3 y4 y5 y6 y7 y8 y9 y10 y11 y12) (cadastrelaw3_LogicNots.j2 (k + 1) y0 y1 y2 y3 y4 y5 y6 y7 y8 y9 y10 y11 y12))
  | 0 => ⟨fun _ _ r h => by simp [cadastrelaw3_LogicNots.l0] at h, fun _ _ _ r h => by simp [cadastrelaw3_LogicNots.j1] at h, fun _ _ _ _ _ _ _ _ _ _ _ _ _ r h => by simp [cadastrelaw3_LogicNots.j2] at h⟩
  | k + 1 => by
    obtain ⟨ih0, ih1, ih2⟩ := cadastrelaw3_LogicNots.mono_l k
    refine ⟨?_, ?_, ?_⟩
    · intro y0 y1
      unfold cadastrelaw3_LogicNots.l0
      repeat' first
      | (with_reducible exact ih0 _ _)
      | (with_reducible exact ih1 _ _ _)
      | (with_reducible exact ih2 _ _ _ _ _ _ _ _ _ _ _ _ _)
      | (with_reducible exact cadastrelaw3_wakes.mono _)
      | (with_reducible exact LeO.refl _)
      | (with_reducible exact LeO.none _)
      | (with_reducible refine LeO.ite ?_ ?_)
      | (with_reducible refine LeO.bind ?_ (fun _ => ?_))
      | exact ih0 _ _
      | exact ih1 _ _ _
      | exact ih2 _ _ _ _ _ _ _ _ _ _ _ _ _
      | exact cadastrelaw3_wakes.mono _
      | exact LeO.none _
      | refine LeO.ite ?_ ?_
      | refine LeO.bind ?_ (fun _ => ?_)
    · intro y0 y1 y2
      unfold cadastrelaw3_LogicNots.j1
      repeat' first
      | (with_reducible exact ih0 _ _)
      | (with_reducible exact ih1 _ _ _)
      | (with_reducible exact ih2 _ _ _ _ _ _ _ _ _ _ _ _ _)
      | (with_reducible exact cadastrelaw3_wakes.mono _)
      | (with_reducible exact LeO.refl _)
      | (with_reducible exact LeO.none _)
      | (with_reducible refine LeO.ite ?_ ?_)
      | (with_reducible refine LeO.bind ?_ (fun _ => ?_))
      | exact ih0 _ _
      | exact ih1 _ _ _
      | exact ih2 _ _ _ _ _ _ _ _ _ _ _ _ _
      | exact cadastrelaw3_wakes.mono _
      | exact LeO.none _
      | refine LeO.ite ?_ ?_
      | refine LeO.bind ?_ (fun _ => ?_)
    · intro y0 y1 y2 y3 y4 y5 y6 y7 y8 y9 y10 y11 y12
      unfold cadastrelaw3_LogicNots.j2
      repeat' first
      | (with_reducible exact ih0 _ _)
      | (with_reducible exact ih1 _ _ _)
      | (with_reducible exact ih2 _ _ _ _ _ _ _ _ _ _ _ _ _)
      | (with_reducible exact cadastrelaw3_wakes.mono _)
      | (with_reducible exact LeO.refl _)
      | (with_reducible exact LeO.none _)
      | (with_reducible refine LeO.ite ?_ ?_)
      | (with_reducible refine LeO.bind ?_ (fun _ => ?_))
      | exact ih0 _ _
      | exact ih1 _ _ _
      | exact ih2 _ _ _ _ _ _ _ _ _ _ _ _ _
      | exact cadastrelaw3_wakes.mono _
      | exact LeO.none _
      | refine LeO.ite ?_ ?_
      | refine LeO.bind ?_ (fun _ => ?_)
theorem cadastrelaw3_LogicNots.mono : ∀ a0 k, LeO (cadastrelaw3_LogicNots.f k a0) (cadastrelaw3_LogicNots.f (k + 1) a0) := by
  intro a0 k
  obtain ⟨ih0, ih1, ih2⟩ := cadastrelaw3_LogicNots.mono_l k
  unfold cadastrelaw3_LogicNots.f
  repeat' first
      | (with_reducible exact ih0 _ _)
      | (with_reducible exact ih1 _ _ _)
      | (with_reducible exact ih2 _ _ _ _ _ _ _ _ _ _ _ _ _)
      | (with_reducible exact cadastrelaw3_wakes.mono _)
      | (with_reducible exact LeO.refl _)
      | (with_reducible exact LeO.none _)
      | (with_reducible refine LeO.ite ?_ ?_)
      | (with_reducible refine LeO.bind ?_ (fun _ => ?_))
      | exact ih0 _ _
      | exact ih1 _ _ _
      | exact ih2 _ _ _ _ _ _ _ _ _ _ _ _ _
      | exact cadastrelaw3_wakes.mono _
      | exact LeO.none _
      | refine LeO.ite ?_ ?_
      | refine LeO.bind ?_ (fun _ => ?_)
set_option maxHeartbeats 8000000 in
set_option maxRecDepth 100000 in
theorem cadastrelaw3_LogicNots.calls (k : Nat) (A0 : Option Addr) (c0 : Nat) (l0 : List (S37)) (r : Bool) (w : World) (hr0 : Kd.C k37 w A0 l0.length l0) (hc0 : l0.length ≤ c0) (h : cadastrelaw3_LogicNots.f k l0 = some r) :
    Calls Try.prog 10 #[.slice A0 l0.length c0] w fun e w' => e = .returned (.bool r) ∧ Below w.heap.size w w' := by
  have hu24 := Try.underlying24
  have HR0 := Aside0.mk hr0
  have HC0 := Aside0.mk hc0
  clear hr0 hc0
  have HB := Aside0.mk (Below.refl w.heap.size w)
  have H : (cadastrelaw3_LogicNots.l0 k l0 0) = some r := h
  clear h
  have H' := Aside0.mk H
  clear H
  go_enter Try.func10, Try.ntmps10
  go_wp2
  go_loopg [3] k (fun kq v3 w' => ∃ (x3_1 : Int), v3 = .int .i64 x3_1 ∧ Aside0 (cadastrelaw3_LogicNots.l0 kq l0 x3_1 = some r) ∧ Aside0 (kq ≤ k) ∧ Aside0 (Below w.heap.size w w'))
  case atStart => exact ⟨(0), (by first | rfl | (simp; done) | (simp [*]; done)), H', ⟨Nat.le_refl _⟩, ⟨by repeat (first | (with_reducible first | exact HB.out | apply below_alloc | apply pw_below_drewN | apply below_drew1) | exact HB.out)⟩⟩
  case round =>
    clear H'
    try clear c1
    obtain ⟨x3_1, rfl, HA, HK1, HB⟩ := hrel
    cases gk with
    | zero => exact absurd HA.out (by simp [cadastrelaw3_LogicNots.l0])
    | succ k1 =>
      have H := HA.out
      clear HA
      simp only [cadastrelaw3_LogicNots.l0] at H
      have HC2 := Aside0.mk H
      clear H
      go_upto_region 2 with (fail)
      go_cut [22] (fun v22 wc => ∃ (kq : Nat) (x22_1 : Bool), v22 = .bool x22_1 ∧ Aside0 (cadastrelaw3_LogicNots.j1 kq l0 x3_1 x22_1 = some r) ∧ Aside0 (kq ≤ k1) ∧ Aside0 (Below w.heap.size w wc))
      case first =>
        have H := HC2.out
        clear HC2
        by_cases c3 : x3_1 < (l0.length : Int)
        · rw [if_pos c3] at H
          have c3b0 : decide (x3_1 < (l0.length : Int)) = true := decide_eq_true c3
          clear c3
          (first | rw [c3b0] | (simp only [i64_w, i32_w]; rw [c3b0]) | skip)
          have H' := Aside0.mk H
          clear H
          go_wp2
          go_meet
          case rel => exact ⟨_, (decide (x3_1 < 30)), (by first | rfl | (simp; done) | (simp [*]; done)), H', ⟨by have := HK1.out; first | omega | exact Nat.le_refl _⟩, ⟨by repeat (first | (with_reducible first | exact HB.out | apply below_alloc | apply pw_below_drewN | apply below_drew1) | exact HB.out)⟩⟩
        rw [if_neg c3] at H
        have c3b0 : decide (x3_1 < (l0.length : Int)) = false := decide_eq_false c3
        clear c3
        (first | rw [c3b0] | (simp only [i64_w, i32_w]; rw [c3b0]) | skip)
        have H' := Aside0.mk H
        clear H
        go_wp2
        go_meet
        case rel => exact ⟨_, (false), (by first | rfl | (simp; done) | (simp [*]; done)), H', ⟨by have := HK1.out; first | omega | exact Nat.le_refl _⟩, ⟨by repeat (first | (with_reducible first | exact HB.out | apply below_alloc | apply pw_below_drewN | apply below_drew1) | exact HB.out)⟩⟩
      case rest =>
        clear HC2
        try clear c1
        try clear p2
        try clear c3
        try clear c3b0
        obtain ⟨kq, x22_1, rfl, HA, HJ1, HB⟩ := hcut
        cases kq with
        | zero => exact absurd HA.out (by simp [cadastrelaw3_LogicNots.j1])
        | succ kj1 =>
          have H := HA.out
          clear HA
          simp only [cadastrelaw3_LogicNots.j1] at H
          by_cases c4 : x22_1 = true
          · subst c4
            have H1 : (if 0 ≤ x3_1 then (if x3_1 < (l0.length : Int) then ((logic_Not.f ((rd_T37 l0 x3_1).f0.f0) ((rd_T37 l0 x3_1).f0.f1) ((rd_T37 l0 x3_1).f0.f2)).bind fun bt203 => ((cadastreref2_May.f ((rd_T37 l0 x3_1).f0.f0) ((rd_T37 l0 x3_1).f0.f1) ((rd_T37 l0 x3_1).f0.f2)).bind fun t209 => (if t209 = true then ((cadastreref2_Not.f ((rd_T37 l0 x3_1).f0.f0) ((rd_T37 l0 x3_1).f0.f1) ((rd_T37 l0 x3_1).f0.f2)).bind fun bt210 => (cadastrelaw3_LogicNots.j2 kj1 l0 x3_1 bt203.2.2.2 bt210.2.2.2 ((rd_T37 l0 x3_1).f0.f0) ((rd_T37 l0 x3_1).f0.f1) ((rd_T37 l0 x3_1).f0.f2) bt203.1 bt203.2.1 bt203.2.2.1 bt210.1 bt210.2.1 bt210.2.2.1)) else (cadastrelaw3_LogicNots.j2 kj1 l0 x3_1 bt203.2.2.2 1 ((rd_T37 l0 x3_1).f0.f0) ((rd_T37 l0 x3_1).f0.f1) ((rd_T37 l0 x3_1).f0.f2) bt203.1 bt203.2.1 bt203.2.2.1 0 0 (⟨#[]⟩ : ByteArray))))) else (none)) else (none)) = some r := by rw [if_pos rfl] at H; exact H
            clear H
            have H := H1
            clear H1
            by_cases c5 : 0 ≤ x3_1
            rotate_left
            · rw [if_neg c5] at H
              exact absurd H (by simp)
            rw [if_pos c5] at H
            have c5b0 : decide (0 ≤ x3_1) = true := decide_eq_true c5
            clear c5
            by_cases c6 : x3_1 < (l0.length : Int)
            rotate_left
            · rw [if_neg c6] at H
              exact absurd H (by simp)
            rw [if_pos c6] at H
            have c6b0 : decide (x3_1 < (l0.length : Int)) = true := decide_eq_true c6
            clear c6
            replace H := Option.bind_eq_some_iff.mp H
            obtain ⟨⟨t203, t204, t205, t206⟩, A70, H⟩ := H
            replace H : ((cadastreref2_May.f ((rd_T37 l0 x3_1).f0.f0) ((rd_T37 l0 x3_1).f0.f1) ((rd_T37 l0 x3_1).f0.f2)).bind fun t209 => (if t209 = true then ((cadastreref2_Not.f ((rd_T37 l0 x3_1).f0.f0) ((rd_T37 l0 x3_1).f0.f1) ((rd_T37 l0 x3_1).f0.f2)).bind fun bt210 => (cadastrelaw3_LogicNots.j2 kj1 l0 x3_1 t206 bt210.2.2.2 ((rd_T37 l0 x3_1).f0.f0) ((rd_T37 l0 x3_1).f0.f1) ((rd_T37 l0 x3_1).f0.f2) t203 t204 t205 bt210.1 bt210.2.1 bt210.2.2.1)) else (cadastrelaw3_LogicNots.j2 kj1 l0 x3_1 t206 1 ((rd_T37 l0 x3_1).f0.f0) ((rd_T37 l0 x3_1).f0.f1) ((rd_T37 l0 x3_1).f0.f2) t203 t204 t205 0 0 (⟨#[]⟩ : ByteArray)))) = some r := H
            have A7 := Aside0.mk A70
            clear A70
            replace H := Option.bind_eq_some_iff.mp H
            obtain ⟨t209, A80, H⟩ := H
            replace H : (if t209 = true then ((cadastreref2_Not.f ((rd_T37 l0 x3_1).f0.f0) ((rd_T37 l0 x3_1).f0.f1) ((rd_T37 l0 x3_1).f0.f2)).bind fun bt210 => (cadastrelaw3_LogicNots.j2 kj1 l0 x3_1 t206 bt210.2.2.2 ((rd_T37 l0 x3_1).f0.f0) ((rd_T37 l0 x3_1).f0.f1) ((rd_T37 l0 x3_1).f0.f2) t203 t204 t205 bt210.1 bt210.2.1 bt210.2.2.1)) else (cadastrelaw3_LogicNots.j2 kj1 l0 x3_1 t206 1 ((rd_T37 l0 x3_1).f0.f0) ((rd_T37 l0 x3_1).f0.f1) ((rd_T37 l0 x3_1).f0.f2) t203 t204 t205 0 0 (⟨#[]⟩ : ByteArray))) = some r := H
            have A8 := Aside0.mk A80
            clear A80
            have HC9 := Aside0.mk H
            clear H
            have p201 : 0 ≤ (x3_1 : Int) := of_decide_eq_true (by first | (with_reducible assumption) | assumption)
            have q201 : x3_1 < (l0.length : Int) := of_decide_eq_true (by first | (with_reducible assumption) | assumption)
            obtain ⟨ad201, e201, hx201_0, hx201_1, hx201_2, hx201_3, hx201_4, hx201_5, hx201_6⟩ := at_T37 HR0.out x3_1 p201 q201
            cases e201
            replace hx201_0 := (HB.out.cell (World.block_lt_of_cell? w _ hx201_0)).trans hx201_0
            replace hx201_1 := (HB.out.cell (World.block_lt_of_cell? w _ hx201_1)).trans hx201_1
            replace hx201_2 := (HB.out.cell (World.block_lt_of_cell? w _ hx201_2)).trans hx201_2
            replace hx201_3 := (HB.out.cell (World.block_lt_of_cell? w _ hx201_3)).trans hx201_3
            replace hx201_4 := (HB.out.cell (World.block_lt_of_cell? w _ hx201_4)).trans hx201_4
            replace hx201_5 := (HB.out.cell (World.block_lt_of_cell? w _ hx201_5)).trans hx201_5
            replace hx201_6 := (HB.out.cell (World.block_lt_of_cell? w _ hx201_6)).trans hx201_6
            replace p201 := eq_true p201
            replace q201 := eq_true q201
            go_upto_if 37 with (first | ((with_reducible refine gate_dst (N := 4) rfl ?_); refine box_event ?hg (N := 4) ?hd (cs := #[.int .i64 0, .int .i64 0, .string (⟨#[]⟩ : ByteArray)]) (t := 24) ?hr ?_; (case hd => rfl); (case hg => rfl); (case hr => first | (go_simp; done) | (go_simp; rfl)); intro gb202 hg w10 hbox hb; have n0_ := Aside0.mk (below_step (by repeat (first | (with_reducible first | exact HB.out | apply below_alloc | apply pw_below_drewN | apply below_drew1) | exact HB.out)) hb); have n1_ := Aside0.mk (hbox); have n2_ := Aside0.mk ((by rw [hg]; exact (below_size (by repeat (first | (with_reducible first | exact HB.out | apply below_alloc | apply pw_below_drewN | apply below_drew1) | exact HB.out))) : w.heap.size ≤ gb202)); have n3_ := Aside0.mk ((by rw [hg]; exact (below_size (by repeat (first | (with_reducible first | exact HB.out | apply below_alloc | apply pw_below_drewN | apply below_drew1) | exact HB.out))) : w.heap.size ≤ gb202)); clear HB; have HB := n0_; have BK202 := n1_; have GW202 := n2_; have GE202 := n3_; clear n0_ n1_ n2_ n3_; clear hb hbox hg; have hcz11_0 : w10.cell? ⟨gb202, 0, none⟩ = some (.int .i64 0) := (blk_cell BK202.out 0).trans rfl; have hcz11_1 : w10.cell? ⟨gb202, 1, none⟩ = some (.int .i64 0) := (blk_cell BK202.out 1).trans rfl; have hcz11_2 : w10.cell? ⟨gb202, 2, none⟩ = some (.string (⟨#[]⟩ : ByteArray)) := (blk_cell BK202.out 2).trans rfl; have hfz11_0 := blk_frozen BK202.out 0; have hfz11_1 := blk_frozen BK202.out 1; have hfz11_2 := blk_frozen BK202.out 2) | ((with_reducible refine gate_callee (f := 40) rfl ?_); refine goesL_ (some 32) rfl rfl Try.func40 (by kernel_rfl) rfl #[.agg #[.int .i64 ((rd_T37 l0 x3_1).f0.f0), .int .i64 ((rd_T37 l0 x3_1).f0.f1), .string ((rd_T37 l0 x3_1).f0.f2)]] rfl (by (try simp only [List.map_toArray, List.map_cons, List.map_nil]); first | done | rfl | (simp only [List.length_drop, List.length_take]; rfl)) ?_; (with_reducible refine (logic_Not.calls ((rd_T37 l0 x3_1).f0.f0) ((rd_T37 l0 x3_1).f0.f1) ((rd_T37 l0 x3_1).f0.f2) t203 t204 t205 t206 _ A7.out).mono ?_); rintro e w12 ⟨rfl, hb⟩; refine ⟨_, rfl, ?_⟩; have n0_ := Aside0.mk (blk_below (g := gb202) (o := .cells #[.int .i64 ((rd_T37 l0 x3_1).f0.f0), .int .i64 ((rd_T37 l0 x3_1).f0.f1), .string ((rd_T37 l0 x3_1).f0.f2)] 24 (0, 0)) (by (with_reducible repeat (first | refine blk_drewN ?_ _ | refine blk_drew ?_ | refine blk_alloc ?_ _)); refine blk_put (cs := #[.int .i64 ((rd_T37 l0 x3_1).f0.f0), .int .i64 ((rd_T37 l0 x3_1).f0.f1), .string (⟨#[]⟩ : ByteArray)]) ?_ 2 _ rfl; (with_reducible repeat (first | refine blk_drewN ?_ _ | refine blk_drew ?_ | refine blk_alloc ?_ _)); refine blk_put (cs := #[.int .i64 ((rd_T37 l0 x3_1).f0.f0), .int .i64 0, .string (⟨#[]⟩ : ByteArray)]) ?_ 1 _ rfl; (with_reducible repeat (first | refine blk_drewN ?_ _ | refine blk_drew ?_ | refine blk_alloc ?_ _)); refine blk_put (cs := #[.int .i64 0, .int .i64 0, .string (⟨#[]⟩ : ByteArray)]) ?_ 0 _ rfl; (with_reducible repeat (first | refine blk_drewN ?_ _ | refine blk_drew ?_ | refine blk_alloc ?_ _)); exact BK202.out) hb); have n1_ := Aside0.mk (below_step (by repeat (first | (with_reducible first | exact HB.out | apply below_alloc | apply pw_below_drewN | apply below_drew1 | refine below_set ?_ GE202.out) | exact HB.out)) hb); clear BK202; clear HB; have BK202 := n0_; have HB := n1_; clear n0_ n1_; (try clear hb); (try clear hb2); (try clear hk); (try clear hi)) | ((with_reducible refine gate_dst (N := 5) rfl ?_); refine box_event ?hg (N := 5) ?hd (cs := #[.int .i64 0, .int .i64 0, .string (⟨#[]⟩ : ByteArray)]) (t := 24) ?hr ?_; (case hd => rfl); (case hg => rfl); (case hr => first | (go_simp; done) | (go_simp; rfl)); intro gb207 hg w13 hbox hb; have n0_ := Aside0.mk (blk_below (g := gb202) (o := .cells #[.int .i64 ((rd_T37 l0 x3_1).f0.f0), .int .i64 ((rd_T37 l0 x3_1).f0.f1), .string ((rd_T37 l0 x3_1).f0.f2)] 24 (0, 0)) (by (with_reducible repeat (first | refine blk_drewN ?_ _ | refine blk_drew ?_ | refine blk_alloc ?_ _)); exact BK202.out) hb); have n1_ := Aside0.mk (below_step (by repeat (first | (with_reducible first | exact HB.out | apply below_alloc | apply pw_below_drewN | apply below_drew1 | refine below_set ?_ GE202.out) | exact HB.out)) hb); have n2_ := Aside0.mk (hbox); have n3_ := Aside0.mk ((by rw [hg]; exact (below_size (by repeat (first | (with_reducible first | exact HB.out | apply below_alloc | apply pw_below_drewN | apply below_drew1 | refine below_set ?_ GE202.out) | exact HB.out))) : w.heap.size ≤ gb207)); have n4_ := Aside0.mk ((by rw [hg]; exact (below_size (by repeat (first | (with_reducible first | exact HB.out | apply below_alloc | apply pw_below_drewN | apply below_drew1 | refine below_set ?_ GE202.out) | exact HB.out))) : w.heap.size ≤ gb207)); have n5_ := Aside0.mk ((by rw [hg]; exact Nat.ne_of_lt (blk_lt (g := gb202) (o := .cells #[.int .i64 ((rd_T37 l0 x3_1).f0.f0), .int .i64 ((rd_T37 l0 x3_1).f0.f1), .string ((rd_T37 l0 x3_1).f0.f2)] 24 (0, 0)) (by (with_reducible repeat (first | refine blk_drewN ?_ _ | refine blk_drew ?_ | refine blk_alloc ?_ _)); exact BK202.out)) : gb202 ≠ gb207)); have n6_ := Aside0.mk ((by rw [hg]; exact Nat.ne_of_gt (blk_lt (g := gb202) (o := .cells #[.int .i64 ((rd_T37 l0 x3_1).f0.f0), .int .i64 ((rd_T37 l0 x3_1).f0.f1), .string ((rd_T37 l0 x3_1).f0.f2)] 24 (0, 0)) (by (with_reducible repeat (first | refine blk_drewN ?_ _ | refine blk_drew ?_ | refine blk_alloc ?_ _)); exact BK202.out)) : gb207 ≠ gb202)); clear BK202; clear HB; have BK202 := n0_; have HB := n1_; have BK207 := n2_; have GW207 := n3_; have GE207 := n4_; have NB202_207 := n5_; have NB207_202 := n6_; clear n0_ n1_ n2_ n3_ n4_ n5_ n6_; clear hb hbox hg; have hnb14 := NB207_202.out; have hnc14 := NB202_207.out; have hcz15_0 : w13.cell? ⟨gb207, 0, none⟩ = some (.int .i64 0) := (blk_cell BK207.out 0).trans rfl; have hcz15_1 : w13.cell? ⟨gb207, 1, none⟩ = some (.int .i64 0) := (blk_cell BK207.out 1).trans rfl; have hcz15_2 : w13.cell? ⟨gb207, 2, none⟩ = some (.string (⟨#[]⟩ : ByteArray)) := (blk_cell BK207.out 2).trans rfl; have hfz15_0 := blk_frozen BK207.out 0; have hfz15_1 := blk_frozen BK207.out 1; have hfz15_2 := blk_frozen BK207.out 2) | ((with_reducible refine gate_dst (N := 7) rfl ?_); refine box_event ?hg (N := 7) ?hd (cs := #[.int .i64 0, .int .i64 0, .string (⟨#[]⟩ : ByteArray)]) (t := 24) ?hr ?_; (case hd => rfl); (case hg => rfl); (case hr => first | (go_simp; done) | (go_simp; rfl)); intro gb208 hg w16 hbox hb; have n0_ := Aside0.mk (blk_below (g := gb202) (o := .cells #[.int .i64 ((rd_T37 l0 x3_1).f0.f0), .int .i64 ((rd_T37 l0 x3_1).f0.f1), .string ((rd_T37 l0 x3_1).f0.f2)] 24 (0, 0)) (by (with_reducible repeat (first | refine blk_drewN ?_ _ | refine blk_drew ?_ | refine blk_alloc ?_ _)); refine blk_far ?_ NB202_207.out _; (with_reducible repeat (first | refine blk_drewN ?_ _ | refine blk_drew ?_ | refine blk_alloc ?_ _)); refine blk_far ?_ NB202_207.out _; (with_reducible repeat (first | refine blk_drewN ?_ _ | refine blk_drew ?_ | refine blk_alloc ?_ _)); refine blk_far ?_ NB202_207.out _; (with_reducible repeat (first | refine blk_drewN ?_ _ | refine blk_drew ?_ | refine blk_alloc ?_ _)); exact BK202.out) hb); have n1_ := Aside0.mk (blk_below (g := gb207) (o := .cells #[.int .i64 t203, .int .i64 t204, .string t205] 24 (0, 0)) (by (with_reducible repeat (first | refine blk_drewN ?_ _ | refine blk_drew ?_ | refine blk_alloc ?_ _)); refine blk_put (cs := #[.int .i64 t203, .int .i64 t204, .string (⟨#[]⟩ : ByteArray)]) ?_ 2 _ rfl; (with_reducible repeat (first | refine blk_drewN ?_ _ | refine blk_drew ?_ | refine blk_alloc ?_ _)); refine blk_put (cs := #[.int .i64 t203, .int .i64 0, .string (⟨#[]⟩ : ByteArray)]) ?_ 1 _ rfl; (with_reducible repeat (first | refine blk_drewN ?_ _ | refine blk_drew ?_ | refine blk_alloc ?_ _)); refine blk_put (cs := #[.int .i64 0, .int .i64 0, .string (⟨#[]⟩ : ByteArray)]) ?_ 0 _ rfl; (with_reducible repeat (first | refine blk_drewN ?_ _ | refine blk_drew ?_ | refine blk_alloc ?_ _)); exact BK207.out) hb); have n2_ := Aside0.mk (below_step (by repeat (first | (with_reducible first | exact HB.out | apply below_alloc | apply pw_below_drewN | apply below_drew1 | refine below_set ?_ GE202.out | refine below_set ?_ GE207.out) | exact HB.out)) hb); have n3_ := Aside0.mk (hbox); have n4_ := Aside0.mk ((by rw [hg]; exact (below_size (by repeat (first | (with_reducible first | exact HB.out | apply below_alloc | apply pw_below_drewN | apply below_drew1 | refine below_set ?_ GE202.out | refine below_set ?_ GE207.out) | exact HB.out))) : w.heap.size ≤ gb208)); have n5_ := Aside0.mk ((by rw [hg]; exact (below_size (by repeat (first | (with_reducible first | exact HB.out | apply below_alloc | apply pw_below_drewN | apply below_drew1 | refine below_set ?_ GE202.out | refine below_set ?_ GE207.out) | exact HB.out))) : w.heap.size ≤ gb208)); have n6_ := Aside0.mk ((by rw [hg]; exact Nat.ne_of_lt (blk_lt (g := gb202) (o := .cells #[.int .i64 ((rd_T37 l0 x3_1).f0.f0), .int .i64 ((rd_T37 l0 x3_1).f0.f1), .string ((rd_T37 l0 x3_1).f0.f2)] 24 (0, 0)) (by (with_reducible repeat (first | refine blk_drewN ?_ _ | refine blk_drew ?_ | refine blk_alloc ?_ _)); refine blk_far ?_ NB202_207.out _; (with_reducible repeat (first | refine blk_drewN ?_ _ | refine blk_drew ?_ | refine blk_alloc ?_ _)); refine blk_far ?_ NB202_207.out _; (with_reducible repeat (first | refine blk_drewN ?_ _ | refine blk_drew ?_ | refine blk_alloc ?_ _)); refine blk_far ?_ NB202_207.out _; (with_reducible repeat (first | refine blk_drewN ?_ _ | refine blk_drew ?_ | refine blk_alloc ?_ _)); exact BK202.out)) : gb202 ≠ gb208)); have n7_ := Aside0.mk ((by rw [hg]; exact Nat.ne_of_gt (blk_lt (g := gb202) (o := .cells #[.int .i64 ((rd_T37 l0 x3_1).f0.f0), .int .i64 ((rd_T37 l0 x3_1).f0.f1), .string ((rd_T37 l0 x3_1).f0.f2)] 24 (0, 0)) (by (with_reducible repeat (first | refine blk_drewN ?_ _ | refine blk_drew ?_ | refine blk_alloc ?_ _)); refine blk_far ?_ NB202_207.out _; (with_reducible repeat (first | refine blk_drewN ?_ _ | refine blk_drew ?_ | refine blk_alloc ?_ _)); refine blk_far ?_ NB202_207.out _; (with_reducible repeat (first | refine blk_drewN ?_ _ | refine blk_drew ?_ | refine blk_alloc ?_ _)); refine blk_far ?_ NB202_207.out _; (with_reducible repeat (first | refine blk_drewN ?_ _ | refine blk_drew ?_ | refine blk_alloc ?_ _)); exact BK202.out)) : gb208 ≠ gb202)); have n8_ := Aside0.mk ((by rw [hg]; exact Nat.ne_of_lt (blk_lt (g := gb207) (o := .cells #[.int .i64 t203, .int .i64 t204, .string t205] 24 (0, 0)) (by (with_reducible repeat (first | refine blk_drewN ?_ _ | refine blk_drew ?_ | refine blk_alloc ?_ _)); refine blk_put (cs := #[.int .i64 t203, .int .i64 t204, .string (⟨#[]⟩ : ByteArray)]) ?_ 2 _ rfl; (with_reducible repeat (first | refine blk_drewN ?_ _ | refine blk_drew ?_ | refine blk_alloc ?_ _)); refine blk_put (cs := #[.int .i64 t203, .int .i64 0, .string (⟨#[]⟩ : ByteArray)]) ?_ 1 _ rfl; (with_reducible repeat (first | refine blk_drewN ?_ _ | refine blk_drew ?_ | refine blk_alloc ?_ _)); refine blk_put (cs := #[.int .i64 0, .int .i64 0, .string (⟨#[]⟩ : ByteArray)]) ?_ 0 _ rfl; (with_reducible repeat (first | refine blk_drewN ?_ _ | refine blk_drew ?_ | refine blk_alloc ?_ _)); exact BK207.out)) : gb207 ≠ gb208)); have n9_ := Aside0.mk ((by rw [hg]; exact Nat.ne_of_gt (blk_lt (g := gb207) (o := .cells #[.int .i64 t203, .int .i64 t204, .string t205] 24 (0, 0)) (by (with_reducible repeat (first | refine blk_drewN ?_ _ | refine blk_drew ?_ | refine blk_alloc ?_ _)); refine blk_put (cs := #[.int .i64 t203, .int .i64 t204, .string (⟨#[]⟩ : ByteArray)]) ?_ 2 _ rfl; (with_reducible repeat (first | refine blk_drewN ?_ _ | refine blk_drew ?_ | refine blk_alloc ?_ _)); refine blk_put (cs := #[.int .i64 t203, .int .i64 0, .string (⟨#[]⟩ : ByteArray)]) ?_ 1 _ rfl; (with_reducible repeat (first | refine blk_drewN ?_ _ | refine blk_drew ?_ | refine blk_alloc ?_ _)); refine blk_put (cs := #[.int .i64 0, .int .i64 0, .string (⟨#[]⟩ : ByteArray)]) ?_ 0 _ rfl; (with_reducible repeat (first | refine blk_drewN ?_ _ | refine blk_drew ?_ | refine blk_alloc ?_ _)); exact BK207.out)) : gb208 ≠ gb207)); clear BK202; clear BK207; clear HB; have BK202 := n0_; have BK207 := n1_; have HB := n2_; have BK208 := n3_; have GW208 := n4_; have GE208 := n5_; have NB202_208 := n6_; have NB208_202 := n7_; have NB207_208 := n8_; have NB208_207 := n9_; clear n0_ n1_ n2_ n3_ n4_ n5_ n6_ n7_ n8_ n9_; clear hb hbox hg; have hnb17 := NB208_202.out; have hnc17 := NB202_208.out; have hnb18 := NB208_207.out; have hnc18 := NB207_208.out; have hcz19_0 : w16.cell? ⟨gb208, 0, none⟩ = some (.int .i64 0) := (blk_cell BK208.out 0).trans rfl; have hcz19_1 : w16.cell? ⟨gb208, 1, none⟩ = some (.int .i64 0) := (blk_cell BK208.out 1).trans rfl; have hcz19_2 : w16.cell? ⟨gb208, 2, none⟩ = some (.string (⟨#[]⟩ : ByteArray)) := (blk_cell BK208.out 2).trans rfl; have hfz19_0 := blk_frozen BK208.out 0; have hfz19_1 := blk_frozen BK208.out 1; have hfz19_2 := blk_frozen BK208.out 2; have hcz20_0 : w16.cell? ⟨gb202, 0, none⟩ = some (.int .i64 ((rd_T37 l0 x3_1).f0.f0)) := (blk_cell BK202.out 0).trans rfl; have hcz20_1 : w16.cell? ⟨gb202, 1, none⟩ = some (.int .i64 ((rd_T37 l0 x3_1).f0.f1)) := (blk_cell BK202.out 1).trans rfl; have hcz20_2 : w16.cell? ⟨gb202, 2, none⟩ = some (.string ((rd_T37 l0 x3_1).f0.f2)) := (blk_cell BK202.out 2).trans rfl; have hfz20_0 := blk_frozen BK202.out 0; have hfz20_1 := blk_frozen BK202.out 1; have hfz20_2 := blk_frozen BK202.out 2) | ((with_reducible refine gate_callee (f := 31) rfl ?_); refine goesL_ (some 37) rfl rfl Try.func31 (by kernel_rfl) rfl #[.agg #[.int .i64 ((rd_T37 l0 x3_1).f0.f0), .int .i64 ((rd_T37 l0 x3_1).f0.f1), .string ((rd_T37 l0 x3_1).f0.f2)]] rfl (by (try simp only [List.map_toArray, List.map_cons, List.map_nil]); first | done | rfl | (simp only [List.length_drop, List.length_take]; rfl)) ?_; (with_reducible refine (cadastreref2_May.calls ((rd_T37 l0 x3_1).f0.f0) ((rd_T37 l0 x3_1).f0.f1) ((rd_T37 l0 x3_1).f0.f2) t209 _ A8.out).mono ?_); rintro e w21 ⟨rfl, hb⟩; refine ⟨_, rfl, ?_⟩; have n0_ := Aside0.mk (blk_below (g := gb202) (o := .cells #[.int .i64 ((rd_T37 l0 x3_1).f0.f0), .int .i64 ((rd_T37 l0 x3_1).f0.f1), .string ((rd_T37 l0 x3_1).f0.f2)] 24 (0, 0)) (by (with_reducible repeat (first | refine blk_drewN ?_ _ | refine blk_drew ?_ | refine blk_alloc ?_ _)); refine blk_far ?_ NB202_208.out _; (with_reducible repeat (first | refine blk_drewN ?_ _ | refine blk_drew ?_ | refine blk_alloc ?_ _)); refine blk_far ?_ NB202_208.out _; (with_reducible repeat (first | refine blk_drewN ?_ _ | refine blk_drew ?_ | refine blk_alloc ?_ _)); refine blk_far ?_ NB202_208.out _; (with_reducible repeat (first | refine blk_drewN ?_ _ | refine blk_drew ?_ | refine blk_alloc ?_ _)); exact BK202.out) hb); have n1_ := Aside0.mk (blk_below (g := gb207) (o := .cells #[.int .i64 t203, .int .i64 t204, .string t205] 24 (0, 0)) (by (with_reducible repeat (first | refine blk_drewN ?_ _ | refine blk_drew ?_ | refine blk_alloc ?_ _)); refine blk_far ?_ NB207_208.out _; (with_reducible repeat (first | refine blk_drewN ?_ _ | refine blk_drew ?_ | refine blk_alloc ?_ _)); refine blk_far ?_ NB207_208.out _; (with_reducible repeat (first | refine blk_drewN ?_ _ | refine blk_drew ?_ | refine blk_alloc ?_ _)); refine blk_far ?_ NB207_208.out _; (with_reducible repeat (first | refine blk_drewN ?_ _ | refine blk_drew ?_ | refine blk_alloc ?_ _)); exact BK207.out) hb); have n2_ := Aside0.mk (blk_below (g := gb208) (o := .cells #[.int .i64 0, .int .i64 0, .string (⟨#[]⟩ : ByteArray)] 24 (0, 0)) (by (with_reducible repeat (first | refine blk_drewN ?_ _ | refine blk_drew ?_ | refine blk_alloc ?_ _)); refine blk_put (cs := #[.int .i64 0, .int .i64 0, .string (⟨#[]⟩ : ByteArray)]) ?_ 2 _ rfl; (with_reducible repeat (first | refine blk_drewN ?_ _ | refine blk_drew ?_ | refine blk_alloc ?_ _)); refine blk_put (cs := #[.int .i64 0, .int .i64 0, .string (⟨#[]⟩ : ByteArray)]) ?_ 1 _ rfl; (with_reducible repeat (first | refine blk_drewN ?_ _ | refine blk_drew ?_ | refine blk_alloc ?_ _)); refine blk_put (cs := #[.int .i64 0, .int .i64 0, .string (⟨#[]⟩ : ByteArray)]) ?_ 0 _ rfl; (with_reducible repeat (first | refine blk_drewN ?_ _ | refine blk_drew ?_ | refine blk_alloc ?_ _)); exact BK208.out) hb); have n3_ := Aside0.mk (below_step (by repeat (first | (with_reducible first | exact HB.out | apply below_alloc | apply pw_below_drewN | apply below_drew1 | refine below_set ?_ GE202.out | refine below_set ?_ GE207.out | refine below_set ?_ GE208.out) | exact HB.out)) hb); clear BK202; clear BK207; clear BK208; clear HB; have BK202 := n0_; have BK207 := n1_; have BK208 := n2_; have HB := n3_; clear n0_ n1_ n2_ n3_; (try clear hb); (try clear hb2); (try clear hk); (try clear hi)))
            (try simp only [Act.put, List.setIfInBounds_toArray, List.set_cons_zero, List.set_cons_succ])
            go_cut [8] (fun v8 wc => ∃ (kq : Nat) (x8_8 : Int) (x209000_8 : Int) (x209001_8 : Int) (x209002_8 : ByteArray), v8 = .int .i64 x8_8 ∧ Aside0 (cadastrelaw3_LogicNots.j2 kq l0 x3_1 t206 x8_8 ((rd_T37 l0 x3_1).f0.f0) ((rd_T37 l0 x3_1).f0.f1) ((rd_T37 l0 x3_1).f0.f2) t203 t204 t205 x209000_8 x209001_8 x209002_8 = some r) ∧ Aside0 (kq ≤ kj1) ∧ Aside0 (wc.heap[gb202]? = some (.cells #[.int .i64 ((rd_T37 l0 x3_1).f0.f0), .int .i64 ((rd_T37 l0 x3_1).f0.f1), .string ((rd_T37 l0 x3_1).f0.f2)] 24 (0, 0))) ∧ Aside0 (wc.heap[gb207]? = some (.cells #[.int .i64 t203, .int .i64 t204, .string t205] 24 (0, 0))) ∧ Aside0 (wc.heap[gb208]? = some (.cells #[.int .i64 x209000_8, .int .i64 x209001_8, .string x209002_8] 24 (0, 0))) ∧ Aside0 (Below w.heap.size w wc))
            case first =>
              have H := HC9.out
              clear HC9
              by_cases c22 : t209 = true
              · subst c22
                have H1 : ((cadastreref2_Not.f ((rd_T37 l0 x3_1).f0.f0) ((rd_T37 l0 x3_1).f0.f1) ((rd_T37 l0 x3_1).f0.f2)).bind fun bt210 => (cadastrelaw3_LogicNots.j2 kj1 l0 x3_1 t206 bt210.2.2.2 ((rd_T37 l0 x3_1).f0.f0) ((rd_T37 l0 x3_1).f0.f1) ((rd_T37 l0 x3_1).f0.f2) t203 t204 t205 bt210.1 bt210.2.1 bt210.2.2.1)) = some r := by rw [if_pos rfl] at H; exact H
                clear H
                have H := H1
                clear H1
                replace H := Option.bind_eq_some_iff.mp H
                obtain ⟨⟨t210, t211, t212, t213⟩, A230, H⟩ := H
                replace H : (cadastrelaw3_LogicNots.j2 kj1 l0 x3_1 t206 t213 ((rd_T37 l0 x3_1).f0.f0) ((rd_T37 l0 x3_1).f0.f1) ((rd_T37 l0 x3_1).f0.f2) t203 t204 t205 t210 t211 t212) = some r := H
                have A23 := Aside0.mk A230
                clear A230
                have H' := Aside0.mk H
                clear H
                have hnb24 := NB202_207.out
                have hnc24 := NB207_202.out
                have hnb25 := NB202_208.out
                have hnc25 := NB208_202.out
                have hcz26_0 : w21.cell? ⟨gb202, 0, none⟩ = some (.int .i64 ((rd_T37 l0 x3_1).f0.f0)) := (blk_cell BK202.out 0).trans rfl
                have hcz26_1 : w21.cell? ⟨gb202, 1, none⟩ = some (.int .i64 ((rd_T37 l0 x3_1).f0.f1)) := (blk_cell BK202.out 1).trans rfl
                have hcz26_2 : w21.cell? ⟨gb202, 2, none⟩ = some (.string ((rd_T37 l0 x3_1).f0.f2)) := (blk_cell BK202.out 2).trans rfl
                have hfz26_0 := blk_frozen BK202.out 0
                have hfz26_1 := blk_frozen BK202.out 1
                have hfz26_2 := blk_frozen BK202.out 2
                go_wp2_with (first | ((with_reducible refine gate_callee (f := 41) rfl ?_); refine goesL_ (some 40) rfl rfl Try.func41 (by kernel_rfl) rfl #[.agg #[.int .i64 ((rd_T37 l0 x3_1).f0.f0), .int .i64 ((rd_T37 l0 x3_1).f0.f1), .string ((rd_T37 l0 x3_1).f0.f2)]] rfl (by (try simp only [List.map_toArray, List.map_cons, List.map_nil]); first | done | rfl | (simp only [List.length_drop, List.length_take]; rfl)) ?_; (with_reducible refine (cadastreref2_Not.calls ((rd_T37 l0 x3_1).f0.f0) ((rd_T37 l0 x3_1).f0.f1) ((rd_T37 l0 x3_1).f0.f2) t210 t211 t212 t213 _ A23.out).mono ?_); rintro e w27 ⟨rfl, hb⟩; refine ⟨_, rfl, ?_⟩; have n0_ := Aside0.mk (blk_below (g := gb202) (o := .cells #[.int .i64 ((rd_T37 l0 x3_1).f0.f0), .int .i64 ((rd_T37 l0 x3_1).f0.f1), .string ((rd_T37 l0 x3_1).f0.f2)] 24 (0, 0)) (by (with_reducible repeat (first | refine blk_drewN ?_ _ | refine blk_drew ?_ | refine blk_alloc ?_ _)); exact BK202.out) hb); have n1_ := Aside0.mk (blk_below (g := gb207) (o := .cells #[.int .i64 t203, .int .i64 t204, .string t205] 24 (0, 0)) (by (with_reducible repeat (first | refine blk_drewN ?_ _ | refine blk_drew ?_ | refine blk_alloc ?_ _)); exact BK207.out) hb); have n2_ := Aside0.mk (blk_below (g := gb208) (o := .cells #[.int .i64 0, .int .i64 0, .string (⟨#[]⟩ : ByteArray)] 24 (0, 0)) (by (with_reducible repeat (first | refine blk_drewN ?_ _ | refine blk_drew ?_ | refine blk_alloc ?_ _)); exact BK208.out) hb); have n3_ := Aside0.mk (below_step (by repeat (first | (with_reducible first | exact HB.out | apply below_alloc | apply pw_below_drewN | apply below_drew1 | refine below_set ?_ GE202.out | refine below_set ?_ GE207.out | refine below_set ?_ GE208.out) | exact HB.out)) hb); clear BK202; clear BK207; clear BK208; clear HB; have BK202 := n0_; have BK207 := n1_; have BK208 := n2_; have HB := n3_; clear n0_ n1_ n2_ n3_; (try clear hb); (try clear hb2); (try clear hk); (try clear hi); have hnb28 := NB208_207.out; have hnc28 := NB207_208.out; have hcz29_0 : w27.cell? ⟨gb208, 0, none⟩ = some (.int .i64 0) := (blk_cell BK208.out 0).trans rfl; have hcz29_1 : w27.cell? ⟨gb208, 1, none⟩ = some (.int .i64 0) := (blk_cell BK208.out 1).trans rfl; have hcz29_2 : w27.cell? ⟨gb208, 2, none⟩ = some (.string (⟨#[]⟩ : ByteArray)) := (blk_cell BK208.out 2).trans rfl; have hfz29_0 := blk_frozen BK208.out 0; have hfz29_1 := blk_frozen BK208.out 1; have hfz29_2 := blk_frozen BK208.out 2))
                go_meet
                case rel => exact ⟨_, (t213), (t210), (t211), (t212), (by first | rfl | (simp; done) | (simp [*]; done)), H', ⟨by have := HK1.out; have := HJ1.out; first | omega | exact Nat.le_refl _⟩, ⟨by (with_reducible repeat (first | refine blk_drewN ?_ _ | refine blk_drew ?_ | refine blk_alloc ?_ _)); refine blk_far ?_ NB202_208.out _; (with_reducible repeat (first | refine blk_drewN ?_ _ | refine blk_drew ?_ | refine blk_alloc ?_ _)); refine blk_far ?_ NB202_208.out _; (with_reducible repeat (first | refine blk_drewN ?_ _ | refine blk_drew ?_ | refine blk_alloc ?_ _)); refine blk_far ?_ NB202_208.out _; (with_reducible repeat (first | refine blk_drewN ?_ _ | refine blk_drew ?_ | refine blk_alloc ?_ _)); exact BK202.out⟩, ⟨by (with_reducible repeat (first | refine blk_drewN ?_ _ | refine blk_drew ?_ | refine blk_alloc ?_ _)); refine blk_far ?_ NB207_208.out _; (with_reducible repeat (first | refine blk_drewN ?_ _ | refine blk_drew ?_ | refine blk_alloc ?_ _)); refine blk_far ?_ NB207_208.out _; (with_reducible repeat (first | refine blk_drewN ?_ _ | refine blk_drew ?_ | refine blk_alloc ?_ _)); refine blk_far ?_ NB207_208.out _; (with_reducible repeat (first | refine blk_drewN ?_ _ | refine blk_drew ?_ | refine blk_alloc ?_ _)); exact BK207.out⟩, ⟨by (with_reducible repeat (first | refine blk_drewN ?_ _ | refine blk_drew ?_ | refine blk_alloc ?_ _)); refine blk_put (cs := #[.int .i64 t210, .int .i64 t211, .string (⟨#[]⟩ : ByteArray)]) ?_ 2 _ rfl; (with_reducible repeat (first | refine blk_drewN ?_ _ | refine blk_drew ?_ | refine blk_alloc ?_ _)); refine blk_put (cs := #[.int .i64 t210, .int .i64 0, .string (⟨#[]⟩ : ByteArray)]) ?_ 1 _ rfl; (with_reducible repeat (first | refine blk_drewN ?_ _ | refine blk_drew ?_ | refine blk_alloc ?_ _)); refine blk_put (cs := #[.int .i64 0, .int .i64 0, .string (⟨#[]⟩ : ByteArray)]) ?_ 0 _ rfl; (with_reducible repeat (first | refine blk_drewN ?_ _ | refine blk_drew ?_ | refine blk_alloc ?_ _)); exact BK208.out⟩, ⟨by repeat (first | (with_reducible first | exact HB.out | apply below_alloc | apply pw_below_drewN | apply below_drew1 | refine below_set ?_ GE202.out | refine below_set ?_ GE207.out | refine below_set ?_ GE208.out) | exact HB.out)⟩⟩
              · replace c22 := Bool.eq_false_iff.mpr c22
                subst c22
                have H1 : (cadastrelaw3_LogicNots.j2 kj1 l0 x3_1 t206 1 ((rd_T37 l0 x3_1).f0.f0) ((rd_T37 l0 x3_1).f0.f1) ((rd_T37 l0 x3_1).f0.f2) t203 t204 t205 0 0 (⟨#[]⟩ : ByteArray)) = some r := by rw [if_neg (show ¬ (false = true) by decide)] at H; exact H
                clear H
                have H := H1
                clear H1
                have H' := Aside0.mk H
                clear H
                go_wp2
                go_meet
                case rel => exact ⟨_, (1), (0), (0), ((⟨#[]⟩ : ByteArray)), (by first | rfl | (simp; done) | (simp [*]; done)), H', ⟨by have := HK1.out; have := HJ1.out; first | omega | exact Nat.le_refl _⟩, ⟨by (with_reducible repeat (first | refine blk_drewN ?_ _ | refine blk_drew ?_ | refine blk_alloc ?_ _)); exact BK202.out⟩, ⟨by (with_reducible repeat (first | refine blk_drewN ?_ _ | refine blk_drew ?_ | refine blk_alloc ?_ _)); exact BK207.out⟩, ⟨by (with_reducible repeat (first | refine blk_drewN ?_ _ | refine blk_drew ?_ | refine blk_alloc ?_ _)); exact BK208.out⟩, ⟨by repeat (first | (with_reducible first | exact HB.out | apply below_alloc | apply pw_below_drewN | apply below_drew1 | refine below_set ?_ GE202.out | refine below_set ?_ GE207.out | refine below_set ?_ GE208.out) | exact HB.out)⟩⟩
            case rest =>
              clear HC9
              try clear c1
              try clear c2
              try clear p2
              try clear q2
              try clear hx2
              try clear c3
              try clear c3b0
              try clear c4
              try clear c5
              try clear c5b0
              try clear c6
              try clear c6b0
              try clear c10
              try clear c14
              try clear c17
              try clear c18
              try clear p20
              try clear q20
              try clear hx20
              try clear c22
              try clear c24
              try clear c25
              try clear c28
              try clear hcz11_0
              try clear hcz11_1
              try clear hcz11_2
              try clear hcz15_0
              try clear hcz15_1
              try clear hcz15_2
              try clear hcz19_0
              try clear hcz19_1
              try clear hcz19_2
              try clear hcz20_0
              try clear hcz20_1
              try clear hcz20_2
              try clear hcz26_0
              try clear hcz26_1
              try clear hcz26_2
              try clear hcz29_0
              try clear hcz29_1
              try clear hcz29_2
              try clear hfz11_0
              try clear hfz11_1
              try clear hfz11_2
              try clear hfz15_0
              try clear hfz15_1
              try clear hfz15_2
              try clear hfz19_0
              try clear hfz19_1
              try clear hfz19_2
              try clear hfz20_0
              try clear hfz20_1
              try clear hfz20_2
              try clear hfz26_0
              try clear hfz26_1
              try clear hfz26_2
              try clear hfz29_0
              try clear hfz29_1
              try clear hfz29_2
              try clear hx201_0
              try clear hx201_1
              try clear hx201_2
              try clear hx201_3
              try clear hx201_4
              try clear hx201_5
              try clear hx201_6
              try clear p2
              try clear p201
              try clear q201
              obtain ⟨kq, x8_8, x209000_8, x209001_8, x209002_8, rfl, HA, HJ8, BK202, BK207, BK208, HB⟩ := hcut
              cases kq with
              | zero => exact absurd HA.out (by simp [cadastrelaw3_LogicNots.j2])
              | succ kj8 =>
                have H := HA.out
                clear HA
                simp only [cadastrelaw3_LogicNots.j2] at H
                replace H := Option.bind_eq_some_iff.mp H
                obtain ⟨t214, A300, H⟩ := H
                replace H : (if t214 = true then (if x8_8 = 0 then ((logic_Not.f t203 t204 t205).bind fun bt215 => ((logic_True.f ((rd_T37 l0 x3_1).f0.f0) ((rd_T37 l0 x3_1).f0.f1) ((rd_T37 l0 x3_1).f0.f2)).bind fun bt220 => ((logic_True.f bt215.1 bt215.2.1 bt215.2.2.1).bind fun bt222 => ((cadastrelaw3_num.f bt215.2.2.2).bind fun t224 => (if t224 = 0 then ((cadastrelaw3_num.f bt220.2).bind fun t225 => (if t225 = 0 then ((cadastrelaw3_num.f bt222.2).bind fun t226 => (if t226 = 0 then (if (bt220.1 != bt222.1) = true then (some false) else (cadastrelaw3_LogicNots.l0 kj8 l0 (wrap64 (x3_1 + 1)))) else (some false))) else (some false))) else (some false)))))) else (cadastrelaw3_LogicNots.l0 kj8 l0 (wrap64 (x3_1 + 1)))) else (some false)) = some r := H
                have A30 := Aside0.mk A300
                clear A300
                by_cases c31 : t214 = true
                · subst c31
                  have H1 : (if x8_8 = 0 then ((logic_Not.f t203 t204 t205).bind fun bt215 => ((logic_True.f ((rd_T37 l0 x3_1).f0.f0) ((rd_T37 l0 x3_1).f0.f1) ((rd_T37 l0 x3_1).f0.f2)).bind fun bt220 => ((logic_True.f bt215.1 bt215.2.1 bt215.2.2.1).bind fun bt222 => ((cadastrelaw3_num.f bt215.2.2.2).bind fun t224 => (if t224 = 0 then ((cadastrelaw3_num.f bt220.2).bind fun t225 => (if t225 = 0 then ((cadastrelaw3_num.f bt222.2).bind fun t226 => (if t226 = 0 then (if (bt220.1 != bt222.1) = true then (some false) else (cadastrelaw3_LogicNots.l0 kj8 l0 (wrap64 (x3_1 + 1)))) else (some false))) else (some false))) else (some false)))))) else (cadastrelaw3_LogicNots.l0 kj8 l0 (wrap64 (x3_1 + 1)))) = some r := by rw [if_pos rfl] at H; exact H
                  clear H
                  have H := H1
                  clear H1
                  by_cases c32 : x8_8 = 0
                  rotate_left
                  · rw [if_neg c32] at H
                    have c32b0 : (x8_8 == 0) = false := beq_eq_false_iff_ne.mpr c32
                    have c32b1 : (x8_8 != 0) = true := bne_iff_ne.mpr c32
                    have H' := Aside0.mk H
                    clear H
                    have hnb33 := NB207_202.out
                    have hnc33 := NB202_207.out
                    have hnb34 := NB207_208.out
                    have hnc34 := NB208_207.out
                    have hcz35_0 : wc.cell? ⟨gb207, 0, none⟩ = some (.int .i64 t203) := (blk_cell BK207.out 0).trans rfl
                    have hcz35_1 : wc.cell? ⟨gb207, 1, none⟩ = some (.int .i64 t204) := (blk_cell BK207.out 1).trans rfl
                    have hcz35_2 : wc.cell? ⟨gb207, 2, none⟩ = some (.string t205) := (blk_cell BK207.out 2).trans rfl
                    have hfz35_0 := blk_frozen BK207.out 0
                    have hfz35_1 := blk_frozen BK207.out 1
                    have hfz35_2 := blk_frozen BK207.out 2
                    have hnb36 := NB208_202.out
                    have hnc36 := NB202_208.out
                    have hcz37_0 : wc.cell? ⟨gb208, 0, none⟩ = some (.int .i64 x209000_8) := (blk_cell BK208.out 0).trans rfl
                    have hcz37_1 : wc.cell? ⟨gb208, 1, none⟩ = some (.int .i64 x209001_8) := (blk_cell BK208.out 1).trans rfl
                    have hcz37_2 : wc.cell? ⟨gb208, 2, none⟩ = some (.string x209002_8) := (blk_cell BK208.out 2).trans rfl
                    have hfz37_0 := blk_frozen BK208.out 0
                    have hfz37_1 := blk_frozen BK208.out 1
                    have hfz37_2 := blk_frozen BK208.out 2
                    go_wp2_with (first | ((with_reducible refine gate_callee (f := 33) rfl ?_); refine goesL_ (some 47) rfl rfl Try.func33 (by kernel_rfl) rfl #[.agg #[.int .i64 t203, .int .i64 t204, .string t205], .int .i64 t206, .agg #[.int .i64 x209000_8, .int .i64 x209001_8, .string x209002_8], .int .i64 x8_8] rfl (by (try simp only [List.map_toArray, List.map_cons, List.map_nil]); first | done | rfl | (simp only [List.length_drop, List.length_take]; rfl)) ?_; (with_reducible refine (cadastrelaw3_is.calls t203 t204 t205 t206 x209000_8 x209001_8 x209002_8 x8_8 true _ A30.out).mono ?_); rintro e w38 ⟨rfl, hb⟩; refine ⟨_, rfl, ?_⟩; have n0_ := Aside0.mk (blk_below (g := gb202) (o := .cells #[.int .i64 ((rd_T37 l0 x3_1).f0.f0), .int .i64 ((rd_T37 l0 x3_1).f0.f1), .string ((rd_T37 l0 x3_1).f0.f2)] 24 (0, 0)) (by (with_reducible repeat (first | refine blk_drewN ?_ _ | refine blk_drew ?_ | refine blk_alloc ?_ _)); exact BK202.out) hb); have n1_ := Aside0.mk (blk_below (g := gb207) (o := .cells #[.int .i64 t203, .int .i64 t204, .string t205] 24 (0, 0)) (by (with_reducible repeat (first | refine blk_drewN ?_ _ | refine blk_drew ?_ | refine blk_alloc ?_ _)); exact BK207.out) hb); have n2_ := Aside0.mk (blk_below (g := gb208) (o := .cells #[.int .i64 x209000_8, .int .i64 x209001_8, .string x209002_8] 24 (0, 0)) (by (with_reducible repeat (first | refine blk_drewN ?_ _ | refine blk_drew ?_ | refine blk_alloc ?_ _)); exact BK208.out) hb); have n3_ := Aside0.mk (below_step (by repeat (first | (with_reducible first | exact HB.out | apply below_alloc | apply pw_below_drewN | apply below_drew1 | refine below_set ?_ GE202.out | refine below_set ?_ GE207.out | refine below_set ?_ GE208.out) | exact HB.out)) hb); clear BK202; clear BK207; clear BK208; clear HB; have BK202 := n0_; have BK207 := n1_; have BK208 := n2_; have HB := n3_; clear n0_ n1_ n2_ n3_; (try clear hb); (try clear hb2); (try clear hk); (try clear hi)))
                    go_roundg kj8
                    case measure => have := HK1.out; have := HJ1.out; have := HJ8.out; omega
                    case rel => exact ⟨(wrap64 (x3_1 + 1)), (by first | rfl | (simp; done) | (simp [*]; done)), H', ⟨by have := HK1.out; have := HJ1.out; have := HJ8.out; omega⟩, ⟨by repeat (first | (with_reducible first | exact HB.out | apply below_alloc | apply pw_below_drewN | apply below_drew1 | refine below_set ?_ GE202.out | refine below_set ?_ GE207.out | refine below_set ?_ GE208.out) | exact HB.out)⟩⟩
                  rw [if_pos c32] at H
                  have c32b0 : (x8_8 == 0) = true := beq_iff_eq.mpr c32
                  have c32b1 : (x8_8 != 0) = false := bne_eq_false_iff_eq.mpr c32
                  clear c32
                  replace H := Option.bind_eq_some_iff.mp H
                  obtain ⟨⟨t215, t216, t217, t218⟩, A390, H⟩ := H
                  replace H : ((logic_True.f ((rd_T37 l0 x3_1).f0.f0) ((rd_T37 l0 x3_1).f0.f1) ((rd_T37 l0 x3_1).f0.f2)).bind fun bt220 => ((logic_True.f t215 t216 t217).bind fun bt222 => ((cadastrelaw3_num.f t218).bind fun t224 => (if t224 = 0 then ((cadastrelaw3_num.f bt220.2).bind fun t225 => (if t225 = 0 then ((cadastrelaw3_num.f bt222.2).bind fun t226 => (if t226 = 0 then (if (bt220.1 != bt222.1) = true then (some false) else (cadastrelaw3_LogicNots.l0 kj8 l0 (wrap64 (x3_1 + 1)))) else (some false))) else (some false))) else (some false))))) = some r := H
                  have A39 := Aside0.mk A390
                  clear A390
                  replace H := Option.bind_eq_some_iff.mp H
                  obtain ⟨⟨t220, t221⟩, A400, H⟩ := H
                  replace H : ((logic_True.f t215 t216 t217).bind fun bt222 => ((cadastrelaw3_num.f t218).bind fun t224 => (if t224 = 0 then ((cadastrelaw3_num.f t221).bind fun t225 => (if t225 = 0 then ((cadastrelaw3_num.f bt222.2).bind fun t226 => (if t226 = 0 then (if (t220 != bt222.1) = true then (some false) else (cadastrelaw3_LogicNots.l0 kj8 l0 (wrap64 (x3_1 + 1)))) else (some false))) else (some false))) else (some false)))) = some r := H
                  have A40 := Aside0.mk A400
                  clear A400
                  replace H := Option.bind_eq_some_iff.mp H
                  obtain ⟨⟨t222, t223⟩, A410, H⟩ := H
                  replace H : ((cadastrelaw3_num.f t218).bind fun t224 => (if t224 = 0 then ((cadastrelaw3_num.f t221).bind fun t225 => (if t225 = 0 then ((cadastrelaw3_num.f t223).bind fun t226 => (if t226 = 0 then (if (t220 != t222) = true then (some false) else (cadastrelaw3_LogicNots.l0 kj8 l0 (wrap64 (x3_1 + 1)))) else (some false))) else (some false))) else (some false))) = some r := H
                  have A41 := Aside0.mk A410
                  clear A410
                  replace H := Option.bind_eq_some_iff.mp H
                  obtain ⟨t224, A420, H⟩ := H
                  replace H : (if t224 = 0 then ((cadastrelaw3_num.f t221).bind fun t225 => (if t225 = 0 then ((cadastrelaw3_num.f t223).bind fun t226 => (if t226 = 0 then (if (t220 != t222) = true then (some false) else (cadastrelaw3_LogicNots.l0 kj8 l0 (wrap64 (x3_1 + 1)))) else (some false))) else (some false))) else (some false)) = some r := H
                  have A42 := Aside0.mk A420
                  clear A420
                  by_cases c43 : t224 = 0
                  rotate_left
                  · rw [if_neg c43] at H
                    have c43b0 : (t224 == 0) = false := beq_eq_false_iff_ne.mpr c43
                    have c43b1 : (t224 != 0) = true := bne_iff_ne.mpr c43
                    obtain rfl := Option.some.inj H
                    have hnb44 := NB207_202.out
                    have hnc44 := NB202_207.out
                    have hnb45 := NB207_208.out
                    have hnc45 := NB208_207.out
                    have hcz46_0 : wc.cell? ⟨gb207, 0, none⟩ = some (.int .i64 t203) := (blk_cell BK207.out 0).trans rfl
                    have hcz46_1 : wc.cell? ⟨gb207, 1, none⟩ = some (.int .i64 t204) := (blk_cell BK207.out 1).trans rfl
                    have hcz46_2 : wc.cell? ⟨gb207, 2, none⟩ = some (.string t205) := (blk_cell BK207.out 2).trans rfl
                    have hfz46_0 := blk_frozen BK207.out 0
                    have hfz46_1 := blk_frozen BK207.out 1
                    have hfz46_2 := blk_frozen BK207.out 2
                    have hnb47 := NB208_202.out
                    have hnc47 := NB202_208.out
                    have hcz48_0 : wc.cell? ⟨gb208, 0, none⟩ = some (.int .i64 x209000_8) := (blk_cell BK208.out 0).trans rfl
                    have hcz48_1 : wc.cell? ⟨gb208, 1, none⟩ = some (.int .i64 x209001_8) := (blk_cell BK208.out 1).trans rfl
                    have hcz48_2 : wc.cell? ⟨gb208, 2, none⟩ = some (.string x209002_8) := (blk_cell BK208.out 2).trans rfl
                    have hfz48_0 := blk_frozen BK208.out 0
                    have hfz48_1 := blk_frozen BK208.out 1
                    have hfz48_2 := blk_frozen BK208.out 2
                    go_wp2_with (first | ((with_reducible refine gate_callee (f := 33) rfl ?_); refine goesL_ (some 47) rfl rfl Try.func33 (by kernel_rfl) rfl #[.agg #[.int .i64 t203, .int .i64 t204, .string t205], .int .i64 t206, .agg #[.int .i64 x209000_8, .int .i64 x209001_8, .string x209002_8], .int .i64 x8_8] rfl (by (try simp only [List.map_toArray, List.map_cons, List.map_nil]); first | done | rfl | (simp only [List.length_drop, List.length_take]; rfl)) ?_; (with_reducible refine (cadastrelaw3_is.calls t203 t204 t205 t206 x209000_8 x209001_8 x209002_8 x8_8 true _ A30.out).mono ?_); rintro e w49 ⟨rfl, hb⟩; refine ⟨_, rfl, ?_⟩; have n0_ := Aside0.mk (blk_below (g := gb202) (o := .cells #[.int .i64 ((rd_T37 l0 x3_1).f0.f0), .int .i64 ((rd_T37 l0 x3_1).f0.f1), .string ((rd_T37 l0 x3_1).f0.f2)] 24 (0, 0)) (by (with_reducible repeat (first | refine blk_drewN ?_ _ | refine blk_drew ?_ | refine blk_alloc ?_ _)); exact BK202.out) hb); have n1_ := Aside0.mk (blk_below (g := gb207) (o := .cells #[.int .i64 t203, .int .i64 t204, .string t205] 24 (0, 0)) (by (with_reducible repeat (first | refine blk_drewN ?_ _ | refine blk_drew ?_ | refine blk_alloc ?_ _)); exact BK207.out) hb); have n2_ := Aside0.mk (blk_below (g := gb208) (o := .cells #[.int .i64 x209000_8, .int .i64 x209001_8, .string x209002_8] 24 (0, 0)) (by (with_reducible repeat (first | refine blk_drewN ?_ _ | refine blk_drew ?_ | refine blk_alloc ?_ _)); exact BK208.out) hb); have n3_ := Aside0.mk (below_step (by repeat (first | (with_reducible first | exact HB.out | apply below_alloc | apply pw_below_drewN | apply below_drew1 | refine below_set ?_ GE202.out | refine below_set ?_ GE207.out | refine below_set ?_ GE208.out) | exact HB.out)) hb); clear BK202; clear BK207; clear BK208; clear HB; have BK202 := n0_; have BK207 := n1_; have BK208 := n2_; have HB := n3_; clear n0_ n1_ n2_ n3_; (try clear hb); (try clear hb2); (try clear hk); (try clear hi); have hcz50_0 : w49.cell? ⟨gb207, 0, none⟩ = some (.int .i64 t203) := (blk_cell BK207.out 0).trans rfl; have hcz50_1 : w49.cell? ⟨gb207, 1, none⟩ = some (.int .i64 t204) := (blk_cell BK207.out 1).trans rfl; have hcz50_2 : w49.cell? ⟨gb207, 2, none⟩ = some (.string t205) := (blk_cell BK207.out 2).trans rfl; have hfz50_0 := blk_frozen BK207.out 0; have hfz50_1 := blk_frozen BK207.out 1; have hfz50_2 := blk_frozen BK207.out 2) | ((with_reducible refine gate_callee (f := 40) rfl ?_); refine goesL_ (some 53) rfl rfl Try.func40 (by kernel_rfl) rfl #[.agg #[.int .i64 t203, .int .i64 t204, .string t205]] rfl (by (try simp only [List.map_toArray, List.map_cons, List.map_nil]); first | done | rfl | (simp only [List.length_drop, List.length_take]; rfl)) ?_; (with_reducible refine (logic_Not.calls t203 t204 t205 t215 t216 t217 t218 _ A39.out).mono ?_); rintro e w51 ⟨rfl, hb⟩; refine ⟨_, rfl, ?_⟩; have n0_ := Aside0.mk (blk_below (g := gb202) (o := .cells #[.int .i64 ((rd_T37 l0 x3_1).f0.f0), .int .i64 ((rd_T37 l0 x3_1).f0.f1), .string ((rd_T37 l0 x3_1).f0.f2)] 24 (0, 0)) (by (with_reducible repeat (first | refine blk_drewN ?_ _ | refine blk_drew ?_ | refine blk_alloc ?_ _)); exact BK202.out) hb); have n1_ := Aside0.mk (blk_below (g := gb207) (o := .cells #[.int .i64 t203, .int .i64 t204, .string t205] 24 (0, 0)) (by (with_reducible repeat (first | refine blk_drewN ?_ _ | refine blk_drew ?_ | refine blk_alloc ?_ _)); exact BK207.out) hb); have n2_ := Aside0.mk (blk_below (g := gb208) (o := .cells #[.int .i64 x209000_8, .int .i64 x209001_8, .string x209002_8] 24 (0, 0)) (by (with_reducible repeat (first | refine blk_drewN ?_ _ | refine blk_drew ?_ | refine blk_alloc ?_ _)); exact BK208.out) hb); have n3_ := Aside0.mk (below_step (by repeat (first | (with_reducible first | exact HB.out | apply below_alloc | apply pw_below_drewN | apply below_drew1 | refine below_set ?_ GE202.out | refine below_set ?_ GE207.out | refine below_set ?_ GE208.out) | exact HB.out)) hb); clear BK202; clear BK207; clear BK208; clear HB; have BK202 := n0_; have BK207 := n1_; have BK208 := n2_; have HB := n3_; clear n0_ n1_ n2_ n3_; (try clear hb); (try clear hb2); (try clear hk); (try clear hi)) | ((with_reducible refine gate_dst (N := 9) rfl ?_); refine box_event ?hg (N := 9) ?hd (cs := #[.int .i64 0, .int .i64 0, .string (⟨#[]⟩ : ByteArray)]) (t := 24) ?hr ?_; (case hd => rfl); (case hg => rfl); (case hr => first | (go_simp; done) | (go_simp; rfl)); intro gb219 hg w52 hbox hb; have n0_ := Aside0.mk (blk_below (g := gb202) (o := .cells #[.int .i64 ((rd_T37 l0 x3_1).f0.f0), .int .i64 ((rd_T37 l0 x3_1).f0.f1), .string ((rd_T37 l0 x3_1).f0.f2)] 24 (0, 0)) (by (with_reducible repeat (first | refine blk_drewN ?_ _ | refine blk_drew ?_ | refine blk_alloc ?_ _)); exact BK202.out) hb); have n1_ := Aside0.mk (blk_below (g := gb207) (o := .cells #[.int .i64 t203, .int .i64 t204, .string t205] 24 (0, 0)) (by (with_reducible repeat (first | refine blk_drewN ?_ _ | refine blk_drew ?_ | refine blk_alloc ?_ _)); exact BK207.out) hb); have n2_ := Aside0.mk (blk_below (g := gb208) (o := .cells #[.int .i64 x209000_8, .int .i64 x209001_8, .string x209002_8] 24 (0, 0)) (by (with_reducible repeat (first | refine blk_drewN ?_ _ | refine blk_drew ?_ | refine blk_alloc ?_ _)); exact BK208.out) hb); have n3_ := Aside0.mk (below_step (by repeat (first | (with_reducible first | exact HB.out | apply below_alloc | apply pw_below_drewN | apply below_drew1 | refine below_set ?_ GE202.out | refine below_set ?_ GE207.out | refine below_set ?_ GE208.out) | exact HB.out)) hb); have n4_ := Aside0.mk (hbox); have n5_ := Aside0.mk ((by rw [hg]; exact (below_size (by repeat (first | (with_reducible first | exact HB.out | apply below_alloc | apply pw_below_drewN | apply below_drew1 | refine below_set ?_ GE202.out | refine below_set ?_ GE207.out | refine below_set ?_ GE208.out) | exact HB.out))) : w.heap.size ≤ gb219)); have n6_ := Aside0.mk ((by rw [hg]; exact (below_size (by repeat (first | (with_reducible first | exact HB.out | apply below_alloc | apply pw_below_drewN | apply below_drew1 | refine below_set ?_ GE202.out | refine below_set ?_ GE207.out | refine below_set ?_ GE208.out) | exact HB.out))) : w.heap.size ≤ gb219)); have n7_ := Aside0.mk ((by rw [hg]; exact Nat.ne_of_lt (blk_lt (g := gb202) (o := .cells #[.int .i64 ((rd_T37 l0 x3_1).f0.f0), .int .i64 ((rd_T37 l0 x3_1).f0.f1), .string ((rd_T37 l0 x3_1).f0.f2)] 24 (0, 0)) (by (with_reducible repeat (first | refine blk_drewN ?_ _ | refine blk_drew ?_ | refine blk_alloc ?_ _)); exact BK202.out)) : gb202 ≠ gb219)); have n8_ := Aside0.mk ((by rw [hg]; exact Nat.ne_of_gt (blk_lt (g := gb202) (o := .cells #[.int .i64 ((rd_T37 l0 x3_1).f0.f0), .int .i64 ((rd_T37 l0 x3_1).f0.f1), .string ((rd_T37 l0 x3_1).f0.f2)] 24 (0, 0)) (by (with_reducible repeat (first | refine blk_drewN ?_ _ | refine blk_drew ?_ | refine blk_alloc ?_ _)); exact BK202.out)) : gb219 ≠ gb202)); have n9_ := Aside0.mk ((by rw [hg]; exact Nat.ne_of_lt (blk_lt (g := gb207) (o := .cells #[.int .i64 t203, .int .i64 t204, .string t205] 24 (0, 0)) (by (with_reducible repeat (first | refine blk_drewN ?_ _ | refine blk_drew ?_ | refine blk_alloc ?_ _)); exact BK207.out)) : gb207 ≠ gb219)); have n10_ := Aside0.mk ((by rw [hg]; exact Nat.ne_of_gt (blk_lt (g := gb207) (o := .cells #[.int .i64 t203, .int .i64 t204, .string t205] 24 (0, 0)) (by (with_reducible repeat (first | refine blk_drewN ?_ _ | refine blk_drew ?_ | refine blk_alloc ?_ _)); exact BK207.out)) : gb219 ≠ gb207)); have n11_ := Aside0.mk ((by rw [hg]; exact Nat.ne_of_lt (blk_lt (g := gb208) (o := .cells #[.int .i64 x209000_8, .int .i64 x209001_8, .string x209002_8] 24 (0, 0)) (by (with_reducible repeat (first | refine blk_drewN ?_ _ | refine blk_drew ?_ | refine blk_alloc ?_ _)); exact BK208.out)) : gb208 ≠ gb219)); have n12_ := Aside0.mk ((by rw [hg]; exact Nat.ne_of_gt (blk_lt (g := gb208) (o := .cells #[.int .i64 x209000_8, .int .i64 x209001_8, .string x209002_8] 24 (0, 0)) (by (with_reducible repeat (first | refine blk_drewN ?_ _ | refine blk_drew ?_ | refine blk_alloc ?_ _)); exact BK208.out)) : gb219 ≠ gb208)); clear BK202; clear BK207; clear BK208; clear HB; have BK202 := n0_; have BK207 := n1_; have BK208 := n2_; have HB := n3_; have BK219 := n4_; have GW219 := n5_; have GE219 := n6_; have NB202_219 := n7_; have NB219_202 := n8_; have NB207_219 := n9_; have NB219_207 := n10_; have NB208_219 := n11_; have NB219_208 := n12_; clear n0_ n1_ n2_ n3_ n4_ n5_ n6_ n7_ n8_ n9_ n10_ n11_ n12_; clear hb hbox hg; have hnb53 := NB219_202.out; have hnc53 := NB202_219.out; have hnb54 := NB219_207.out; have hnc54 := NB207_219.out; have hnb55 := NB219_208.out; have hnc55 := NB208_219.out; have hcz56_0 : w52.cell? ⟨gb219, 0, none⟩ = some (.int .i64 0) := (blk_cell BK219.out 0).trans rfl; have hcz56_1 : w52.cell? ⟨gb219, 1, none⟩ = some (.int .i64 0) := (blk_cell BK219.out 1).trans rfl; have hcz56_2 : w52.cell? ⟨gb219, 2, none⟩ = some (.string (⟨#[]⟩ : ByteArray)) := (blk_cell BK219.out 2).trans rfl; have hfz56_0 := blk_frozen BK219.out 0; have hfz56_1 := blk_frozen BK219.out 1; have hfz56_2 := blk_frozen BK219.out 2; have hcz57_0 : w52.cell? ⟨gb202, 0, none⟩ = some (.int .i64 ((rd_T37 l0 x3_1).f0.f0)) := (blk_cell BK202.out 0).trans rfl; have hcz57_1 : w52.cell? ⟨gb202, 1, none⟩ = some (.int .i64 ((rd_T37 l0 x3_1).f0.f1)) := (blk_cell BK202.out 1).trans rfl; have hcz57_2 : w52.cell? ⟨gb202, 2, none⟩ = some (.string ((rd_T37 l0 x3_1).f0.f2)) := (blk_cell BK202.out 2).trans rfl; have hfz57_0 := blk_frozen BK202.out 0; have hfz57_1 := blk_frozen BK202.out 1; have hfz57_2 := blk_frozen BK202.out 2) | ((with_reducible refine gate_callee (f := 42) rfl ?_); refine goesL_ (some 58) rfl rfl Try.func42 (by kernel_rfl) rfl #[.agg #[.int .i64 ((rd_T37 l0 x3_1).f0.f0), .int .i64 ((rd_T37 l0 x3_1).f0.f1), .string ((rd_T37 l0 x3_1).f0.f2)]] rfl (by (try simp only [List.map_toArray, List.map_cons, List.map_nil]); first | done | rfl | (simp only [List.length_drop, List.length_take]; rfl)) ?_; (with_reducible refine (logic_True.calls ((rd_T37 l0 x3_1).f0.f0) ((rd_T37 l0 x3_1).f0.f1) ((rd_T37 l0 x3_1).f0.f2) t220 t221 _ A40.out).mono ?_); rintro e w58 ⟨rfl, hb⟩; refine ⟨_, rfl, ?_⟩; have n0_ := Aside0.mk (blk_below (g := gb202) (o := .cells #[.int .i64 ((rd_T37 l0 x3_1).f0.f0), .int .i64 ((rd_T37 l0 x3_1).f0.f1), .string ((rd_T37 l0 x3_1).f0.f2)] 24 (0, 0)) (by (with_reducible repeat (first | refine blk_drewN ?_ _ | refine blk_drew ?_ | refine blk_alloc ?_ _)); refine blk_far ?_ NB202_219.out _; (with_reducible repeat (first | refine blk_drewN ?_ _ | refine blk_drew ?_ | refine blk_alloc ?_ _)); refine blk_far ?_ NB202_219.out _; (with_reducible repeat (first | refine blk_drewN ?_ _ | refine blk_drew ?_ | refine blk_alloc ?_ _)); refine blk_far ?_ NB202_219.out _; (with_reducible repeat (first | refine blk_drewN ?_ _ | refine blk_drew ?_ | refine blk_alloc ?_ _)); exact BK202.out) hb); have n1_ := Aside0.mk (blk_below (g := gb207) (o := .cells #[.int .i64 t203, .int .i64 t204, .string t205] 24 (0, 0)) (by (with_reducible repeat (first | refine blk_drewN ?_ _ | refine blk_drew ?_ | refine blk_alloc ?_ _)); refine blk_far ?_ NB207_219.out _; (with_reducible repeat (first | refine blk_drewN ?_ _ | refine blk_drew ?_ | refine blk_alloc ?_ _)); refine blk_far ?_ NB207_219.out _; (with_reducible repeat (first | refine blk_drewN ?_ _ | refine blk_drew ?_ | refine blk_alloc ?_ _)); refine blk_far ?_ NB207_219.out _; (with_reducible repeat (first | refine blk_drewN ?_ _ | refine blk_drew ?_ | refine blk_alloc ?_ _)); exact BK207.out) hb); have n2_ := Aside0.mk (blk_below (g := gb208) (o := .cells #[.int .i64 x209000_8, .int .i64 x209001_8, .string x209002_8] 24 (0, 0)) (by (with_reducible repeat (first | refine blk_drewN ?_ _ | refine blk_drew ?_ | refine blk_alloc ?_ _)); refine blk_far ?_ NB208_219.out _; (with_reducible repeat (first | refine blk_drewN ?_ _ | refine blk_drew ?_ | refine blk_alloc ?_ _)); refine blk_far ?_ NB208_219.out _; (with_reducible repeat (first | refine blk_drewN ?_ _ | refine blk_drew ?_ | refine blk_alloc ?_ _)); refine blk_far ?_ NB208_219.out _; (with_reducible repeat (first | refine blk_drewN ?_ _ | refine blk_drew ?_ | refine blk_alloc ?_ _)); exact BK208.out) hb); have n3_ := Aside0.mk (blk_below (g := gb219) (o := .cells #[.int .i64 t215, .int .i64 t216, .string t217] 24 (0, 0)) (by (with_reducible repeat (first | refine blk_drewN ?_ _ | refine blk_drew ?_ | refine blk_alloc ?_ _)); refine blk_put (cs := #[.int .i64 t215, .int .i64 t216, .string (⟨#[]⟩ : ByteArray)]) ?_ 2 _ rfl; (with_reducible repeat (first | refine blk_drewN ?_ _ | refine blk_drew ?_ | refine blk_alloc ?_ _)); refine blk_put (cs := #[.int .i64 t215, .int .i64 0, .string (⟨#[]⟩ : ByteArray)]) ?_ 1 _ rfl; (with_reducible repeat (first | refine blk_drewN ?_ _ | refine blk_drew ?_ | refine blk_alloc ?_ _)); refine blk_put (cs := #[.int .i64 0, .int .i64 0, .string (⟨#[]⟩ : ByteArray)]) ?_ 0 _ rfl; (with_reducible repeat (first | refine blk_drewN ?_ _ | refine blk_drew ?_ | refine blk_alloc ?_ _)); exact BK219.out) hb); have n4_ := Aside0.mk (below_step (by repeat (first | (with_reducible first | exact HB.out | apply below_alloc | apply pw_below_drewN | apply below_drew1 | refine below_set ?_ GE202.out | refine below_set ?_ GE207.out | refine below_set ?_ GE208.out | refine below_set ?_ GE219.out) | exact HB.out)) hb); clear BK202; clear BK207; clear BK208; clear BK219; clear HB; have BK202 := n0_; have BK207 := n1_; have BK208 := n2_; have BK219 := n3_; have HB := n4_; clear n0_ n1_ n2_ n3_ n4_; (try clear hb); (try clear hb2); (try clear hk); (try clear hi); have hcz59_0 : w58.cell? ⟨gb219, 0, none⟩ = some (.int .i64 t215) := (blk_cell BK219.out 0).trans rfl; have hcz59_1 : w58.cell? ⟨gb219, 1, none⟩ = some (.int .i64 t216) := (blk_cell BK219.out 1).trans rfl; have hcz59_2 : w58.cell? ⟨gb219, 2, none⟩ = some (.string t217) := (blk_cell BK219.out 2).trans rfl; have hfz59_0 := blk_frozen BK219.out 0; have hfz59_1 := blk_frozen BK219.out 1; have hfz59_2 := blk_frozen BK219.out 2) | ((with_reducible refine gate_callee (f := 42) rfl ?_); refine goesL_ (some 63) rfl rfl Try.func42 (by kernel_rfl) rfl #[.agg #[.int .i64 t215, .int .i64 t216, .string t217]] rfl (by (try simp only [List.map_toArray, List.map_cons, List.map_nil]); first | done | rfl | (simp only [List.length_drop, List.length_take]; rfl)) ?_; (with_reducible refine (logic_True.calls t215 t216 t217 t222 t223 _ A41.out).mono ?_); rintro e w60 ⟨rfl, hb⟩; refine ⟨_, rfl, ?_⟩; have n0_ := Aside0.mk (blk_below (g := gb202) (o := .cells #[.int .i64 ((rd_T37 l0 x3_1).f0.f0), .int .i64 ((rd_T37 l0 x3_1).f0.f1), .string ((rd_T37 l0 x3_1).f0.f2)] 24 (0, 0)) (by (with_reducible repeat (first | refine blk_drewN ?_ _ | refine blk_drew ?_ | refine blk_alloc ?_ _)); exact BK202.out) hb); have n1_ := Aside0.mk (blk_below (g := gb207) (o := .cells #[.int .i64 t203, .int .i64 t204, .string t205] 24 (0, 0)) (by (with_reducible repeat (first | refine blk_drewN ?_ _ | refine blk_drew ?_ | refine blk_alloc ?_ _)); exact BK207.out) hb); have n2_ := Aside0.mk (blk_below (g := gb208) (o := .cells #[.int .i64 x209000_8, .int .i64 x209001_8, .string x209002_8] 24 (0, 0)) (by (with_reducible repeat (first | refine blk_drewN ?_ _ | refine blk_drew ?_ | refine blk_alloc ?_ _)); exact BK208.out) hb); have n3_ := Aside0.mk (blk_below (g := gb219) (o := .cells #[.int .i64 t215, .int .i64 t216, .string t217] 24 (0, 0)) (by (with_reducible repeat (first | refine blk_drewN ?_ _ | refine blk_drew ?_ | refine blk_alloc ?_ _)); exact BK219.out) hb); have n4_ := Aside0.mk (below_step (by repeat (first | (with_reducible first | exact HB.out | apply below_alloc | apply pw_below_drewN | apply below_drew1 | refine below_set ?_ GE202.out | refine below_set ?_ GE207.out | refine below_set ?_ GE208.out | refine below_set ?_ GE219.out) | exact HB.out)) hb); clear BK202; clear BK207; clear BK208; clear BK219; clear HB; have BK202 := n0_; have BK207 := n1_; have BK208 := n2_; have BK219 := n3_; have HB := n4_; clear n0_ n1_ n2_ n3_ n4_; (try clear hb); (try clear hb2); (try clear hk); (try clear hi)) | ((with_reducible refine gate_callee (f := 43) rfl ?_); refine goesL_ (some 67) rfl rfl Try.func43 (by kernel_rfl) rfl #[.int .i64 t218] rfl (by (try simp only [List.map_toArray, List.map_cons, List.map_nil]); first | done | rfl | (simp only [List.length_drop, List.length_take]; rfl)) ?_; (with_reducible refine (cadastrelaw3_num.calls t218 t224 _ A42.out).mono ?_); rintro e w' ⟨rfl, ⟨nd, rfl⟩⟩; refine ⟨_, rfl, ?_⟩))
                    go_ret
                    exact ⟨by first | rfl | (simp [errW_none, errW_some] <;> rfl) | (simp [*, errW_none, errW_some] <;> rfl), by repeat (first | (with_reducible first | exact HB.out | apply below_alloc | apply pw_below_drewN | apply below_drew1 | refine below_set ?_ GE202.out | refine below_set ?_ GE207.out | refine below_set ?_ GE208.out | refine below_set ?_ GE219.out) | exact HB.out)⟩
                  rw [if_pos c43] at H
                  have c43b0 : (t224 == 0) = true := beq_iff_eq.mpr c43
                  have c43b1 : (t224 != 0) = false := bne_eq_false_iff_eq.mpr c43
                  clear c43
                  replace H := Option.bind_eq_some_iff.mp H
                  obtain ⟨t225, A610, H⟩ := H
                  replace H : (if t225 = 0 then ((cadastrelaw3_num.f t223).bind fun t226 => (if t226 = 0 then (if (t220 != t222) = true then (some false) else (cadastrelaw3_LogicNots.l0 kj8 l0 (wrap64 (x3_1 + 1)))) else (some false))) else (some false)) = some r := H
                  have A61 := Aside0.mk A610
                  clear A610
                  by_cases c62 : t225 = 0
                  rotate_left
                  · rw [if_neg c62] at H
                    have c62b0 : (t225 == 0) = false := beq_eq_false_iff_ne.mpr c62
                    have c62b1 : (t225 != 0) = true := bne_iff_ne.mpr c62
                    obtain rfl := Option.some.inj H
                    have hnb63 := NB207_202.out
                    have hnc63 := NB202_207.out
                    have hnb64 := NB207_208.out
                    have hnc64 := NB208_207.out
                    have hcz65_0 : wc.cell? ⟨gb207, 0, none⟩ = some (.int .i64 t203) := (blk_cell BK207.out 0).trans rfl
                    have hcz65_1 : wc.cell? ⟨gb207, 1, none⟩ = some (.int .i64 t204) := (blk_cell BK207.out 1).trans rfl
                    have hcz65_2 : wc.cell? ⟨gb207, 2, none⟩ = some (.string t205) := (blk_cell BK207.out 2).trans rfl
                    have hfz65_0 := blk_frozen BK207.out 0
                    have hfz65_1 := blk_frozen BK207.out 1
                    have hfz65_2 := blk_frozen BK207.out 2
                    have hnb66 := NB208_202.out
                    have hnc66 := NB202_208.out
                    have hcz67_0 : wc.cell? ⟨gb208, 0, none⟩ = some (.int .i64 x209000_8) := (blk_cell BK208.out 0).trans rfl
                    have hcz67_1 : wc.cell? ⟨gb208, 1, none⟩ = some (.int .i64 x209001_8) := (blk_cell BK208.out 1).trans rfl
                    have hcz67_2 : wc.cell? ⟨gb208, 2, none⟩ = some (.string x209002_8) := (blk_cell BK208.out 2).trans rfl
                    have hfz67_0 := blk_frozen BK208.out 0
                    have hfz67_1 := blk_frozen BK208.out 1
                    have hfz67_2 := blk_frozen BK208.out 2
                    go_wp2_with (first | ((with_reducible refine gate_callee (f := 33) rfl ?_); refine goesL_ (some 47) rfl rfl Try.func33 (by kernel_rfl) rfl #[.agg #[.int .i64 t203, .int .i64 t204, .string t205], .int .i64 t206, .agg #[.int .i64 x209000_8, .int .i64 x209001_8, .string x209002_8], .int .i64 x8_8] rfl (by (try simp only [List.map_toArray, List.map_cons, List.map_nil]); first | done | rfl | (simp only [List.length_drop, List.length_take]; rfl)) ?_; (with_reducible refine (cadastrelaw3_is.calls t203 t204 t205 t206 x209000_8 x209001_8 x209002_8 x8_8 true _ A30.out).mono ?_); rintro e w68 ⟨rfl, hb⟩; refine ⟨_, rfl, ?_⟩; have n0_ := Aside0.mk (blk_below (g := gb202) (o := .cells #[.int .i64 ((rd_T37 l0 x3_1).f0.f0), .int .i64 ((rd_T37 l0 x3_1).f0.f1), .string ((rd_T37 l0 x3_1).f0.f2)] 24 (0, 0)) (by (with_reducible repeat (first | refine blk_drewN ?_ _ | refine blk_drew ?_ | refine blk_alloc ?_ _)); exact BK202.out) hb); have n1_ := Aside0.mk (blk_below (g := gb207) (o := .cells #[.int .i64 t203, .int .i64 t204, .string t205] 24 (0, 0)) (by (with_reducible repeat (first | refine blk_drewN ?_ _ | refine blk_drew ?_ | refine blk_alloc ?_ _)); exact BK207.out) hb); have n2_ := Aside0.mk (blk_below (g := gb208) (o := .cells #[.int .i64 x209000_8, .int .i64 x209001_8, .string x209002_8] 24 (0, 0)) (by (with_reducible repeat (first | refine blk_drewN ?_ _ | refine blk_drew ?_ | refine blk_alloc ?_ _)); exact BK208.out) hb); have n3_ := Aside0.mk (below_step (by repeat (first | (with_reducible first | exact HB.out | apply below_alloc | apply pw_below_drewN | apply below_drew1 | refine below_set ?_ GE202.out | refine below_set ?_ GE207.out | refine below_set ?_ GE208.out) | exact HB.out)) hb); clear BK202; clear BK207; clear BK208; clear HB; have BK202 := n0_; have BK207 := n1_; have BK208 := n2_; have HB := n3_; clear n0_ n1_ n2_ n3_; (try clear hb); (try clear hb2); (try clear hk); (try clear hi); have hcz69_0 : w68.cell? ⟨gb207, 0, none⟩ = some (.int .i64 t203) := (blk_cell BK207.out 0).trans rfl; have hcz69_1 : w68.cell? ⟨gb207, 1, none⟩ = some (.int .i64 t204) := (blk_cell BK207.out 1).trans rfl; have hcz69_2 : w68.cell? ⟨gb207, 2, none⟩ = some (.string t205) := (blk_cell BK207.out 2).trans rfl; have hfz69_0 := blk_frozen BK207.out 0; have hfz69_1 := blk_frozen BK207.out 1; have hfz69_2 := blk_frozen BK207.out 2) | ((with_reducible refine gate_callee (f := 40) rfl ?_); refine goesL_ (some 53) rfl rfl Try.func40 (by kernel_rfl) rfl #[.agg #[.int .i64 t203, .int .i64 t204, .string t205]] rfl (by (try simp only [List.map_toArray, List.map_cons, List.map_nil]); first | done | rfl | (simp only [List.length_drop, List.length_take]; rfl)) ?_; (with_reducible refine (logic_Not.calls t203 t204 t205 t215 t216 t217 t218 _ A39.out).mono ?_); rintro e w70 ⟨rfl, hb⟩; refine ⟨_, rfl, ?_⟩; have n0_ := Aside0.mk (blk_below (g := gb202) (o := .cells #[.int .i64 ((rd_T37 l0 x3_1).f0.f0), .int .i64 ((rd_T37 l0 x3_1).f0.f1), .string ((rd_T37 l0 x3_1).f0.f2)] 24 (0, 0)) (by (with_reducible repeat (first | refine blk_drewN ?_ _ | refine blk_drew ?_ | refine blk_alloc ?_ _)); exact BK202.out) hb); have n1_ := Aside0.mk (blk_below (g := gb207) (o := .cells #[.int .i64 t203, .int .i64 t204, .string t205] 24 (0, 0)) (by (with_reducible repeat (first | refine blk_drewN ?_ _ | refine blk_drew ?_ | refine blk_alloc ?_ _)); exact BK207.out) hb); have n2_ := Aside0.mk (blk_below (g := gb208) (o := .cells #[.int .i64 x209000_8, .int .i64 x209001_8, .string x209002_8] 24 (0, 0)) (by (with_reducible repeat (first | refine blk_drewN ?_ _ | refine blk_drew ?_ | refine blk_alloc ?_ _)); exact BK208.out) hb); have n3_ := Aside0.mk (below_step (by repeat (first | (with_reducible first | exact HB.out | apply below_alloc | apply pw_below_drewN | apply below_drew1 | refine below_set ?_ GE202.out | refine below_set ?_ GE207.out | refine below_set ?_ GE208.out) | exact HB.out)) hb); clear BK202; clear BK207; clear BK208; clear HB; have BK202 := n0_; have BK207 := n1_; have BK208 := n2_; have HB := n3_; clear n0_ n1_ n2_ n3_; (try clear hb); (try clear hb2); (try clear hk); (try clear hi)) | ((with_reducible refine gate_dst (N := 9) rfl ?_); refine box_event ?hg (N := 9) ?hd (cs := #[.int .i64 0, .int .i64 0, .string (⟨#[]⟩ : ByteArray)]) (t := 24) ?hr ?_; (case hd => rfl); (case hg => rfl); (case hr => first | (go_simp; done) | (go_simp; rfl)); intro gb219 hg w71 hbox hb; have n0_ := Aside0.mk (blk_below (g := gb202) (o := .cells #[.int .i64 ((rd_T37 l0 x3_1).f0.f0), .int .i64 ((rd_T37 l0 x3_1).f0.f1), .string ((rd_T37 l0 x3_1).f0.f2)] 24 (0, 0)) (by (with_reducible repeat (first | refine blk_drewN ?_ _ | refine blk_drew ?_ | refine blk_alloc ?_ _)); exact BK202.out) hb); have n1_ := Aside0.mk (blk_below (g := gb207) (o := .cells #[.int .i64 t203, .int .i64 t204, .string t205] 24 (0, 0)) (by (with_reducible repeat (first | refine blk_drewN ?_ _ | refine blk_drew ?_ | refine blk_alloc ?_ _)); exact BK207.out) hb); have n2_ := Aside0.mk (blk_below (g := gb208) (o := .cells #[.int .i64 x209000_8, .int .i64 x209001_8, .string x209002_8] 24 (0, 0)) (by (with_reducible repeat (first | refine blk_drewN ?_ _ | refine blk_drew ?_ | refine blk_alloc ?_ _)); exact BK208.out) hb); have n3_ := Aside0.mk (below_step (by repeat (first | (with_reducible first | exact HB.out | apply below_alloc | apply pw_below_drewN | apply below_drew1 | refine below_set ?_ GE202.out | refine below_set ?_ GE207.out | refine below_set ?_ GE208.out) | exact HB.out)) hb); have n4_ := Aside0.mk (hbox); have n5_ := Aside0.mk ((by rw [hg]; exact (below_size (by repeat (first | (with_reducible first | exact HB.out | apply below_alloc | apply pw_below_drewN | apply below_drew1 | refine below_set ?_ GE202.out | refine below_set ?_ GE207.out | refine below_set ?_ GE208.out) | exact HB.out))) : w.heap.size ≤ gb219)); have n6_ := Aside0.mk ((by rw [hg]; exact (below_size (by repeat (first | (with_reducible first | exact HB.out | apply below_alloc | apply pw_below_drewN | apply below_drew1 | refine below_set ?_ GE202.out | refine below_set ?_ GE207.out | refine below_set ?_ GE208.out) | exact HB.out))) : w.heap.size ≤ gb219)); have n7_ := Aside0.mk ((by rw [hg]; exact Nat.ne_of_lt (blk_lt (g := gb202) (o := .cells #[.int .i64 ((rd_T37 l0 x3_1).f0.f0), .int .i64 ((rd_T37 l0 x3_1).f0.f1), .string ((rd_T37 l0 x3_1).f0.f2)] 24 (0, 0)) (by (with_reducible repeat (first | refine blk_drewN ?_ _ | refine blk_drew ?_ | refine blk_alloc ?_ _)); exact BK202.out)) : gb202 ≠ gb219)); have n8_ := Aside0.mk ((by rw [hg]; exact Nat.ne_of_gt (blk_lt (g := gb202) (o := .cells #[.int .i64 ((rd_T37 l0 x3_1).f0.f0), .int .i64 ((rd_T37 l0 x3_1).f0.f1), .string ((rd_T37 l0 x3_1).f0.f2)] 24 (0, 0)) (by (with_reducible repeat (first | refine blk_drewN ?_ _ | refine blk_drew ?_ | refine blk_alloc ?_ _)); exact BK202.out)) : gb219 ≠ gb202)); have n9_ := Aside0.mk ((by rw [hg]; exact Nat.ne_of_lt (blk_lt (g := gb207) (o := .cells #[.int .i64 t203, .int .i64 t204, .string t205] 24 (0, 0)) (by (with_reducible repeat (first | refine blk_drewN ?_ _ | refine blk_drew ?_ | refine blk_alloc ?_ _)); exact BK207.out)) : gb207 ≠ gb219)); have n10_ := Aside0.mk ((by rw [hg]; exact Nat.ne_of_gt (blk_lt (g := gb207) (o := .cells #[.int .i64 t203, .int .i64 t204, .string t205] 24 (0, 0)) (by (with_reducible repeat (first | refine blk_drewN ?_ _ | refine blk_drew ?_ | refine blk_alloc ?_ _)); exact BK207.out)) : gb219 ≠ gb207)); have n11_ := Aside0.mk ((by rw [hg]; exact Nat.ne_of_lt (blk_lt (g := gb208) (o := .cells #[.int .i64 x209000_8, .int .i64 x209001_8, .string x209002_8] 24 (0, 0)) (by (with_reducible repeat (first | refine blk_drewN ?_ _ | refine blk_drew ?_ | refine blk_alloc ?_ _)); exact BK208.out)) : gb208 ≠ gb219)); have n12_ := Aside0.mk ((by rw [hg]; exact Nat.ne_of_gt (blk_lt (g := gb208) (o := .cells #[.int .i64 x209000_8, .int .i64 x209001_8, .string x209002_8] 24 (0, 0)) (by (with_reducible repeat (first | refine blk_drewN ?_ _ | refine blk_drew ?_ | refine blk_alloc ?_ _)); exact BK208.out)) : gb219 ≠ gb208)); clear BK202; clear BK207; clear BK208; clear HB; have BK202 := n0_; have BK207 := n1_; have BK208 := n2_; have HB := n3_; have BK219 := n4_; have GW219 := n5_; have GE219 := n6_; have NB202_219 := n7_; have NB219_202 := n8_; have NB207_219 := n9_; have NB219_207 := n10_; have NB208_219 := n11_; have NB219_208 := n12_; clear n0_ n1_ n2_ n3_ n4_ n5_ n6_ n7_ n8_ n9_ n10_ n11_ n12_; clear hb hbox hg; have hnb72 := NB219_202.out; have hnc72 := NB202_219.out; have hnb73 := NB219_207.out; have hnc73 := NB207_219.out; have hnb74 := NB219_208.out; have hnc74 := NB208_219.out; have hcz75_0 : w71.cell? ⟨gb219, 0, none⟩ = some (.int .i64 0) := (blk_cell BK219.out 0).trans rfl; have hcz75_1 : w71.cell? ⟨gb219, 1, none⟩ = some (.int .i64 0) := (blk_cell BK219.out 1).trans rfl; have hcz75_2 : w71.cell? ⟨gb219, 2, none⟩ = some (.string (⟨#[]⟩ : ByteArray)) := (blk_cell BK219.out 2).trans rfl; have hfz75_0 := blk_frozen BK219.out 0; have hfz75_1 := blk_frozen BK219.out 1; have hfz75_2 := blk_frozen BK219.out 2; have hcz76_0 : w71.cell? ⟨gb202, 0, none⟩ = some (.int .i64 ((rd_T37 l0 x3_1).f0.f0)) := (blk_cell BK202.out 0).trans rfl; have hcz76_1 : w71.cell? ⟨gb202, 1, none⟩ = some (.int .i64 ((rd_T37 l0 x3_1).f0.f1)) := (blk_cell BK202.out 1).trans rfl; have hcz76_2 : w71.cell? ⟨gb202, 2, none⟩ = some (.string ((rd_T37 l0 x3_1).f0.f2)) := (blk_cell BK202.out 2).trans rfl; have hfz76_0 := blk_frozen BK202.out 0; have hfz76_1 := blk_frozen BK202.out 1; have hfz76_2 := blk_frozen BK202.out 2) | ((with_reducible refine gate_callee (f := 42) rfl ?_); refine goesL_ (some 58) rfl rfl Try.func42 (by kernel_rfl) rfl #[.agg #[.int .i64 ((rd_T37 l0 x3_1).f0.f0), .int .i64 ((rd_T37 l0 x3_1).f0.f1), .string ((rd_T37 l0 x3_1).f0.f2)]] rfl (by (try simp only [List.map_toArray, List.map_cons, List.map_nil]); first | done | rfl | (simp only [List.length_drop, List.length_take]; rfl)) ?_; (with_reducible refine (logic_True.calls ((rd_T37 l0 x3_1).f0.f0) ((rd_T37 l0 x3_1).f0.f1) ((rd_T37 l0 x3_1).f0.f2) t220 t221 _ A40.out).mono ?_); rintro e w77 ⟨rfl, hb⟩; refine ⟨_, rfl, ?_⟩; have n0_ := Aside0.mk (blk_below (g := gb202) (o := .cells #[.int .i64 ((rd_T37 l0 x3_1).f0.f0), .int .i64 ((rd_T37 l0 x3_1).f0.f1), .string ((rd_T37 l0 x3_1).f0.f2)] 24 (0, 0)) (by (with_reducible repeat (first | refine blk_drewN ?_ _ | refine blk_drew ?_ | refine blk_alloc ?_ _)); refine blk_far ?_ NB202_219.out _; (with_reducible repeat (first | refine blk_drewN ?_ _ | refine blk_drew ?_ | refine blk_alloc ?_ _)); refine blk_far ?_ NB202_219.out _; (with_reducible repeat (first | refine blk_drewN ?_ _ | refine blk_drew ?_ | refine blk_alloc ?_ _)); refine blk_far ?_ NB202_219.out _; (with_reducible repeat (first | refine blk_drewN ?_ _ | refine blk_drew ?_ | refine blk_alloc ?_ _)); exact BK202.out) hb); have n1_ := Aside0.mk (blk_below (g := gb207) (o := .cells #[.int .i64 t203, .int .i64 t204, .string t205] 24 (0, 0)) (by (with_reducible repeat (first | refine blk_drewN ?_ _ | refine blk_drew ?_ | refine blk_alloc ?_ _)); refine blk_far ?_ NB207_219.out _; (with_reducible repeat (first | refine blk_drewN ?_ _ | refine blk_drew ?_ | refine blk_alloc ?_ _)); refine blk_far ?_ NB207_219.out _; (with_reducible repeat (first | refine blk_drewN ?_ _ | refine blk_drew ?_ | refine blk_alloc ?_ _)); refine blk_far ?_ NB207_219.out _; (with_reducible repeat (first | refine blk_drewN ?_ _ | refine blk_drew ?_ | refine blk_alloc ?_ _)); exact BK207.out) hb); have n2_ := Aside0.mk (blk_below (g := gb208) (o := .cells #[.int .i64 x209000_8, .int .i64 x209001_8, .string x209002_8] 24 (0, 0)) (by (with_reducible repeat (first | refine blk_drewN ?_ _ | refine blk_drew ?_ | refine blk_alloc ?_ _)); refine blk_far ?_ NB208_219.out _; (with_reducible repeat (first | refine blk_drewN ?_ _ | refine blk_drew ?_ | refine blk_alloc ?_ _)); refine blk_far ?_ NB208_219.out _; (with_reducible repeat (first | refine blk_drewN ?_ _ | refine blk_drew ?_ | refine blk_alloc ?_ _)); refine blk_far ?_ NB208_219.out _; (with_reducible repeat (first | refine blk_drewN ?_ _ | refine blk_drew ?_ | refine blk_alloc ?_ _)); exact BK208.out) hb); have n3_ := Aside0.mk (blk_below (g := gb219) (o := .cells #[.int .i64 t215, .int .i64 t216, .string t217] 24 (0, 0)) (by (with_reducible repeat (first | refine blk_drewN ?_ _ | refine blk_drew ?_ | refine blk_alloc ?_ _)); refine blk_put (cs := #[.int .i64 t215, .int .i64 t216, .string (⟨#[]⟩ : ByteArray)]) ?_ 2 _ rfl; (with_reducible repeat (first | refine blk_drewN ?_ _ | refine blk_drew ?_ | refine blk_alloc ?_ _)); refine blk_put (cs := #[.int .i64 t215, .int .i64 0, .string (⟨#[]⟩ : ByteArray)]) ?_ 1 _ rfl; (with_reducible repeat (first | refine blk_drewN ?_ _ | refine blk_drew ?_ | refine blk_alloc ?_ _)); refine blk_put (cs := #[.int .i64 0, .int .i64 0, .string (⟨#[]⟩ : ByteArray)]) ?_ 0 _ rfl; (with_reducible repeat (first | refine blk_drewN ?_ _ | refine blk_drew ?_ | refine blk_alloc ?_ _)); exact BK219.out) hb); have n4_ := Aside0.mk (below_step (by repeat (first | (with_reducible first | exact HB.out | apply below_alloc | apply pw_below_drewN | apply below_drew1 | refine below_set ?_ GE202.out | refine below_set ?_ GE207.out | refine below_set ?_ GE208.out | refine below_set ?_ GE219.out) | exact HB.out)) hb); clear BK202; clear BK207; clear BK208; clear BK219; clear HB; have BK202 := n0_; have BK207 := n1_; have BK208 := n2_; have BK219 := n3_; have HB := n4_; clear n0_ n1_ n2_ n3_ n4_; (try clear hb); (try clear hb2); (try clear hk); (try clear hi); have hcz78_0 : w77.cell? ⟨gb219, 0, none⟩ = some (.int .i64 t215) := (blk_cell BK219.out 0).trans rfl; have hcz78_1 : w77.cell? ⟨gb219, 1, none⟩ = some (.int .i64 t216) := (blk_cell BK219.out 1).trans rfl; have hcz78_2 : w77.cell? ⟨gb219, 2, none⟩ = some (.string t217) := (blk_cell BK219.out 2).trans rfl; have hfz78_0 := blk_frozen BK219.out 0; have hfz78_1 := blk_frozen BK219.out 1; have hfz78_2 := blk_frozen BK219.out 2) | ((with_reducible refine gate_callee (f := 42) rfl ?_); refine goesL_ (some 63) rfl rfl Try.func42 (by kernel_rfl) rfl #[.agg #[.int .i64 t215, .int .i64 t216, .string t217]] rfl (by (try simp only [List.map_toArray, List.map_cons, List.map_nil]); first | done | rfl | (simp only [List.length_drop, List.length_take]; rfl)) ?_; (with_reducible refine (logic_True.calls t215 t216 t217 t222 t223 _ A41.out).mono ?_); rintro e w79 ⟨rfl, hb⟩; refine ⟨_, rfl, ?_⟩; have n0_ := Aside0.mk (blk_below (g := gb202) (o := .cells #[.int .i64 ((rd_T37 l0 x3_1).f0.f0), .int .i64 ((rd_T37 l0 x3_1).f0.f1), .string ((rd_T37 l0 x3_1).f0.f2)] 24 (0, 0)) (by (with_reducible repeat (first | refine blk_drewN ?_ _ | refine blk_drew ?_ | refine blk_alloc ?_ _)); exact BK202.out) hb); have n1_ := Aside0.mk (blk_below (g := gb207) (o := .cells #[.int .i64 t203, .int .i64 t204, .string t205] 24 (0, 0)) (by (with_reducible repeat (first | refine blk_drewN ?_ _ | refine blk_drew ?_ | refine blk_alloc ?_ _)); exact BK207.out) hb); have n2_ := Aside0.mk (blk_below (g := gb208) (o := .cells #[.int .i64 x209000_8, .int .i64 x209001_8, .string x209002_8] 24 (0, 0)) (by (with_reducible repeat (first | refine blk_drewN ?_ _ | refine blk_drew ?_ | refine blk_alloc ?_ _)); exact BK208.out) hb); have n3_ := Aside0.mk (blk_below (g := gb219) (o := .cells #[.int .i64 t215, .int .i64 t216, .string t217] 24 (0, 0)) (by (with_reducible repeat (first | refine blk_drewN ?_ _ | refine blk_drew ?_ | refine blk_alloc ?_ _)); exact BK219.out) hb); have n4_ := Aside0.mk (below_step (by repeat (first | (with_reducible first | exact HB.out | apply below_alloc | apply pw_below_drewN | apply below_drew1 | refine below_set ?_ GE202.out | refine below_set ?_ GE207.out | refine below_set ?_ GE208.out | refine below_set ?_ GE219.out) | exact HB.out)) hb); clear BK202; clear BK207; clear BK208; clear BK219; clear HB; have BK202 := n0_; have BK207 := n1_; have BK208 := n2_; have BK219 := n3_; have HB := n4_; clear n0_ n1_ n2_ n3_ n4_; (try clear hb); (try clear hb2); (try clear hk); (try clear hi)) | ((with_reducible refine gate_callee (f := 43) rfl ?_); refine goesL_ (some 67) rfl rfl Try.func43 (by kernel_rfl) rfl #[.int .i64 t218] rfl (by (try simp only [List.map_toArray, List.map_cons, List.map_nil]); first | done | rfl | (simp only [List.length_drop, List.length_take]; rfl)) ?_; (with_reducible refine (cadastrelaw3_num.calls t218 t224 _ A42.out).mono ?_); rintro e w' ⟨rfl, ⟨nd, rfl⟩⟩; refine ⟨_, rfl, ?_⟩) | (go_at_call 43; (with_reducible refine (cadastrelaw3_num.calls t221 t225 _ A61.out).mono ?_); rintro e w' ⟨rfl, ⟨nd, rfl⟩⟩; (try clear A61)))
                    go_ret
                    exact ⟨by first | rfl | (simp [errW_none, errW_some] <;> rfl) | (simp [*, errW_none, errW_some] <;> rfl), by repeat (first | (with_reducible first | exact HB.out | apply below_alloc | apply pw_below_drewN | apply below_drew1 | refine below_set ?_ GE202.out | refine below_set ?_ GE207.out | refine below_set ?_ GE208.out | refine below_set ?_ GE219.out) | exact HB.out)⟩
                  rw [if_pos c62] at H
                  have c62b0 : (t225 == 0) = true := beq_iff_eq.mpr c62
                  have c62b1 : (t225 != 0) = false := bne_eq_false_iff_eq.mpr c62
                  clear c62
                  replace H := Option.bind_eq_some_iff.mp H
                  obtain ⟨t226, A800, H⟩ := H
                  replace H : (if t226 = 0 then (if (t220 != t222) = true then (some false) else (cadastrelaw3_LogicNots.l0 kj8 l0 (wrap64 (x3_1 + 1)))) else (some false)) = some r := H
                  have A80 := Aside0.mk A800
                  clear A800
                  by_cases c81 : t226 = 0
                  rotate_left
                  · rw [if_neg c81] at H
                    have c81b0 : (t226 == 0) = false := beq_eq_false_iff_ne.mpr c81
                    have c81b1 : (t226 != 0) = true := bne_iff_ne.mpr c81
                    obtain rfl := Option.some.inj H
                    have hnb82 := NB207_202.out
                    have hnc82 := NB202_207.out
                    have hnb83 := NB207_208.out
                    have hnc83 := NB208_207.out
                    have hcz84_0 : wc.cell? ⟨gb207, 0, none⟩ = some (.int .i64 t203) := (blk_cell BK207.out 0).trans rfl
                    have hcz84_1 : wc.cell? ⟨gb207, 1, none⟩ = some (.int .i64 t204) := (blk_cell BK207.out 1).trans rfl
                    have hcz84_2 : wc.cell? ⟨gb207, 2, none⟩ = some (.string t205) := (blk_cell BK207.out 2).trans rfl
                    have hfz84_0 := blk_frozen BK207.out 0
                    have hfz84_1 := blk_frozen BK207.out 1
                    have hfz84_2 := blk_frozen BK207.out 2
                    have hnb85 := NB208_202.out
                    have hnc85 := NB202_208.out
                    have hcz86_0 : wc.cell? ⟨gb208, 0, none⟩ = some (.int .i64 x209000_8) := (blk_cell BK208.out 0).trans rfl
                    have hcz86_1 : wc.cell? ⟨gb208, 1, none⟩ = some (.int .i64 x209001_8) := (blk_cell BK208.out 1).trans rfl
                    have hcz86_2 : wc.cell? ⟨gb208, 2, none⟩ = some (.string x209002_8) := (blk_cell BK208.out 2).trans rfl
                    have hfz86_0 := blk_frozen BK208.out 0
                    have hfz86_1 := blk_frozen BK208.out 1
                    have hfz86_2 := blk_frozen BK208.out 2
                    go_wp2_with (first | ((with_reducible refine gate_callee (f := 33) rfl ?_); refine goesL_ (some 47) rfl rfl Try.func33 (by kernel_rfl) rfl #[.agg #[.int .i64 t203, .int .i64 t204, .string t205], .int .i64 t206, .agg #[.int .i64 x209000_8, .int .i64 x209001_8, .string x209002_8], .int .i64 x8_8] rfl (by (try simp only [List.map_toArray, List.map_cons, List.map_nil]); first | done | rfl | (simp only [List.length_drop, List.length_take]; rfl)) ?_; (with_reducible refine (cadastrelaw3_is.calls t203 t204 t205 t206 x209000_8 x209001_8 x209002_8 x8_8 true _ A30.out).mono ?_); rintro e w87 ⟨rfl, hb⟩; refine ⟨_, rfl, ?_⟩; have n0_ := Aside0.mk (blk_below (g := gb202) (o := .cells #[.int .i64 ((rd_T37 l0 x3_1).f0.f0), .int .i64 ((rd_T37 l0 x3_1).f0.f1), .string ((rd_T37 l0 x3_1).f0.f2)] 24 (0, 0)) (by (with_reducible repeat (first | refine blk_drewN ?_ _ | refine blk_drew ?_ | refine blk_alloc ?_ _)); exact BK202.out) hb); have n1_ := Aside0.mk (blk_below (g := gb207) (o := .cells #[.int .i64 t203, .int .i64 t204, .string t205] 24 (0, 0)) (by (with_reducible repeat (first | refine blk_drewN ?_ _ | refine blk_drew ?_ | refine blk_alloc ?_ _)); exact BK207.out) hb); have n2_ := Aside0.mk (blk_below (g := gb208) (o := .cells #[.int .i64 x209000_8, .int .i64 x209001_8, .string x209002_8] 24 (0, 0)) (by (with_reducible repeat (first | refine blk_drewN ?_ _ | refine blk_drew ?_ | refine blk_alloc ?_ _)); exact BK208.out) hb); have n3_ := Aside0.mk (below_step (by repeat (first | (with_reducible first | exact HB.out | apply below_alloc | apply pw_below_drewN | apply below_drew1 | refine below_set ?_ GE202.out | refine below_set ?_ GE207.out | refine below_set ?_ GE208.out) | exact HB.out)) hb); clear BK202; clear BK207; clear BK208; clear HB; have BK202 := n0_; have BK207 := n1_; have BK208 := n2_; have HB := n3_; clear n0_ n1_ n2_ n3_; (try clear hb); (try clear hb2); (try clear hk); (try clear hi); have hcz88_0 : w87.cell? ⟨gb207, 0, none⟩ = some (.int .i64 t203) := (blk_cell BK207.out 0).trans rfl; have hcz88_1 : w87.cell? ⟨gb207, 1, none⟩ = some (.int .i64 t204) := (blk_cell BK207.out 1).trans rfl; have hcz88_2 : w87.cell? ⟨gb207, 2, none⟩ = some (.string t205) := (blk_cell BK207.out 2).trans rfl; have hfz88_0 := blk_frozen BK207.out 0; have hfz88_1 := blk_frozen BK207.out 1; have hfz88_2 := blk_frozen BK207.out 2) | ((with_reducible refine gate_callee (f := 40) rfl ?_); refine goesL_ (some 53) rfl rfl Try.func40 (by kernel_rfl) rfl #[.agg #[.int .i64 t203, .int .i64 t204, .string t205]] rfl (by (try simp only [List.map_toArray, List.map_cons, List.map_nil]); first | done | rfl | (simp only [List.length_drop, List.length_take]; rfl)) ?_; (with_reducible refine (logic_Not.calls t203 t204 t205 t215 t216 t217 t218 _ A39.out).mono ?_); rintro e w89 ⟨rfl, hb⟩; refine ⟨_, rfl, ?_⟩; have n0_ := Aside0.mk (blk_below (g := gb202) (o := .cells #[.int .i64 ((rd_T37 l0 x3_1).f0.f0), .int .i64 ((rd_T37 l0 x3_1).f0.f1), .string ((rd_T37 l0 x3_1).f0.f2)] 24 (0, 0)) (by (with_reducible repeat (first | refine blk_drewN ?_ _ | refine blk_drew ?_ | refine blk_alloc ?_ _)); exact BK202.out) hb); have n1_ := Aside0.mk (blk_below (g := gb207) (o := .cells #[.int .i64 t203, .int .i64 t204, .string t205] 24 (0, 0)) (by (with_reducible repeat (first | refine blk_drewN ?_ _ | refine blk_drew ?_ | refine blk_alloc ?_ _)); exact BK207.out) hb); have n2_ := Aside0.mk (blk_below (g := gb208) (o := .cells #[.int .i64 x209000_8, .int .i64 x209001_8, .string x209002_8] 24 (0, 0)) (by (with_reducible repeat (first | refine blk_drewN ?_ _ | refine blk_drew ?_ | refine blk_alloc ?_ _)); exact BK208.out) hb); have n3_ := Aside0.mk (below_step (by repeat (first | (with_reducible first | exact HB.out | apply below_alloc | apply pw_below_drewN | apply below_drew1 | refine below_set ?_ GE202.out | refine below_set ?_ GE207.out | refine below_set ?_ GE208.out) | exact HB.out)) hb); clear BK202; clear BK207; clear BK208; clear HB; have BK202 := n0_; have BK207 := n1_; have BK208 := n2_; have HB := n3_; clear n0_ n1_ n2_ n3_; (try clear hb); (try clear hb2); (try clear hk); (try clear hi)) | ((with_reducible refine gate_dst (N := 9) rfl ?_); refine box_event ?hg (N := 9) ?hd (cs := #[.int .i64 0, .int .i64 0, .string (⟨#[]⟩ : ByteArray)]) (t := 24) ?hr ?_; (case hd => rfl); (case hg => rfl); (case hr => first | (go_simp; done) | (go_simp; rfl)); intro gb219 hg w90 hbox hb; have n0_ := Aside0.mk (blk_below (g := gb202) (o := .cells #[.int .i64 ((rd_T37 l0 x3_1).f0.f0), .int .i64 ((rd_T37 l0 x3_1).f0.f1), .string ((rd_T37 l0 x3_1).f0.f2)] 24 (0, 0)) (by (with_reducible repeat (first | refine blk_drewN ?_ _ | refine blk_drew ?_ | refine blk_alloc ?_ _)); exact BK202.out) hb); have n1_ := Aside0.mk (blk_below (g := gb207) (o := .cells #[.int .i64 t203, .int .i64 t204, .string t205] 24 (0, 0)) (by (with_reducible repeat (first | refine blk_drewN ?_ _ | refine blk_drew ?_ | refine blk_alloc ?_ _)); exact BK207.out) hb); have n2_ := Aside0.mk (blk_below (g := gb208) (o := .cells #[.int .i64 x209000_8, .int .i64 x209001_8, .string x209002_8] 24 (0, 0)) (by (with_reducible repeat (first | refine blk_drewN ?_ _ | refine blk_drew ?_ | refine blk_alloc ?_ _)); exact BK208.out) hb); have n3_ := Aside0.mk (below_step (by repeat (first | (with_reducible first | exact HB.out | apply below_alloc | apply pw_below_drewN | apply below_drew1 | refine below_set ?_ GE202.out | refine below_set ?_ GE207.out | refine below_set ?_ GE208.out) | exact HB.out)) hb); have n4_ := Aside0.mk (hbox); have n5_ := Aside0.mk ((by rw [hg]; exact (below_size (by repeat (first | (with_reducible first | exact HB.out | apply below_alloc | apply pw_below_drewN | apply below_drew1 | refine below_set ?_ GE202.out | refine below_set ?_ GE207.out | refine below_set ?_ GE208.out) | exact HB.out))) : w.heap.size ≤ gb219)); have n6_ := Aside0.mk ((by rw [hg]; exact (below_size (by repeat (first | (with_reducible first | exact HB.out | apply below_alloc | apply pw_below_drewN | apply below_drew1 | refine below_set ?_ GE202.out | refine below_set ?_ GE207.out | refine below_set ?_ GE208.out) | exact HB.out))) : w.heap.size ≤ gb219)); have n7_ := Aside0.mk ((by rw [hg]; exact Nat.ne_of_lt (blk_lt (g := gb202) (o := .cells #[.int .i64 ((rd_T37 l0 x3_1).f0.f0), .int .i64 ((rd_T37 l0 x3_1).f0.f1), .string ((rd_T37 l0 x3_1).f0.f2)] 24 (0, 0)) (by (with_reducible repeat (first | refine blk_drewN ?_ _ | refine blk_drew ?_ | refine blk_alloc ?_ _)); exact BK202.out)) : gb202 ≠ gb219)); have n8_ := Aside0.mk ((by rw [hg]; exact Nat.ne_of_gt (blk_lt (g := gb202) (o := .cells #[.int .i64 ((rd_T37 l0 x3_1).f0.f0), .int .i64 ((rd_T37 l0 x3_1).f0.f1), .string ((rd_T37 l0 x3_1).f0.f2)] 24 (0, 0)) (by (with_reducible repeat (first | refine blk_drewN ?_ _ | refine blk_drew ?_ | refine blk_alloc ?_ _)); exact BK202.out)) : gb219 ≠ gb202)); have n9_ := Aside0.mk ((by rw [hg]; exact Nat.ne_of_lt (blk_lt (g := gb207) (o := .cells #[.int .i64 t203, .int .i64 t204, .string t205] 24 (0, 0)) (by (with_reducible repeat (first | refine blk_drewN ?_ _ | refine blk_drew ?_ | refine blk_alloc ?_ _)); exact BK207.out)) : gb207 ≠ gb219)); have n10_ := Aside0.mk ((by rw [hg]; exact Nat.ne_of_gt (blk_lt (g := gb207) (o := .cells #[.int .i64 t203, .int .i64 t204, .string t205] 24 (0, 0)) (by (with_reducible repeat (first | refine blk_drewN ?_ _ | refine blk_drew ?_ | refine blk_alloc ?_ _)); exact BK207.out)) : gb219 ≠ gb207)); have n11_ := Aside0.mk ((by rw [hg]; exact Nat.ne_of_lt (blk_lt (g := gb208) (o := .cells #[.int .i64 x209000_8, .int .i64 x209001_8, .string x209002_8] 24 (0, 0)) (by (with_reducible repeat (first | refine blk_drewN ?_ _ | refine blk_drew ?_ | refine blk_alloc ?_ _)); exact BK208.out)) : gb208 ≠ gb219)); have n12_ := Aside0.mk ((by rw [hg]; exact Nat.ne_of_gt (blk_lt (g := gb208) (o := .cells #[.int .i64 x209000_8, .int .i64 x209001_8, .string x209002_8] 24 (0, 0)) (by (with_reducible repeat (first | refine blk_drewN ?_ _ | refine blk_drew ?_ | refine blk_alloc ?_ _)); exact BK208.out)) : gb219 ≠ gb208)); clear BK202; clear BK207; clear BK208; clear HB; have BK202 := n0_; have BK207 := n1_; have BK208 := n2_; have HB := n3_; have BK219 := n4_; have GW219 := n5_; have GE219 := n6_; have NB202_219 := n7_; have NB219_202 := n8_; have NB207_219 := n9_; have NB219_207 := n10_; have NB208_219 := n11_; have NB219_208 := n12_; clear n0_ n1_ n2_ n3_ n4_ n5_ n6_ n7_ n8_ n9_ n10_ n11_ n12_; clear hb hbox hg; have hnb91 := NB219_202.out; have hnc91 := NB202_219.out; have hnb92 := NB219_207.out; have hnc92 := NB207_219.out; have hnb93 := NB219_208.out; have hnc93 := NB208_219.out; have hcz94_0 : w90.cell? ⟨gb219, 0, none⟩ = some (.int .i64 0) := (blk_cell BK219.out 0).trans rfl; have hcz94_1 : w90.cell? ⟨gb219, 1, none⟩ = some (.int .i64 0) := (blk_cell BK219.out 1).trans rfl; have hcz94_2 : w90.cell? ⟨gb219, 2, none⟩ = some (.string (⟨#[]⟩ : ByteArray)) := (blk_cell BK219.out 2).trans rfl; have hfz94_0 := blk_frozen BK219.out 0; have hfz94_1 := blk_frozen BK219.out 1; have hfz94_2 := blk_frozen BK219.out 2; have hcz95_0 : w90.cell? ⟨gb202, 0, none⟩ = some (.int .i64 ((rd_T37 l0 x3_1).f0.f0)) := (blk_cell BK202.out 0).trans rfl; have hcz95_1 : w90.cell? ⟨gb202, 1, none⟩ = some (.int .i64 ((rd_T37 l0 x3_1).f0.f1)) := (blk_cell BK202.out 1).trans rfl; have hcz95_2 : w90.cell? ⟨gb202, 2, none⟩ = some (.string ((rd_T37 l0 x3_1).f0.f2)) := (blk_cell BK202.out 2).trans rfl; have hfz95_0 := blk_frozen BK202.out 0; have hfz95_1 := blk_frozen BK202.out 1; have hfz95_2 := blk_frozen BK202.out 2) | ((with_reducible refine gate_callee (f := 42) rfl ?_); refine goesL_ (some 58) rfl rfl Try.func42 (by kernel_rfl) rfl #[.agg #[.int .i64 ((rd_T37 l0 x3_1).f0.f0), .int .i64 ((rd_T37 l0 x3_1).f0.f1), .string ((rd_T37 l0 x3_1).f0.f2)]] rfl (by (try simp only [List.map_toArray, List.map_cons, List.map_nil]); first | done | rfl | (simp only [List.length_drop, List.length_take]; rfl)) ?_; (with_reducible refine (logic_True.calls ((rd_T37 l0 x3_1).f0.f0) ((rd_T37 l0 x3_1).f0.f1) ((rd_T37 l0 x3_1).f0.f2) t220 t221 _ A40.out).mono ?_); rintro e w96 ⟨rfl, hb⟩; refine ⟨_, rfl, ?_⟩; have n0_ := Aside0.mk (blk_below (g := gb202) (o := .cells #[.int .i64 ((rd_T37 l0 x3_1).f0.f0), .int .i64 ((rd_T37 l0 x3_1).f0.f1), .string ((rd_T37 l0 x3_1).f0.f2)] 24 (0, 0)) (by (with_reducible repeat (first | refine blk_drewN ?_ _ | refine blk_drew ?_ | refine blk_alloc ?_ _)); refine blk_far ?_ NB202_219.out _; (with_reducible repeat (first | refine blk_drewN ?_ _ | refine blk_drew ?_ | refine blk_alloc ?_ _)); refine blk_far ?_ NB202_219.out _; (with_reducible repeat (first | refine blk_drewN ?_ _ | refine blk_drew ?_ | refine blk_alloc ?_ _)); refine blk_far ?_ NB202_219.out _; (with_reducible repeat (first | refine blk_drewN ?_ _ | refine blk_drew ?_ | refine blk_alloc ?_ _)); exact BK202.out) hb); have n1_ := Aside0.mk (blk_below (g := gb207) (o := .cells #[.int .i64 t203, .int .i64 t204, .string t205] 24 (0, 0)) (by (with_reducible repeat (first | refine blk_drewN ?_ _ | refine blk_drew ?_ | refine blk_alloc ?_ _)); refine blk_far ?_ NB207_219.out _; (with_reducible repeat (first | refine blk_drewN ?_ _ | refine blk_drew ?_ | refine blk_alloc ?_ _)); refine blk_far ?_ NB207_219.out _; (with_reducible repeat (first | refine blk_drewN ?_ _ | refine blk_drew ?_ | refine blk_alloc ?_ _)); refine blk_far ?_ NB207_219.out _; (with_reducible repeat (first | refine blk_drewN ?_ _ | refine blk_drew ?_ | refine blk_alloc ?_ _)); exact BK207.out) hb); have n2_ := Aside0.mk (blk_below (g := gb208) (o := .cells #[.int .i64 x209000_8, .int .i64 x209001_8, .string x209002_8] 24 (0, 0)) (by (with_reducible repeat (first | refine blk_drewN ?_ _ | refine blk_drew ?_ | refine blk_alloc ?_ _)); refine blk_far ?_ NB208_219.out _; (with_reducible repeat (first | refine blk_drewN ?_ _ | refine blk_drew ?_ | refine blk_alloc ?_ _)); refine blk_far ?_ NB208_219.out _; (with_reducible repeat (first | refine blk_drewN ?_ _ | refine blk_drew ?_ | refine blk_alloc ?_ _)); refine blk_far ?_ NB208_219.out _; (with_reducible repeat (first | refine blk_drewN ?_ _ | refine blk_drew ?_ | refine blk_alloc ?_ _)); exact BK208.out) hb); have n3_ := Aside0.mk (blk_below (g := gb219) (o := .cells #[.int .i64 t215, .int .i64 t216, .string t217] 24 (0, 0)) (by (with_reducible repeat (first | refine blk_drewN ?_ _ | refine blk_drew ?_ | refine blk_alloc ?_ _)); refine blk_put (cs := #[.int .i64 t215, .int .i64 t216, .string (⟨#[]⟩ : ByteArray)]) ?_ 2 _ rfl; (with_reducible repeat (first | refine blk_drewN ?_ _ | refine blk_drew ?_ | refine blk_alloc ?_ _)); refine blk_put (cs := #[.int .i64 t215, .int .i64 0, .string (⟨#[]⟩ : ByteArray)]) ?_ 1 _ rfl; (with_reducible repeat (first | refine blk_drewN ?_ _ | refine blk_drew ?_ | refine blk_alloc ?_ _)); refine blk_put (cs := #[.int .i64 0, .int .i64 0, .string (⟨#[]⟩ : ByteArray)]) ?_ 0 _ rfl; (with_reducible repeat (first | refine blk_drewN ?_ _ | refine blk_drew ?_ | refine blk_alloc ?_ _)); exact BK219.out) hb); have n4_ := Aside0.mk (below_step (by repeat (first | (with_reducible first | exact HB.out | apply below_alloc | apply pw_below_drewN | apply below_drew1 | refine below_set ?_ GE202.out | refine below_set ?_ GE207.out | refine below_set ?_ GE208.out | refine below_set ?_ GE219.out) | exact HB.out)) hb); clear BK202; clear BK207; clear BK208; clear BK219; clear HB; have BK202 := n0_; have BK207 := n1_; have BK208 := n2_; have BK219 := n3_; have HB := n4_; clear n0_ n1_ n2_ n3_ n4_; (try clear hb); (try clear hb2); (try clear hk); (try clear hi); have hcz97_0 : w96.cell? ⟨gb219, 0, none⟩ = some (.int .i64 t215) := (blk_cell BK219.out 0).trans rfl; have hcz97_1 : w96.cell? ⟨gb219, 1, none⟩ = some (.int .i64 t216) := (blk_cell BK219.out 1).trans rfl; have hcz97_2 : w96.cell? ⟨gb219, 2, none⟩ = some (.string t217) := (blk_cell BK219.out 2).trans rfl; have hfz97_0 := blk_frozen BK219.out 0; have hfz97_1 := blk_frozen BK219.out 1; have hfz97_2 := blk_frozen BK219.out 2) | ((with_reducible refine gate_callee (f := 42) rfl ?_); refine goesL_ (some 63) rfl rfl Try.func42 (by kernel_rfl) rfl #[.agg #[.int .i64 t215, .int .i64 t216, .string t217]] rfl (by (try simp only [List.map_toArray, List.map_cons, List.map_nil]); first | done | rfl | (simp only [List.length_drop, List.length_take]; rfl)) ?_; (with_reducible refine (logic_True.calls t215 t216 t217 t222 t223 _ A41.out).mono ?_); rintro e w98 ⟨rfl, hb⟩; refine ⟨_, rfl, ?_⟩; have n0_ := Aside0.mk (blk_below (g := gb202) (o := .cells #[.int .i64 ((rd_T37 l0 x3_1).f0.f0), .int .i64 ((rd_T37 l0 x3_1).f0.f1), .string ((rd_T37 l0 x3_1).f0.f2)] 24 (0, 0)) (by (with_reducible repeat (first | refine blk_drewN ?_ _ | refine blk_drew ?_ | refine blk_alloc ?_ _)); exact BK202.out) hb); have n1_ := Aside0.mk (blk_below (g := gb207) (o := .cells #[.int .i64 t203, .int .i64 t204, .string t205] 24 (0, 0)) (by (with_reducible repeat (first | refine blk_drewN ?_ _ | refine blk_drew ?_ | refine blk_alloc ?_ _)); exact BK207.out) hb); have n2_ := Aside0.mk (blk_below (g := gb208) (o := .cells #[.int .i64 x209000_8, .int .i64 x209001_8, .string x209002_8] 24 (0, 0)) (by (with_reducible repeat (first | refine blk_drewN ?_ _ | refine blk_drew ?_ | refine blk_alloc ?_ _)); exact BK208.out) hb); have n3_ := Aside0.mk (blk_below (g := gb219) (o := .cells #[.int .i64 t215, .int .i64 t216, .string t217] 24 (0, 0)) (by (with_reducible repeat (first | refine blk_drewN ?_ _ | refine blk_drew ?_ | refine blk_alloc ?_ _)); exact BK219.out) hb); have n4_ := Aside0.mk (below_step (by repeat (first | (with_reducible first | exact HB.out | apply below_alloc | apply pw_below_drewN | apply below_drew1 | refine below_set ?_ GE202.out | refine below_set ?_ GE207.out | refine below_set ?_ GE208.out | refine below_set ?_ GE219.out) | exact HB.out)) hb); clear BK202; clear BK207; clear BK208; clear BK219; clear HB; have BK202 := n0_; have BK207 := n1_; have BK208 := n2_; have BK219 := n3_; have HB := n4_; clear n0_ n1_ n2_ n3_ n4_; (try clear hb); (try clear hb2); (try clear hk); (try clear hi)) | ((with_reducible refine gate_callee (f := 43) rfl ?_); refine goesL_ (some 67) rfl rfl Try.func43 (by kernel_rfl) rfl #[.int .i64 t218] rfl (by (try simp only [List.map_toArray, List.map_cons, List.map_nil]); first | done | rfl | (simp only [List.length_drop, List.length_take]; rfl)) ?_; (with_reducible refine (cadastrelaw3_num.calls t218 t224 _ A42.out).mono ?_); rintro e w' ⟨rfl, ⟨nd, rfl⟩⟩; refine ⟨_, rfl, ?_⟩) | (go_at_call 43; (with_reducible refine (cadastrelaw3_num.calls t221 t225 _ A61.out).mono ?_); rintro e w' ⟨rfl, ⟨nd, rfl⟩⟩; (try clear A61)) | (go_at_call 43; (with_reducible refine (cadastrelaw3_num.calls t223 t226 _ A80.out).mono ?_); rintro e w' ⟨rfl, ⟨nd, rfl⟩⟩; (try clear A80)))
                    go_ret
                    exact ⟨by first | rfl | (simp [errW_none, errW_some] <;> rfl) | (simp [*, errW_none, errW_some] <;> rfl), by repeat (first | (with_reducible first | exact HB.out | apply below_alloc | apply pw_below_drewN | apply below_drew1 | refine below_set ?_ GE202.out | refine below_set ?_ GE207.out | refine below_set ?_ GE208.out | refine below_set ?_ GE219.out) | exact HB.out)⟩
                  rw [if_pos c81] at H
                  have c81b0 : (t226 == 0) = true := beq_iff_eq.mpr c81
                  have c81b1 : (t226 != 0) = false := bne_eq_false_iff_eq.mpr c81
                  clear c81
                  by_cases c99 : (t220 != t222) = true
                  · rw [if_pos c99] at H
                    have c99b0 : (t220 != t222) = true := c99
                    (try (have c99b1 : decide (t220 = t222) = false := by simpa using c99))
                    (try (have c99b2 : (t220 == t222) = false := by simpa using c99))
                    (try (have c99b3 : ¬ (t220 = t222) := by simpa using c99))
                    clear c99
                    obtain rfl := Option.some.inj H
                    have hnb100 := NB207_202.out
                    have hnc100 := NB202_207.out
                    have hnb101 := NB207_208.out
                    have hnc101 := NB208_207.out
                    have hcz102_0 : wc.cell? ⟨gb207, 0, none⟩ = some (.int .i64 t203) := (blk_cell BK207.out 0).trans rfl
                    have hcz102_1 : wc.cell? ⟨gb207, 1, none⟩ = some (.int .i64 t204) := (blk_cell BK207.out 1).trans rfl
                    have hcz102_2 : wc.cell? ⟨gb207, 2, none⟩ = some (.string t205) := (blk_cell BK207.out 2).trans rfl
                    have hfz102_0 := blk_frozen BK207.out 0
                    have hfz102_1 := blk_frozen BK207.out 1
                    have hfz102_2 := blk_frozen BK207.out 2
                    have hnb103 := NB208_202.out
                    have hnc103 := NB202_208.out
                    have hcz104_0 : wc.cell? ⟨gb208, 0, none⟩ = some (.int .i64 x209000_8) := (blk_cell BK208.out 0).trans rfl
                    have hcz104_1 : wc.cell? ⟨gb208, 1, none⟩ = some (.int .i64 x209001_8) := (blk_cell BK208.out 1).trans rfl
                    have hcz104_2 : wc.cell? ⟨gb208, 2, none⟩ = some (.string x209002_8) := (blk_cell BK208.out 2).trans rfl
                    have hfz104_0 := blk_frozen BK208.out 0
                    have hfz104_1 := blk_frozen BK208.out 1
                    have hfz104_2 := blk_frozen BK208.out 2
                    go_wp2_with (first | ((with_reducible refine gate_callee (f := 33) rfl ?_); refine goesL_ (some 47) rfl rfl Try.func33 (by kernel_rfl) rfl #[.agg #[.int .i64 t203, .int .i64 t204, .string t205], .int .i64 t206, .agg #[.int .i64 x209000_8, .int .i64 x209001_8, .string x209002_8], .int .i64 x8_8] rfl (by (try simp only [List.map_toArray, List.map_cons, List.map_nil]); first | done | rfl | (simp only [List.length_drop, List.length_take]; rfl)) ?_; (with_reducible refine (cadastrelaw3_is.calls t203 t204 t205 t206 x209000_8 x209001_8 x209002_8 x8_8 true _ A30.out).mono ?_); rintro e w105 ⟨rfl, hb⟩; refine ⟨_, rfl, ?_⟩; have n0_ := Aside0.mk (blk_below (g := gb202) (o := .cells #[.int .i64 ((rd_T37 l0 x3_1).f0.f0), .int .i64 ((rd_T37 l0 x3_1).f0.f1), .string ((rd_T37 l0 x3_1).f0.f2)] 24 (0, 0)) (by (with_reducible repeat (first | refine blk_drewN ?_ _ | refine blk_drew ?_ | refine blk_alloc ?_ _)); exact BK202.out) hb); have n1_ := Aside0.mk (blk_below (g := gb207) (o := .cells #[.int .i64 t203, .int .i64 t204, .string t205] 24 (0, 0)) (by (with_reducible repeat (first | refine blk_drewN ?_ _ | refine blk_drew ?_ | refine blk_alloc ?_ _)); exact BK207.out) hb); have n2_ := Aside0.mk (blk_below (g := gb208) (o := .cells #[.int .i64 x209000_8, .int .i64 x209001_8, .string x209002_8] 24 (0, 0)) (by (with_reducible repeat (first | refine blk_drewN ?_ _ | refine blk_drew ?_ | refine blk_alloc ?_ _)); exact BK208.out) hb); have n3_ := Aside0.mk (below_step (by repeat (first | (with_reducible first | exact HB.out | apply below_alloc | apply pw_below_drewN | apply below_drew1 | refine below_set ?_ GE202.out | refine below_set ?_ GE207.out | refine below_set ?_ GE208.out) | exact HB.out)) hb); clear BK202; clear BK207; clear BK208; clear HB; have BK202 := n0_; have BK207 := n1_; have BK208 := n2_; have HB := n3_; clear n0_ n1_ n2_ n3_; (try clear hb); (try clear hb2); (try clear hk); (try clear hi); have hcz106_0 : w105.cell? ⟨gb207, 0, none⟩ = some (.int .i64 t203) := (blk_cell BK207.out 0).trans rfl; have hcz106_1 : w105.cell? ⟨gb207, 1, none⟩ = some (.int .i64 t204) := (blk_cell BK207.out 1).trans rfl; have hcz106_2 : w105.cell? ⟨gb207, 2, none⟩ = some (.string t205) := (blk_cell BK207.out 2).trans rfl; have hfz106_0 := blk_frozen BK207.out 0; have hfz106_1 := blk_frozen BK207.out 1; have hfz106_2 := blk_frozen BK207.out 2) | ((with_reducible refine gate_callee (f := 40) rfl ?_); refine goesL_ (some 53) rfl rfl Try.func40 (by kernel_rfl) rfl #[.agg #[.int .i64 t203, .int .i64 t204, .string t205]] rfl (by (try simp only [List.map_toArray, List.map_cons, List.map_nil]); first | done | rfl | (simp only [List.length_drop, List.length_take]; rfl)) ?_; (with_reducible refine (logic_Not.calls t203 t204 t205 t215 t216 t217 t218 _ A39.out).mono ?_); rintro e w107 ⟨rfl, hb⟩; refine ⟨_, rfl, ?_⟩; have n0_ := Aside0.mk (blk_below (g := gb202) (o := .cells #[.int .i64 ((rd_T37 l0 x3_1).f0.f0), .int .i64 ((rd_T37 l0 x3_1).f0.f1), .string ((rd_T37 l0 x3_1).f0.f2)] 24 (0, 0)) (by (with_reducible repeat (first | refine blk_drewN ?_ _ | refine blk_drew ?_ | refine blk_alloc ?_ _)); exact BK202.out) hb); have n1_ := Aside0.mk (blk_below (g := gb207) (o := .cells #[.int .i64 t203, .int .i64 t204, .string t205] 24 (0, 0)) (by (with_reducible repeat (first | refine blk_drewN ?_ _ | refine blk_drew ?_ | refine blk_alloc ?_ _)); exact BK207.out) hb); have n2_ := Aside0.mk (blk_below (g := gb208) (o := .cells #[.int .i64 x209000_8, .int .i64 x209001_8, .string x209002_8] 24 (0, 0)) (by (with_reducible repeat (first | refine blk_drewN ?_ _ | refine blk_drew ?_ | refine blk_alloc ?_ _)); exact BK208.out) hb); have n3_ := Aside0.mk (below_step (by repeat (first | (with_reducible first | exact HB.out | apply below_alloc | apply pw_below_drewN | apply below_drew1 | refine below_set ?_ GE202.out | refine below_set ?_ GE207.out | refine below_set ?_ GE208.out) | exact HB.out)) hb); clear BK202; clear BK207; clear BK208; clear HB; have BK202 := n0_; have BK207 := n1_; have BK208 := n2_; have HB := n3_; clear n0_ n1_ n2_ n3_; (try clear hb); (try clear hb2); (try clear hk); (try clear hi)) | ((with_reducible refine gate_dst (N := 9) rfl ?_); refine box_event ?hg (N := 9) ?hd (cs := #[.int .i64 0, .int .i64 0, .string (⟨#[]⟩ : ByteArray)]) (t := 24) ?hr ?_; (case hd => rfl); (case hg => rfl); (case hr => first | (go_simp; done) | (go_simp; rfl)); intro gb219 hg w108 hbox hb; have n0_ := Aside0.mk (blk_below (g := gb202) (o := .cells #[.int .i64 ((rd_T37 l0 x3_1).f0.f0), .int .i64 ((rd_T37 l0 x3_1).f0.f1), .string ((rd_T37 l0 x3_1).f0.f2)] 24 (0, 0)) (by (with_reducible repeat (first | refine blk_drewN ?_ _ | refine blk_drew ?_ | refine blk_alloc ?_ _)); exact BK202.out) hb); have n1_ := Aside0.mk (blk_below (g := gb207) (o := .cells #[.int .i64 t203, .int .i64 t204, .string t205] 24 (0, 0)) (by (with_reducible repeat (first | refine blk_drewN ?_ _ | refine blk_drew ?_ | refine blk_alloc ?_ _)); exact BK207.out) hb); have n2_ := Aside0.mk (blk_below (g := gb208) (o := .cells #[.int .i64 x209000_8, .int .i64 x209001_8, .string x209002_8] 24 (0, 0)) (by (with_reducible repeat (first | refine blk_drewN ?_ _ | refine blk_drew ?_ | refine blk_alloc ?_ _)); exact BK208.out) hb); have n3_ := Aside0.mk (below_step (by repeat (first | (with_reducible first | exact HB.out | apply below_alloc | apply pw_below_drewN | apply below_drew1 | refine below_set ?_ GE202.out | refine below_set ?_ GE207.out | refine below_set ?_ GE208.out) | exact HB.out)) hb); have n4_ := Aside0.mk (hbox); have n5_ := Aside0.mk ((by rw [hg]; exact (below_size (by repeat (first | (with_reducible first | exact HB.out | apply below_alloc | apply pw_below_drewN | apply below_drew1 | refine below_set ?_ GE202.out | refine below_set ?_ GE207.out | refine below_set ?_ GE208.out) | exact HB.out))) : w.heap.size ≤ gb219)); have n6_ := Aside0.mk ((by rw [hg]; exact (below_size (by repeat (first | (with_reducible first | exact HB.out | apply below_alloc | apply pw_below_drewN | apply below_drew1 | refine below_set ?_ GE202.out | refine below_set ?_ GE207.out | refine below_set ?_ GE208.out) | exact HB.out))) : w.heap.size ≤ gb219)); have n7_ := Aside0.mk ((by rw [hg]; exact Nat.ne_of_lt (blk_lt (g := gb202) (o := .cells #[.int .i64 ((rd_T37 l0 x3_1).f0.f0), .int .i64 ((rd_T37 l0 x3_1).f0.f1), .string ((rd_T37 l0 x3_1).f0.f2)] 24 (0, 0)) (by (with_reducible repeat (first | refine blk_drewN ?_ _ | refine blk_drew ?_ | refine blk_alloc ?_ _)); exact BK202.out)) : gb202 ≠ gb219)); have n8_ := Aside0.mk ((by rw [hg]; exact Nat.ne_of_gt (blk_lt (g := gb202) (o := .cells #[.int .i64 ((rd_T37 l0 x3_1).f0.f0), .int .i64 ((rd_T37 l0 x3_1).f0.f1), .string ((rd_T37 l0 x3_1).f0.f2)] 24 (0, 0)) (by (with_reducible repeat (first | refine blk_drewN ?_ _ | refine blk_drew ?_ | refine blk_alloc ?_ _)); exact BK202.out)) : gb219 ≠ gb202)); have n9_ := Aside0.mk ((by rw [hg]; exact Nat.ne_of_lt (blk_lt (g := gb207) (o := .cells #[.int .i64 t203, .int .i64 t204, .string t205] 24 (0, 0)) (by (with_reducible repeat (first | refine blk_drewN ?_ _ | refine blk_drew ?_ | refine blk_alloc ?_ _)); exact BK207.out)) : gb207 ≠ gb219)); have n10_ := Aside0.mk ((by rw [hg]; exact Nat.ne_of_gt (blk_lt (g := gb207) (o := .cells #[.int .i64 t203, .int .i64 t204, .string t205] 24 (0, 0)) (by (with_reducible repeat (first | refine blk_drewN ?_ _ | refine blk_drew ?_ | refine blk_alloc ?_ _)); exact BK207.out)) : gb219 ≠ gb207)); have n11_ := Aside0.mk ((by rw [hg]; exact Nat.ne_of_lt (blk_lt (g := gb208) (o := .cells #[.int .i64 x209000_8, .int .i64 x209001_8, .string x209002_8] 24 (0, 0)) (by (with_reducible repeat (first | refine blk_drewN ?_ _ | refine blk_drew ?_ | refine blk_alloc ?_ _)); exact BK208.out)) : gb208 ≠ gb219)); have n12_ := Aside0.mk ((by rw [hg]; exact Nat.ne_of_gt (blk_lt (g := gb208) (o := .cells #[.int .i64 x209000_8, .int .i64 x209001_8, .string x209002_8] 24 (0, 0)) (by (with_reducible repeat (first | refine blk_drewN ?_ _ | refine blk_drew ?_ | refine blk_alloc ?_ _)); exact BK208.out)) : gb219 ≠ gb208)); clear BK202; clear BK207; clear BK208; clear HB; have BK202 := n0_; have BK207 := n1_; have BK208 := n2_; have HB := n3_; have BK219 := n4_; have GW219 := n5_; have GE219 := n6_; have NB202_219 := n7_; have NB219_202 := n8_; have NB207_219 := n9_; have NB219_207 := n10_; have NB208_219 := n11_; have NB219_208 := n12_; clear n0_ n1_ n2_ n3_ n4_ n5_ n6_ n7_ n8_ n9_ n10_ n11_ n12_; clear hb hbox hg; have hnb109 := NB219_202.out; have hnc109 := NB202_219.out; have hnb110 := NB219_207.out; have hnc110 := NB207_219.out; have hnb111 := NB219_208.out; have hnc111 := NB208_219.out; have hcz112_0 : w108.cell? ⟨gb219, 0, none⟩ = some (.int .i64 0) := (blk_cell BK219.out 0).trans rfl; have hcz112_1 : w108.cell? ⟨gb219, 1, none⟩ = some (.int .i64 0) := (blk_cell BK219.out 1).trans rfl; have hcz112_2 : w108.cell? ⟨gb219, 2, none⟩ = some (.string (⟨#[]⟩ : ByteArray)) := (blk_cell BK219.out 2).trans rfl; have hfz112_0 := blk_frozen BK219.out 0; have hfz112_1 := blk_frozen BK219.out 1; have hfz112_2 := blk_frozen BK219.out 2; have hcz113_0 : w108.cell? ⟨gb202, 0, none⟩ = some (.int .i64 ((rd_T37 l0 x3_1).f0.f0)) := (blk_cell BK202.out 0).trans rfl; have hcz113_1 : w108.cell? ⟨gb202, 1, none⟩ = some (.int .i64 ((rd_T37 l0 x3_1).f0.f1)) := (blk_cell BK202.out 1).trans rfl; have hcz113_2 : w108.cell? ⟨gb202, 2, none⟩ = some (.string ((rd_T37 l0 x3_1).f0.f2)) := (blk_cell BK202.out 2).trans rfl; have hfz113_0 := blk_frozen BK202.out 0; have hfz113_1 := blk_frozen BK202.out 1; have hfz113_2 := blk_frozen BK202.out 2) | ((with_reducible refine gate_callee (f := 42) rfl ?_); refine goesL_ (some 58) rfl rfl Try.func42 (by kernel_rfl) rfl #[.agg #[.int .i64 ((rd_T37 l0 x3_1).f0.f0), .int .i64 ((rd_T37 l0 x3_1).f0.f1), .string ((rd_T37 l0 x3_1).f0.f2)]] rfl (by (try simp only [List.map_toArray, List.map_cons, List.map_nil]); first | done | rfl | (simp only [List.length_drop, List.length_take]; rfl)) ?_; (with_reducible refine (logic_True.calls ((rd_T37 l0 x3_1).f0.f0) ((rd_T37 l0 x3_1).f0.f1) ((rd_T37 l0 x3_1).f0.f2) t220 t221 _ A40.out).mono ?_); rintro e w114 ⟨rfl, hb⟩; refine ⟨_, rfl, ?_⟩; have n0_ := Aside0.mk (blk_below (g := gb202) (o := .cells #[.int .i64 ((rd_T37 l0 x3_1).f0.f0), .int .i64 ((rd_T37 l0 x3_1).f0.f1), .string ((rd_T37 l0 x3_1).f0.f2)] 24 (0, 0)) (by (with_reducible repeat (first | refine blk_drewN ?_ _ | refine blk_drew ?_ | refine blk_alloc ?_ _)); refine blk_far ?_ NB202_219.out _; (with_reducible repeat (first | refine blk_drewN ?_ _ | refine blk_drew ?_ | refine blk_alloc ?_ _)); refine blk_far ?_ NB202_219.out _; (with_reducible repeat (first | refine blk_drewN ?_ _ | refine blk_drew ?_ | refine blk_alloc ?_ _)); refine blk_far ?_ NB202_219.out _; (with_reducible repeat (first | refine blk_drewN ?_ _ | refine blk_drew ?_ | refine blk_alloc ?_ _)); exact BK202.out) hb); have n1_ := Aside0.mk (blk_below (g := gb207) (o := .cells #[.int .i64 t203, .int .i64 t204, .string t205] 24 (0, 0)) (by (with_reducible repeat (first | refine blk_drewN ?_ _ | refine blk_drew ?_ | refine blk_alloc ?_ _)); refine blk_far ?_ NB207_219.out _; (with_reducible repeat (first | refine blk_drewN ?_ _ | refine blk_drew ?_ | refine blk_alloc ?_ _)); refine blk_far ?_ NB207_219.out _; (with_reducible repeat (first | refine blk_drewN ?_ _ | refine blk_drew ?_ | refine blk_alloc ?_ _)); refine blk_far ?_ NB207_219.out _; (with_reducible repeat (first | refine blk_drewN ?_ _ | refine blk_drew ?_ | refine blk_alloc ?_ _)); exact BK207.out) hb); have n2_ := Aside0.mk (blk_below (g := gb208) (o := .cells #[.int .i64 x209000_8, .int .i64 x209001_8, .string x209002_8] 24 (0, 0)) (by (with_reducible repeat (first | refine blk_drewN ?_ _ | refine blk_drew ?_ | refine blk_alloc ?_ _)); refine blk_far ?_ NB208_219.out _; (with_reducible repeat (first | refine blk_drewN ?_ _ | refine blk_drew ?_ | refine blk_alloc ?_ _)); refine blk_far ?_ NB208_219.out _; (with_reducible repeat (first | refine blk_drewN ?_ _ | refine blk_drew ?_ | refine blk_alloc ?_ _)); refine blk_far ?_ NB208_219.out _; (with_reducible repeat (first | refine blk_drewN ?_ _ | refine blk_drew ?_ | refine blk_alloc ?_ _)); exact BK208.out) hb); have n3_ := Aside0.mk (blk_below (g := gb219) (o := .cells #[.int .i64 t215, .int .i64 t216, .string t217] 24 (0, 0)) (by (with_reducible repeat (first | refine blk_drewN ?_ _ | refine blk_drew ?_ | refine blk_alloc ?_ _)); refine blk_put (cs := #[.int .i64 t215, .int .i64 t216, .string (⟨#[]⟩ : ByteArray)]) ?_ 2 _ rfl; (with_reducible repeat (first | refine blk_drewN ?_ _ | refine blk_drew ?_ | refine blk_alloc ?_ _)); refine blk_put (cs := #[.int .i64 t215, .int .i64 0, .string (⟨#[]⟩ : ByteArray)]) ?_ 1 _ rfl; (with_reducible repeat (first | refine blk_drewN ?_ _ | refine blk_drew ?_ | refine blk_alloc ?_ _)); refine blk_put (cs := #[.int .i64 0, .int .i64 0, .string (⟨#[]⟩ : ByteArray)]) ?_ 0 _ rfl; (with_reducible repeat (first | refine blk_drewN ?_ _ | refine blk_drew ?_ | refine blk_alloc ?_ _)); exact BK219.out) hb); have n4_ := Aside0.mk (below_step (by repeat (first | (with_reducible first | exact HB.out | apply below_alloc | apply pw_below_drewN | apply below_drew1 | refine below_set ?_ GE202.out | refine below_set ?_ GE207.out | refine below_set ?_ GE208.out | refine below_set ?_ GE219.out) | exact HB.out)) hb); clear BK202; clear BK207; clear BK208; clear BK219; clear HB; have BK202 := n0_; have BK207 := n1_; have BK208 := n2_; have BK219 := n3_; have HB := n4_; clear n0_ n1_ n2_ n3_ n4_; (try clear hb); (try clear hb2); (try clear hk); (try clear hi); have hcz115_0 : w114.cell? ⟨gb219, 0, none⟩ = some (.int .i64 t215) := (blk_cell BK219.out 0).trans rfl; have hcz115_1 : w114.cell? ⟨gb219, 1, none⟩ = some (.int .i64 t216) := (blk_cell BK219.out 1).trans rfl; have hcz115_2 : w114.cell? ⟨gb219, 2, none⟩ = some (.string t217) := (blk_cell BK219.out 2).trans rfl; have hfz115_0 := blk_frozen BK219.out 0; have hfz115_1 := blk_frozen BK219.out 1; have hfz115_2 := blk_frozen BK219.out 2) | ((with_reducible refine gate_callee (f := 42) rfl ?_); refine goesL_ (some 63) rfl rfl Try.func42 (by kernel_rfl) rfl #[.agg #[.int .i64 t215, .int .i64 t216, .string t217]] rfl (by (try simp only [List.map_toArray, List.map_cons, List.map_nil]); first | done | rfl | (simp only [List.length_drop, List.length_take]; rfl)) ?_; (with_reducible refine (logic_True.calls t215 t216 t217 t222 t223 _ A41.out).mono ?_); rintro e w116 ⟨rfl, hb⟩; refine ⟨_, rfl, ?_⟩; have n0_ := Aside0.mk (blk_below (g := gb202) (o := .cells #[.int .i64 ((rd_T37 l0 x3_1).f0.f0), .int .i64 ((rd_T37 l0 x3_1).f0.f1), .string ((rd_T37 l0 x3_1).f0.f2)] 24 (0, 0)) (by (with_reducible repeat (first | refine blk_drewN ?_ _ | refine blk_drew ?_ | refine blk_alloc ?_ _)); exact BK202.out) hb); have n1_ := Aside0.mk (blk_below (g := gb207) (o := .cells #[.int .i64 t203, .int .i64 t204, .string t205] 24 (0, 0)) (by (with_reducible repeat (first | refine blk_drewN ?_ _ | refine blk_drew ?_ | refine blk_alloc ?_ _)); exact BK207.out) hb); have n2_ := Aside0.mk (blk_below (g := gb208) (o := .cells #[.int .i64 x209000_8, .int .i64 x209001_8, .string x209002_8] 24 (0, 0)) (by (with_reducible repeat (first | refine blk_drewN ?_ _ | refine blk_drew ?_ | refine blk_alloc ?_ _)); exact BK208.out) hb); have n3_ := Aside0.mk (blk_below (g := gb219) (o := .cells #[.int .i64 t215, .int .i64 t216, .string t217] 24 (0, 0)) (by (with_reducible repeat (first | refine blk_drewN ?_ _ | refine blk_drew ?_ | refine blk_alloc ?_ _)); exact BK219.out) hb); have n4_ := Aside0.mk (below_step (by repeat (first | (with_reducible first | exact HB.out | apply below_alloc | apply pw_below_drewN | apply below_drew1 | refine below_set ?_ GE202.out | refine below_set ?_ GE207.out | refine below_set ?_ GE208.out | refine below_set ?_ GE219.out) | exact HB.out)) hb); clear BK202; clear BK207; clear BK208; clear BK219; clear HB; have BK202 := n0_; have BK207 := n1_; have BK208 := n2_; have BK219 := n3_; have HB := n4_; clear n0_ n1_ n2_ n3_ n4_; (try clear hb); (try clear hb2); (try clear hk); (try clear hi)) | ((with_reducible refine gate_callee (f := 43) rfl ?_); refine goesL_ (some 67) rfl rfl Try.func43 (by kernel_rfl) rfl #[.int .i64 t218] rfl (by (try simp only [List.map_toArray, List.map_cons, List.map_nil]); first | done | rfl | (simp only [List.length_drop, List.length_take]; rfl)) ?_; (with_reducible refine (cadastrelaw3_num.calls t218 t224 _ A42.out).mono ?_); rintro e w' ⟨rfl, ⟨nd, rfl⟩⟩; refine ⟨_, rfl, ?_⟩) | (go_at_call 43; (with_reducible refine (cadastrelaw3_num.calls t221 t225 _ A61.out).mono ?_); rintro e w' ⟨rfl, ⟨nd, rfl⟩⟩; (try clear A61)) | (go_at_call 43; (with_reducible refine (cadastrelaw3_num.calls t223 t226 _ A80.out).mono ?_); rintro e w' ⟨rfl, ⟨nd, rfl⟩⟩; (try clear A80)))
                    go_ret
                    exact ⟨by first | rfl | (simp [errW_none, errW_some] <;> rfl) | (simp [*, errW_none, errW_some] <;> rfl), by repeat (first | (with_reducible first | exact HB.out | apply below_alloc | apply pw_below_drewN | apply below_drew1 | refine below_set ?_ GE202.out | refine below_set ?_ GE207.out | refine below_set ?_ GE208.out | refine below_set ?_ GE219.out) | exact HB.out)⟩
                  rw [if_neg c99] at H
                  have c99b0 : (t220 != t222) = false := by simpa using c99
                  (try (have c99b1 : decide (t220 = t222) = true := by simpa using c99))
                  (try (have c99b2 : (t220 == t222) = true := by simpa using c99))
                  clear c99
                  have H' := Aside0.mk H
                  clear H
                  have hnb117 := NB207_202.out
                  have hnc117 := NB202_207.out
                  have hnb118 := NB207_208.out
                  have hnc118 := NB208_207.out
                  have hcz119_0 : wc.cell? ⟨gb207, 0, none⟩ = some (.int .i64 t203) := (blk_cell BK207.out 0).trans rfl
                  have hcz119_1 : wc.cell? ⟨gb207, 1, none⟩ = some (.int .i64 t204) := (blk_cell BK207.out 1).trans rfl
                  have hcz119_2 : wc.cell? ⟨gb207, 2, none⟩ = some (.string t205) := (blk_cell BK207.out 2).trans rfl
                  have hfz119_0 := blk_frozen BK207.out 0
                  have hfz119_1 := blk_frozen BK207.out 1
                  have hfz119_2 := blk_frozen BK207.out 2
                  have hnb120 := NB208_202.out
                  have hnc120 := NB202_208.out
                  have hcz121_0 : wc.cell? ⟨gb208, 0, none⟩ = some (.int .i64 x209000_8) := (blk_cell BK208.out 0).trans rfl
                  have hcz121_1 : wc.cell? ⟨gb208, 1, none⟩ = some (.int .i64 x209001_8) := (blk_cell BK208.out 1).trans rfl
                  have hcz121_2 : wc.cell? ⟨gb208, 2, none⟩ = some (.string x209002_8) := (blk_cell BK208.out 2).trans rfl
                  have hfz121_0 := blk_frozen BK208.out 0
                  have hfz121_1 := blk_frozen BK208.out 1
                  have hfz121_2 := blk_frozen BK208.out 2
                  go_wp2_with (first | ((with_reducible refine gate_callee (f := 33) rfl ?_); refine goesL_ (some 47) rfl rfl Try.func33 (by kernel_rfl) rfl #[.agg #[.int .i64 t203, .int .i64 t204, .string t205], .int .i64 t206, .agg #[.int .i64 x209000_8, .int .i64 x209001_8, .string x209002_8], .int .i64 x8_8] rfl (by (try simp only [List.map_toArray, List.map_cons, List.map_nil]); first | done | rfl | (simp only [List.length_drop, List.length_take]; rfl)) ?_; (with_reducible refine (cadastrelaw3_is.calls t203 t204 t205 t206 x209000_8 x209001_8 x209002_8 x8_8 true _ A30.out).mono ?_); rintro e w122 ⟨rfl, hb⟩; refine ⟨_, rfl, ?_⟩; have n0_ := Aside0.mk (blk_below (g := gb202) (o := .cells #[.int .i64 ((rd_T37 l0 x3_1).f0.f0), .int .i64 ((rd_T37 l0 x3_1).f0.f1), .string ((rd_T37 l0 x3_1).f0.f2)] 24 (0, 0)) (by (with_reducible repeat (first | refine blk_drewN ?_ _ | refine blk_drew ?_ | refine blk_alloc ?_ _)); exact BK202.out) hb); have n1_ := Aside0.mk (blk_below (g := gb207) (o := .cells #[.int .i64 t203, .int .i64 t204, .string t205] 24 (0, 0)) (by (with_reducible repeat (first | refine blk_drewN ?_ _ | refine blk_drew ?_ | refine blk_alloc ?_ _)); exact BK207.out) hb); have n2_ := Aside0.mk (blk_below (g := gb208) (o := .cells #[.int .i64 x209000_8, .int .i64 x209001_8, .string x209002_8] 24 (0, 0)) (by (with_reducible repeat (first | refine blk_drewN ?_ _ | refine blk_drew ?_ | refine blk_alloc ?_ _)); exact BK208.out) hb); have n3_ := Aside0.mk (below_step (by repeat (first | (with_reducible first | exact HB.out | apply below_alloc | apply pw_below_drewN | apply below_drew1 | refine below_set ?_ GE202.out | refine below_set ?_ GE207.out | refine below_set ?_ GE208.out) | exact HB.out)) hb); clear BK202; clear BK207; clear BK208; clear HB; have BK202 := n0_; have BK207 := n1_; have BK208 := n2_; have HB := n3_; clear n0_ n1_ n2_ n3_; (try clear hb); (try clear hb2); (try clear hk); (try clear hi); have hcz123_0 : w122.cell? ⟨gb207, 0, none⟩ = some (.int .i64 t203) := (blk_cell BK207.out 0).trans rfl; have hcz123_1 : w122.cell? ⟨gb207, 1, none⟩ = some (.int .i64 t204) := (blk_cell BK207.out 1).trans rfl; have hcz123_2 : w122.cell? ⟨gb207, 2, none⟩ = some (.string t205) := (blk_cell BK207.out 2).trans rfl; have hfz123_0 := blk_frozen BK207.out 0; have hfz123_1 := blk_frozen BK207.out 1; have hfz123_2 := blk_frozen BK207.out 2) | ((with_reducible refine gate_callee (f := 40) rfl ?_); refine goesL_ (some 53) rfl rfl Try.func40 (by kernel_rfl) rfl #[.agg #[.int .i64 t203, .int .i64 t204, .string t205]] rfl (by (try simp only [List.map_toArray, List.map_cons, List.map_nil]); first | done | rfl | (simp only [List.length_drop, List.length_take]; rfl)) ?_; (with_reducible refine (logic_Not.calls t203 t204 t205 t215 t216 t217 t218 _ A39.out).mono ?_); rintro e w124 ⟨rfl, hb⟩; refine ⟨_, rfl, ?_⟩; have n0_ := Aside0.mk (blk_below (g := gb202) (o := .cells #[.int .i64 ((rd_T37 l0 x3_1).f0.f0), .int .i64 ((rd_T37 l0 x3_1).f0.f1), .string ((rd_T37 l0 x3_1).f0.f2)] 24 (0, 0)) (by (with_reducible repeat (first | refine blk_drewN ?_ _ | refine blk_drew ?_ | refine blk_alloc ?_ _)); exact BK202.out) hb); have n1_ := Aside0.mk (blk_below (g := gb207) (o := .cells #[.int .i64 t203, .int .i64 t204, .string t205] 24 (0, 0)) (by (with_reducible repeat (first | refine blk_drewN ?_ _ | refine blk_drew ?_ | refine blk_alloc ?_ _)); exact BK207.out) hb); have n2_ := Aside0.mk (blk_below (g := gb208) (o := .cells #[.int .i64 x209000_8, .int .i64 x209001_8, .string x209002_8] 24 (0, 0)) (by (with_reducible repeat (first | refine blk_drewN ?_ _ | refine blk_drew ?_ | refine blk_alloc ?_ _)); exact BK208.out) hb); have n3_ := Aside0.mk (below_step (by repeat (first | (with_reducible first | exact HB.out | apply below_alloc | apply pw_below_drewN | apply below_drew1 | refine below_set ?_ GE202.out | refine below_set ?_ GE207.out | refine below_set ?_ GE208.out) | exact HB.out)) hb); clear BK202; clear BK207; clear BK208; clear HB; have BK202 := n0_; have BK207 := n1_; have BK208 := n2_; have HB := n3_; clear n0_ n1_ n2_ n3_; (try clear hb); (try clear hb2); (try clear hk); (try clear hi)) | ((with_reducible refine gate_dst (N := 9) rfl ?_); refine box_event ?hg (N := 9) ?hd (cs := #[.int .i64 0, .int .i64 0, .string (⟨#[]⟩ : ByteArray)]) (t := 24) ?hr ?_; (case hd => rfl); (case hg => rfl); (case hr => first | (go_simp; done) | (go_simp; rfl)); intro gb219 hg w125 hbox hb; have n0_ := Aside0.mk (blk_below (g := gb202) (o := .cells #[.int .i64 ((rd_T37 l0 x3_1).f0.f0), .int .i64 ((rd_T37 l0 x3_1).f0.f1), .string ((rd_T37 l0 x3_1).f0.f2)] 24 (0, 0)) (by (with_reducible repeat (first | refine blk_drewN ?_ _ | refine blk_drew ?_ | refine blk_alloc ?_ _)); exact BK202.out) hb); have n1_ := Aside0.mk (blk_below (g := gb207) (o := .cells #[.int .i64 t203, .int .i64 t204, .string t205] 24 (0, 0)) (by (with_reducible repeat (first | refine blk_drewN ?_ _ | refine blk_drew ?_ | refine blk_alloc ?_ _)); exact BK207.out) hb); have n2_ := Aside0.mk (blk_below (g := gb208) (o := .cells #[.int .i64 x209000_8, .int .i64 x209001_8, .string x209002_8] 24 (0, 0)) (by (with_reducible repeat (first | refine blk_drewN ?_ _ | refine blk_drew ?_ | refine blk_alloc ?_ _)); exact BK208.out) hb); have n3_ := Aside0.mk (below_step (by repeat (first | (with_reducible first | exact HB.out | apply below_alloc | apply pw_below_drewN | apply below_drew1 | refine below_set ?_ GE202.out | refine below_set ?_ GE207.out | refine below_set ?_ GE208.out) | exact HB.out)) hb); have n4_ := Aside0.mk (hbox); have n5_ := Aside0.mk ((by rw [hg]; exact (below_size (by repeat (first | (with_reducible first | exact HB.out | apply below_alloc | apply pw_below_drewN | apply below_drew1 | refine below_set ?_ GE202.out | refine below_set ?_ GE207.out | refine below_set ?_ GE208.out) | exact HB.out))) : w.heap.size ≤ gb219)); have n6_ := Aside0.mk ((by rw [hg]; exact (below_size (by repeat (first | (with_reducible first | exact HB.out | apply below_alloc | apply pw_below_drewN | apply below_drew1 | refine below_set ?_ GE202.out | refine below_set ?_ GE207.out | refine below_set ?_ GE208.out) | exact HB.out))) : w.heap.size ≤ gb219)); have n7_ := Aside0.mk ((by rw [hg]; exact Nat.ne_of_lt (blk_lt (g := gb202) (o := .cells #[.int .i64 ((rd_T37 l0 x3_1).f0.f0), .int .i64 ((rd_T37 l0 x3_1).f0.f1), .string ((rd_T37 l0 x3_1).f0.f2)] 24 (0, 0)) (by (with_reducible repeat (first | refine blk_drewN ?_ _ | refine blk_drew ?_ | refine blk_alloc ?_ _)); exact BK202.out)) : gb202 ≠ gb219)); have n8_ := Aside0.mk ((by rw [hg]; exact Nat.ne_of_gt (blk_lt (g := gb202) (o := .cells #[.int .i64 ((rd_T37 l0 x3_1).f0.f0), .int .i64 ((rd_T37 l0 x3_1).f0.f1), .string ((rd_T37 l0 x3_1).f0.f2)] 24 (0, 0)) (by (with_reducible repeat (first | refine blk_drewN ?_ _ | refine blk_drew ?_ | refine blk_alloc ?_ _)); exact BK202.out)) : gb219 ≠ gb202)); have n9_ := Aside0.mk ((by rw [hg]; exact Nat.ne_of_lt (blk_lt (g := gb207) (o := .cells #[.int .i64 t203, .int .i64 t204, .string t205] 24 (0, 0)) (by (with_reducible repeat (first | refine blk_drewN ?_ _ | refine blk_drew ?_ | refine blk_alloc ?_ _)); exact BK207.out)) : gb207 ≠ gb219)); have n10_ := Aside0.mk ((by rw [hg]; exact Nat.ne_of_gt (blk_lt (g := gb207) (o := .cells #[.int .i64 t203, .int .i64 t204, .string t205] 24 (0, 0)) (by (with_reducible repeat (first | refine blk_drewN ?_ _ | refine blk_drew ?_ | refine blk_alloc ?_ _)); exact BK207.out)) : gb219 ≠ gb207)); have n11_ := Aside0.mk ((by rw [hg]; exact Nat.ne_of_lt (blk_lt (g := gb208) (o := .cells #[.int .i64 x209000_8, .int .i64 x209001_8, .string x209002_8] 24 (0, 0)) (by (with_reducible repeat (first | refine blk_drewN ?_ _ | refine blk_drew ?_ | refine blk_alloc ?_ _)); exact BK208.out)) : gb208 ≠ gb219)); have n12_ := Aside0.mk ((by rw [hg]; exact Nat.ne_of_gt (blk_lt (g := gb208) (o := .cells #[.int .i64 x209000_8, .int .i64 x209001_8, .string x209002_8] 24 (0, 0)) (by (with_reducible repeat (first | refine blk_drewN ?_ _ | refine blk_drew ?_ | refine blk_alloc ?_ _)); exact BK208.out)) : gb219 ≠ gb208)); clear BK202; clear BK207; clear BK208; clear HB; have BK202 := n0_; have BK207 := n1_; have BK208 := n2_; have HB := n3_; have BK219 := n4_; have GW219 := n5_; have GE219 := n6_; have NB202_219 := n7_; have NB219_202 := n8_; have NB207_219 := n9_; have NB219_207 := n10_; have NB208_219 := n11_; have NB219_208 := n12_; clear n0_ n1_ n2_ n3_ n4_ n5_ n6_ n7_ n8_ n9_ n10_ n11_ n12_; clear hb hbox hg; have hnb126 := NB219_202.out; have hnc126 := NB202_219.out; have hnb127 := NB219_207.out; have hnc127 := NB207_219.out; have hnb128 := NB219_208.out; have hnc128 := NB208_219.out; have hcz129_0 : w125.cell? ⟨gb219, 0, none⟩ = some (.int .i64 0) := (blk_cell BK219.out 0).trans rfl; have hcz129_1 : w125.cell? ⟨gb219, 1, none⟩ = some (.int .i64 0) := (blk_cell BK219.out 1).trans rfl; have hcz129_2 : w125.cell? ⟨gb219, 2, none⟩ = some (.string (⟨#[]⟩ : ByteArray)) := (blk_cell BK219.out 2).trans rfl; have hfz129_0 := blk_frozen BK219.out 0; have hfz129_1 := blk_frozen BK219.out 1; have hfz129_2 := blk_frozen BK219.out 2; have hcz130_0 : w125.cell? ⟨gb202, 0, none⟩ = some (.int .i64 ((rd_T37 l0 x3_1).f0.f0)) := (blk_cell BK202.out 0).trans rfl; have hcz130_1 : w125.cell? ⟨gb202, 1, none⟩ = some (.int .i64 ((rd_T37 l0 x3_1).f0.f1)) := (blk_cell BK202.out 1).trans rfl; have hcz130_2 : w125.cell? ⟨gb202, 2, none⟩ = some (.string ((rd_T37 l0 x3_1).f0.f2)) := (blk_cell BK202.out 2).trans rfl; have hfz130_0 := blk_frozen BK202.out 0; have hfz130_1 := blk_frozen BK202.out 1; have hfz130_2 := blk_frozen BK202.out 2) | ((with_reducible refine gate_callee (f := 42) rfl ?_); refine goesL_ (some 58) rfl rfl Try.func42 (by kernel_rfl) rfl #[.agg #[.int .i64 ((rd_T37 l0 x3_1).f0.f0), .int .i64 ((rd_T37 l0 x3_1).f0.f1), .string ((rd_T37 l0 x3_1).f0.f2)]] rfl (by (try simp only [List.map_toArray, List.map_cons, List.map_nil]); first | done | rfl | (simp only [List.length_drop, List.length_take]; rfl)) ?_; (with_reducible refine (logic_True.calls ((rd_T37 l0 x3_1).f0.f0) ((rd_T37 l0 x3_1).f0.f1) ((rd_T37 l0 x3_1).f0.f2) t220 t221 _ A40.out).mono ?_); rintro e w131 ⟨rfl, hb⟩; refine ⟨_, rfl, ?_⟩; have n0_ := Aside0.mk (blk_below (g := gb202) (o := .cells #[.int .i64 ((rd_T37 l0 x3_1).f0.f0), .int .i64 ((rd_T37 l0 x3_1).f0.f1), .string ((rd_T37 l0 x3_1).f0.f2)] 24 (0, 0)) (by (with_reducible repeat (first | refine blk_drewN ?_ _ | refine blk_drew ?_ | refine blk_alloc ?_ _)); refine blk_far ?_ NB202_219.out _; (with_reducible repeat (first | refine blk_drewN ?_ _ | refine blk_drew ?_ | refine blk_alloc ?_ _)); refine blk_far ?_ NB202_219.out _; (with_reducible repeat (first | refine blk_drewN ?_ _ | refine blk_drew ?_ | refine blk_alloc ?_ _)); refine blk_far ?_ NB202_219.out _; (with_reducible repeat (first | refine blk_drewN ?_ _ | refine blk_drew ?_ | refine blk_alloc ?_ _)); exact BK202.out) hb); have n1_ := Aside0.mk (blk_below (g := gb207) (o := .cells #[.int .i64 t203, .int .i64 t204, .string t205] 24 (0, 0)) (by (with_reducible repeat (first | refine blk_drewN ?_ _ | refine blk_drew ?_ | refine blk_alloc ?_ _)); refine blk_far ?_ NB207_219.out _; (with_reducible repeat (first | refine blk_drewN ?_ _ | refine blk_drew ?_ | refine blk_alloc ?_ _)); refine blk_far ?_ NB207_219.out _; (with_reducible repeat (first | refine blk_drewN ?_ _ | refine blk_drew ?_ | refine blk_alloc ?_ _)); refine blk_far ?_ NB207_219.out _; (with_reducible repeat (first | refine blk_drewN ?_ _ | refine blk_drew ?_ | refine blk_alloc ?_ _)); exact BK207.out) hb); have n2_ := Aside0.mk (blk_below (g := gb208) (o := .cells #[.int .i64 x209000_8, .int .i64 x209001_8, .string x209002_8] 24 (0, 0)) (by (with_reducible repeat (first | refine blk_drewN ?_ _ | refine blk_drew ?_ | refine blk_alloc ?_ _)); refine blk_far ?_ NB208_219.out _; (with_reducible repeat (first | refine blk_drewN ?_ _ | refine blk_drew ?_ | refine blk_alloc ?_ _)); refine blk_far ?_ NB208_219.out _; (with_reducible repeat (first | refine blk_drewN ?_ _ | refine blk_drew ?_ | refine blk_alloc ?_ _)); refine blk_far ?_ NB208_219.out _; (with_reducible repeat (first | refine blk_drewN ?_ _ | refine blk_drew ?_ | refine blk_alloc ?_ _)); exact BK208.out) hb); have n3_ := Aside0.mk (blk_below (g := gb219) (o := .cells #[.int .i64 t215, .int .i64 t216, .string t217] 24 (0, 0)) (by (with_reducible repeat (first | refine blk_drewN ?_ _ | refine blk_drew ?_ | refine blk_alloc ?_ _)); refine blk_put (cs := #[.int .i64 t215, .int .i64 t216, .string (⟨#[]⟩ : ByteArray)]) ?_ 2 _ rfl; (with_reducible repeat (first | refine blk_drewN ?_ _ | refine blk_drew ?_ | refine blk_alloc ?_ _)); refine blk_put (cs := #[.int .i64 t215, .int .i64 0, .string (⟨#[]⟩ : ByteArray)]) ?_ 1 _ rfl; (with_reducible repeat (first | refine blk_drewN ?_ _ | refine blk_drew ?_ | refine blk_alloc ?_ _)); refine blk_put (cs := #[.int .i64 0, .int .i64 0, .string (⟨#[]⟩ : ByteArray)]) ?_ 0 _ rfl; (with_reducible repeat (first | refine blk_drewN ?_ _ | refine blk_drew ?_ | refine blk_alloc ?_ _)); exact BK219.out) hb); have n4_ := Aside0.mk (below_step (by repeat (first | (with_reducible first | exact HB.out | apply below_alloc | apply pw_below_drewN | apply below_drew1 | refine below_set ?_ GE202.out | refine below_set ?_ GE207.out | refine below_set ?_ GE208.out | refine below_set ?_ GE219.out) | exact HB.out)) hb); clear BK202; clear BK207; clear BK208; clear BK219; clear HB; have BK202 := n0_; have BK207 := n1_; have BK208 := n2_; have BK219 := n3_; have HB := n4_; clear n0_ n1_ n2_ n3_ n4_; (try clear hb); (try clear hb2); (try clear hk); (try clear hi); have hcz132_0 : w131.cell? ⟨gb219, 0, none⟩ = some (.int .i64 t215) := (blk_cell BK219.out 0).trans rfl; have hcz132_1 : w131.cell? ⟨gb219, 1, none⟩ = some (.int .i64 t216) := (blk_cell BK219.out 1).trans rfl; have hcz132_2 : w131.cell? ⟨gb219, 2, none⟩ = some (.string t217) := (blk_cell BK219.out 2).trans rfl; have hfz132_0 := blk_frozen BK219.out 0; have hfz132_1 := blk_frozen BK219.out 1; have hfz132_2 := blk_frozen BK219.out 2) | ((with_reducible refine gate_callee (f := 42) rfl ?_); refine goesL_ (some 63) rfl rfl Try.func42 (by kernel_rfl) rfl #[.agg #[.int .i64 t215, .int .i64 t216, .string t217]] rfl (by (try simp only [List.map_toArray, List.map_cons, List.map_nil]); first | done | rfl | (simp only [List.length_drop, List.length_take]; rfl)) ?_; (with_reducible refine (logic_True.calls t215 t216 t217 t222 t223 _ A41.out).mono ?_); rintro e w133 ⟨rfl, hb⟩; refine ⟨_, rfl, ?_⟩; have n0_ := Aside0.mk (blk_below (g := gb202) (o := .cells #[.int .i64 ((rd_T37 l0 x3_1).f0.f0), .int .i64 ((rd_T37 l0 x3_1).f0.f1), .string ((rd_T37 l0 x3_1).f0.f2)] 24 (0, 0)) (by (with_reducible repeat (first | refine blk_drewN ?_ _ | refine blk_drew ?_ | refine blk_alloc ?_ _)); exact BK202.out) hb); have n1_ := Aside0.mk (blk_below (g := gb207) (o := .cells #[.int .i64 t203, .int .i64 t204, .string t205] 24 (0, 0)) (by (with_reducible repeat (first | refine blk_drewN ?_ _ | refine blk_drew ?_ | refine blk_alloc ?_ _)); exact BK207.out) hb); have n2_ := Aside0.mk (blk_below (g := gb208) (o := .cells #[.int .i64 x209000_8, .int .i64 x209001_8, .string x209002_8] 24 (0, 0)) (by (with_reducible repeat (first | refine blk_drewN ?_ _ | refine blk_drew ?_ | refine blk_alloc ?_ _)); exact BK208.out) hb); have n3_ := Aside0.mk (blk_below (g := gb219) (o := .cells #[.int .i64 t215, .int .i64 t216, .string t217] 24 (0, 0)) (by (with_reducible repeat (first | refine blk_drewN ?_ _ | refine blk_drew ?_ | refine blk_alloc ?_ _)); exact BK219.out) hb); have n4_ := Aside0.mk (below_step (by repeat (first | (with_reducible first | exact HB.out | apply below_alloc | apply pw_below_drewN | apply below_drew1 | refine below_set ?_ GE202.out | refine below_set ?_ GE207.out | refine below_set ?_ GE208.out | refine below_set ?_ GE219.out) | exact HB.out)) hb); clear BK202; clear BK207; clear BK208; clear BK219; clear HB; have BK202 := n0_; have BK207 := n1_; have BK208 := n2_; have BK219 := n3_; have HB := n4_; clear n0_ n1_ n2_ n3_ n4_; (try clear hb); (try clear hb2); (try clear hk); (try clear hi)) | ((with_reducible refine gate_callee (f := 43) rfl ?_); refine goesL_ (some 67) rfl rfl Try.func43 (by kernel_rfl) rfl #[.int .i64 t218] rfl (by (try simp only [List.map_toArray, List.map_cons, List.map_nil]); first | done | rfl | (simp only [List.length_drop, List.length_take]; rfl)) ?_; (with_reducible refine (cadastrelaw3_num.calls t218 t224 _ A42.out).mono ?_); rintro e w' ⟨rfl, ⟨nd, rfl⟩⟩; refine ⟨_, rfl, ?_⟩) | (go_at_call 43; (with_reducible refine (cadastrelaw3_num.calls t221 t225 _ A61.out).mono ?_); rintro e w' ⟨rfl, ⟨nd, rfl⟩⟩; (try clear A61)) | (go_at_call 43; (with_reducible refine (cadastrelaw3_num.calls t223 t226 _ A80.out).mono ?_); rintro e w' ⟨rfl, ⟨nd, rfl⟩⟩; (try clear A80)))
                  go_roundg kj8
                  case measure => have := HK1.out; have := HJ1.out; have := HJ8.out; omega
                  case rel => exact ⟨(wrap64 (x3_1 + 1)), (by first | rfl | (simp; done) | (simp [*]; done)), H', ⟨by have := HK1.out; have := HJ1.out; have := HJ8.out; omega⟩, ⟨by repeat (first | (with_reducible first | exact HB.out | apply below_alloc | apply pw_below_drewN | apply below_drew1 | refine below_set ?_ GE202.out | refine below_set ?_ GE207.out | refine below_set ?_ GE208.out | refine below_set ?_ GE219.out) | exact HB.out)⟩⟩
                · replace c31 := Bool.eq_false_iff.mpr c31
                  subst c31
                  have H1 : (some false) = some r := by rw [if_neg (show ¬ (false = true) by decide)] at H; exact H
                  clear H
                  have H := H1
                  clear H1
                  obtain rfl := Option.some.inj H
                  have hnb134 := NB207_202.out
                  have hnc134 := NB202_207.out
                  have hnb135 := NB207_208.out
                  have hnc135 := NB208_207.out
                  have hcz136_0 : wc.cell? ⟨gb207, 0, none⟩ = some (.int .i64 t203) := (blk_cell BK207.out 0).trans rfl
                  have hcz136_1 : wc.cell? ⟨gb207, 1, none⟩ = some (.int .i64 t204) := (blk_cell BK207.out 1).trans rfl
                  have hcz136_2 : wc.cell? ⟨gb207, 2, none⟩ = some (.string t205) := (blk_cell BK207.out 2).trans rfl
                  have hfz136_0 := blk_frozen BK207.out 0
                  have hfz136_1 := blk_frozen BK207.out 1
                  have hfz136_2 := blk_frozen BK207.out 2
                  have hnb137 := NB208_202.out
                  have hnc137 := NB202_208.out
                  have hcz138_0 : wc.cell? ⟨gb208, 0, none⟩ = some (.int .i64 x209000_8) := (blk_cell BK208.out 0).trans rfl
                  have hcz138_1 : wc.cell? ⟨gb208, 1, none⟩ = some (.int .i64 x209001_8) := (blk_cell BK208.out 1).trans rfl
                  have hcz138_2 : wc.cell? ⟨gb208, 2, none⟩ = some (.string x209002_8) := (blk_cell BK208.out 2).trans rfl
                  have hfz138_0 := blk_frozen BK208.out 0
                  have hfz138_1 := blk_frozen BK208.out 1
                  have hfz138_2 := blk_frozen BK208.out 2
                  go_wp2_with (first | ((with_reducible refine gate_callee (f := 33) rfl ?_); refine goesL_ (some 47) rfl rfl Try.func33 (by kernel_rfl) rfl #[.agg #[.int .i64 t203, .int .i64 t204, .string t205], .int .i64 t206, .agg #[.int .i64 x209000_8, .int .i64 x209001_8, .string x209002_8], .int .i64 x8_8] rfl (by (try simp only [List.map_toArray, List.map_cons, List.map_nil]); first | done | rfl | (simp only [List.length_drop, List.length_take]; rfl)) ?_; (with_reducible refine (cadastrelaw3_is.calls t203 t204 t205 t206 x209000_8 x209001_8 x209002_8 x8_8 false _ A30.out).mono ?_); rintro e w139 ⟨rfl, hb⟩; refine ⟨_, rfl, ?_⟩; have n0_ := Aside0.mk (blk_below (g := gb202) (o := .cells #[.int .i64 ((rd_T37 l0 x3_1).f0.f0), .int .i64 ((rd_T37 l0 x3_1).f0.f1), .string ((rd_T37 l0 x3_1).f0.f2)] 24 (0, 0)) (by (with_reducible repeat (first | refine blk_drewN ?_ _ | refine blk_drew ?_ | refine blk_alloc ?_ _)); exact BK202.out) hb); have n1_ := Aside0.mk (blk_below (g := gb207) (o := .cells #[.int .i64 t203, .int .i64 t204, .string t205] 24 (0, 0)) (by (with_reducible repeat (first | refine blk_drewN ?_ _ | refine blk_drew ?_ | refine blk_alloc ?_ _)); exact BK207.out) hb); have n2_ := Aside0.mk (blk_below (g := gb208) (o := .cells #[.int .i64 x209000_8, .int .i64 x209001_8, .string x209002_8] 24 (0, 0)) (by (with_reducible repeat (first | refine blk_drewN ?_ _ | refine blk_drew ?_ | refine blk_alloc ?_ _)); exact BK208.out) hb); have n3_ := Aside0.mk (below_step (by repeat (first | (with_reducible first | exact HB.out | apply below_alloc | apply pw_below_drewN | apply below_drew1 | refine below_set ?_ GE202.out | refine below_set ?_ GE207.out | refine below_set ?_ GE208.out) | exact HB.out)) hb); clear BK202; clear BK207; clear BK208; clear HB; have BK202 := n0_; have BK207 := n1_; have BK208 := n2_; have HB := n3_; clear n0_ n1_ n2_ n3_; (try clear hb); (try clear hb2); (try clear hk); (try clear hi)))
                  go_ret
                  exact ⟨by first | rfl | (simp [errW_none, errW_some] <;> rfl) | (simp [*, errW_none, errW_some] <;> rfl), by repeat (first | (with_reducible first | exact HB.out | apply below_alloc | apply pw_below_drewN | apply below_drew1 | refine below_set ?_ GE202.out | refine below_set ?_ GE207.out | refine below_set ?_ GE208.out) | exact HB.out)⟩
          · replace c4 := Bool.eq_false_iff.mpr c4
            subst c4
            have H1 : ((cadastrelaw3_wakes.f kj1).bind fun t200 => (some t200)) = some r := by rw [if_neg (show ¬ (false = true) by decide)] at H; exact H
            clear H
            have H := H1
            clear H1
            replace H := Option.bind_eq_some_iff.mp H
            obtain ⟨t200, A1400, H⟩ := H
            replace H : (some t200) = some r := H
            have A140 := Aside0.mk A1400
            clear A1400
            obtain rfl := Option.some.inj H
            go_wp2_with (first | ((with_reducible refine gate_callee (f := 34) rfl ?_); refine goesL_ (some 84) rfl rfl Try.func34 (by kernel_rfl) rfl #[] rfl (by (try simp only [List.map_toArray, List.map_cons, List.map_nil]); first | done | rfl | (simp only [List.length_drop, List.length_take]; rfl)) ?_; (with_reducible refine (cadastrelaw3_wakes.calls kj1  t200 _ A140.out).mono ?_); rintro e w141 ⟨rfl, hb⟩; refine ⟨_, rfl, ?_⟩; have n0_ := Aside0.mk (below_step (by repeat (first | (with_reducible first | exact HB.out | apply below_alloc | apply pw_below_drewN | apply below_drew1) | exact HB.out)) hb); clear HB; have HB := n0_; clear n0_; (try clear hb); (try clear hb2); (try clear hk); (try clear hi)))
            go_ret
            exact ⟨by first | rfl | (simp [errW_none, errW_some] <;> rfl) | (simp [*, errW_none, errW_some] <;> rfl), by repeat (first | (with_reducible first | exact HB.out | apply below_alloc | apply pw_below_drewN | apply below_drew1) | exact HB.out)⟩

/-! ### value_sign: function 93 -/
def value_sign.f (a0 : Int) (a1 : Int) : Option (Int) := if a0 < a1 then (some (-1)) else (if a0 > a1 then (some 1) else (some 0))
set_option maxHeartbeats 8000000 in
set_option maxRecDepth 100000 in
theorem value_sign.calls (a0 : Int) (a1 : Int) (r : Int) (w : World) (h : value_sign.f a0 a1 = some r) :
    Calls Try.prog 93 #[.int .i64 a0, .int .i64 a1] w fun e w' => e = .returned (.int .i64 r) ∧ Drawn0 w w' := by
  have H : (if a0 < a1 then (some (-1)) else (if a0 > a1 then (some 1) else (some 0))) = some r := h
  clear h
  by_cases c3 : a0 < a1
  · rw [if_pos c3] at H
    have c3b0 : decide (a0 < a1) = true := decide_eq_true c3
    clear c3
    obtain rfl := Option.some.inj H
    go_enter Try.func93, Try.ntmps93
    go_wp2
    go_ret
    exact ⟨by first | rfl | (simp; done) | (simp [*]; done), by repeat (first | exact Drawn0.refl _ | apply Drawn0.step)⟩
  rw [if_neg c3] at H
  have c3b0 : decide (a0 < a1) = false := decide_eq_false c3
  clear c3
  by_cases c4 : a0 > a1
  · rw [if_pos c4] at H
    have c4b0 : decide (a1 < a0) = true := decide_eq_true c4
    clear c4
    obtain rfl := Option.some.inj H
    go_enter Try.func93, Try.ntmps93
    go_wp2
    go_ret
    exact ⟨by first | rfl | (simp; done) | (simp [*]; done), by repeat (first | exact Drawn0.refl _ | apply Drawn0.step)⟩
  rw [if_neg c4] at H
  have c4b0 : decide (a1 < a0) = false := decide_eq_false c4
  clear c4
  obtain rfl := Option.some.inj H
  go_enter Try.func93, Try.ntmps93
  go_wp2
  go_ret
  exact ⟨by first | rfl | (simp; done) | (simp [*]; done), by repeat (first | exact Drawn0.refl _ | apply Drawn0.step)⟩

/-! ### value_text: function 94 -/
mutual
def value_text.l0 : Nat → ByteArray → ByteArray → Int → Option (Int)
  | 0, _, _, _ => none
  | k + 1, x0, x1, x5 => if x5 < (x0.size : Int) then (value_text.j1 k x0 x1 x5 (decide (x5 < (x1.size : Int)))) else (value_text.j1 k x0 x1 x5 false)
def value_text.j1 : Nat → ByteArray → ByteArray → Int → Bool → Option (Int)
  | 0, _, _, _, _ => none
  | k + 1, x0, x1, x5, x15 => if x15 = true then (if 0 ≤ x5 then (if x5 < (x0.size : Int) then (if x5 < (x1.size : Int) then (if (bt x0 x5) = (bt x1 x5) then (value_text.l0 k x0 x1 (wrap64 (x5 + 1))) else ((value_sign.f (wrap64 (bt x0 x5)) (wrap64 (bt x1 x5))).bind fun t227 => (some t227))) else (none)) else (none)) else (none)) else ((value_sign.f (x0.size : Int) (x1.size : Int)).bind fun t228 => (some t228))
end
def value_text.f (k : Nat) (a0 : ByteArray) (a1 : ByteArray) : Option (Int) := value_text.l0 k a0 a1 0
theorem value_text.mono_l : ∀ k, (∀ y0 y1 y2, LeO (value_text.l0 k y0 y1 y2) (value_text.l0 (k + 1) y0 y1 y2)) ∧ (∀ y0 y1 y2 y3, LeO (value_text.j1 k y0 y1 y2 y3) (value_text.j1 (k + 1) y0 y1 y2 y3))
  | 0 => ⟨fun _ _ _ r h => by simp [value_text.l0] at h, fun _ _ _ _ r h => by simp [value_text.j1] at h⟩
  | k + 1 => by
    obtain ⟨ih0, ih1⟩ := value_text.mono_l k
    refine ⟨?_, ?_⟩
    · intro y0 y1 y2
      unfold value_text.l0
      repeat' first
      | (with_reducible exact ih0 _ _ _)
      | (with_reducible exact ih1 _ _ _ _)
      | (with_reducible exact LeO.refl _)
      | (with_reducible exact LeO.none _)
      | (with_reducible refine LeO.ite ?_ ?_)
      | (with_reducible refine LeO.bind ?_ (fun _ => ?_))
      | exact ih0 _ _ _
      | exact ih1 _ _ _ _
      | exact LeO.none _
      | refine LeO.ite ?_ ?_
      | refine LeO.bind ?_ (fun _ => ?_)
    · intro y0 y1 y2 y3
      unfold value_text.j1
      repeat' first
      | (with_reducible exact ih0 _ _ _)
      | (with_reducible exact ih1 _ _ _ _)
      | (with_reducible exact LeO.refl _)
      | (with_reducible exact LeO.none _)
      | (with_reducible refine LeO.ite ?_ ?_)
      | (with_reducible refine LeO.bind ?_ (fun _ => ?_))
      | exact ih0 _ _ _
      | exact ih1 _ _ _ _
      | exact LeO.none _
      | refine LeO.ite ?_ ?_
      | refine LeO.bind ?_ (fun _ => ?_)
theorem value_text.mono : ∀ a0 a1 k, LeO (value_text.f k a0 a1) (value_text.f (k + 1) a0 a1) := by
  intro a0 a1 k
  obtain ⟨ih0, ih1⟩ := value_text.mono_l k
  unfold value_text.f
  repeat' first
      | (with_reducible exact ih0 _ _ _)
      | (with_reducible exact ih1 _ _ _ _)
      | (with_reducible exact LeO.refl _)
      | (with_reducible exact LeO.none _)
      | (with_reducible refine LeO.ite ?_ ?_)
      | (with_reducible refine LeO.bind ?_ (fun _ => ?_))
      | exact ih0 _ _ _
      | exact ih1 _ _ _ _
      | exact LeO.none _
      | refine LeO.ite ?_ ?_
      | refine LeO.bind ?_ (fun _ => ?_)
noncomputable def value_text.C0 : Code := (sub1 (sub2 (Try.f94.body.getD .skip)))
set_option maxHeartbeats 8000000 in
set_option maxRecDepth 100000 in
theorem value_text.calls (k : Nat) (a0 : ByteArray) (a1 : ByteArray) (r : Int) (w : World) (h : value_text.f k a0 a1 = some r) :
    Calls Try.prog 94 #[.string a0, .string a1] w fun e w' => e = .returned (.int .i64 r) ∧ Drawn0 w w' := by
  have H : (value_text.l0 k a0 a1 0) = some r := h
  clear h
  have H' := Aside0.mk H
  clear H
  go_enter Try.func94, Try.ntmps94
  go_wp2
  repeat ((first | (refine wp_scope_in value_text.C0 rfl (fun Gs_ => ?_)) | (refine wp_label (l := 0) ?_; try simp only [Exit.then]) | (refine wp_goto (l := 0) (hop (l := 0) (c := value_text.C0) rfl ?_)) | (go_quiet (fail))); try go_wp2)
  go_loopg [5] k (fun kq v5 w' => ∃ (x5_1 : Int), v5 = .int .i64 x5_1 ∧ Aside0 (value_text.l0 kq a0 a1 x5_1 = some r) ∧ Aside0 (kq ≤ k) ∧ Drawn0 w w')
  case atStart => exact ⟨(0), (by first | rfl | (simp; done) | (simp [*]; done)), H', ⟨Nat.le_refl _⟩, by repeat (first | exact Drawn0.refl _ | apply Drawn0.step)⟩
  case round =>
    clear H'
    try clear p2
    obtain ⟨x5_1, rfl, HA, HK1, ⟨m1, rfl⟩⟩ := hrel
    cases gk with
    | zero => exact absurd HA.out (by simp [value_text.l0])
    | succ k1 =>
      have H := HA.out
      clear HA
      simp only [value_text.l0] at H
      have HC3 := Aside0.mk H
      clear H
      go_upto_region 2 with (fail)
      repeat ((first | (refine wp_scope_in value_text.C0 rfl (fun Gs_ => ?_)) | (refine wp_label (l := 0) ?_; try simp only [Exit.then]) | (refine wp_goto (l := 0) (hop (l := 0) (c := value_text.C0) rfl ?_))); try go_upto_region 2 with (fail))
      repeat (go_quiet (fail); go_upto_region 2 with (fail))
      go_cut [15] (fun v15 wc => ∃ (kq : Nat) (x15_2 : Bool), v15 = .bool x15_2 ∧ Aside0 (value_text.j1 kq a0 a1 x5_1 x15_2 = some r) ∧ Aside0 (kq ≤ k1) ∧ Drawn0 w wc)
      case first =>
        have H := HC3.out
        clear HC3
        by_cases c4 : x5_1 < (a0.size : Int)
        · rw [if_pos c4] at H
          have c4b0 : decide (x5_1 < (a0.size : Int)) = true := decide_eq_true c4
          clear c4
          (first | rw [c4b0] | (simp only [i64_w, i32_w]; rw [c4b0]) | skip)
          have H' := Aside0.mk H
          clear H
          go_wp2
          repeat ((first | (refine wp_scope_in value_text.C0 rfl (fun Gs_ => ?_)) | (refine wp_label (l := 0) ?_; try simp only [Exit.then]) | (refine wp_goto (l := 0) (hop (l := 0) (c := value_text.C0) rfl ?_)) | (go_quiet (fail))); try go_wp2)
          go_meet
          case rel => exact ⟨_, (decide (x5_1 < (a1.size : Int))), (by first | rfl | (simp; done) | (simp [*]; done)), H', ⟨by have := HK1.out; first | omega | exact Nat.le_refl _⟩, by repeat (first | exact Drawn0.refl _ | apply Drawn0.step)⟩
        rw [if_neg c4] at H
        have c4b0 : decide (x5_1 < (a0.size : Int)) = false := decide_eq_false c4
        clear c4
        (first | rw [c4b0] | (simp only [i64_w, i32_w]; rw [c4b0]) | skip)
        have H' := Aside0.mk H
        clear H
        go_wp2
        repeat ((first | (refine wp_scope_in value_text.C0 rfl (fun Gs_ => ?_)) | (refine wp_label (l := 0) ?_; try simp only [Exit.then]) | (refine wp_goto (l := 0) (hop (l := 0) (c := value_text.C0) rfl ?_)) | (go_quiet (fail))); try go_wp2)
        go_meet
        case rel => exact ⟨_, (false), (by first | rfl | (simp; done) | (simp [*]; done)), H', ⟨by have := HK1.out; first | omega | exact Nat.le_refl _⟩, by repeat (first | exact Drawn0.refl _ | apply Drawn0.step)⟩
      case rest =>
        clear HC3
        try clear p2
        try clear c4
        try clear c4b0
        try clear p2
        obtain ⟨kq, x15_2, rfl, HA, HJ2, ⟨mc2, rfl⟩⟩ := hcut
        cases kq with
        | zero => exact absurd HA.out (by simp [value_text.j1])
        | succ kj2 =>
          have H := HA.out
          clear HA
          simp only [value_text.j1] at H
          by_cases c5 : x15_2 = true
          · subst c5
            have H1 : (if 0 ≤ x5_1 then (if x5_1 < (a0.size : Int) then (if x5_1 < (a1.size : Int) then (if (bt a0 x5_1) = (bt a1 x5_1) then (value_text.l0 kj2 a0 a1 (wrap64 (x5_1 + 1))) else ((value_sign.f (wrap64 (bt a0 x5_1)) (wrap64 (bt a1 x5_1))).bind fun t227 => (some t227))) else (none)) else (none)) else (none)) = some r := by rw [if_pos rfl] at H; exact H
            clear H
            have H := H1
            clear H1
            by_cases c6 : 0 ≤ x5_1
            rotate_left
            · rw [if_neg c6] at H
              exact absurd H (by simp)
            rw [if_pos c6] at H
            have c6b0 : decide (0 ≤ x5_1) = true := decide_eq_true c6
            clear c6
            by_cases c7 : x5_1 < (a0.size : Int)
            rotate_left
            · rw [if_neg c7] at H
              exact absurd H (by simp)
            rw [if_pos c7] at H
            have c7b0 : decide (x5_1 < (a0.size : Int)) = true := decide_eq_true c7
            clear c7
            by_cases c9 : x5_1 < (a1.size : Int)
            rotate_left
            · rw [if_neg c9] at H
              exact absurd H (by simp)
            rw [if_pos c9] at H
            have c9b0 : decide (x5_1 < (a1.size : Int)) = true := decide_eq_true c9
            clear c9
            by_cases c11 : (bt a0 x5_1) = (bt a1 x5_1)
            · rw [if_pos c11] at H
              have c11b0 : ((bt a0 x5_1) == (bt a1 x5_1)) = true := beq_iff_eq.mpr c11
              have c11b1 : ((bt a0 x5_1) != (bt a1 x5_1)) = false := bne_eq_false_iff_eq.mpr c11
              clear c11
              have H' := Aside0.mk H
              clear H
              have p8 : 0 ≤ (x5_1 : Int) := of_decide_eq_true (by first | (with_reducible assumption) | assumption)
              have q8 : x5_1 < (a0.size : Int) := of_decide_eq_true (by first | (with_reducible assumption) | assumption)
              have hx8 := bt_at a0 x5_1
              replace p8 := eq_true p8
              replace q8 := eq_true q8
              have p10 : 0 ≤ (x5_1 : Int) := of_decide_eq_true (by first | (with_reducible assumption) | assumption)
              have q10 : x5_1 < (a1.size : Int) := of_decide_eq_true (by first | (with_reducible assumption) | assumption)
              have hx10 := bt_at a1 x5_1
              replace p10 := eq_true p10
              replace q10 := eq_true q10
              go_wp2
              repeat ((first | (refine wp_scope_in value_text.C0 rfl (fun Gs_ => ?_)) | (refine wp_label (l := 0) ?_; try simp only [Exit.then]) | (refine wp_goto (l := 0) (hop (l := 0) (c := value_text.C0) rfl ?_)) | (go_quiet (fail))); try go_wp2)
              go_roundg kj2
              case measure => have := HK1.out; have := HJ2.out; omega
              case rel => exact ⟨(wrap64 (x5_1 + 1)), (by first | rfl | (simp; done) | (simp [*]; done)), H', ⟨by have := HK1.out; have := HJ2.out; omega⟩, by repeat (first | exact Drawn0.refl _ | apply Drawn0.step)⟩
            rw [if_neg c11] at H
            have c11b0 : ((bt a0 x5_1) == (bt a1 x5_1)) = false := beq_eq_false_iff_ne.mpr c11
            have c11b1 : ((bt a0 x5_1) != (bt a1 x5_1)) = true := bne_iff_ne.mpr c11
            replace H := Option.bind_eq_some_iff.mp H
            obtain ⟨t227, A140, H⟩ := H
            replace H : (some t227) = some r := H
            have A14 := Aside0.mk A140
            clear A140
            obtain rfl := Option.some.inj H
            have p8 : 0 ≤ (x5_1 : Int) := of_decide_eq_true (by first | (with_reducible assumption) | assumption)
            have q8 : x5_1 < (a0.size : Int) := of_decide_eq_true (by first | (with_reducible assumption) | assumption)
            have hx8 := bt_at a0 x5_1
            replace p8 := eq_true p8
            replace q8 := eq_true q8
            have p10 : 0 ≤ (x5_1 : Int) := of_decide_eq_true (by first | (with_reducible assumption) | assumption)
            have q10 : x5_1 < (a1.size : Int) := of_decide_eq_true (by first | (with_reducible assumption) | assumption)
            have hx10 := bt_at a1 x5_1
            replace p10 := eq_true p10
            replace q10 := eq_true q10
            have p12 : 0 ≤ (x5_1 : Int) := of_decide_eq_true (by first | (with_reducible assumption) | assumption)
            have q12 : x5_1 < (a0.size : Int) := of_decide_eq_true (by first | (with_reducible assumption) | assumption)
            have hx12 := bt_at a0 x5_1
            replace p12 := eq_true p12
            replace q12 := eq_true q12
            have p13 : 0 ≤ (x5_1 : Int) := of_decide_eq_true (by first | (with_reducible assumption) | assumption)
            have q13 : x5_1 < (a1.size : Int) := of_decide_eq_true (by first | (with_reducible assumption) | assumption)
            have hx13 := bt_at a1 x5_1
            replace p13 := eq_true p13
            replace q13 := eq_true q13
            go_wp2_with (first | (go_at_call 93; (with_reducible refine (value_sign.calls (wrap64 (bt a0 x5_1)) (wrap64 (bt a1 x5_1)) t227 _ A14.out).mono ?_); rintro e w' ⟨rfl, ⟨nd, rfl⟩⟩; (try first | exact ⟨rfl, _, World.drewN_drewN _ _ _⟩ | exact ⟨rfl, _, Eq.trans (World.drewN_drewN _ _ _) (congrArg (World.drewN _) (Nat.add_assoc _ _ _))⟩)))
            repeat ((first | (refine wp_scope_in value_text.C0 rfl (fun Gs_ => ?_)) | (refine wp_label (l := 0) ?_; try simp only [Exit.then]) | (refine wp_goto (l := 0) (hop (l := 0) (c := value_text.C0) rfl ?_)) | (go_quiet (first | (go_at_call 93; (with_reducible refine (value_sign.calls (wrap64 (bt a0 x5_1)) (wrap64 (bt a1 x5_1)) t227 _ A14.out).mono ?_); rintro e w' ⟨rfl, ⟨nd, rfl⟩⟩; (try first | exact ⟨rfl, _, World.drewN_drewN _ _ _⟩ | exact ⟨rfl, _, Eq.trans (World.drewN_drewN _ _ _) (congrArg (World.drewN _) (Nat.add_assoc _ _ _))⟩))))); try go_wp2_with (first | (go_at_call 93; (with_reducible refine (value_sign.calls (wrap64 (bt a0 x5_1)) (wrap64 (bt a1 x5_1)) t227 _ A14.out).mono ?_); rintro e w' ⟨rfl, ⟨nd, rfl⟩⟩; (try first | exact ⟨rfl, _, World.drewN_drewN _ _ _⟩ | exact ⟨rfl, _, Eq.trans (World.drewN_drewN _ _ _) (congrArg (World.drewN _) (Nat.add_assoc _ _ _))⟩))))
            (try ((try simp only [Exit.inBlock, Exit.then]); refine post_ret ?_))
            go_ret
            exact ⟨by first | rfl | (simp; done) | (simp [*]; done), by repeat (first | exact Drawn0.refl _ | apply Drawn0.step)⟩
          · replace c5 := Bool.eq_false_iff.mpr c5
            subst c5
            have H1 : ((value_sign.f (a0.size : Int) (a1.size : Int)).bind fun t228 => (some t228)) = some r := by rw [if_neg (show ¬ (false = true) by decide)] at H; exact H
            clear H
            have H := H1
            clear H1
            replace H := Option.bind_eq_some_iff.mp H
            obtain ⟨t228, A150, H⟩ := H
            replace H : (some t228) = some r := H
            have A15 := Aside0.mk A150
            clear A150
            obtain rfl := Option.some.inj H
            go_wp2_with (first | (go_at_call 93; (with_reducible refine (value_sign.calls (a0.size : Int) (a1.size : Int) t228 _ A15.out).mono ?_); rintro e w' ⟨rfl, ⟨nd, rfl⟩⟩; (try first | exact ⟨rfl, _, World.drewN_drewN _ _ _⟩ | exact ⟨rfl, _, Eq.trans (World.drewN_drewN _ _ _) (congrArg (World.drewN _) (Nat.add_assoc _ _ _))⟩)))
            repeat ((first | (refine wp_scope_in value_text.C0 rfl (fun Gs_ => ?_)) | (refine wp_label (l := 0) ?_; try simp only [Exit.then]) | (refine wp_goto (l := 0) (hop (l := 0) (c := value_text.C0) rfl ?_)) | (go_quiet (first | (go_at_call 93; (with_reducible refine (value_sign.calls (a0.size : Int) (a1.size : Int) t228 _ A15.out).mono ?_); rintro e w' ⟨rfl, ⟨nd, rfl⟩⟩; (try first | exact ⟨rfl, _, World.drewN_drewN _ _ _⟩ | exact ⟨rfl, _, Eq.trans (World.drewN_drewN _ _ _) (congrArg (World.drewN _) (Nat.add_assoc _ _ _))⟩))))); try go_wp2_with (first | (go_at_call 93; (with_reducible refine (value_sign.calls (a0.size : Int) (a1.size : Int) t228 _ A15.out).mono ?_); rintro e w' ⟨rfl, ⟨nd, rfl⟩⟩; (try first | exact ⟨rfl, _, World.drewN_drewN _ _ _⟩ | exact ⟨rfl, _, Eq.trans (World.drewN_drewN _ _ _) (congrArg (World.drewN _) (Nat.add_assoc _ _ _))⟩))))
            (try ((try simp only [Exit.inBlock, Exit.then]); refine post_ret ?_))
            go_ret
            exact ⟨by first | rfl | (simp; done) | (simp [*]; done), by repeat (first | exact Drawn0.refl _ | apply Drawn0.step)⟩

end Go.Proofs.Ytaodnkhpiiepiaa.L
