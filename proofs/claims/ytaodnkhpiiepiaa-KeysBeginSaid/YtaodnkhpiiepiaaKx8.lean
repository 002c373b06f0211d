-- Made by a program of this session (gprint.py, over the kit's printing program).
import Derived.Test.YtaodnkhpiiepiaaKx0
import Derived.Test.YtaodnkhpiiepiaaKx2
import Derived.Test.YtaodnkhpiiepiaaKx5
import Derived.Test.YtaodnkhpiiepiaaKx6
namespace Go.Proofs.Ytaodnkhpiiepiaa.K
open Go.RowKit Go.Proofs.YtaodnkhpiiepiaaG Go.Proofs.YtaodnkhpiiepiaaW.PrintWords Go.Proofs.YtaodnkhpiiepiaaW.PrintLast Go.Proofs.YtaodnkhpiiepiaaW.PrintMore
attribute [local go_sem] max2_int min2_int max_two min_two max_three min_three max_four min_four   -- for this text's walks alone
set_option linter.unusedVariables false
set_option linter.unusedSimpArgs false

/-! ### cadastrelaw7_KeysBegin: function 20 -/
mutual
def cadastrelaw7_KeysBegin.l0 : Nat → List (S70) → Int → Option (Bool)
  | 0, _, _ => none
  | k + 1, x0, x3 => if x3 < (x0.length : Int) then (cadastrelaw7_KeysBegin.j1 k x0 x3 (decide (x3 < 12))) else (cadastrelaw7_KeysBegin.j1 k x0 x3 false)
def cadastrelaw7_KeysBegin.j1 : Nat → List (S70) → Int → Bool → Option (Bool)
  | 0, _, _, _ => none
  | k + 1, x0, x3, x21 => if x21 = true then (if 0 ≤ x3 then (if x3 < (x0.length : Int) then ((cadastrelaw7_heavy.f k ((rd_T70 x0 x3).f0) ((rd_T70 x0 x3).f1) ((rd_T70 x0 x3).f2)).bind fun t224 => (if t224 = true then (cadastrelaw7_KeysBegin.j2 k x0 x3 true ((rd_T70 x0 x3).f0) ((rd_T70 x0 x3).f1) ((rd_T70 x0 x3).f2)) else ((cadastrelaw7_both.f k ((rd_T70 x0 x3).f0) ((rd_T70 x0 x3).f1)).bind fun t225 => (if t225 = 0 then (if (wrap64 ((((rd_T70 x0 x3).f0).length : Int) + (((rd_T70 x0 x3).f1).length : Int))) > 16 then (cadastrelaw7_KeysBegin.j2 k x0 x3 true ((rd_T70 x0 x3).f0) ((rd_T70 x0 x3).f1) ((rd_T70 x0 x3).f2)) else (cadastrelaw7_KeysBegin.j2 k x0 x3 ((((rd_T70 x0 x3).f1).length : Int) == 0) ((rd_T70 x0 x3).f0) ((rd_T70 x0 x3).f1) ((rd_T70 x0 x3).f2))) else (cadastrelaw7_KeysBegin.j2 k x0 x3 true ((rd_T70 x0 x3).f0) ((rd_T70 x0 x3).f1) ((rd_T70 x0 x3).f2)))))) else (none)) else (none)) else (if 18 ≤ 8796093022208 then ((keys_Begins.f k (List.replicate 18 z24) ([] : List (S24))).bind fun bt218 => ((cadastrelaw7_num.f bt218.2).bind fun t220 => (if t220 = 7 then ((cadastrelaw7_wakes.f k).bind fun t221 => (some t221)) else (some false)))) else (none))
def cadastrelaw7_KeysBegin.j2 : Nat → List (S70) → Int → Bool → List (S24) → List (S24) → List (List (S24)) → Option (Bool)
  | 0, _, _, _, _, _, _ => none
  | k + 1, x0, x3, x53, x224000, x224001, x224002 => if x53 = true then (cadastrelaw7_KeysBegin.l0 k x0 (wrap64 (x3 + 1))) else ((cadastreref0_CopyValues.f k x224000).bind fun t226 => (if t226.length + x224001.length < 4398046511104 then ((some (t226 ++ x224001 : List (S24))).bind fun y229 => ((keys_Begins.f k y229 x224000).bind fun bt232 => ((keys_Begins.f k x224000 y229).bind fun bt234 => ((keys_Cmp.f k y229 x224000).bind fun bt236 => ((cadastrelaw7_num.f bt232.2).bind fun t238 => (if t238 = 0 then ((cadastrelaw7_num.f bt234.2).bind fun t239 => (if t239 = 0 then ((cadastrelaw7_num.f bt236.2).bind fun t240 => (if t240 = 0 then (if bt232.1 = true then (if bt234.1 = true then (some false) else (if bt236.1 = 1 then (cadastrelaw7_KeysBegin.l0 k x0 (wrap64 (x3 + 1))) else (some false))) else (some false)) else (some false))) else (some false))) else (some false))))))) else (none)))
end
def cadastrelaw7_KeysBegin.f (k : Nat) (l0 : List (S70)) : Option (Bool) := cadastrelaw7_KeysBegin.l0 k l0 0
theorem cadastrelaw7_KeysBegin.mono_l : ∀ k, (∀ y0 y1, LeO (cadastrelaw7_KeysBegin.l0 k y0 y1) (cadastrelaw7_KeysBegin.l0 (k + 1) y0 y1)) ∧ (∀ y0 y1 y2, LeO (cadastrelaw7_KeysBegin.j1 k y0 y1 y2) (cadastrelaw7_KeysBegin.j1 (k + 1) y0 y1 y2)) ∧ (∀ y0 y1 y2 y3 y4 y5, LeO (cadastrelaw7_KeysBegin.j2 k y0 y1 y2 y3 y4 y5) (cadastrelaw7_KeysBegin.j2 (k + 1) y0 y1 y2 y3 y4 y5))
  | 0 => ⟨fun _ _ r h => by simp [cadastrelaw7_KeysBegin.l0] at h, fun _ _ _ r h => by simp [cadastrelaw7_KeysBegin.j1] at h, fun _ _ _ _ _ _ r h => by simp [cadastrelaw7_KeysBegin.j2] at h⟩
  | k + 1 => by
    obtain ⟨ih0, ih1, ih2⟩ := cadastrelaw7_KeysBegin.mono_l k
    refine ⟨?_, ?_, ?_⟩
    · intro y0 y1
      unfold cadastrelaw7_KeysBegin.l0
      repeat' first
      | (with_reducible exact ih0 _ _)
      | (with_reducible exact ih1 _ _ _)
      | (with_reducible exact ih2 _ _ _ _ _ _)
      | (with_reducible exact cadastrelaw7_both.mono _ _ _)
      | (with_reducible exact cadastrelaw7_heavy.mono _ _ _ _)
      | (with_reducible exact cadastrelaw7_wakes.mono _)
      | (with_reducible exact cadastreref0_CopyValues.mono _ _)
      | (with_reducible exact keys_Begins.mono _ _ _)
      | (with_reducible exact keys_Cmp.mono _ _ _)
      | (with_reducible exact LeO.refl _)
      | (with_reducible exact LeO.none _)
      | (with_reducible refine LeO.ite ?_ ?_)
      | (with_reducible refine LeO.bind ?_ (fun _ => ?_))
      | exact ih0 _ _
      | exact ih1 _ _ _
      | exact ih2 _ _ _ _ _ _
      | exact cadastrelaw7_both.mono _ _ _
      | exact cadastrelaw7_heavy.mono _ _ _ _
      | exact cadastrelaw7_wakes.mono _
      | exact cadastreref0_CopyValues.mono _ _
      | exact keys_Begins.mono _ _ _
      | exact keys_Cmp.mono _ _ _
      | exact LeO.none _
      | refine LeO.ite ?_ ?_
      | refine LeO.bind ?_ (fun _ => ?_)
    · intro y0 y1 y2
      unfold cadastrelaw7_KeysBegin.j1
      repeat' first
      | (with_reducible exact ih0 _ _)
      | (with_reducible exact ih1 _ _ _)
      | (with_reducible exact ih2 _ _ _ _ _ _)
      | (with_reducible exact cadastrelaw7_both.mono _ _ _)
      | (with_reducible exact cadastrelaw7_heavy.mono _ _ _ _)
      | (with_reducible exact cadastrelaw7_wakes.mono _)
      | (with_reducible exact cadastreref0_CopyValues.mono _ _)
      | (with_reducible exact keys_Begins.mono _ _ _)
      | (with_reducible exact keys_Cmp.mono _ _ _)
      | (with_reducible exact LeO.refl _)
      | (with_reducible exact LeO.none _)
      | (with_reducible refine LeO.ite ?_ ?_)
      | (with_reducible refine LeO.bind ?_ (fun _ => ?_))
      | exact ih0 _ _
      | exact ih1 _ _ _
      | exact ih2 _ _ _ _ _ _
      | exact cadastrelaw7_both.mono _ _ _
      | exact cadastrelaw7_heavy.mono _ _ _ _
      | exact cadastrelaw7_wakes.mono _
      | exact cadastreref0_CopyValues.mono _ _
      | exact keys_Begins.mono _ _ _
      | exact keys_Cmp.mono _ _ _
      | exact LeO.none _
      | refine LeO.ite ?_ ?_
      | refine LeO.bind ?_ (fun _ => ?_)
    · intro y0 y1 y2 y3 y4 y5
      unfold cadastrelaw7_KeysBegin.j2
      repeat' first
      | (with_reducible exact ih0 _ _)
      | (with_reducible exact ih1 _ _ _)
      | (with_reducible exact ih2 _ _ _ _ _ _)
      | (with_reducible exact cadastrelaw7_both.mono _ _ _)
      | (with_reducible exact cadastrelaw7_heavy.mono _ _ _ _)
      | (with_reducible exact cadastrelaw7_wakes.mono _)
      | (with_reducible exact cadastreref0_CopyValues.mono _ _)
      | (with_reducible exact keys_Begins.mono _ _ _)
      | (with_reducible exact keys_Cmp.mono _ _ _)
      | (with_reducible exact LeO.refl _)
      | (with_reducible exact LeO.none _)
      | (with_reducible refine LeO.ite ?_ ?_)
      | (with_reducible refine LeO.bind ?_ (fun _ => ?_))
      | exact ih0 _ _
      | exact ih1 _ _ _
      | exact ih2 _ _ _ _ _ _
      | exact cadastrelaw7_both.mono _ _ _
      | exact cadastrelaw7_heavy.mono _ _ _ _
      | exact cadastrelaw7_wakes.mono _
      | exact cadastreref0_CopyValues.mono _ _
      | exact keys_Begins.mono _ _ _
      | exact keys_Cmp.mono _ _ _
      | exact LeO.none _
      | refine LeO.ite ?_ ?_
      | refine LeO.bind ?_ (fun _ => ?_)
theorem cadastrelaw7_KeysBegin.mono : ∀ a0 k, LeO (cadastrelaw7_KeysBegin.f k a0) (cadastrelaw7_KeysBegin.f (k + 1) a0) := by
  intro a0 k
  obtain ⟨ih0, ih1, ih2⟩ := cadastrelaw7_KeysBegin.mono_l k
  unfold cadastrelaw7_KeysBegin.f
  repeat' first
      | (with_reducible exact ih0 _ _)
      | (with_reducible exact ih1 _ _ _)
      | (with_reducible exact ih2 _ _ _ _ _ _)
      | (with_reducible exact cadastrelaw7_both.mono _ _ _)
      | (with_reducible exact cadastrelaw7_heavy.mono _ _ _ _)
      | (with_reducible exact cadastrelaw7_wakes.mono _)
      | (with_reducible exact cadastreref0_CopyValues.mono _ _)
      | (with_reducible exact keys_Begins.mono _ _ _)
      | (with_reducible exact keys_Cmp.mono _ _ _)
      | (with_reducible exact LeO.refl _)
      | (with_reducible exact LeO.none _)
      | (with_reducible refine LeO.ite ?_ ?_)
      | (with_reducible refine LeO.bind ?_ (fun _ => ?_))
      | exact ih0 _ _
      | exact ih1 _ _ _
      | exact ih2 _ _ _ _ _ _
      | exact cadastrelaw7_both.mono _ _ _
      | exact cadastrelaw7_heavy.mono _ _ _ _
      | exact cadastrelaw7_wakes.mono _
      | exact cadastreref0_CopyValues.mono _ _
      | exact keys_Begins.mono _ _ _
      | exact keys_Cmp.mono _ _ _
      | exact LeO.none _
      | refine LeO.ite ?_ ?_
      | refine LeO.bind ?_ (fun _ => ?_)
set_option maxHeartbeats 8000000 in
set_option maxRecDepth 100000 in
theorem cadastrelaw7_KeysBegin.calls (k : Nat) (A0 : Option Addr) (c0 : Nat) (l0 : List (S70)) (r : Bool) (w : World) (hr0 : Kd.C k70 w A0 l0.length l0) (hc0 : l0.length ≤ c0) (h : cadastrelaw7_KeysBegin.f k l0 = some r) :
    Calls Try.prog 20 #[.slice A0 l0.length c0] w fun e w' => e = .returned (.bool r) ∧ Below w.heap.size w w' := by
  have hu70 := Try.underlying70
  have HR0 := Aside0.mk hr0
  have HC0 := Aside0.mk hc0
  clear hr0 hc0
  have HB := Aside0.mk (Below.refl w.heap.size w)
  have H : (cadastrelaw7_KeysBegin.l0 k l0 0) = some r := h
  clear h
  have H' := Aside0.mk H
  clear H
  go_enter Try.func20, Try.ntmps20
  go_wp2
  go_loopg [3] k (fun kq v3 w' => ∃ (x3_1 : Int), v3 = .int .i64 x3_1 ∧ Aside0 (cadastrelaw7_KeysBegin.l0 kq l0 x3_1 = some r) ∧ Aside0 (kq ≤ k) ∧ Aside0 (Below w.heap.size w w'))
  case atStart => exact ⟨(0), (by first | rfl | (simp; done) | (simp [*]; done)), H', ⟨Nat.le_refl _⟩, ⟨by repeat (first | (with_reducible first | exact HB.out | apply below_alloc | apply pw_below_drewN | apply below_drew1) | exact HB.out)⟩⟩
  case round =>
    clear H'
    obtain ⟨x3_1, rfl, HA, HK1, HB⟩ := hrel
    cases gk with
    | zero => exact absurd HA.out (by simp [cadastrelaw7_KeysBegin.l0])
    | succ k1 =>
      have H := HA.out
      clear HA
      simp only [cadastrelaw7_KeysBegin.l0] at H
      have HC2 := Aside0.mk H
      clear H
      go_upto_region 2 with (fail)
      go_cut [21] (fun v21 wc => ∃ (kq : Nat) (x21_1 : Bool), v21 = .bool x21_1 ∧ Aside0 (cadastrelaw7_KeysBegin.j1 kq l0 x3_1 x21_1 = some r) ∧ Aside0 (kq ≤ k1) ∧ Aside0 (Below w.heap.size w wc))
      case first =>
        have H := HC2.out
        clear HC2
        by_cases c3 : x3_1 < (l0.length : Int)
        · rw [if_pos c3] at H
          have c3b0 : decide (x3_1 < (l0.length : Int)) = true := decide_eq_true c3
          clear c3
          (first | rw [c3b0] | (simp only [i64_w, i32_w]; rw [c3b0]) | skip)
          have H' := Aside0.mk H
          clear H
          go_wp2
          go_meet
          case rel => exact ⟨_, (decide (x3_1 < 12)), (by first | rfl | (simp; done) | (simp [*]; done)), H', ⟨by have := HK1.out; first | omega | exact Nat.le_refl _⟩, ⟨by repeat (first | (with_reducible first | exact HB.out | apply below_alloc | apply pw_below_drewN | apply below_drew1) | exact HB.out)⟩⟩
        rw [if_neg c3] at H
        have c3b0 : decide (x3_1 < (l0.length : Int)) = false := decide_eq_false c3
        clear c3
        (first | rw [c3b0] | (simp only [i64_w, i32_w]; rw [c3b0]) | skip)
        have H' := Aside0.mk H
        clear H
        go_wp2
        go_meet
        case rel => exact ⟨_, (false), (by first | rfl | (simp; done) | (simp [*]; done)), H', ⟨by have := HK1.out; first | omega | exact Nat.le_refl _⟩, ⟨by repeat (first | (with_reducible first | exact HB.out | apply below_alloc | apply pw_below_drewN | apply below_drew1) | exact HB.out)⟩⟩
      case rest =>
        clear HC2
        try clear c2
        try clear p2
        try clear c3
        try clear c3b0
        obtain ⟨kq, x21_1, rfl, HA, HJ1, HB⟩ := hcut
        cases kq with
        | zero => exact absurd HA.out (by simp [cadastrelaw7_KeysBegin.j1])
        | succ kj1 =>
          have H := HA.out
          clear HA
          simp only [cadastrelaw7_KeysBegin.j1] at H
          by_cases c4 : x21_1 = true
          · subst c4
            have H1 : (if 0 ≤ x3_1 then (if x3_1 < (l0.length : Int) then ((cadastrelaw7_heavy.f kj1 ((rd_T70 l0 x3_1).f0) ((rd_T70 l0 x3_1).f1) ((rd_T70 l0 x3_1).f2)).bind fun t224 => (if t224 = true then (cadastrelaw7_KeysBegin.j2 kj1 l0 x3_1 true ((rd_T70 l0 x3_1).f0) ((rd_T70 l0 x3_1).f1) ((rd_T70 l0 x3_1).f2)) else ((cadastrelaw7_both.f kj1 ((rd_T70 l0 x3_1).f0) ((rd_T70 l0 x3_1).f1)).bind fun t225 => (if t225 = 0 then (if (wrap64 ((((rd_T70 l0 x3_1).f0).length : Int) + (((rd_T70 l0 x3_1).f1).length : Int))) > 16 then (cadastrelaw7_KeysBegin.j2 kj1 l0 x3_1 true ((rd_T70 l0 x3_1).f0) ((rd_T70 l0 x3_1).f1) ((rd_T70 l0 x3_1).f2)) else (cadastrelaw7_KeysBegin.j2 kj1 l0 x3_1 ((((rd_T70 l0 x3_1).f1).length : Int) == 0) ((rd_T70 l0 x3_1).f0) ((rd_T70 l0 x3_1).f1) ((rd_T70 l0 x3_1).f2))) else (cadastrelaw7_KeysBegin.j2 kj1 l0 x3_1 true ((rd_T70 l0 x3_1).f0) ((rd_T70 l0 x3_1).f1) ((rd_T70 l0 x3_1).f2)))))) else (none)) else (none)) = some r := by rw [if_pos rfl] at H; exact H
            clear H
            have H := H1
            clear H1
            by_cases c5 : 0 ≤ x3_1
            rotate_left
            · rw [if_neg c5] at H
              exact absurd H (by simp)
            rw [if_pos c5] at H
            have c5b0 : decide (0 ≤ x3_1) = true := decide_eq_true c5
            clear c5
            by_cases c6 : x3_1 < (l0.length : Int)
            rotate_left
            · rw [if_neg c6] at H
              exact absurd H (by simp)
            rw [if_pos c6] at H
            have c6b0 : decide (x3_1 < (l0.length : Int)) = true := decide_eq_true c6
            clear c6
            have HC7 := Aside0.mk H
            clear H
            have p222 : 0 ≤ (x3_1 : Int) := of_decide_eq_true (by first | (with_reducible assumption) | assumption)
            have q222 : x3_1 < (l0.length : Int) := of_decide_eq_true (by first | (with_reducible assumption) | assumption)
            obtain ⟨ad222, A222_0, c222_0, A222_1, c222_1, A222_2, c222_2, e222, hx222_0, hx222_1, hx222_2, hl222_0, hi222_0, hl222_1, hi222_1, hl222_2, hi222_2⟩ := at_T70 HR0.out x3_1 p222 q222
            cases e222
            replace hx222_0 := (HB.out.cell (World.block_lt_of_cell? w _ hx222_0)).trans hx222_0
            replace hx222_1 := (HB.out.cell (World.block_lt_of_cell? w _ hx222_1)).trans hx222_1
            replace hx222_2 := (HB.out.cell (World.block_lt_of_cell? w _ hx222_2)).trans hx222_2
            have HR222_0 := Aside0.mk hi222_0
            have HC222_0 := Aside0.mk hl222_0
            clear hi222_0 hl222_0
            have HR222_1 := Aside0.mk hi222_1
            have HC222_1 := Aside0.mk hl222_1
            clear hi222_1 hl222_1
            have HR222_2 := Aside0.mk hi222_2
            have HC222_2 := Aside0.mk hl222_2
            clear hi222_2 hl222_2
            replace p222 := eq_true p222
            replace q222 := eq_true q222
            go_upto_region 5 with (first | ((with_reducible refine gate_dst (N := 4) rfl ?_); (try (refine gate_guard (by rfl) ?_; dsimp only)); refine box_event ?hg (N := 4) ?hd (cs := #[.slice none 0 0, .slice none 0 0, .slice none 0 0]) (t := 70) ?hr ?_; (case hd => rfl); (case hg => rfl); (case hr => first | (go_simp; done) | (go_simp; rfl)); intro gb223 hg w8 hbox hb; have n0_ := Aside0.mk (below_step (by repeat (first | (with_reducible first | exact HB.out | apply below_alloc | apply pw_below_drewN | apply below_drew1) | exact HB.out)) hb); have n1_ := Aside0.mk (hbox); have n2_ := Aside0.mk ((by rw [hg]; exact (below_size (by repeat (first | (with_reducible first | exact HB.out | apply below_alloc | apply pw_below_drewN | apply below_drew1) | exact HB.out))) : w.heap.size ≤ gb223)); have n3_ := Aside0.mk ((by rw [hg]; exact (below_size (by repeat (first | (with_reducible first | exact HB.out | apply below_alloc | apply pw_below_drewN | apply below_drew1) | exact HB.out))) : w.heap.size ≤ gb223)); clear HB; have HB := n0_; have BK223 := n1_; have GW223 := n2_; have GE223 := n3_; clear n0_ n1_ n2_ n3_; clear hb hbox hg; have hcz9_0 : w8.cell? ⟨gb223, 0, none⟩ = some (.slice none 0 0) := (blk_cell BK223.out 0).trans rfl; have hcz9_1 : w8.cell? ⟨gb223, 1, none⟩ = some (.slice none 0 0) := (blk_cell BK223.out 1).trans rfl; have hcz9_2 : w8.cell? ⟨gb223, 2, none⟩ = some (.slice none 0 0) := (blk_cell BK223.out 2).trans rfl; have hfz9_0 := blk_frozen BK223.out 0; have hfz9_1 := blk_frozen BK223.out 1; have hfz9_2 := blk_frozen BK223.out 2))
            (try simp only [Act.put, List.setIfInBounds_toArray, List.set_cons_zero, List.set_cons_succ])
            go_cut [53] (fun v53 wc => ∃ (kq : Nat) (x53_6 : Bool), v53 = .bool x53_6 ∧ Aside0 (cadastrelaw7_KeysBegin.j2 kq l0 x3_1 x53_6 ((rd_T70 l0 x3_1).f0) ((rd_T70 l0 x3_1).f1) ((rd_T70 l0 x3_1).f2) = some r) ∧ Aside0 (kq ≤ kj1) ∧ Aside0 (wc.heap[gb223]? = some (.cells #[(.slice A222_0 ((rd_T70 l0 x3_1).f0).length c222_0), (.slice A222_1 ((rd_T70 l0 x3_1).f1).length c222_1), (.slice A222_2 ((rd_T70 l0 x3_1).f2).length c222_2)] 70 (0, 0))) ∧ Aside0 (Below w.heap.size w wc))
            case first =>
              have H := HC7.out
              clear HC7
              replace H := Option.bind_eq_some_iff.mp H
              obtain ⟨t224, A100, H⟩ := H
              replace H : (if t224 = true then (cadastrelaw7_KeysBegin.j2 kj1 l0 x3_1 true ((rd_T70 l0 x3_1).f0) ((rd_T70 l0 x3_1).f1) ((rd_T70 l0 x3_1).f2)) else ((cadastrelaw7_both.f kj1 ((rd_T70 l0 x3_1).f0) ((rd_T70 l0 x3_1).f1)).bind fun t225 => (if t225 = 0 then (if (wrap64 ((((rd_T70 l0 x3_1).f0).length : Int) + (((rd_T70 l0 x3_1).f1).length : Int))) > 16 then (cadastrelaw7_KeysBegin.j2 kj1 l0 x3_1 true ((rd_T70 l0 x3_1).f0) ((rd_T70 l0 x3_1).f1) ((rd_T70 l0 x3_1).f2)) else (cadastrelaw7_KeysBegin.j2 kj1 l0 x3_1 ((((rd_T70 l0 x3_1).f1).length : Int) == 0) ((rd_T70 l0 x3_1).f0) ((rd_T70 l0 x3_1).f1) ((rd_T70 l0 x3_1).f2))) else (cadastrelaw7_KeysBegin.j2 kj1 l0 x3_1 true ((rd_T70 l0 x3_1).f0) ((rd_T70 l0 x3_1).f1) ((rd_T70 l0 x3_1).f2))))) = some r := H
              have A10 := Aside0.mk A100
              clear A100
              by_cases c11 : t224 = true
              · subst c11
                have H1 : (cadastrelaw7_KeysBegin.j2 kj1 l0 x3_1 true ((rd_T70 l0 x3_1).f0) ((rd_T70 l0 x3_1).f1) ((rd_T70 l0 x3_1).f2)) = some r := by rw [if_pos rfl] at H; exact H
                clear H
                have H := H1
                clear H1
                have H' := Aside0.mk H
                clear H
                have hcz12_0 : w8.cell? ⟨gb223, 0, none⟩ = some (.slice none 0 0) := (blk_cell BK223.out 0).trans rfl
                have hcz12_1 : w8.cell? ⟨gb223, 1, none⟩ = some (.slice none 0 0) := (blk_cell BK223.out 1).trans rfl
                have hcz12_2 : w8.cell? ⟨gb223, 2, none⟩ = some (.slice none 0 0) := (blk_cell BK223.out 2).trans rfl
                have hfz12_0 := blk_frozen BK223.out 0
                have hfz12_1 := blk_frozen BK223.out 1
                have hfz12_2 := blk_frozen BK223.out 2
                go_wp2_with (first | ((with_reducible refine gate_callee (f := 56) rfl ?_); refine goesL_ (some 29) rfl rfl Try.func56 (by kernel_rfl) rfl #[.agg #[.slice A222_0 ((rd_T70 l0 x3_1).f0).length c222_0, .slice A222_1 ((rd_T70 l0 x3_1).f1).length c222_1, .slice A222_2 ((rd_T70 l0 x3_1).f2).length c222_2]] rfl (by (try simp only [List.map_toArray, List.map_cons, List.map_nil]); first | done | rfl | (simp only [List.length_drop, List.length_take]; rfl)) ?_; (with_reducible refine (cadastrelaw7_heavy.calls kj1 _ _ ((rd_T70 l0 x3_1).f0) _ _ ((rd_T70 l0 x3_1).f1) _ _ ((rd_T70 l0 x3_1).f2) true _ ?side1 ?side2 ?side3 ?side4 ?side5 ?side6 A10.out).mono ?_); (case side1 => exact Kd.C_below HR222_0.out (by repeat (first | (with_reducible first | exact HB.out | apply below_alloc | apply pw_below_drewN | apply below_drew1 | refine below_set ?_ GE223.out) | exact HB.out))); (case side2 => exact HC222_0.out); (case side3 => exact Kd.C_below HR222_1.out (by repeat (first | (with_reducible first | exact HB.out | apply below_alloc | apply pw_below_drewN | apply below_drew1 | refine below_set ?_ GE223.out) | exact HB.out))); (case side4 => exact HC222_1.out); (case side5 => exact Kd.C_below HR222_2.out (by repeat (first | (with_reducible first | exact HB.out | apply below_alloc | apply pw_below_drewN | apply below_drew1 | refine below_set ?_ GE223.out) | exact HB.out))); (case side6 => exact HC222_2.out); rintro e w13 ⟨rfl, hb⟩; refine ⟨_, rfl, ?_⟩; have n0_ := Aside0.mk (blk_below (g := gb223) (o := .cells #[.slice A222_0 ((rd_T70 l0 x3_1).f0).length c222_0, .slice A222_1 ((rd_T70 l0 x3_1).f1).length c222_1, .slice A222_2 ((rd_T70 l0 x3_1).f2).length c222_2] 70 (0, 0)) (by (with_reducible repeat (first | refine blk_drewN ?_ _ | refine blk_drew ?_ | refine blk_alloc ?_ _)); refine blk_put (cs := #[.slice A222_0 ((rd_T70 l0 x3_1).f0).length c222_0, .slice A222_1 ((rd_T70 l0 x3_1).f1).length c222_1, .slice none 0 0]) ?_ 2 _ rfl; (with_reducible repeat (first | refine blk_drewN ?_ _ | refine blk_drew ?_ | refine blk_alloc ?_ _)); refine blk_put (cs := #[.slice A222_0 ((rd_T70 l0 x3_1).f0).length c222_0, .slice none 0 0, .slice none 0 0]) ?_ 1 _ rfl; (with_reducible repeat (first | refine blk_drewN ?_ _ | refine blk_drew ?_ | refine blk_alloc ?_ _)); refine blk_put (cs := #[.slice none 0 0, .slice none 0 0, .slice none 0 0]) ?_ 0 _ rfl; (with_reducible repeat (first | refine blk_drewN ?_ _ | refine blk_drew ?_ | refine blk_alloc ?_ _)); exact BK223.out) hb); have n1_ := Aside0.mk (below_step (by repeat (first | (with_reducible first | exact HB.out | apply below_alloc | apply pw_below_drewN | apply below_drew1 | refine below_set ?_ GE223.out) | exact HB.out)) hb); clear BK223; clear HB; have BK223 := n0_; have HB := n1_; clear n0_ n1_; (try clear hb); (try clear hb2); (try clear hk); (try clear hi)))
                go_meet
                case rel => exact ⟨_, (true), (by first | rfl | (simp; done) | (simp [*]; done)), H', ⟨by have := HK1.out; have := HJ1.out; first | omega | exact Nat.le_refl _⟩, ⟨by (with_reducible repeat (first | refine blk_drewN ?_ _ | refine blk_drew ?_ | refine blk_alloc ?_ _)); exact BK223.out⟩, ⟨by repeat (first | (with_reducible first | exact HB.out | apply below_alloc | apply pw_below_drewN | apply below_drew1 | refine below_set ?_ GE223.out) | exact HB.out)⟩⟩
              · replace c11 := Bool.eq_false_iff.mpr c11
                subst c11
                have H1 : ((cadastrelaw7_both.f kj1 ((rd_T70 l0 x3_1).f0) ((rd_T70 l0 x3_1).f1)).bind fun t225 => (if t225 = 0 then (if (wrap64 ((((rd_T70 l0 x3_1).f0).length : Int) + (((rd_T70 l0 x3_1).f1).length : Int))) > 16 then (cadastrelaw7_KeysBegin.j2 kj1 l0 x3_1 true ((rd_T70 l0 x3_1).f0) ((rd_T70 l0 x3_1).f1) ((rd_T70 l0 x3_1).f2)) else (cadastrelaw7_KeysBegin.j2 kj1 l0 x3_1 ((((rd_T70 l0 x3_1).f1).length : Int) == 0) ((rd_T70 l0 x3_1).f0) ((rd_T70 l0 x3_1).f1) ((rd_T70 l0 x3_1).f2))) else (cadastrelaw7_KeysBegin.j2 kj1 l0 x3_1 true ((rd_T70 l0 x3_1).f0) ((rd_T70 l0 x3_1).f1) ((rd_T70 l0 x3_1).f2)))) = some r := by rw [if_neg (show ¬ (false = true) by decide)] at H; exact H
                clear H
                have H := H1
                clear H1
                replace H := Option.bind_eq_some_iff.mp H
                obtain ⟨t225, A140, H⟩ := H
                replace H : (if t225 = 0 then (if (wrap64 ((((rd_T70 l0 x3_1).f0).length : Int) + (((rd_T70 l0 x3_1).f1).length : Int))) > 16 then (cadastrelaw7_KeysBegin.j2 kj1 l0 x3_1 true ((rd_T70 l0 x3_1).f0) ((rd_T70 l0 x3_1).f1) ((rd_T70 l0 x3_1).f2)) else (cadastrelaw7_KeysBegin.j2 kj1 l0 x3_1 ((((rd_T70 l0 x3_1).f1).length : Int) == 0) ((rd_T70 l0 x3_1).f0) ((rd_T70 l0 x3_1).f1) ((rd_T70 l0 x3_1).f2))) else (cadastrelaw7_KeysBegin.j2 kj1 l0 x3_1 true ((rd_T70 l0 x3_1).f0) ((rd_T70 l0 x3_1).f1) ((rd_T70 l0 x3_1).f2))) = some r := H
                have A14 := Aside0.mk A140
                clear A140
                by_cases c15 : t225 = 0
                rotate_left
                · rw [if_neg c15] at H
                  have c15b0 : (t225 == 0) = false := beq_eq_false_iff_ne.mpr c15
                  have c15b1 : (t225 != 0) = true := bne_iff_ne.mpr c15
                  (first | rw [c15b0] | (simp only [i64_w, i32_w]; rw [c15b0]) | skip)
                  have H' := Aside0.mk H
                  clear H
                  have hcz16_0 : w8.cell? ⟨gb223, 0, none⟩ = some (.slice none 0 0) := (blk_cell BK223.out 0).trans rfl
                  have hcz16_1 : w8.cell? ⟨gb223, 1, none⟩ = some (.slice none 0 0) := (blk_cell BK223.out 1).trans rfl
                  have hcz16_2 : w8.cell? ⟨gb223, 2, none⟩ = some (.slice none 0 0) := (blk_cell BK223.out 2).trans rfl
                  have hfz16_0 := blk_frozen BK223.out 0
                  have hfz16_1 := blk_frozen BK223.out 1
                  have hfz16_2 := blk_frozen BK223.out 2
                  go_wp2_with (first | ((with_reducible refine gate_callee (f := 56) rfl ?_); refine goesL_ (some 29) rfl rfl Try.func56 (by kernel_rfl) rfl #[.agg #[.slice A222_0 ((rd_T70 l0 x3_1).f0).length c222_0, .slice A222_1 ((rd_T70 l0 x3_1).f1).length c222_1, .slice A222_2 ((rd_T70 l0 x3_1).f2).length c222_2]] rfl (by (try simp only [List.map_toArray, List.map_cons, List.map_nil]); first | done | rfl | (simp only [List.length_drop, List.length_take]; rfl)) ?_; (with_reducible refine (cadastrelaw7_heavy.calls kj1 _ _ ((rd_T70 l0 x3_1).f0) _ _ ((rd_T70 l0 x3_1).f1) _ _ ((rd_T70 l0 x3_1).f2) false _ ?side1 ?side2 ?side3 ?side4 ?side5 ?side6 A10.out).mono ?_); (case side1 => exact Kd.C_below HR222_0.out (by repeat (first | (with_reducible first | exact HB.out | apply below_alloc | apply pw_below_drewN | apply below_drew1 | refine below_set ?_ GE223.out) | exact HB.out))); (case side2 => exact HC222_0.out); (case side3 => exact Kd.C_below HR222_1.out (by repeat (first | (with_reducible first | exact HB.out | apply below_alloc | apply pw_below_drewN | apply below_drew1 | refine below_set ?_ GE223.out) | exact HB.out))); (case side4 => exact HC222_1.out); (case side5 => exact Kd.C_below HR222_2.out (by repeat (first | (with_reducible first | exact HB.out | apply below_alloc | apply pw_below_drewN | apply below_drew1 | refine below_set ?_ GE223.out) | exact HB.out))); (case side6 => exact HC222_2.out); rintro e w17 ⟨rfl, hb⟩; refine ⟨_, rfl, ?_⟩; have n0_ := Aside0.mk (blk_below (g := gb223) (o := .cells #[.slice A222_0 ((rd_T70 l0 x3_1).f0).length c222_0, .slice A222_1 ((rd_T70 l0 x3_1).f1).length c222_1, .slice A222_2 ((rd_T70 l0 x3_1).f2).length c222_2] 70 (0, 0)) (by (with_reducible repeat (first | refine blk_drewN ?_ _ | refine blk_drew ?_ | refine blk_alloc ?_ _)); refine blk_put (cs := #[.slice A222_0 ((rd_T70 l0 x3_1).f0).length c222_0, .slice A222_1 ((rd_T70 l0 x3_1).f1).length c222_1, .slice none 0 0]) ?_ 2 _ rfl; (with_reducible repeat (first | refine blk_drewN ?_ _ | refine blk_drew ?_ | refine blk_alloc ?_ _)); refine blk_put (cs := #[.slice A222_0 ((rd_T70 l0 x3_1).f0).length c222_0, .slice none 0 0, .slice none 0 0]) ?_ 1 _ rfl; (with_reducible repeat (first | refine blk_drewN ?_ _ | refine blk_drew ?_ | refine blk_alloc ?_ _)); refine blk_put (cs := #[.slice none 0 0, .slice none 0 0, .slice none 0 0]) ?_ 0 _ rfl; (with_reducible repeat (first | refine blk_drewN ?_ _ | refine blk_drew ?_ | refine blk_alloc ?_ _)); exact BK223.out) hb); have n1_ := Aside0.mk (below_step (by repeat (first | (with_reducible first | exact HB.out | apply below_alloc | apply pw_below_drewN | apply below_drew1 | refine below_set ?_ GE223.out) | exact HB.out)) hb); clear BK223; clear HB; have BK223 := n0_; have HB := n1_; clear n0_ n1_; (try clear hb); (try clear hb2); (try clear hk); (try clear hi); have hcz18_0 : w17.cell? ⟨gb223, 0, none⟩ = some (.slice A222_0 ((rd_T70 l0 x3_1).f0).length c222_0) := (blk_cell BK223.out 0).trans rfl; have hcz18_1 : w17.cell? ⟨gb223, 1, none⟩ = some (.slice A222_1 ((rd_T70 l0 x3_1).f1).length c222_1) := (blk_cell BK223.out 1).trans rfl; have hcz18_2 : w17.cell? ⟨gb223, 2, none⟩ = some (.slice A222_2 ((rd_T70 l0 x3_1).f2).length c222_2) := (blk_cell BK223.out 2).trans rfl; have hfz18_0 := blk_frozen BK223.out 0; have hfz18_1 := blk_frozen BK223.out 1; have hfz18_2 := blk_frozen BK223.out 2) | (go_at_call 57; (with_reducible refine (cadastrelaw7_both.calls kj1 _ _ ((rd_T70 l0 x3_1).f0) _ _ ((rd_T70 l0 x3_1).f1) t225 _ ?side1 ?side2 ?side3 ?side4 A14.out).mono ?_); (case side1 => repeat (first | exact (Kd.C_below HR222_0.out HB.out) | (with_reducible refine Kd.C_alloc ?_ _) | (with_reducible refine Kd.C_drewN ?_ _) | (with_reducible refine Kd.C_drew ?_))); (case side2 => exact HC222_0.out); (case side3 => repeat (first | exact (Kd.C_below HR222_1.out HB.out) | (with_reducible refine Kd.C_alloc ?_ _) | (with_reducible refine Kd.C_drewN ?_ _) | (with_reducible refine Kd.C_drew ?_))); (case side4 => exact HC222_1.out); rintro e w19 ⟨rfl, hb⟩; have n0_ := Aside0.mk (blk_below (g := gb223) (o := .cells #[.slice A222_0 ((rd_T70 l0 x3_1).f0).length c222_0, .slice A222_1 ((rd_T70 l0 x3_1).f1).length c222_1, .slice A222_2 ((rd_T70 l0 x3_1).f2).length c222_2] 70 (0, 0)) (by (with_reducible repeat (first | refine blk_drewN ?_ _ | refine blk_drew ?_ | refine blk_alloc ?_ _)); exact BK223.out) hb); have n1_ := Aside0.mk (below_step (by repeat (first | (with_reducible first | exact HB.out | apply below_alloc | apply pw_below_drewN | apply below_drew1 | refine below_set ?_ GE223.out) | exact HB.out)) hb); clear BK223; clear HB; have BK223 := n0_; have HB := n1_; clear n0_ n1_; (try clear hb); (try clear hb2); (try clear hk); (try clear hi); (try clear A14)))
                  go_meet
                  case rel => exact ⟨_, (true), (by first | rfl | (simp; done) | (simp [*]; done)), H', ⟨by have := HK1.out; have := HJ1.out; first | omega | exact Nat.le_refl _⟩, ⟨by (with_reducible repeat (first | refine blk_drewN ?_ _ | refine blk_drew ?_ | refine blk_alloc ?_ _)); exact BK223.out⟩, ⟨by repeat (first | (with_reducible first | exact HB.out | apply below_alloc | apply pw_below_drewN | apply below_drew1 | refine below_set ?_ GE223.out) | exact HB.out)⟩⟩
                rw [if_pos c15] at H
                have c15b0 : (t225 == 0) = true := beq_iff_eq.mpr c15
                have c15b1 : (t225 != 0) = false := bne_eq_false_iff_eq.mpr c15
                clear c15
                (first | rw [c15b0] | (simp only [i64_w, i32_w]; rw [c15b0]) | skip)
                by_cases c20 : (wrap64 ((((rd_T70 l0 x3_1).f0).length : Int) + (((rd_T70 l0 x3_1).f1).length : Int))) > 16
                · rw [if_pos c20] at H
                  have c20b0 : decide (16 < (wrap64 ((((rd_T70 l0 x3_1).f0).length : Int) + (((rd_T70 l0 x3_1).f1).length : Int)))) = true := decide_eq_true c20
                  clear c20
                  have H' := Aside0.mk H
                  clear H
                  have hcz21_0 : w8.cell? ⟨gb223, 0, none⟩ = some (.slice none 0 0) := (blk_cell BK223.out 0).trans rfl
                  have hcz21_1 : w8.cell? ⟨gb223, 1, none⟩ = some (.slice none 0 0) := (blk_cell BK223.out 1).trans rfl
                  have hcz21_2 : w8.cell? ⟨gb223, 2, none⟩ = some (.slice none 0 0) := (blk_cell BK223.out 2).trans rfl
                  have hfz21_0 := blk_frozen BK223.out 0
                  have hfz21_1 := blk_frozen BK223.out 1
                  have hfz21_2 := blk_frozen BK223.out 2
                  go_wp2_with (first | ((with_reducible refine gate_callee (f := 56) rfl ?_); refine goesL_ (some 29) rfl rfl Try.func56 (by kernel_rfl) rfl #[.agg #[.slice A222_0 ((rd_T70 l0 x3_1).f0).length c222_0, .slice A222_1 ((rd_T70 l0 x3_1).f1).length c222_1, .slice A222_2 ((rd_T70 l0 x3_1).f2).length c222_2]] rfl (by (try simp only [List.map_toArray, List.map_cons, List.map_nil]); first | done | rfl | (simp only [List.length_drop, List.length_take]; rfl)) ?_; (with_reducible refine (cadastrelaw7_heavy.calls kj1 _ _ ((rd_T70 l0 x3_1).f0) _ _ ((rd_T70 l0 x3_1).f1) _ _ ((rd_T70 l0 x3_1).f2) false _ ?side1 ?side2 ?side3 ?side4 ?side5 ?side6 A10.out).mono ?_); (case side1 => exact Kd.C_below HR222_0.out (by repeat (first | (with_reducible first | exact HB.out | apply below_alloc | apply pw_below_drewN | apply below_drew1 | refine below_set ?_ GE223.out) | exact HB.out))); (case side2 => exact HC222_0.out); (case side3 => exact Kd.C_below HR222_1.out (by repeat (first | (with_reducible first | exact HB.out | apply below_alloc | apply pw_below_drewN | apply below_drew1 | refine below_set ?_ GE223.out) | exact HB.out))); (case side4 => exact HC222_1.out); (case side5 => exact Kd.C_below HR222_2.out (by repeat (first | (with_reducible first | exact HB.out | apply below_alloc | apply pw_below_drewN | apply below_drew1 | refine below_set ?_ GE223.out) | exact HB.out))); (case side6 => exact HC222_2.out); rintro e w22 ⟨rfl, hb⟩; refine ⟨_, rfl, ?_⟩; have n0_ := Aside0.mk (blk_below (g := gb223) (o := .cells #[.slice A222_0 ((rd_T70 l0 x3_1).f0).length c222_0, .slice A222_1 ((rd_T70 l0 x3_1).f1).length c222_1, .slice A222_2 ((rd_T70 l0 x3_1).f2).length c222_2] 70 (0, 0)) (by (with_reducible repeat (first | refine blk_drewN ?_ _ | refine blk_drew ?_ | refine blk_alloc ?_ _)); refine blk_put (cs := #[.slice A222_0 ((rd_T70 l0 x3_1).f0).length c222_0, .slice A222_1 ((rd_T70 l0 x3_1).f1).length c222_1, .slice none 0 0]) ?_ 2 _ rfl; (with_reducible repeat (first | refine blk_drewN ?_ _ | refine blk_drew ?_ | refine blk_alloc ?_ _)); refine blk_put (cs := #[.slice A222_0 ((rd_T70 l0 x3_1).f0).length c222_0, .slice none 0 0, .slice none 0 0]) ?_ 1 _ rfl; (with_reducible repeat (first | refine blk_drewN ?_ _ | refine blk_drew ?_ | refine blk_alloc ?_ _)); refine blk_put (cs := #[.slice none 0 0, .slice none 0 0, .slice none 0 0]) ?_ 0 _ rfl; (with_reducible repeat (first | refine blk_drewN ?_ _ | refine blk_drew ?_ | refine blk_alloc ?_ _)); exact BK223.out) hb); have n1_ := Aside0.mk (below_step (by repeat (first | (with_reducible first | exact HB.out | apply below_alloc | apply pw_below_drewN | apply below_drew1 | refine below_set ?_ GE223.out) | exact HB.out)) hb); clear BK223; clear HB; have BK223 := n0_; have HB := n1_; clear n0_ n1_; (try clear hb); (try clear hb2); (try clear hk); (try clear hi); have hcz23_0 : w22.cell? ⟨gb223, 0, none⟩ = some (.slice A222_0 ((rd_T70 l0 x3_1).f0).length c222_0) := (blk_cell BK223.out 0).trans rfl; have hcz23_1 : w22.cell? ⟨gb223, 1, none⟩ = some (.slice A222_1 ((rd_T70 l0 x3_1).f1).length c222_1) := (blk_cell BK223.out 1).trans rfl; have hcz23_2 : w22.cell? ⟨gb223, 2, none⟩ = some (.slice A222_2 ((rd_T70 l0 x3_1).f2).length c222_2) := (blk_cell BK223.out 2).trans rfl; have hfz23_0 := blk_frozen BK223.out 0; have hfz23_1 := blk_frozen BK223.out 1; have hfz23_2 := blk_frozen BK223.out 2) | (go_at_call 57; (with_reducible refine (cadastrelaw7_both.calls kj1 _ _ ((rd_T70 l0 x3_1).f0) _ _ ((rd_T70 l0 x3_1).f1) t225 _ ?side1 ?side2 ?side3 ?side4 A14.out).mono ?_); (case side1 => repeat (first | exact (Kd.C_below HR222_0.out HB.out) | (with_reducible refine Kd.C_alloc ?_ _) | (with_reducible refine Kd.C_drewN ?_ _) | (with_reducible refine Kd.C_drew ?_))); (case side2 => exact HC222_0.out); (case side3 => repeat (first | exact (Kd.C_below HR222_1.out HB.out) | (with_reducible refine Kd.C_alloc ?_ _) | (with_reducible refine Kd.C_drewN ?_ _) | (with_reducible refine Kd.C_drew ?_))); (case side4 => exact HC222_1.out); rintro e w24 ⟨rfl, hb⟩; have n0_ := Aside0.mk (blk_below (g := gb223) (o := .cells #[.slice A222_0 ((rd_T70 l0 x3_1).f0).length c222_0, .slice A222_1 ((rd_T70 l0 x3_1).f1).length c222_1, .slice A222_2 ((rd_T70 l0 x3_1).f2).length c222_2] 70 (0, 0)) (by (with_reducible repeat (first | refine blk_drewN ?_ _ | refine blk_drew ?_ | refine blk_alloc ?_ _)); exact BK223.out) hb); have n1_ := Aside0.mk (below_step (by repeat (first | (with_reducible first | exact HB.out | apply below_alloc | apply pw_below_drewN | apply below_drew1 | refine below_set ?_ GE223.out) | exact HB.out)) hb); clear BK223; clear HB; have BK223 := n0_; have HB := n1_; clear n0_ n1_; (try clear hb); (try clear hb2); (try clear hk); (try clear hi); (try clear A14); have hcz25_0 : w24.cell? ⟨gb223, 0, none⟩ = some (.slice A222_0 ((rd_T70 l0 x3_1).f0).length c222_0) := (blk_cell BK223.out 0).trans rfl; have hcz25_1 : w24.cell? ⟨gb223, 1, none⟩ = some (.slice A222_1 ((rd_T70 l0 x3_1).f1).length c222_1) := (blk_cell BK223.out 1).trans rfl; have hcz25_2 : w24.cell? ⟨gb223, 2, none⟩ = some (.slice A222_2 ((rd_T70 l0 x3_1).f2).length c222_2) := (blk_cell BK223.out 2).trans rfl; have hfz25_0 := blk_frozen BK223.out 0; have hfz25_1 := blk_frozen BK223.out 1; have hfz25_2 := blk_frozen BK223.out 2))
                  go_meet
                  case rel => exact ⟨_, (true), (by first | rfl | (simp; done) | (simp [*]; done)), H', ⟨by have := HK1.out; have := HJ1.out; first | omega | exact Nat.le_refl _⟩, ⟨by (with_reducible repeat (first | refine blk_drewN ?_ _ | refine blk_drew ?_ | refine blk_alloc ?_ _)); exact BK223.out⟩, ⟨by repeat (first | (with_reducible first | exact HB.out | apply below_alloc | apply pw_below_drewN | apply below_drew1 | refine below_set ?_ GE223.out) | exact HB.out)⟩⟩
                rw [if_neg c20] at H
                have c20b0 : decide (16 < (wrap64 ((((rd_T70 l0 x3_1).f0).length : Int) + (((rd_T70 l0 x3_1).f1).length : Int)))) = false := decide_eq_false c20
                clear c20
                have H' := Aside0.mk H
                clear H
                have hcz26_0 : w8.cell? ⟨gb223, 0, none⟩ = some (.slice none 0 0) := (blk_cell BK223.out 0).trans rfl
                have hcz26_1 : w8.cell? ⟨gb223, 1, none⟩ = some (.slice none 0 0) := (blk_cell BK223.out 1).trans rfl
                have hcz26_2 : w8.cell? ⟨gb223, 2, none⟩ = some (.slice none 0 0) := (blk_cell BK223.out 2).trans rfl
                have hfz26_0 := blk_frozen BK223.out 0
                have hfz26_1 := blk_frozen BK223.out 1
                have hfz26_2 := blk_frozen BK223.out 2
                go_wp2_with (first | ((with_reducible refine gate_callee (f := 56) rfl ?_); refine goesL_ (some 29) rfl rfl Try.func56 (by kernel_rfl) rfl #[.agg #[.slice A222_0 ((rd_T70 l0 x3_1).f0).length c222_0, .slice A222_1 ((rd_T70 l0 x3_1).f1).length c222_1, .slice A222_2 ((rd_T70 l0 x3_1).f2).length c222_2]] rfl (by (try simp only [List.map_toArray, List.map_cons, List.map_nil]); first | done | rfl | (simp only [List.length_drop, List.length_take]; rfl)) ?_; (with_reducible refine (cadastrelaw7_heavy.calls kj1 _ _ ((rd_T70 l0 x3_1).f0) _ _ ((rd_T70 l0 x3_1).f1) _ _ ((rd_T70 l0 x3_1).f2) false _ ?side1 ?side2 ?side3 ?side4 ?side5 ?side6 A10.out).mono ?_); (case side1 => exact Kd.C_below HR222_0.out (by repeat (first | (with_reducible first | exact HB.out | apply below_alloc | apply pw_below_drewN | apply below_drew1 | refine below_set ?_ GE223.out) | exact HB.out))); (case side2 => exact HC222_0.out); (case side3 => exact Kd.C_below HR222_1.out (by repeat (first | (with_reducible first | exact HB.out | apply below_alloc | apply pw_below_drewN | apply below_drew1 | refine below_set ?_ GE223.out) | exact HB.out))); (case side4 => exact HC222_1.out); (case side5 => exact Kd.C_below HR222_2.out (by repeat (first | (with_reducible first | exact HB.out | apply below_alloc | apply pw_below_drewN | apply below_drew1 | refine below_set ?_ GE223.out) | exact HB.out))); (case side6 => exact HC222_2.out); rintro e w27 ⟨rfl, hb⟩; refine ⟨_, rfl, ?_⟩; have n0_ := Aside0.mk (blk_below (g := gb223) (o := .cells #[.slice A222_0 ((rd_T70 l0 x3_1).f0).length c222_0, .slice A222_1 ((rd_T70 l0 x3_1).f1).length c222_1, .slice A222_2 ((rd_T70 l0 x3_1).f2).length c222_2] 70 (0, 0)) (by (with_reducible repeat (first | refine blk_drewN ?_ _ | refine blk_drew ?_ | refine blk_alloc ?_ _)); refine blk_put (cs := #[.slice A222_0 ((rd_T70 l0 x3_1).f0).length c222_0, .slice A222_1 ((rd_T70 l0 x3_1).f1).length c222_1, .slice none 0 0]) ?_ 2 _ rfl; (with_reducible repeat (first | refine blk_drewN ?_ _ | refine blk_drew ?_ | refine blk_alloc ?_ _)); refine blk_put (cs := #[.slice A222_0 ((rd_T70 l0 x3_1).f0).length c222_0, .slice none 0 0, .slice none 0 0]) ?_ 1 _ rfl; (with_reducible repeat (first | refine blk_drewN ?_ _ | refine blk_drew ?_ | refine blk_alloc ?_ _)); refine blk_put (cs := #[.slice none 0 0, .slice none 0 0, .slice none 0 0]) ?_ 0 _ rfl; (with_reducible repeat (first | refine blk_drewN ?_ _ | refine blk_drew ?_ | refine blk_alloc ?_ _)); exact BK223.out) hb); have n1_ := Aside0.mk (below_step (by repeat (first | (with_reducible first | exact HB.out | apply below_alloc | apply pw_below_drewN | apply below_drew1 | refine below_set ?_ GE223.out) | exact HB.out)) hb); clear BK223; clear HB; have BK223 := n0_; have HB := n1_; clear n0_ n1_; (try clear hb); (try clear hb2); (try clear hk); (try clear hi); have hcz28_0 : w27.cell? ⟨gb223, 0, none⟩ = some (.slice A222_0 ((rd_T70 l0 x3_1).f0).length c222_0) := (blk_cell BK223.out 0).trans rfl; have hcz28_1 : w27.cell? ⟨gb223, 1, none⟩ = some (.slice A222_1 ((rd_T70 l0 x3_1).f1).length c222_1) := (blk_cell BK223.out 1).trans rfl; have hcz28_2 : w27.cell? ⟨gb223, 2, none⟩ = some (.slice A222_2 ((rd_T70 l0 x3_1).f2).length c222_2) := (blk_cell BK223.out 2).trans rfl; have hfz28_0 := blk_frozen BK223.out 0; have hfz28_1 := blk_frozen BK223.out 1; have hfz28_2 := blk_frozen BK223.out 2) | (go_at_call 57; (with_reducible refine (cadastrelaw7_both.calls kj1 _ _ ((rd_T70 l0 x3_1).f0) _ _ ((rd_T70 l0 x3_1).f1) t225 _ ?side1 ?side2 ?side3 ?side4 A14.out).mono ?_); (case side1 => repeat (first | exact (Kd.C_below HR222_0.out HB.out) | (with_reducible refine Kd.C_alloc ?_ _) | (with_reducible refine Kd.C_drewN ?_ _) | (with_reducible refine Kd.C_drew ?_))); (case side2 => exact HC222_0.out); (case side3 => repeat (first | exact (Kd.C_below HR222_1.out HB.out) | (with_reducible refine Kd.C_alloc ?_ _) | (with_reducible refine Kd.C_drewN ?_ _) | (with_reducible refine Kd.C_drew ?_))); (case side4 => exact HC222_1.out); rintro e w29 ⟨rfl, hb⟩; have n0_ := Aside0.mk (blk_below (g := gb223) (o := .cells #[.slice A222_0 ((rd_T70 l0 x3_1).f0).length c222_0, .slice A222_1 ((rd_T70 l0 x3_1).f1).length c222_1, .slice A222_2 ((rd_T70 l0 x3_1).f2).length c222_2] 70 (0, 0)) (by (with_reducible repeat (first | refine blk_drewN ?_ _ | refine blk_drew ?_ | refine blk_alloc ?_ _)); exact BK223.out) hb); have n1_ := Aside0.mk (below_step (by repeat (first | (with_reducible first | exact HB.out | apply below_alloc | apply pw_below_drewN | apply below_drew1 | refine below_set ?_ GE223.out) | exact HB.out)) hb); clear BK223; clear HB; have BK223 := n0_; have HB := n1_; clear n0_ n1_; (try clear hb); (try clear hb2); (try clear hk); (try clear hi); (try clear A14); have hcz30_0 : w29.cell? ⟨gb223, 0, none⟩ = some (.slice A222_0 ((rd_T70 l0 x3_1).f0).length c222_0) := (blk_cell BK223.out 0).trans rfl; have hcz30_1 : w29.cell? ⟨gb223, 1, none⟩ = some (.slice A222_1 ((rd_T70 l0 x3_1).f1).length c222_1) := (blk_cell BK223.out 1).trans rfl; have hcz30_2 : w29.cell? ⟨gb223, 2, none⟩ = some (.slice A222_2 ((rd_T70 l0 x3_1).f2).length c222_2) := (blk_cell BK223.out 2).trans rfl; have hfz30_0 := blk_frozen BK223.out 0; have hfz30_1 := blk_frozen BK223.out 1; have hfz30_2 := blk_frozen BK223.out 2))
                go_meet
                case rel => exact ⟨_, (((((rd_T70 l0 x3_1).f1).length : Int) == 0)), (by first | rfl | (simp; done) | (simp [*]; done)), H', ⟨by have := HK1.out; have := HJ1.out; first | omega | exact Nat.le_refl _⟩, ⟨by (with_reducible repeat (first | refine blk_drewN ?_ _ | refine blk_drew ?_ | refine blk_alloc ?_ _)); exact BK223.out⟩, ⟨by repeat (first | (with_reducible first | exact HB.out | apply below_alloc | apply pw_below_drewN | apply below_drew1 | refine below_set ?_ GE223.out) | exact HB.out)⟩⟩
            case rest =>
              clear HC7
              try clear c1
              try clear c2
              try clear p2
              try clear q2
              try clear hx2
              try clear c3
              try clear c3b0
              try clear c4
              try clear c5
              try clear c5b0
              try clear c6
              try clear c6b0
              try clear p6
              try clear c11
              try clear c15
              try clear c15b0
              try clear c15b1
              try clear c20
              try clear c20b0
              try clear c22
              try clear p22
              try clear q22
              try clear hx22
              try clear hcz12_0
              try clear hcz12_1
              try clear hcz12_2
              try clear hcz16_0
              try clear hcz16_1
              try clear hcz16_2
              try clear hcz18_0
              try clear hcz18_1
              try clear hcz18_2
              try clear hcz21_0
              try clear hcz21_1
              try clear hcz21_2
              try clear hcz23_0
              try clear hcz23_1
              try clear hcz23_2
              try clear hcz25_0
              try clear hcz25_1
              try clear hcz25_2
              try clear hcz26_0
              try clear hcz26_1
              try clear hcz26_2
              try clear hcz28_0
              try clear hcz28_1
              try clear hcz28_2
              try clear hcz30_0
              try clear hcz30_1
              try clear hcz30_2
              try clear hcz9_0
              try clear hcz9_1
              try clear hcz9_2
              try clear hfz12_0
              try clear hfz12_1
              try clear hfz12_2
              try clear hfz16_0
              try clear hfz16_1
              try clear hfz16_2
              try clear hfz18_0
              try clear hfz18_1
              try clear hfz18_2
              try clear hfz21_0
              try clear hfz21_1
              try clear hfz21_2
              try clear hfz23_0
              try clear hfz23_1
              try clear hfz23_2
              try clear hfz25_0
              try clear hfz25_1
              try clear hfz25_2
              try clear hfz26_0
              try clear hfz26_1
              try clear hfz26_2
              try clear hfz28_0
              try clear hfz28_1
              try clear hfz28_2
              try clear hfz30_0
              try clear hfz30_1
              try clear hfz30_2
              try clear hfz9_0
              try clear hfz9_1
              try clear hfz9_2
              try clear hx222_0
              try clear hx222_1
              try clear hx222_2
              try clear p2
              try clear p222
              try clear q222
              obtain ⟨kq, x53_6, rfl, HA, HJ6, BK223, HB⟩ := hcut
              cases kq with
              | zero => exact absurd HA.out (by simp [cadastrelaw7_KeysBegin.j2])
              | succ kj6 =>
                have H := HA.out
                clear HA
                simp only [cadastrelaw7_KeysBegin.j2] at H
                by_cases c31 : x53_6 = true
                · subst c31
                  have H1 : (cadastrelaw7_KeysBegin.l0 kj6 l0 (wrap64 (x3_1 + 1))) = some r := by rw [if_pos rfl] at H; exact H
                  clear H
                  have H := H1
                  clear H1
                  have H' := Aside0.mk H
                  clear H
                  go_wp2
                  go_roundg kj6
                  case measure => have := HK1.out; have := HJ1.out; have := HJ6.out; omega
                  case rel => exact ⟨(wrap64 (x3_1 + 1)), (by first | rfl | (simp; done) | (simp [*]; done)), H', ⟨by have := HK1.out; have := HJ1.out; have := HJ6.out; omega⟩, ⟨by repeat (first | (with_reducible first | exact HB.out | apply below_alloc | apply pw_below_drewN | apply below_drew1 | refine below_set ?_ GE223.out) | exact HB.out)⟩⟩
                · replace c31 := Bool.eq_false_iff.mpr c31
                  subst c31
                  have H1 : ((cadastreref0_CopyValues.f kj6 ((rd_T70 l0 x3_1).f0)).bind fun t226 => (if t226.length + ((rd_T70 l0 x3_1).f1).length < 4398046511104 then ((some (t226 ++ ((rd_T70 l0 x3_1).f1) : List (S24))).bind fun y229 => ((keys_Begins.f kj6 y229 ((rd_T70 l0 x3_1).f0)).bind fun bt232 => ((keys_Begins.f kj6 ((rd_T70 l0 x3_1).f0) y229).bind fun bt234 => ((keys_Cmp.f kj6 y229 ((rd_T70 l0 x3_1).f0)).bind fun bt236 => ((cadastrelaw7_num.f bt232.2).bind fun t238 => (if t238 = 0 then ((cadastrelaw7_num.f bt234.2).bind fun t239 => (if t239 = 0 then ((cadastrelaw7_num.f bt236.2).bind fun t240 => (if t240 = 0 then (if bt232.1 = true then (if bt234.1 = true then (some false) else (if bt236.1 = 1 then (cadastrelaw7_KeysBegin.l0 kj6 l0 (wrap64 (x3_1 + 1))) else (some false))) else (some false)) else (some false))) else (some false))) else (some false))))))) else (none))) = some r := by rw [if_neg (show ¬ (false = true) by decide)] at H; exact H
                  clear H
                  have H := H1
                  clear H1
                  replace H := Option.bind_eq_some_iff.mp H
                  obtain ⟨t226, A320, H⟩ := H
                  replace H : (if t226.length + ((rd_T70 l0 x3_1).f1).length < 4398046511104 then ((some (t226 ++ ((rd_T70 l0 x3_1).f1) : List (S24))).bind fun y229 => ((keys_Begins.f kj6 y229 ((rd_T70 l0 x3_1).f0)).bind fun bt232 => ((keys_Begins.f kj6 ((rd_T70 l0 x3_1).f0) y229).bind fun bt234 => ((keys_Cmp.f kj6 y229 ((rd_T70 l0 x3_1).f0)).bind fun bt236 => ((cadastrelaw7_num.f bt232.2).bind fun t238 => (if t238 = 0 then ((cadastrelaw7_num.f bt234.2).bind fun t239 => (if t239 = 0 then ((cadastrelaw7_num.f bt236.2).bind fun t240 => (if t240 = 0 then (if bt232.1 = true then (if bt234.1 = true then (some false) else (if bt236.1 = 1 then (cadastrelaw7_KeysBegin.l0 kj6 l0 (wrap64 (x3_1 + 1))) else (some false))) else (some false)) else (some false))) else (some false))) else (some false))))))) else (none)) = some r := H
                  have A32 := Aside0.mk A320
                  clear A320
                  by_cases c33 : t226.length + ((rd_T70 l0 x3_1).f1).length < 4398046511104
                  rotate_left
                  · rw [if_neg c33] at H
                    exact absurd H (by simp)
                  rw [if_pos c33] at H
                  have LMc33 := Aside0.mk c33
                  clear c33
                  obtain ⟨y229, hy229⟩ : ∃ y_ : List (S24), y_ = (t226 ++ ((rd_T70 l0 x3_1).f1)) := ⟨_, rfl⟩
                  replace H : ((keys_Begins.f kj6 y229 ((rd_T70 l0 x3_1).f0)).bind fun bt232 => ((keys_Begins.f kj6 ((rd_T70 l0 x3_1).f0) y229).bind fun bt234 => ((keys_Cmp.f kj6 y229 ((rd_T70 l0 x3_1).f0)).bind fun bt236 => ((cadastrelaw7_num.f bt232.2).bind fun t238 => (if t238 = 0 then ((cadastrelaw7_num.f bt234.2).bind fun t239 => (if t239 = 0 then ((cadastrelaw7_num.f bt236.2).bind fun t240 => (if t240 = 0 then (if bt232.1 = true then (if bt234.1 = true then (some false) else (if bt236.1 = 1 then (cadastrelaw7_KeysBegin.l0 kj6 l0 (wrap64 (x3_1 + 1))) else (some false))) else (some false)) else (some false))) else (some false))) else (some false)))))) = some r := by first | (rw [hy229]; with_reducible exact H) | (have H2_ := (Option.bind_some _ _).symm.trans H; rw [hy229]; with_reducible exact H2_) | (have H2_ := (Option.bind_some _ _).symm.trans H; with_reducible exact H2_) | with_reducible exact H | (rw [hy229]; exact H) | exact H
                  have Ny229 := Aside0.mk hy229
                  clear hy229
                  replace H := Option.bind_eq_some_iff.mp H
                  obtain ⟨⟨t232, t233⟩, A340, H⟩ := H
                  replace H : ((keys_Begins.f kj6 ((rd_T70 l0 x3_1).f0) y229).bind fun bt234 => ((keys_Cmp.f kj6 y229 ((rd_T70 l0 x3_1).f0)).bind fun bt236 => ((cadastrelaw7_num.f t233).bind fun t238 => (if t238 = 0 then ((cadastrelaw7_num.f bt234.2).bind fun t239 => (if t239 = 0 then ((cadastrelaw7_num.f bt236.2).bind fun t240 => (if t240 = 0 then (if t232 = true then (if bt234.1 = true then (some false) else (if bt236.1 = 1 then (cadastrelaw7_KeysBegin.l0 kj6 l0 (wrap64 (x3_1 + 1))) else (some false))) else (some false)) else (some false))) else (some false))) else (some false))))) = some r := H
                  have A34 := Aside0.mk A340
                  clear A340
                  replace H := Option.bind_eq_some_iff.mp H
                  obtain ⟨⟨t234, t235⟩, A350, H⟩ := H
                  replace H : ((keys_Cmp.f kj6 y229 ((rd_T70 l0 x3_1).f0)).bind fun bt236 => ((cadastrelaw7_num.f t233).bind fun t238 => (if t238 = 0 then ((cadastrelaw7_num.f t235).bind fun t239 => (if t239 = 0 then ((cadastrelaw7_num.f bt236.2).bind fun t240 => (if t240 = 0 then (if t232 = true then (if t234 = true then (some false) else (if bt236.1 = 1 then (cadastrelaw7_KeysBegin.l0 kj6 l0 (wrap64 (x3_1 + 1))) else (some false))) else (some false)) else (some false))) else (some false))) else (some false)))) = some r := H
                  have A35 := Aside0.mk A350
                  clear A350
                  replace H := Option.bind_eq_some_iff.mp H
                  obtain ⟨⟨t236, t237⟩, A360, H⟩ := H
                  replace H : ((cadastrelaw7_num.f t233).bind fun t238 => (if t238 = 0 then ((cadastrelaw7_num.f t235).bind fun t239 => (if t239 = 0 then ((cadastrelaw7_num.f t237).bind fun t240 => (if t240 = 0 then (if t232 = true then (if t234 = true then (some false) else (if t236 = 1 then (cadastrelaw7_KeysBegin.l0 kj6 l0 (wrap64 (x3_1 + 1))) else (some false))) else (some false)) else (some false))) else (some false))) else (some false))) = some r := H
                  have A36 := Aside0.mk A360
                  clear A360
                  replace H := Option.bind_eq_some_iff.mp H
                  obtain ⟨t238, A370, H⟩ := H
                  replace H : (if t238 = 0 then ((cadastrelaw7_num.f t235).bind fun t239 => (if t239 = 0 then ((cadastrelaw7_num.f t237).bind fun t240 => (if t240 = 0 then (if t232 = true then (if t234 = true then (some false) else (if t236 = 1 then (cadastrelaw7_KeysBegin.l0 kj6 l0 (wrap64 (x3_1 + 1))) else (some false))) else (some false)) else (some false))) else (some false))) else (some false)) = some r := H
                  have A37 := Aside0.mk A370
                  clear A370
                  by_cases c38 : t238 = 0
                  rotate_left
                  · rw [if_neg c38] at H
                    have c38b0 : (t238 == 0) = false := beq_eq_false_iff_ne.mpr c38
                    have c38b1 : (t238 != 0) = true := bne_iff_ne.mpr c38
                    obtain rfl := Option.some.inj H
                    try go_wp2
                    have n0_ := Aside0.mk (blk_drew BK223.out)
                    have n1_ := Aside0.mk (below_drew1 HB.out)
                    clear BK223
                    clear HB
                    have BK223 := n0_
                    have HB := n1_
                    clear n0_ n1_
                    refine start_ (n := 7) (S := fun w' => w'.cell? ⟨gb223, 0, none⟩ = some (.slice A222_0 ((rd_T70 l0 x3_1).f0).length c222_0) ∧ w'.cell? ⟨gb223, 1, none⟩ = some (.slice A222_1 ((rd_T70 l0 x3_1).f1).length c222_1) ∧ w'.cell? ⟨gb223, 2, none⟩ = some (.slice A222_2 ((rd_T70 l0 x3_1).f2).length c222_2)) (ds := []) #[false, false, false, false, false, false, false] (by kernel_rfl) rfl rfl ⟨(blk_cell BK223.out 0).trans rfl, (blk_cell BK223.out 1).trans rfl, (blk_cell BK223.out 2).trans rfl⟩ (fun hHeld => ?_)
                    generalize wc.drew = w39 at BK223 HB hHeld ⊢
                    refine pure_ (i := 0) (N := some 54) (v := ?_) (a' := ?_) #[true, false, false, false, false, false, false] rfl rfl (by kernel_rfl) (fun _ _ _ h => h) (Or.inl ⟨by rfl, ?_⟩) ?_ ?_
                    rotate_left
                    · intro w'
                      go_simp
                      with_reducible rfl
                    rotate_left
                    · simp only [Act.put, List.setIfInBounds_toArray, List.set_cons_zero, List.set_cons_succ, i64_w, i32_w, u32_w, u8_w, w64_m8, w64_m32, w64_bt]
                      rfl
                    refine pure_ (i := 3) (N := some 57) (v := ?_) (a' := ?_) #[true, false, false, true, false, false, false] rfl rfl (by kernel_rfl) (fun _ _ _ h => h) (Or.inl ⟨by rfl, ?_⟩) ?_ ?_
                    rotate_left
                    · intro w'
                      go_simp
                      with_reducible rfl
                    rotate_left
                    · simp only [Act.put, List.setIfInBounds_toArray, List.set_cons_zero, List.set_cons_succ, i64_w, i32_w, u32_w, u8_w, w64_m8, w64_m32, w64_bt]
                      rfl
                    refine take_ (i := 1) (N := some 55) (v := ?_) (a' := ?_) #[true, true, false, true, false, false, false] rfl rfl (by kernel_rfl) (fun _ _ _ h => h) (Or.inl ⟨by rfl, ?_⟩) hHeld ?_ ?_
                    rotate_left
                    · rintro w' ⟨s0, s1, s2⟩
                      go_simp
                      with_reducible rfl
                    rotate_left
                    · simp only [Act.put, List.setIfInBounds_toArray, List.set_cons_zero, List.set_cons_succ, i64_w, i32_w, u32_w, u8_w, w64_m8, w64_m32, w64_bt]
                      rfl
                    refine take_ (i := 4) (N := some 58) (v := ?_) (a' := ?_) #[true, true, false, true, true, false, false] rfl rfl (by kernel_rfl) (fun _ _ _ h => h) (Or.inl ⟨by rfl, ?_⟩) hHeld ?_ ?_
                    rotate_left
                    · rintro w' ⟨s0, s1, s2⟩
                      go_simp
                      with_reducible rfl
                    rotate_left
                    · simp only [Act.put, List.setIfInBounds_toArray, List.set_cons_zero, List.set_cons_succ, i64_w, i32_w, u32_w, u8_w, w64_m8, w64_m32, w64_bt]
                      rfl
                    refine one_ (i := 2) (N := some 56) #[true, true, true, true, true, false, false] rfl rfl (by kernel_rfl) (by decide) (fun K hK => ?_)
                    refine goes_ Try.func64 (by kernel_rfl) rfl #[.slice A222_0 ((rd_T70 l0 x3_1).f0).length c222_0] (by rfl) rfl rfl (by (try simp only [List.map_toArray, List.map_cons, List.map_nil]); first | done | rfl | (simp only [List.length_drop, List.length_take]; rfl)) ?_
                    with_reducible refine (cadastreref0_CopyValues.calls kj6 _ _ ((rd_T70 l0 x3_1).f0) t226 _ ?side1 ?side2 A32.out).mono ?_
                    (case side1 => repeat (first | exact (Kd.C_below HR222_0.out HB.out) | (with_reducible refine Kd.C_alloc ?_ _) | (with_reducible refine Kd.C_drewN ?_ _) | (with_reducible refine Kd.C_drew ?_)))
                    (case side2 => exact HC222_0.out)
                    rintro e w40 ⟨v227, rfl, ho0, hb⟩
                    refine ⟨_, rfl, ?_⟩
                    have n0_ := Aside0.mk (Kd.R_lower ho0 (below_size (by repeat (first | (with_reducible first | exact HB.out | apply below_alloc | apply pw_below_drewN | apply below_drew1 | refine below_set ?_ GE223.out) | exact HB.out))))
                    have n1_ := Aside0.mk (blk_below (g := gb223) (o := .cells #[.slice A222_0 ((rd_T70 l0 x3_1).f0).length c222_0, .slice A222_1 ((rd_T70 l0 x3_1).f1).length c222_1, .slice A222_2 ((rd_T70 l0 x3_1).f2).length c222_2] 70 (0, 0)) (by (with_reducible repeat (first | refine blk_drewN ?_ _ | refine blk_drew ?_ | refine blk_alloc ?_ _)); exact BK223.out) hb)
                    have n2_ := Aside0.mk (below_step (by repeat (first | (with_reducible first | exact HB.out | apply below_alloc | apply pw_below_drewN | apply below_drew1 | refine below_set ?_ GE223.out) | exact HB.out)) hb)
                    clear BK223
                    clear HB
                    have HO228 := n0_
                    have BK223 := n1_
                    have HB := n2_
                    clear n0_ n1_ n2_
                    (try clear hb)
                    (try clear hb2)
                    (try clear hk)
                    (try clear hi)
                    (try clear ho0)
                    refine hK.out _ _ ⟨(blk_cell BK223.out 0).trans rfl, (blk_cell BK223.out 1).trans rfl, (blk_cell BK223.out 2).trans rfl⟩ (fun hHeld => ?_)
                    clear hK K
                    refine norm_ (a' := ?_) ?_ ?_
                    rotate_left
                    · show Act.put _ (some 56) _ = _
                      simp only [Act.put, List.setIfInBounds_toArray, List.set_cons_zero, List.set_cons_succ, i64_w, i32_w, u32_w, u8_w, w64_m8, w64_m32, w64_bt]
                      rfl
                    refine one_ (i := 5) (N := some 59) #[true, true, true, true, true, true, false] rfl rfl (by kernel_rfl) (by decide) (fun K hK => ?_)
                    refine Kd.R_append_rows_step k24 (w0 := w) w.heap.size (by rfl) (.tmp 56) (.tmp 58) 67 24 (.agg #[(.int .i64 0), (.int .i64 0), (.string ⟨#[]⟩)]) 32 rfl Try.underlying67 info24 rfl (by decide) (by omega) v227 t226 ((rd_T70 l0 x3_1).f1) _ _ _ (fun _ => True) (fun _ => False) rfl rfl ?aO ?aR (fun _ _ h => h) (fun _ h => h.elim) ?aF ?aB ?aS ?aL ?_
                    (case aR => repeat (first | exact (Kd.C_below HR222_1.out HB.out) | (with_reducible refine Kd.C_alloc ?_ _) | (with_reducible refine Kd.C_drewN ?_ _) | (with_reducible refine Kd.C_drew ?_)))
                    (case aB => exact (by repeat (first | (with_reducible first | exact HB.out | apply below_alloc | apply pw_below_drewN | apply below_drew1 | refine below_set ?_ GE223.out) | exact HB.out)))
                    (case aF => exact (fun _ _ => trivial))
                    (case aO => exact (by (with_reducible repeat (first | apply Kd.R_alloc | apply Kd.R_drewN | apply Kd.R_drew)); exact HO228.out))
                    (case aS => exact (below_size (by repeat (first | (with_reducible first | exact HB.out | apply below_alloc | apply pw_below_drewN | apply below_drew1 | refine below_set ?_ GE223.out) | exact HB.out))))
                    (case aL => have := LMc33.out; omega)
                    intro v230 w41 ho hb hg hat
                    rw [← Ny229.out] at ho
                    have n0_ := Aside0.mk (blk_grown (g := gb223) (o := .cells #[.slice A222_0 ((rd_T70 l0 x3_1).f0).length c222_0, .slice A222_1 ((rd_T70 l0 x3_1).f1).length c222_1, .slice A222_2 ((rd_T70 l0 x3_1).f2).length c222_2] 70 (0, 0)) (by (with_reducible repeat (first | refine blk_drewN ?_ _ | refine blk_drew ?_ | refine blk_alloc ?_ _)); exact BK223.out) hg (Kd.R_ne HO228.out BK223.out (by decide)))
                    have n1_ := Aside0.mk (hb)
                    have n2_ := Aside0.mk (ho)
                    clear BK223
                    clear HB
                    clear HO228
                    have BK223 := n0_
                    have HB := n1_
                    have HO231 := n2_
                    clear n0_ n1_ n2_
                    clear ho hb hg hat
                    refine hK.out _ _ ⟨(blk_cell BK223.out 0).trans rfl, (blk_cell BK223.out 1).trans rfl, (blk_cell BK223.out 2).trans rfl⟩ (fun hHeld => ?_)
                    clear hK K
                    refine norm_ (a' := ?_) ?_ ?_
                    rotate_left
                    · show Act.put _ (some 59) _ = _
                      simp only [Act.put, List.setIfInBounds_toArray, List.set_cons_zero, List.set_cons_succ, i64_w, i32_w, u32_w, u8_w, w64_m8, w64_m32, w64_bt]
                      rfl
                    refine pure_ (i := 6) (N := some 5) (v := ?_) (a' := ?_) #[true, true, true, true, true, true, true] rfl rfl (by kernel_rfl) (fun _ _ _ h => h) (Or.inl ⟨by rfl, ?_⟩) ?_ ?_
                    rotate_left
                    · intro w'
                      go_simp
                      with_reducible rfl
                    rotate_left
                    · simp only [Act.put, List.setIfInBounds_toArray, List.set_cons_zero, List.set_cons_succ, i64_w, i32_w, u32_w, u8_w, w64_m8, w64_m32, w64_bt]
                      rfl
                    refine done_ (by kernel_rfl) ?_
                    have hcz42_0 : w41.cell? ⟨gb223, 0, none⟩ = some (.slice A222_0 ((rd_T70 l0 x3_1).f0).length c222_0) := (blk_cell BK223.out 0).trans rfl
                    have hcz42_1 : w41.cell? ⟨gb223, 1, none⟩ = some (.slice A222_1 ((rd_T70 l0 x3_1).f1).length c222_1) := (blk_cell BK223.out 1).trans rfl
                    have hcz42_2 : w41.cell? ⟨gb223, 2, none⟩ = some (.slice A222_2 ((rd_T70 l0 x3_1).f2).length c222_2) := (blk_cell BK223.out 2).trans rfl
                    have hfz42_0 := blk_frozen BK223.out 0
                    have hfz42_1 := blk_frozen BK223.out 1
                    have hfz42_2 := blk_frozen BK223.out 2
                    obtain ⟨Ao43, co43, eo43⟩ := Kd.R_slice HO231.out
                    subst eo43
                    try go_wp2_with (first | ((with_reducible refine gate_callee (f := 62) rfl ?_); refine goesL_ (some 64) rfl rfl Try.func62 (by kernel_rfl) rfl #[.slice Ao43 y229.length co43, .slice A222_0 ((rd_T70 l0 x3_1).f0).length c222_0] rfl (by (try simp only [List.map_toArray, List.map_cons, List.map_nil]); first | done | rfl | (simp only [List.length_drop, List.length_take]; rfl)) ?_; (with_reducible refine (keys_Begins.calls kj6 (fun k_ => some k_ = (.slice Ao43 y229.length co43 : Value).ownBlock) _ _ y229 (fun k_ => k_ < w.heap.size) _ _ ((rd_T70 l0 x3_1).f0) t232 t233 _ ?side1 ?side2 A34.out).mono ?_); (case side1 => exact Kd.R_V (Kd.R_tight rfl (Kd.R_types (HO231.out) BK223.out (by decide)))); (case side2 => exact Kd.V_mk HC222_0.out (Kd.F_below (Kd.C_F k24_heap HR222_0.out) (by repeat (first | (with_reducible first | exact HB.out | apply below_alloc | apply pw_below_drewN | apply below_drew1 | refine below_set ?_ GE223.out) | exact HB.out)))); rintro e w44 ⟨rfl, hb⟩; refine ⟨_, rfl, ?_⟩; have n0_ := Aside0.mk (Kd.R_below (by (with_reducible repeat (first | apply Kd.R_alloc | apply Kd.R_drewN | apply Kd.R_drew)); exact HO231.out) hb); have n1_ := Aside0.mk (blk_below (g := gb223) (o := .cells #[.slice A222_0 ((rd_T70 l0 x3_1).f0).length c222_0, .slice A222_1 ((rd_T70 l0 x3_1).f1).length c222_1, .slice A222_2 ((rd_T70 l0 x3_1).f2).length c222_2] 70 (0, 0)) (by (with_reducible repeat (first | refine blk_drewN ?_ _ | refine blk_drew ?_ | refine blk_alloc ?_ _)); exact BK223.out) hb); have n2_ := Aside0.mk (below_step (by repeat (first | (with_reducible first | exact HB.out | apply below_alloc | apply pw_below_drewN | apply below_drew1 | refine below_set ?_ GE223.out) | exact HB.out)) hb); clear HO231; clear BK223; clear HB; have HO231 := n0_; have BK223 := n1_; have HB := n2_; clear n0_ n1_ n2_; (try clear hb); (try clear hb2); (try clear hk); (try clear hi); have hcz45_0 : w44.cell? ⟨gb223, 0, none⟩ = some (.slice A222_0 ((rd_T70 l0 x3_1).f0).length c222_0) := (blk_cell BK223.out 0).trans rfl; have hcz45_1 : w44.cell? ⟨gb223, 1, none⟩ = some (.slice A222_1 ((rd_T70 l0 x3_1).f1).length c222_1) := (blk_cell BK223.out 1).trans rfl; have hcz45_2 : w44.cell? ⟨gb223, 2, none⟩ = some (.slice A222_2 ((rd_T70 l0 x3_1).f2).length c222_2) := (blk_cell BK223.out 2).trans rfl; have hfz45_0 := blk_frozen BK223.out 0; have hfz45_1 := blk_frozen BK223.out 1; have hfz45_2 := blk_frozen BK223.out 2) | ((with_reducible refine gate_callee (f := 62) rfl ?_); refine goesL_ (some 71) rfl rfl Try.func62 (by kernel_rfl) rfl #[.slice A222_0 ((rd_T70 l0 x3_1).f0).length c222_0, .slice Ao43 y229.length co43] rfl (by (try simp only [List.map_toArray, List.map_cons, List.map_nil]); first | done | rfl | (simp only [List.length_drop, List.length_take]; rfl)) ?_; (with_reducible refine (keys_Begins.calls kj6 (fun k_ => k_ < w.heap.size) _ _ ((rd_T70 l0 x3_1).f0) (fun k_ => some k_ = (.slice Ao43 y229.length co43 : Value).ownBlock) _ _ y229 t234 t235 _ ?side1 ?side2 A35.out).mono ?_); (case side1 => exact Kd.V_mk HC222_0.out (Kd.F_below (Kd.C_F k24_heap HR222_0.out) (by repeat (first | (with_reducible first | exact HB.out | apply below_alloc | apply pw_below_drewN | apply below_drew1 | refine below_set ?_ GE223.out) | exact HB.out)))); (case side2 => exact Kd.R_V (Kd.R_tight rfl (Kd.R_types (HO231.out) BK223.out (by decide)))); rintro e w46 ⟨rfl, hb⟩; refine ⟨_, rfl, ?_⟩; have n0_ := Aside0.mk (Kd.R_below (by (with_reducible repeat (first | apply Kd.R_alloc | apply Kd.R_drewN | apply Kd.R_drew)); exact HO231.out) hb); have n1_ := Aside0.mk (blk_below (g := gb223) (o := .cells #[.slice A222_0 ((rd_T70 l0 x3_1).f0).length c222_0, .slice A222_1 ((rd_T70 l0 x3_1).f1).length c222_1, .slice A222_2 ((rd_T70 l0 x3_1).f2).length c222_2] 70 (0, 0)) (by (with_reducible repeat (first | refine blk_drewN ?_ _ | refine blk_drew ?_ | refine blk_alloc ?_ _)); exact BK223.out) hb); have n2_ := Aside0.mk (below_step (by repeat (first | (with_reducible first | exact HB.out | apply below_alloc | apply pw_below_drewN | apply below_drew1 | refine below_set ?_ GE223.out) | exact HB.out)) hb); clear HO231; clear BK223; clear HB; have HO231 := n0_; have BK223 := n1_; have HB := n2_; clear n0_ n1_ n2_; (try clear hb); (try clear hb2); (try clear hk); (try clear hi); have hcz47_0 : w46.cell? ⟨gb223, 0, none⟩ = some (.slice A222_0 ((rd_T70 l0 x3_1).f0).length c222_0) := (blk_cell BK223.out 0).trans rfl; have hcz47_1 : w46.cell? ⟨gb223, 1, none⟩ = some (.slice A222_1 ((rd_T70 l0 x3_1).f1).length c222_1) := (blk_cell BK223.out 1).trans rfl; have hcz47_2 : w46.cell? ⟨gb223, 2, none⟩ = some (.slice A222_2 ((rd_T70 l0 x3_1).f2).length c222_2) := (blk_cell BK223.out 2).trans rfl; have hfz47_0 := blk_frozen BK223.out 0; have hfz47_1 := blk_frozen BK223.out 1; have hfz47_2 := blk_frozen BK223.out 2) | ((with_reducible refine gate_callee (f := 59) rfl ?_); refine goesL_ (some 78) rfl rfl Try.func59 (by kernel_rfl) rfl #[.slice Ao43 y229.length co43, .slice A222_0 ((rd_T70 l0 x3_1).f0).length c222_0] rfl (by (try simp only [List.map_toArray, List.map_cons, List.map_nil]); first | done | rfl | (simp only [List.length_drop, List.length_take]; rfl)) ?_; (with_reducible refine (keys_Cmp.calls kj6 (fun k_ => some k_ = (.slice Ao43 y229.length co43 : Value).ownBlock) _ _ y229 (fun k_ => k_ < w.heap.size) _ _ ((rd_T70 l0 x3_1).f0) t236 t237 _ ?side1 ?side2 A36.out).mono ?_); (case side1 => exact Kd.R_V (Kd.R_tight rfl (Kd.R_types (HO231.out) BK223.out (by decide)))); (case side2 => exact Kd.V_mk HC222_0.out (Kd.F_below (Kd.C_F k24_heap HR222_0.out) (by repeat (first | (with_reducible first | exact HB.out | apply below_alloc | apply pw_below_drewN | apply below_drew1 | refine below_set ?_ GE223.out) | exact HB.out)))); rintro e w48 ⟨rfl, hb⟩; refine ⟨_, rfl, ?_⟩; have n0_ := Aside0.mk (Kd.R_below (by (with_reducible repeat (first | apply Kd.R_alloc | apply Kd.R_drewN | apply Kd.R_drew)); exact HO231.out) hb); have n1_ := Aside0.mk (blk_below (g := gb223) (o := .cells #[.slice A222_0 ((rd_T70 l0 x3_1).f0).length c222_0, .slice A222_1 ((rd_T70 l0 x3_1).f1).length c222_1, .slice A222_2 ((rd_T70 l0 x3_1).f2).length c222_2] 70 (0, 0)) (by (with_reducible repeat (first | refine blk_drewN ?_ _ | refine blk_drew ?_ | refine blk_alloc ?_ _)); exact BK223.out) hb); have n2_ := Aside0.mk (below_step (by repeat (first | (with_reducible first | exact HB.out | apply below_alloc | apply pw_below_drewN | apply below_drew1 | refine below_set ?_ GE223.out) | exact HB.out)) hb); clear HO231; clear BK223; clear HB; have HO231 := n0_; have BK223 := n1_; have HB := n2_; clear n0_ n1_ n2_; (try clear hb); (try clear hb2); (try clear hk); (try clear hi)) | ((with_reducible refine gate_callee (f := 60) rfl ?_); refine goesL_ (some 82) rfl rfl Try.func60 (by kernel_rfl) rfl #[.int .i64 t233] rfl (by (try simp only [List.map_toArray, List.map_cons, List.map_nil]); first | done | rfl | (simp only [List.length_drop, List.length_take]; rfl)) ?_; (with_reducible refine (cadastrelaw7_num.calls t233 t238 _ A37.out).mono ?_); rintro e w' ⟨rfl, ⟨nd, rfl⟩⟩; refine ⟨_, rfl, ?_⟩))
                    go_ret
                    exact ⟨by first | rfl | (simp [errW_none, errW_some] <;> rfl) | (simp [*, errW_none, errW_some] <;> rfl), by repeat (first | (with_reducible first | exact HB.out | apply below_alloc | apply pw_below_drewN | apply below_drew1 | refine below_set ?_ GE223.out) | exact HB.out)⟩
                  rw [if_pos c38] at H
                  have c38b0 : (t238 == 0) = true := beq_iff_eq.mpr c38
                  have c38b1 : (t238 != 0) = false := bne_eq_false_iff_eq.mpr c38
                  clear c38
                  replace H := Option.bind_eq_some_iff.mp H
                  obtain ⟨t239, A490, H⟩ := H
                  replace H : (if t239 = 0 then ((cadastrelaw7_num.f t237).bind fun t240 => (if t240 = 0 then (if t232 = true then (if t234 = true then (some false) else (if t236 = 1 then (cadastrelaw7_KeysBegin.l0 kj6 l0 (wrap64 (x3_1 + 1))) else (some false))) else (some false)) else (some false))) else (some false)) = some r := H
                  have A49 := Aside0.mk A490
                  clear A490
                  by_cases c50 : t239 = 0
                  rotate_left
                  · rw [if_neg c50] at H
                    have c50b0 : (t239 == 0) = false := beq_eq_false_iff_ne.mpr c50
                    have c50b1 : (t239 != 0) = true := bne_iff_ne.mpr c50
                    obtain rfl := Option.some.inj H
                    try go_wp2
                    have n0_ := Aside0.mk (blk_drew BK223.out)
                    have n1_ := Aside0.mk (below_drew1 HB.out)
                    clear BK223
                    clear HB
                    have BK223 := n0_
                    have HB := n1_
                    clear n0_ n1_
                    refine start_ (n := 7) (S := fun w' => w'.cell? ⟨gb223, 0, none⟩ = some (.slice A222_0 ((rd_T70 l0 x3_1).f0).length c222_0) ∧ w'.cell? ⟨gb223, 1, none⟩ = some (.slice A222_1 ((rd_T70 l0 x3_1).f1).length c222_1) ∧ w'.cell? ⟨gb223, 2, none⟩ = some (.slice A222_2 ((rd_T70 l0 x3_1).f2).length c222_2)) (ds := []) #[false, false, false, false, false, false, false] (by kernel_rfl) rfl rfl ⟨(blk_cell BK223.out 0).trans rfl, (blk_cell BK223.out 1).trans rfl, (blk_cell BK223.out 2).trans rfl⟩ (fun hHeld => ?_)
                    generalize wc.drew = w51 at BK223 HB hHeld ⊢
                    refine pure_ (i := 0) (N := some 54) (v := ?_) (a' := ?_) #[true, false, false, false, false, false, false] rfl rfl (by kernel_rfl) (fun _ _ _ h => h) (Or.inl ⟨by rfl, ?_⟩) ?_ ?_
                    rotate_left
                    · intro w'
                      go_simp
                      with_reducible rfl
                    rotate_left
                    · simp only [Act.put, List.setIfInBounds_toArray, List.set_cons_zero, List.set_cons_succ, i64_w, i32_w, u32_w, u8_w, w64_m8, w64_m32, w64_bt]
                      rfl
                    refine pure_ (i := 3) (N := some 57) (v := ?_) (a' := ?_) #[true, false, false, true, false, false, false] rfl rfl (by kernel_rfl) (fun _ _ _ h => h) (Or.inl ⟨by rfl, ?_⟩) ?_ ?_
                    rotate_left
                    · intro w'
                      go_simp
                      with_reducible rfl
                    rotate_left
                    · simp only [Act.put, List.setIfInBounds_toArray, List.set_cons_zero, List.set_cons_succ, i64_w, i32_w, u32_w, u8_w, w64_m8, w64_m32, w64_bt]
                      rfl
                    refine take_ (i := 1) (N := some 55) (v := ?_) (a' := ?_) #[true, true, false, true, false, false, false] rfl rfl (by kernel_rfl) (fun _ _ _ h => h) (Or.inl ⟨by rfl, ?_⟩) hHeld ?_ ?_
                    rotate_left
                    · rintro w' ⟨s0, s1, s2⟩
                      go_simp
                      with_reducible rfl
                    rotate_left
                    · simp only [Act.put, List.setIfInBounds_toArray, List.set_cons_zero, List.set_cons_succ, i64_w, i32_w, u32_w, u8_w, w64_m8, w64_m32, w64_bt]
                      rfl
                    refine take_ (i := 4) (N := some 58) (v := ?_) (a' := ?_) #[true, true, false, true, true, false, false] rfl rfl (by kernel_rfl) (fun _ _ _ h => h) (Or.inl ⟨by rfl, ?_⟩) hHeld ?_ ?_
                    rotate_left
                    · rintro w' ⟨s0, s1, s2⟩
                      go_simp
                      with_reducible rfl
                    rotate_left
                    · simp only [Act.put, List.setIfInBounds_toArray, List.set_cons_zero, List.set_cons_succ, i64_w, i32_w, u32_w, u8_w, w64_m8, w64_m32, w64_bt]
                      rfl
                    refine one_ (i := 2) (N := some 56) #[true, true, true, true, true, false, false] rfl rfl (by kernel_rfl) (by decide) (fun K hK => ?_)
                    refine goes_ Try.func64 (by kernel_rfl) rfl #[.slice A222_0 ((rd_T70 l0 x3_1).f0).length c222_0] (by rfl) rfl rfl (by (try simp only [List.map_toArray, List.map_cons, List.map_nil]); first | done | rfl | (simp only [List.length_drop, List.length_take]; rfl)) ?_
                    with_reducible refine (cadastreref0_CopyValues.calls kj6 _ _ ((rd_T70 l0 x3_1).f0) t226 _ ?side1 ?side2 A32.out).mono ?_
                    (case side1 => repeat (first | exact (Kd.C_below HR222_0.out HB.out) | (with_reducible refine Kd.C_alloc ?_ _) | (with_reducible refine Kd.C_drewN ?_ _) | (with_reducible refine Kd.C_drew ?_)))
                    (case side2 => exact HC222_0.out)
                    rintro e w52 ⟨v227, rfl, ho0, hb⟩
                    refine ⟨_, rfl, ?_⟩
                    have n0_ := Aside0.mk (Kd.R_lower ho0 (below_size (by repeat (first | (with_reducible first | exact HB.out | apply below_alloc | apply pw_below_drewN | apply below_drew1 | refine below_set ?_ GE223.out) | exact HB.out))))
                    have n1_ := Aside0.mk (blk_below (g := gb223) (o := .cells #[.slice A222_0 ((rd_T70 l0 x3_1).f0).length c222_0, .slice A222_1 ((rd_T70 l0 x3_1).f1).length c222_1, .slice A222_2 ((rd_T70 l0 x3_1).f2).length c222_2] 70 (0, 0)) (by (with_reducible repeat (first | refine blk_drewN ?_ _ | refine blk_drew ?_ | refine blk_alloc ?_ _)); exact BK223.out) hb)
                    have n2_ := Aside0.mk (below_step (by repeat (first | (with_reducible first | exact HB.out | apply below_alloc | apply pw_below_drewN | apply below_drew1 | refine below_set ?_ GE223.out) | exact HB.out)) hb)
                    clear BK223
                    clear HB
                    have HO228 := n0_
                    have BK223 := n1_
                    have HB := n2_
                    clear n0_ n1_ n2_
                    (try clear hb)
                    (try clear hb2)
                    (try clear hk)
                    (try clear hi)
                    (try clear ho0)
                    refine hK.out _ _ ⟨(blk_cell BK223.out 0).trans rfl, (blk_cell BK223.out 1).trans rfl, (blk_cell BK223.out 2).trans rfl⟩ (fun hHeld => ?_)
                    clear hK K
                    refine norm_ (a' := ?_) ?_ ?_
                    rotate_left
                    · show Act.put _ (some 56) _ = _
                      simp only [Act.put, List.setIfInBounds_toArray, List.set_cons_zero, List.set_cons_succ, i64_w, i32_w, u32_w, u8_w, w64_m8, w64_m32, w64_bt]
                      rfl
                    refine one_ (i := 5) (N := some 59) #[true, true, true, true, true, true, false] rfl rfl (by kernel_rfl) (by decide) (fun K hK => ?_)
                    refine Kd.R_append_rows_step k24 (w0 := w) w.heap.size (by rfl) (.tmp 56) (.tmp 58) 67 24 (.agg #[(.int .i64 0), (.int .i64 0), (.string ⟨#[]⟩)]) 32 rfl Try.underlying67 info24 rfl (by decide) (by omega) v227 t226 ((rd_T70 l0 x3_1).f1) _ _ _ (fun _ => True) (fun _ => False) rfl rfl ?aO ?aR (fun _ _ h => h) (fun _ h => h.elim) ?aF ?aB ?aS ?aL ?_
                    (case aR => repeat (first | exact (Kd.C_below HR222_1.out HB.out) | (with_reducible refine Kd.C_alloc ?_ _) | (with_reducible refine Kd.C_drewN ?_ _) | (with_reducible refine Kd.C_drew ?_)))
                    (case aB => exact (by repeat (first | (with_reducible first | exact HB.out | apply below_alloc | apply pw_below_drewN | apply below_drew1 | refine below_set ?_ GE223.out) | exact HB.out)))
                    (case aF => exact (fun _ _ => trivial))
                    (case aO => exact (by (with_reducible repeat (first | apply Kd.R_alloc | apply Kd.R_drewN | apply Kd.R_drew)); exact HO228.out))
                    (case aS => exact (below_size (by repeat (first | (with_reducible first | exact HB.out | apply below_alloc | apply pw_below_drewN | apply below_drew1 | refine below_set ?_ GE223.out) | exact HB.out))))
                    (case aL => have := LMc33.out; omega)
                    intro v230 w53 ho hb hg hat
                    rw [← Ny229.out] at ho
                    have n0_ := Aside0.mk (blk_grown (g := gb223) (o := .cells #[.slice A222_0 ((rd_T70 l0 x3_1).f0).length c222_0, .slice A222_1 ((rd_T70 l0 x3_1).f1).length c222_1, .slice A222_2 ((rd_T70 l0 x3_1).f2).length c222_2] 70 (0, 0)) (by (with_reducible repeat (first | refine blk_drewN ?_ _ | refine blk_drew ?_ | refine blk_alloc ?_ _)); exact BK223.out) hg (Kd.R_ne HO228.out BK223.out (by decide)))
                    have n1_ := Aside0.mk (hb)
                    have n2_ := Aside0.mk (ho)
                    clear BK223
                    clear HB
                    clear HO228
                    have BK223 := n0_
                    have HB := n1_
                    have HO231 := n2_
                    clear n0_ n1_ n2_
                    clear ho hb hg hat
                    refine hK.out _ _ ⟨(blk_cell BK223.out 0).trans rfl, (blk_cell BK223.out 1).trans rfl, (blk_cell BK223.out 2).trans rfl⟩ (fun hHeld => ?_)
                    clear hK K
                    refine norm_ (a' := ?_) ?_ ?_
                    rotate_left
                    · show Act.put _ (some 59) _ = _
                      simp only [Act.put, List.setIfInBounds_toArray, List.set_cons_zero, List.set_cons_succ, i64_w, i32_w, u32_w, u8_w, w64_m8, w64_m32, w64_bt]
                      rfl
                    refine pure_ (i := 6) (N := some 5) (v := ?_) (a' := ?_) #[true, true, true, true, true, true, true] rfl rfl (by kernel_rfl) (fun _ _ _ h => h) (Or.inl ⟨by rfl, ?_⟩) ?_ ?_
                    rotate_left
                    · intro w'
                      go_simp
                      with_reducible rfl
                    rotate_left
                    · simp only [Act.put, List.setIfInBounds_toArray, List.set_cons_zero, List.set_cons_succ, i64_w, i32_w, u32_w, u8_w, w64_m8, w64_m32, w64_bt]
                      rfl
                    refine done_ (by kernel_rfl) ?_
                    have hcz54_0 : w53.cell? ⟨gb223, 0, none⟩ = some (.slice A222_0 ((rd_T70 l0 x3_1).f0).length c222_0) := (blk_cell BK223.out 0).trans rfl
                    have hcz54_1 : w53.cell? ⟨gb223, 1, none⟩ = some (.slice A222_1 ((rd_T70 l0 x3_1).f1).length c222_1) := (blk_cell BK223.out 1).trans rfl
                    have hcz54_2 : w53.cell? ⟨gb223, 2, none⟩ = some (.slice A222_2 ((rd_T70 l0 x3_1).f2).length c222_2) := (blk_cell BK223.out 2).trans rfl
                    have hfz54_0 := blk_frozen BK223.out 0
                    have hfz54_1 := blk_frozen BK223.out 1
                    have hfz54_2 := blk_frozen BK223.out 2
                    obtain ⟨Ao55, co55, eo55⟩ := Kd.R_slice HO231.out
                    subst eo55
                    try go_wp2_with (first | ((with_reducible refine gate_callee (f := 62) rfl ?_); refine goesL_ (some 64) rfl rfl Try.func62 (by kernel_rfl) rfl #[.slice Ao55 y229.length co55, .slice A222_0 ((rd_T70 l0 x3_1).f0).length c222_0] rfl (by (try simp only [List.map_toArray, List.map_cons, List.map_nil]); first | done | rfl | (simp only [List.length_drop, List.length_take]; rfl)) ?_; (with_reducible refine (keys_Begins.calls kj6 (fun k_ => some k_ = (.slice Ao55 y229.length co55 : Value).ownBlock) _ _ y229 (fun k_ => k_ < w.heap.size) _ _ ((rd_T70 l0 x3_1).f0) t232 t233 _ ?side1 ?side2 A34.out).mono ?_); (case side1 => exact Kd.R_V (Kd.R_tight rfl (Kd.R_types (HO231.out) BK223.out (by decide)))); (case side2 => exact Kd.V_mk HC222_0.out (Kd.F_below (Kd.C_F k24_heap HR222_0.out) (by repeat (first | (with_reducible first | exact HB.out | apply below_alloc | apply pw_below_drewN | apply below_drew1 | refine below_set ?_ GE223.out) | exact HB.out)))); rintro e w56 ⟨rfl, hb⟩; refine ⟨_, rfl, ?_⟩; have n0_ := Aside0.mk (Kd.R_below (by (with_reducible repeat (first | apply Kd.R_alloc | apply Kd.R_drewN | apply Kd.R_drew)); exact HO231.out) hb); have n1_ := Aside0.mk (blk_below (g := gb223) (o := .cells #[.slice A222_0 ((rd_T70 l0 x3_1).f0).length c222_0, .slice A222_1 ((rd_T70 l0 x3_1).f1).length c222_1, .slice A222_2 ((rd_T70 l0 x3_1).f2).length c222_2] 70 (0, 0)) (by (with_reducible repeat (first | refine blk_drewN ?_ _ | refine blk_drew ?_ | refine blk_alloc ?_ _)); exact BK223.out) hb); have n2_ := Aside0.mk (below_step (by repeat (first | (with_reducible first | exact HB.out | apply below_alloc | apply pw_below_drewN | apply below_drew1 | refine below_set ?_ GE223.out) | exact HB.out)) hb); clear HO231; clear BK223; clear HB; have HO231 := n0_; have BK223 := n1_; have HB := n2_; clear n0_ n1_ n2_; (try clear hb); (try clear hb2); (try clear hk); (try clear hi); have hcz57_0 : w56.cell? ⟨gb223, 0, none⟩ = some (.slice A222_0 ((rd_T70 l0 x3_1).f0).length c222_0) := (blk_cell BK223.out 0).trans rfl; have hcz57_1 : w56.cell? ⟨gb223, 1, none⟩ = some (.slice A222_1 ((rd_T70 l0 x3_1).f1).length c222_1) := (blk_cell BK223.out 1).trans rfl; have hcz57_2 : w56.cell? ⟨gb223, 2, none⟩ = some (.slice A222_2 ((rd_T70 l0 x3_1).f2).length c222_2) := (blk_cell BK223.out 2).trans rfl; have hfz57_0 := blk_frozen BK223.out 0; have hfz57_1 := blk_frozen BK223.out 1; have hfz57_2 := blk_frozen BK223.out 2) | ((with_reducible refine gate_callee (f := 62) rfl ?_); refine goesL_ (some 71) rfl rfl Try.func62 (by kernel_rfl) rfl #[.slice A222_0 ((rd_T70 l0 x3_1).f0).length c222_0, .slice Ao55 y229.length co55] rfl (by (try simp only [List.map_toArray, List.map_cons, List.map_nil]); first | done | rfl | (simp only [List.length_drop, List.length_take]; rfl)) ?_; (with_reducible refine (keys_Begins.calls kj6 (fun k_ => k_ < w.heap.size) _ _ ((rd_T70 l0 x3_1).f0) (fun k_ => some k_ = (.slice Ao55 y229.length co55 : Value).ownBlock) _ _ y229 t234 t235 _ ?side1 ?side2 A35.out).mono ?_); (case side1 => exact Kd.V_mk HC222_0.out (Kd.F_below (Kd.C_F k24_heap HR222_0.out) (by repeat (first | (with_reducible first | exact HB.out | apply below_alloc | apply pw_below_drewN | apply below_drew1 | refine below_set ?_ GE223.out) | exact HB.out)))); (case side2 => exact Kd.R_V (Kd.R_tight rfl (Kd.R_types (HO231.out) BK223.out (by decide)))); rintro e w58 ⟨rfl, hb⟩; refine ⟨_, rfl, ?_⟩; have n0_ := Aside0.mk (Kd.R_below (by (with_reducible repeat (first | apply Kd.R_alloc | apply Kd.R_drewN | apply Kd.R_drew)); exact HO231.out) hb); have n1_ := Aside0.mk (blk_below (g := gb223) (o := .cells #[.slice A222_0 ((rd_T70 l0 x3_1).f0).length c222_0, .slice A222_1 ((rd_T70 l0 x3_1).f1).length c222_1, .slice A222_2 ((rd_T70 l0 x3_1).f2).length c222_2] 70 (0, 0)) (by (with_reducible repeat (first | refine blk_drewN ?_ _ | refine blk_drew ?_ | refine blk_alloc ?_ _)); exact BK223.out) hb); have n2_ := Aside0.mk (below_step (by repeat (first | (with_reducible first | exact HB.out | apply below_alloc | apply pw_below_drewN | apply below_drew1 | refine below_set ?_ GE223.out) | exact HB.out)) hb); clear HO231; clear BK223; clear HB; have HO231 := n0_; have BK223 := n1_; have HB := n2_; clear n0_ n1_ n2_; (try clear hb); (try clear hb2); (try clear hk); (try clear hi); have hcz59_0 : w58.cell? ⟨gb223, 0, none⟩ = some (.slice A222_0 ((rd_T70 l0 x3_1).f0).length c222_0) := (blk_cell BK223.out 0).trans rfl; have hcz59_1 : w58.cell? ⟨gb223, 1, none⟩ = some (.slice A222_1 ((rd_T70 l0 x3_1).f1).length c222_1) := (blk_cell BK223.out 1).trans rfl; have hcz59_2 : w58.cell? ⟨gb223, 2, none⟩ = some (.slice A222_2 ((rd_T70 l0 x3_1).f2).length c222_2) := (blk_cell BK223.out 2).trans rfl; have hfz59_0 := blk_frozen BK223.out 0; have hfz59_1 := blk_frozen BK223.out 1; have hfz59_2 := blk_frozen BK223.out 2) | ((with_reducible refine gate_callee (f := 59) rfl ?_); refine goesL_ (some 78) rfl rfl Try.func59 (by kernel_rfl) rfl #[.slice Ao55 y229.length co55, .slice A222_0 ((rd_T70 l0 x3_1).f0).length c222_0] rfl (by (try simp only [List.map_toArray, List.map_cons, List.map_nil]); first | done | rfl | (simp only [List.length_drop, List.length_take]; rfl)) ?_; (with_reducible refine (keys_Cmp.calls kj6 (fun k_ => some k_ = (.slice Ao55 y229.length co55 : Value).ownBlock) _ _ y229 (fun k_ => k_ < w.heap.size) _ _ ((rd_T70 l0 x3_1).f0) t236 t237 _ ?side1 ?side2 A36.out).mono ?_); (case side1 => exact Kd.R_V (Kd.R_tight rfl (Kd.R_types (HO231.out) BK223.out (by decide)))); (case side2 => exact Kd.V_mk HC222_0.out (Kd.F_below (Kd.C_F k24_heap HR222_0.out) (by repeat (first | (with_reducible first | exact HB.out | apply below_alloc | apply pw_below_drewN | apply below_drew1 | refine below_set ?_ GE223.out) | exact HB.out)))); rintro e w60 ⟨rfl, hb⟩; refine ⟨_, rfl, ?_⟩; have n0_ := Aside0.mk (Kd.R_below (by (with_reducible repeat (first | apply Kd.R_alloc | apply Kd.R_drewN | apply Kd.R_drew)); exact HO231.out) hb); have n1_ := Aside0.mk (blk_below (g := gb223) (o := .cells #[.slice A222_0 ((rd_T70 l0 x3_1).f0).length c222_0, .slice A222_1 ((rd_T70 l0 x3_1).f1).length c222_1, .slice A222_2 ((rd_T70 l0 x3_1).f2).length c222_2] 70 (0, 0)) (by (with_reducible repeat (first | refine blk_drewN ?_ _ | refine blk_drew ?_ | refine blk_alloc ?_ _)); exact BK223.out) hb); have n2_ := Aside0.mk (below_step (by repeat (first | (with_reducible first | exact HB.out | apply below_alloc | apply pw_below_drewN | apply below_drew1 | refine below_set ?_ GE223.out) | exact HB.out)) hb); clear HO231; clear BK223; clear HB; have HO231 := n0_; have BK223 := n1_; have HB := n2_; clear n0_ n1_ n2_; (try clear hb); (try clear hb2); (try clear hk); (try clear hi)) | ((with_reducible refine gate_callee (f := 60) rfl ?_); refine goesL_ (some 82) rfl rfl Try.func60 (by kernel_rfl) rfl #[.int .i64 t233] rfl (by (try simp only [List.map_toArray, List.map_cons, List.map_nil]); first | done | rfl | (simp only [List.length_drop, List.length_take]; rfl)) ?_; (with_reducible refine (cadastrelaw7_num.calls t233 t238 _ A37.out).mono ?_); rintro e w' ⟨rfl, ⟨nd, rfl⟩⟩; refine ⟨_, rfl, ?_⟩) | (go_at_call 60; (with_reducible refine (cadastrelaw7_num.calls t235 t239 _ A49.out).mono ?_); rintro e w' ⟨rfl, ⟨nd, rfl⟩⟩; (try clear A49)))
                    go_ret
                    exact ⟨by first | rfl | (simp [errW_none, errW_some] <;> rfl) | (simp [*, errW_none, errW_some] <;> rfl), by repeat (first | (with_reducible first | exact HB.out | apply below_alloc | apply pw_below_drewN | apply below_drew1 | refine below_set ?_ GE223.out) | exact HB.out)⟩
                  rw [if_pos c50] at H
                  have c50b0 : (t239 == 0) = true := beq_iff_eq.mpr c50
                  have c50b1 : (t239 != 0) = false := bne_eq_false_iff_eq.mpr c50
                  clear c50
                  replace H := Option.bind_eq_some_iff.mp H
                  obtain ⟨t240, A610, H⟩ := H
                  replace H : (if t240 = 0 then (if t232 = true then (if t234 = true then (some false) else (if t236 = 1 then (cadastrelaw7_KeysBegin.l0 kj6 l0 (wrap64 (x3_1 + 1))) else (some false))) else (some false)) else (some false)) = some r := H
                  have A61 := Aside0.mk A610
                  clear A610
                  by_cases c62 : t240 = 0
                  rotate_left
                  · rw [if_neg c62] at H
                    have c62b0 : (t240 == 0) = false := beq_eq_false_iff_ne.mpr c62
                    have c62b1 : (t240 != 0) = true := bne_iff_ne.mpr c62
                    obtain rfl := Option.some.inj H
                    try go_wp2
                    have n0_ := Aside0.mk (blk_drew BK223.out)
                    have n1_ := Aside0.mk (below_drew1 HB.out)
                    clear BK223
                    clear HB
                    have BK223 := n0_
                    have HB := n1_
                    clear n0_ n1_
                    refine start_ (n := 7) (S := fun w' => w'.cell? ⟨gb223, 0, none⟩ = some (.slice A222_0 ((rd_T70 l0 x3_1).f0).length c222_0) ∧ w'.cell? ⟨gb223, 1, none⟩ = some (.slice A222_1 ((rd_T70 l0 x3_1).f1).length c222_1) ∧ w'.cell? ⟨gb223, 2, none⟩ = some (.slice A222_2 ((rd_T70 l0 x3_1).f2).length c222_2)) (ds := []) #[false, false, false, false, false, false, false] (by kernel_rfl) rfl rfl ⟨(blk_cell BK223.out 0).trans rfl, (blk_cell BK223.out 1).trans rfl, (blk_cell BK223.out 2).trans rfl⟩ (fun hHeld => ?_)
                    generalize wc.drew = w63 at BK223 HB hHeld ⊢
                    refine pure_ (i := 0) (N := some 54) (v := ?_) (a' := ?_) #[true, false, false, false, false, false, false] rfl rfl (by kernel_rfl) (fun _ _ _ h => h) (Or.inl ⟨by rfl, ?_⟩) ?_ ?_
                    rotate_left
                    · intro w'
                      go_simp
                      with_reducible rfl
                    rotate_left
                    · simp only [Act.put, List.setIfInBounds_toArray, List.set_cons_zero, List.set_cons_succ, i64_w, i32_w, u32_w, u8_w, w64_m8, w64_m32, w64_bt]
                      rfl
                    refine pure_ (i := 3) (N := some 57) (v := ?_) (a' := ?_) #[true, false, false, true, false, false, false] rfl rfl (by kernel_rfl) (fun _ _ _ h => h) (Or.inl ⟨by rfl, ?_⟩) ?_ ?_
                    rotate_left
                    · intro w'
                      go_simp
                      with_reducible rfl
                    rotate_left
                    · simp only [Act.put, List.setIfInBounds_toArray, List.set_cons_zero, List.set_cons_succ, i64_w, i32_w, u32_w, u8_w, w64_m8, w64_m32, w64_bt]
                      rfl
                    refine take_ (i := 1) (N := some 55) (v := ?_) (a' := ?_) #[true, true, false, true, false, false, false] rfl rfl (by kernel_rfl) (fun _ _ _ h => h) (Or.inl ⟨by rfl, ?_⟩) hHeld ?_ ?_
                    rotate_left
                    · rintro w' ⟨s0, s1, s2⟩
                      go_simp
                      with_reducible rfl
                    rotate_left
                    · simp only [Act.put, List.setIfInBounds_toArray, List.set_cons_zero, List.set_cons_succ, i64_w, i32_w, u32_w, u8_w, w64_m8, w64_m32, w64_bt]
                      rfl
                    refine take_ (i := 4) (N := some 58) (v := ?_) (a' := ?_) #[true, true, false, true, true, false, false] rfl rfl (by kernel_rfl) (fun _ _ _ h => h) (Or.inl ⟨by rfl, ?_⟩) hHeld ?_ ?_
                    rotate_left
                    · rintro w' ⟨s0, s1, s2⟩
                      go_simp
                      with_reducible rfl
                    rotate_left
                    · simp only [Act.put, List.setIfInBounds_toArray, List.set_cons_zero, List.set_cons_succ, i64_w, i32_w, u32_w, u8_w, w64_m8, w64_m32, w64_bt]
                      rfl
                    refine one_ (i := 2) (N := some 56) #[true, true, true, true, true, false, false] rfl rfl (by kernel_rfl) (by decide) (fun K hK => ?_)
                    refine goes_ Try.func64 (by kernel_rfl) rfl #[.slice A222_0 ((rd_T70 l0 x3_1).f0).length c222_0] (by rfl) rfl rfl (by (try simp only [List.map_toArray, List.map_cons, List.map_nil]); first | done | rfl | (simp only [List.length_drop, List.length_take]; rfl)) ?_
                    with_reducible refine (cadastreref0_CopyValues.calls kj6 _ _ ((rd_T70 l0 x3_1).f0) t226 _ ?side1 ?side2 A32.out).mono ?_
                    (case side1 => repeat (first | exact (Kd.C_below HR222_0.out HB.out) | (with_reducible refine Kd.C_alloc ?_ _) | (with_reducible refine Kd.C_drewN ?_ _) | (with_reducible refine Kd.C_drew ?_)))
                    (case side2 => exact HC222_0.out)
                    rintro e w64 ⟨v227, rfl, ho0, hb⟩
                    refine ⟨_, rfl, ?_⟩
                    have n0_ := Aside0.mk (Kd.R_lower ho0 (below_size (by repeat (first | (with_reducible first | exact HB.out | apply below_alloc | apply pw_below_drewN | apply below_drew1 | refine below_set ?_ GE223.out) | exact HB.out))))
                    have n1_ := Aside0.mk (blk_below (g := gb223) (o := .cells #[.slice A222_0 ((rd_T70 l0 x3_1).f0).length c222_0, .slice A222_1 ((rd_T70 l0 x3_1).f1).length c222_1, .slice A222_2 ((rd_T70 l0 x3_1).f2).length c222_2] 70 (0, 0)) (by (with_reducible repeat (first | refine blk_drewN ?_ _ | refine blk_drew ?_ | refine blk_alloc ?_ _)); exact BK223.out) hb)
                    have n2_ := Aside0.mk (below_step (by repeat (first | (with_reducible first | exact HB.out | apply below_alloc | apply pw_below_drewN | apply below_drew1 | refine below_set ?_ GE223.out) | exact HB.out)) hb)
                    clear BK223
                    clear HB
                    have HO228 := n0_
                    have BK223 := n1_
                    have HB := n2_
                    clear n0_ n1_ n2_
                    (try clear hb)
                    (try clear hb2)
                    (try clear hk)
                    (try clear hi)
                    (try clear ho0)
                    refine hK.out _ _ ⟨(blk_cell BK223.out 0).trans rfl, (blk_cell BK223.out 1).trans rfl, (blk_cell BK223.out 2).trans rfl⟩ (fun hHeld => ?_)
                    clear hK K
                    refine norm_ (a' := ?_) ?_ ?_
                    rotate_left
                    · show Act.put _ (some 56) _ = _
                      simp only [Act.put, List.setIfInBounds_toArray, List.set_cons_zero, List.set_cons_succ, i64_w, i32_w, u32_w, u8_w, w64_m8, w64_m32, w64_bt]
                      rfl
                    refine one_ (i := 5) (N := some 59) #[true, true, true, true, true, true, false] rfl rfl (by kernel_rfl) (by decide) (fun K hK => ?_)
                    refine Kd.R_append_rows_step k24 (w0 := w) w.heap.size (by rfl) (.tmp 56) (.tmp 58) 67 24 (.agg #[(.int .i64 0), (.int .i64 0), (.string ⟨#[]⟩)]) 32 rfl Try.underlying67 info24 rfl (by decide) (by omega) v227 t226 ((rd_T70 l0 x3_1).f1) _ _ _ (fun _ => True) (fun _ => False) rfl rfl ?aO ?aR (fun _ _ h => h) (fun _ h => h.elim) ?aF ?aB ?aS ?aL ?_
                    (case aR => repeat (first | exact (Kd.C_below HR222_1.out HB.out) | (with_reducible refine Kd.C_alloc ?_ _) | (with_reducible refine Kd.C_drewN ?_ _) | (with_reducible refine Kd.C_drew ?_)))
                    (case aB => exact (by repeat (first | (with_reducible first | exact HB.out | apply below_alloc | apply pw_below_drewN | apply below_drew1 | refine below_set ?_ GE223.out) | exact HB.out)))
                    (case aF => exact (fun _ _ => trivial))
                    (case aO => exact (by (with_reducible repeat (first | apply Kd.R_alloc | apply Kd.R_drewN | apply Kd.R_drew)); exact HO228.out))
                    (case aS => exact (below_size (by repeat (first | (with_reducible first | exact HB.out | apply below_alloc | apply pw_below_drewN | apply below_drew1 | refine below_set ?_ GE223.out) | exact HB.out))))
                    (case aL => have := LMc33.out; omega)
                    intro v230 w65 ho hb hg hat
                    rw [← Ny229.out] at ho
                    have n0_ := Aside0.mk (blk_grown (g := gb223) (o := .cells #[.slice A222_0 ((rd_T70 l0 x3_1).f0).length c222_0, .slice A222_1 ((rd_T70 l0 x3_1).f1).length c222_1, .slice A222_2 ((rd_T70 l0 x3_1).f2).length c222_2] 70 (0, 0)) (by (with_reducible repeat (first | refine blk_drewN ?_ _ | refine blk_drew ?_ | refine blk_alloc ?_ _)); exact BK223.out) hg (Kd.R_ne HO228.out BK223.out (by decide)))
                    have n1_ := Aside0.mk (hb)
                    have n2_ := Aside0.mk (ho)
                    clear BK223
                    clear HB
                    clear HO228
                    have BK223 := n0_
                    have HB := n1_
                    have HO231 := n2_
                    clear n0_ n1_ n2_
                    clear ho hb hg hat
                    refine hK.out _ _ ⟨(blk_cell BK223.out 0).trans rfl, (blk_cell BK223.out 1).trans rfl, (blk_cell BK223.out 2).trans rfl⟩ (fun hHeld => ?_)
                    clear hK K
                    refine norm_ (a' := ?_) ?_ ?_
                    rotate_left
                    · show Act.put _ (some 59) _ = _
                      simp only [Act.put, List.setIfInBounds_toArray, List.set_cons_zero, List.set_cons_succ, i64_w, i32_w, u32_w, u8_w, w64_m8, w64_m32, w64_bt]
                      rfl
                    refine pure_ (i := 6) (N := some 5) (v := ?_) (a' := ?_) #[true, true, true, true, true, true, true] rfl rfl (by kernel_rfl) (fun _ _ _ h => h) (Or.inl ⟨by rfl, ?_⟩) ?_ ?_
                    rotate_left
                    · intro w'
                      go_simp
                      with_reducible rfl
                    rotate_left
                    · simp only [Act.put, List.setIfInBounds_toArray, List.set_cons_zero, List.set_cons_succ, i64_w, i32_w, u32_w, u8_w, w64_m8, w64_m32, w64_bt]
                      rfl
                    refine done_ (by kernel_rfl) ?_
                    have hcz66_0 : w65.cell? ⟨gb223, 0, none⟩ = some (.slice A222_0 ((rd_T70 l0 x3_1).f0).length c222_0) := (blk_cell BK223.out 0).trans rfl
                    have hcz66_1 : w65.cell? ⟨gb223, 1, none⟩ = some (.slice A222_1 ((rd_T70 l0 x3_1).f1).length c222_1) := (blk_cell BK223.out 1).trans rfl
                    have hcz66_2 : w65.cell? ⟨gb223, 2, none⟩ = some (.slice A222_2 ((rd_T70 l0 x3_1).f2).length c222_2) := (blk_cell BK223.out 2).trans rfl
                    have hfz66_0 := blk_frozen BK223.out 0
                    have hfz66_1 := blk_frozen BK223.out 1
                    have hfz66_2 := blk_frozen BK223.out 2
                    obtain ⟨Ao67, co67, eo67⟩ := Kd.R_slice HO231.out
                    subst eo67
                    try go_wp2_with (first | ((with_reducible refine gate_callee (f := 62) rfl ?_); refine goesL_ (some 64) rfl rfl Try.func62 (by kernel_rfl) rfl #[.slice Ao67 y229.length co67, .slice A222_0 ((rd_T70 l0 x3_1).f0).length c222_0] rfl (by (try simp only [List.map_toArray, List.map_cons, List.map_nil]); first | done | rfl | (simp only [List.length_drop, List.length_take]; rfl)) ?_; (with_reducible refine (keys_Begins.calls kj6 (fun k_ => some k_ = (.slice Ao67 y229.length co67 : Value).ownBlock) _ _ y229 (fun k_ => k_ < w.heap.size) _ _ ((rd_T70 l0 x3_1).f0) t232 t233 _ ?side1 ?side2 A34.out).mono ?_); (case side1 => exact Kd.R_V (Kd.R_tight rfl (Kd.R_types (HO231.out) BK223.out (by decide)))); (case side2 => exact Kd.V_mk HC222_0.out (Kd.F_below (Kd.C_F k24_heap HR222_0.out) (by repeat (first | (with_reducible first | exact HB.out | apply below_alloc | apply pw_below_drewN | apply below_drew1 | refine below_set ?_ GE223.out) | exact HB.out)))); rintro e w68 ⟨rfl, hb⟩; refine ⟨_, rfl, ?_⟩; have n0_ := Aside0.mk (Kd.R_below (by (with_reducible repeat (first | apply Kd.R_alloc | apply Kd.R_drewN | apply Kd.R_drew)); exact HO231.out) hb); have n1_ := Aside0.mk (blk_below (g := gb223) (o := .cells #[.slice A222_0 ((rd_T70 l0 x3_1).f0).length c222_0, .slice A222_1 ((rd_T70 l0 x3_1).f1).length c222_1, .slice A222_2 ((rd_T70 l0 x3_1).f2).length c222_2] 70 (0, 0)) (by (with_reducible repeat (first | refine blk_drewN ?_ _ | refine blk_drew ?_ | refine blk_alloc ?_ _)); exact BK223.out) hb); have n2_ := Aside0.mk (below_step (by repeat (first | (with_reducible first | exact HB.out | apply below_alloc | apply pw_below_drewN | apply below_drew1 | refine below_set ?_ GE223.out) | exact HB.out)) hb); clear HO231; clear BK223; clear HB; have HO231 := n0_; have BK223 := n1_; have HB := n2_; clear n0_ n1_ n2_; (try clear hb); (try clear hb2); (try clear hk); (try clear hi); have hcz69_0 : w68.cell? ⟨gb223, 0, none⟩ = some (.slice A222_0 ((rd_T70 l0 x3_1).f0).length c222_0) := (blk_cell BK223.out 0).trans rfl; have hcz69_1 : w68.cell? ⟨gb223, 1, none⟩ = some (.slice A222_1 ((rd_T70 l0 x3_1).f1).length c222_1) := (blk_cell BK223.out 1).trans rfl; have hcz69_2 : w68.cell? ⟨gb223, 2, none⟩ = some (.slice A222_2 ((rd_T70 l0 x3_1).f2).length c222_2) := (blk_cell BK223.out 2).trans rfl; have hfz69_0 := blk_frozen BK223.out 0; have hfz69_1 := blk_frozen BK223.out 1; have hfz69_2 := blk_frozen BK223.out 2) | ((with_reducible refine gate_callee (f := 62) rfl ?_); refine goesL_ (some 71) rfl rfl Try.func62 (by kernel_rfl) rfl #[.slice A222_0 ((rd_T70 l0 x3_1).f0).length c222_0, .slice Ao67 y229.length co67] rfl (by (try simp only [List.map_toArray, List.map_cons, List.map_nil]); first | done | rfl | (simp only [List.length_drop, List.length_take]; rfl)) ?_; (with_reducible refine (keys_Begins.calls kj6 (fun k_ => k_ < w.heap.size) _ _ ((rd_T70 l0 x3_1).f0) (fun k_ => some k_ = (.slice Ao67 y229.length co67 : Value).ownBlock) _ _ y229 t234 t235 _ ?side1 ?side2 A35.out).mono ?_); (case side1 => exact Kd.V_mk HC222_0.out (Kd.F_below (Kd.C_F k24_heap HR222_0.out) (by repeat (first | (with_reducible first | exact HB.out | apply below_alloc | apply pw_below_drewN | apply below_drew1 | refine below_set ?_ GE223.out) | exact HB.out)))); (case side2 => exact Kd.R_V (Kd.R_tight rfl (Kd.R_types (HO231.out) BK223.out (by decide)))); rintro e w70 ⟨rfl, hb⟩; refine ⟨_, rfl, ?_⟩; have n0_ := Aside0.mk (Kd.R_below (by (with_reducible repeat (first | apply Kd.R_alloc | apply Kd.R_drewN | apply Kd.R_drew)); exact HO231.out) hb); have n1_ := Aside0.mk (blk_below (g := gb223) (o := .cells #[.slice A222_0 ((rd_T70 l0 x3_1).f0).length c222_0, .slice A222_1 ((rd_T70 l0 x3_1).f1).length c222_1, .slice A222_2 ((rd_T70 l0 x3_1).f2).length c222_2] 70 (0, 0)) (by (with_reducible repeat (first | refine blk_drewN ?_ _ | refine blk_drew ?_ | refine blk_alloc ?_ _)); exact BK223.out) hb); have n2_ := Aside0.mk (below_step (by repeat (first | (with_reducible first | exact HB.out | apply below_alloc | apply pw_below_drewN | apply below_drew1 | refine below_set ?_ GE223.out) | exact HB.out)) hb); clear HO231; clear BK223; clear HB; have HO231 := n0_; have BK223 := n1_; have HB := n2_; clear n0_ n1_ n2_; (try clear hb); (try clear hb2); (try clear hk); (try clear hi); have hcz71_0 : w70.cell? ⟨gb223, 0, none⟩ = some (.slice A222_0 ((rd_T70 l0 x3_1).f0).length c222_0) := (blk_cell BK223.out 0).trans rfl; have hcz71_1 : w70.cell? ⟨gb223, 1, none⟩ = some (.slice A222_1 ((rd_T70 l0 x3_1).f1).length c222_1) := (blk_cell BK223.out 1).trans rfl; have hcz71_2 : w70.cell? ⟨gb223, 2, none⟩ = some (.slice A222_2 ((rd_T70 l0 x3_1).f2).length c222_2) := (blk_cell BK223.out 2).trans rfl; have hfz71_0 := blk_frozen BK223.out 0; have hfz71_1 := blk_frozen BK223.out 1; have hfz71_2 := blk_frozen BK223.out 2) | ((with_reducible refine gate_callee (f := 59) rfl ?_); refine goesL_ (some 78) rfl rfl Try.func59 (by kernel_rfl) rfl #[.slice Ao67 y229.length co67, .slice A222_0 ((rd_T70 l0 x3_1).f0).length c222_0] rfl (by (try simp only [List.map_toArray, List.map_cons, List.map_nil]); first | done | rfl | (simp only [List.length_drop, List.length_take]; rfl)) ?_; (with_reducible refine (keys_Cmp.calls kj6 (fun k_ => some k_ = (.slice Ao67 y229.length co67 : Value).ownBlock) _ _ y229 (fun k_ => k_ < w.heap.size) _ _ ((rd_T70 l0 x3_1).f0) t236 t237 _ ?side1 ?side2 A36.out).mono ?_); (case side1 => exact Kd.R_V (Kd.R_tight rfl (Kd.R_types (HO231.out) BK223.out (by decide)))); (case side2 => exact Kd.V_mk HC222_0.out (Kd.F_below (Kd.C_F k24_heap HR222_0.out) (by repeat (first | (with_reducible first | exact HB.out | apply below_alloc | apply pw_below_drewN | apply below_drew1 | refine below_set ?_ GE223.out) | exact HB.out)))); rintro e w72 ⟨rfl, hb⟩; refine ⟨_, rfl, ?_⟩; have n0_ := Aside0.mk (Kd.R_below (by (with_reducible repeat (first | apply Kd.R_alloc | apply Kd.R_drewN | apply Kd.R_drew)); exact HO231.out) hb); have n1_ := Aside0.mk (blk_below (g := gb223) (o := .cells #[.slice A222_0 ((rd_T70 l0 x3_1).f0).length c222_0, .slice A222_1 ((rd_T70 l0 x3_1).f1).length c222_1, .slice A222_2 ((rd_T70 l0 x3_1).f2).length c222_2] 70 (0, 0)) (by (with_reducible repeat (first | refine blk_drewN ?_ _ | refine blk_drew ?_ | refine blk_alloc ?_ _)); exact BK223.out) hb); have n2_ := Aside0.mk (below_step (by repeat (first | (with_reducible first | exact HB.out | apply below_alloc | apply pw_below_drewN | apply below_drew1 | refine below_set ?_ GE223.out) | exact HB.out)) hb); clear HO231; clear BK223; clear HB; have HO231 := n0_; have BK223 := n1_; have HB := n2_; clear n0_ n1_ n2_; (try clear hb); (try clear hb2); (try clear hk); (try clear hi)) | ((with_reducible refine gate_callee (f := 60) rfl ?_); refine goesL_ (some 82) rfl rfl Try.func60 (by kernel_rfl) rfl #[.int .i64 t233] rfl (by (try simp only [List.map_toArray, List.map_cons, List.map_nil]); first | done | rfl | (simp only [List.length_drop, List.length_take]; rfl)) ?_; (with_reducible refine (cadastrelaw7_num.calls t233 t238 _ A37.out).mono ?_); rintro e w' ⟨rfl, ⟨nd, rfl⟩⟩; refine ⟨_, rfl, ?_⟩) | (go_at_call 60; (with_reducible refine (cadastrelaw7_num.calls t235 t239 _ A49.out).mono ?_); rintro e w' ⟨rfl, ⟨nd, rfl⟩⟩; (try clear A49)) | (go_at_call 60; (with_reducible refine (cadastrelaw7_num.calls t237 t240 _ A61.out).mono ?_); rintro e w' ⟨rfl, ⟨nd, rfl⟩⟩; (try clear A61)))
                    go_ret
                    exact ⟨by first | rfl | (simp [errW_none, errW_some] <;> rfl) | (simp [*, errW_none, errW_some] <;> rfl), by repeat (first | (with_reducible first | exact HB.out | apply below_alloc | apply pw_below_drewN | apply below_drew1 | refine below_set ?_ GE223.out) | exact HB.out)⟩
                  rw [if_pos c62] at H
                  have c62b0 : (t240 == 0) = true := beq_iff_eq.mpr c62
                  have c62b1 : (t240 != 0) = false := bne_eq_false_iff_eq.mpr c62
                  clear c62
                  by_cases c73 : t232 = true
                  · subst c73
                    have H1 : (if t234 = true then (some false) else (if t236 = 1 then (cadastrelaw7_KeysBegin.l0 kj6 l0 (wrap64 (x3_1 + 1))) else (some false))) = some r := by rw [if_pos rfl] at H; exact H
                    clear H
                    have H := H1
                    clear H1
                    by_cases c74 : t234 = true
                    · subst c74
                      have H1 : (some false) = some r := by rw [if_pos rfl] at H; exact H
                      clear H
                      have H := H1
                      clear H1
                      obtain rfl := Option.some.inj H
                      try go_wp2
                      have n0_ := Aside0.mk (blk_drew BK223.out)
                      have n1_ := Aside0.mk (below_drew1 HB.out)
                      clear BK223
                      clear HB
                      have BK223 := n0_
                      have HB := n1_
                      clear n0_ n1_
                      refine start_ (n := 7) (S := fun w' => w'.cell? ⟨gb223, 0, none⟩ = some (.slice A222_0 ((rd_T70 l0 x3_1).f0).length c222_0) ∧ w'.cell? ⟨gb223, 1, none⟩ = some (.slice A222_1 ((rd_T70 l0 x3_1).f1).length c222_1) ∧ w'.cell? ⟨gb223, 2, none⟩ = some (.slice A222_2 ((rd_T70 l0 x3_1).f2).length c222_2)) (ds := []) #[false, false, false, false, false, false, false] (by kernel_rfl) rfl rfl ⟨(blk_cell BK223.out 0).trans rfl, (blk_cell BK223.out 1).trans rfl, (blk_cell BK223.out 2).trans rfl⟩ (fun hHeld => ?_)
                      generalize wc.drew = w75 at BK223 HB hHeld ⊢
                      refine pure_ (i := 0) (N := some 54) (v := ?_) (a' := ?_) #[true, false, false, false, false, false, false] rfl rfl (by kernel_rfl) (fun _ _ _ h => h) (Or.inl ⟨by rfl, ?_⟩) ?_ ?_
                      rotate_left
                      · intro w'
                        go_simp
                        with_reducible rfl
                      rotate_left
                      · simp only [Act.put, List.setIfInBounds_toArray, List.set_cons_zero, List.set_cons_succ, i64_w, i32_w, u32_w, u8_w, w64_m8, w64_m32, w64_bt]
                        rfl
                      refine pure_ (i := 3) (N := some 57) (v := ?_) (a' := ?_) #[true, false, false, true, false, false, false] rfl rfl (by kernel_rfl) (fun _ _ _ h => h) (Or.inl ⟨by rfl, ?_⟩) ?_ ?_
                      rotate_left
                      · intro w'
                        go_simp
                        with_reducible rfl
                      rotate_left
                      · simp only [Act.put, List.setIfInBounds_toArray, List.set_cons_zero, List.set_cons_succ, i64_w, i32_w, u32_w, u8_w, w64_m8, w64_m32, w64_bt]
                        rfl
                      refine take_ (i := 1) (N := some 55) (v := ?_) (a' := ?_) #[true, true, false, true, false, false, false] rfl rfl (by kernel_rfl) (fun _ _ _ h => h) (Or.inl ⟨by rfl, ?_⟩) hHeld ?_ ?_
                      rotate_left
                      · rintro w' ⟨s0, s1, s2⟩
                        go_simp
                        with_reducible rfl
                      rotate_left
                      · simp only [Act.put, List.setIfInBounds_toArray, List.set_cons_zero, List.set_cons_succ, i64_w, i32_w, u32_w, u8_w, w64_m8, w64_m32, w64_bt]
                        rfl
                      refine take_ (i := 4) (N := some 58) (v := ?_) (a' := ?_) #[true, true, false, true, true, false, false] rfl rfl (by kernel_rfl) (fun _ _ _ h => h) (Or.inl ⟨by rfl, ?_⟩) hHeld ?_ ?_
                      rotate_left
                      · rintro w' ⟨s0, s1, s2⟩
                        go_simp
                        with_reducible rfl
                      rotate_left
                      · simp only [Act.put, List.setIfInBounds_toArray, List.set_cons_zero, List.set_cons_succ, i64_w, i32_w, u32_w, u8_w, w64_m8, w64_m32, w64_bt]
                        rfl
                      refine one_ (i := 2) (N := some 56) #[true, true, true, true, true, false, false] rfl rfl (by kernel_rfl) (by decide) (fun K hK => ?_)
                      refine goes_ Try.func64 (by kernel_rfl) rfl #[.slice A222_0 ((rd_T70 l0 x3_1).f0).length c222_0] (by rfl) rfl rfl (by (try simp only [List.map_toArray, List.map_cons, List.map_nil]); first | done | rfl | (simp only [List.length_drop, List.length_take]; rfl)) ?_
                      with_reducible refine (cadastreref0_CopyValues.calls kj6 _ _ ((rd_T70 l0 x3_1).f0) t226 _ ?side1 ?side2 A32.out).mono ?_
                      (case side1 => repeat (first | exact (Kd.C_below HR222_0.out HB.out) | (with_reducible refine Kd.C_alloc ?_ _) | (with_reducible refine Kd.C_drewN ?_ _) | (with_reducible refine Kd.C_drew ?_)))
                      (case side2 => exact HC222_0.out)
                      rintro e w76 ⟨v227, rfl, ho0, hb⟩
                      refine ⟨_, rfl, ?_⟩
                      have n0_ := Aside0.mk (Kd.R_lower ho0 (below_size (by repeat (first | (with_reducible first | exact HB.out | apply below_alloc | apply pw_below_drewN | apply below_drew1 | refine below_set ?_ GE223.out) | exact HB.out))))
                      have n1_ := Aside0.mk (blk_below (g := gb223) (o := .cells #[.slice A222_0 ((rd_T70 l0 x3_1).f0).length c222_0, .slice A222_1 ((rd_T70 l0 x3_1).f1).length c222_1, .slice A222_2 ((rd_T70 l0 x3_1).f2).length c222_2] 70 (0, 0)) (by (with_reducible repeat (first | refine blk_drewN ?_ _ | refine blk_drew ?_ | refine blk_alloc ?_ _)); exact BK223.out) hb)
                      have n2_ := Aside0.mk (below_step (by repeat (first | (with_reducible first | exact HB.out | apply below_alloc | apply pw_below_drewN | apply below_drew1 | refine below_set ?_ GE223.out) | exact HB.out)) hb)
                      clear BK223
                      clear HB
                      have HO228 := n0_
                      have BK223 := n1_
                      have HB := n2_
                      clear n0_ n1_ n2_
                      (try clear hb)
                      (try clear hb2)
                      (try clear hk)
                      (try clear hi)
                      (try clear ho0)
                      refine hK.out _ _ ⟨(blk_cell BK223.out 0).trans rfl, (blk_cell BK223.out 1).trans rfl, (blk_cell BK223.out 2).trans rfl⟩ (fun hHeld => ?_)
                      clear hK K
                      refine norm_ (a' := ?_) ?_ ?_
                      rotate_left
                      · show Act.put _ (some 56) _ = _
                        simp only [Act.put, List.setIfInBounds_toArray, List.set_cons_zero, List.set_cons_succ, i64_w, i32_w, u32_w, u8_w, w64_m8, w64_m32, w64_bt]
                        rfl
                      refine one_ (i := 5) (N := some 59) #[true, true, true, true, true, true, false] rfl rfl (by kernel_rfl) (by decide) (fun K hK => ?_)
                      refine Kd.R_append_rows_step k24 (w0 := w) w.heap.size (by rfl) (.tmp 56) (.tmp 58) 67 24 (.agg #[(.int .i64 0), (.int .i64 0), (.string ⟨#[]⟩)]) 32 rfl Try.underlying67 info24 rfl (by decide) (by omega) v227 t226 ((rd_T70 l0 x3_1).f1) _ _ _ (fun _ => True) (fun _ => False) rfl rfl ?aO ?aR (fun _ _ h => h) (fun _ h => h.elim) ?aF ?aB ?aS ?aL ?_
                      (case aR => repeat (first | exact (Kd.C_below HR222_1.out HB.out) | (with_reducible refine Kd.C_alloc ?_ _) | (with_reducible refine Kd.C_drewN ?_ _) | (with_reducible refine Kd.C_drew ?_)))
                      (case aB => exact (by repeat (first | (with_reducible first | exact HB.out | apply below_alloc | apply pw_below_drewN | apply below_drew1 | refine below_set ?_ GE223.out) | exact HB.out)))
                      (case aF => exact (fun _ _ => trivial))
                      (case aO => exact (by (with_reducible repeat (first | apply Kd.R_alloc | apply Kd.R_drewN | apply Kd.R_drew)); exact HO228.out))
                      (case aS => exact (below_size (by repeat (first | (with_reducible first | exact HB.out | apply below_alloc | apply pw_below_drewN | apply below_drew1 | refine below_set ?_ GE223.out) | exact HB.out))))
                      (case aL => have := LMc33.out; omega)
                      intro v230 w77 ho hb hg hat
                      rw [← Ny229.out] at ho
                      have n0_ := Aside0.mk (blk_grown (g := gb223) (o := .cells #[.slice A222_0 ((rd_T70 l0 x3_1).f0).length c222_0, .slice A222_1 ((rd_T70 l0 x3_1).f1).length c222_1, .slice A222_2 ((rd_T70 l0 x3_1).f2).length c222_2] 70 (0, 0)) (by (with_reducible repeat (first | refine blk_drewN ?_ _ | refine blk_drew ?_ | refine blk_alloc ?_ _)); exact BK223.out) hg (Kd.R_ne HO228.out BK223.out (by decide)))
                      have n1_ := Aside0.mk (hb)
                      have n2_ := Aside0.mk (ho)
                      clear BK223
                      clear HB
                      clear HO228
                      have BK223 := n0_
                      have HB := n1_
                      have HO231 := n2_
                      clear n0_ n1_ n2_
                      clear ho hb hg hat
                      refine hK.out _ _ ⟨(blk_cell BK223.out 0).trans rfl, (blk_cell BK223.out 1).trans rfl, (blk_cell BK223.out 2).trans rfl⟩ (fun hHeld => ?_)
                      clear hK K
                      refine norm_ (a' := ?_) ?_ ?_
                      rotate_left
                      · show Act.put _ (some 59) _ = _
                        simp only [Act.put, List.setIfInBounds_toArray, List.set_cons_zero, List.set_cons_succ, i64_w, i32_w, u32_w, u8_w, w64_m8, w64_m32, w64_bt]
                        rfl
                      refine pure_ (i := 6) (N := some 5) (v := ?_) (a' := ?_) #[true, true, true, true, true, true, true] rfl rfl (by kernel_rfl) (fun _ _ _ h => h) (Or.inl ⟨by rfl, ?_⟩) ?_ ?_
                      rotate_left
                      · intro w'
                        go_simp
                        with_reducible rfl
                      rotate_left
                      · simp only [Act.put, List.setIfInBounds_toArray, List.set_cons_zero, List.set_cons_succ, i64_w, i32_w, u32_w, u8_w, w64_m8, w64_m32, w64_bt]
                        rfl
                      refine done_ (by kernel_rfl) ?_
                      have hcz78_0 : w77.cell? ⟨gb223, 0, none⟩ = some (.slice A222_0 ((rd_T70 l0 x3_1).f0).length c222_0) := (blk_cell BK223.out 0).trans rfl
                      have hcz78_1 : w77.cell? ⟨gb223, 1, none⟩ = some (.slice A222_1 ((rd_T70 l0 x3_1).f1).length c222_1) := (blk_cell BK223.out 1).trans rfl
                      have hcz78_2 : w77.cell? ⟨gb223, 2, none⟩ = some (.slice A222_2 ((rd_T70 l0 x3_1).f2).length c222_2) := (blk_cell BK223.out 2).trans rfl
                      have hfz78_0 := blk_frozen BK223.out 0
                      have hfz78_1 := blk_frozen BK223.out 1
                      have hfz78_2 := blk_frozen BK223.out 2
                      obtain ⟨Ao79, co79, eo79⟩ := Kd.R_slice HO231.out
                      subst eo79
                      try go_wp2_with (first | ((with_reducible refine gate_callee (f := 62) rfl ?_); refine goesL_ (some 64) rfl rfl Try.func62 (by kernel_rfl) rfl #[.slice Ao79 y229.length co79, .slice A222_0 ((rd_T70 l0 x3_1).f0).length c222_0] rfl (by (try simp only [List.map_toArray, List.map_cons, List.map_nil]); first | done | rfl | (simp only [List.length_drop, List.length_take]; rfl)) ?_; (with_reducible refine (keys_Begins.calls kj6 (fun k_ => some k_ = (.slice Ao79 y229.length co79 : Value).ownBlock) _ _ y229 (fun k_ => k_ < w.heap.size) _ _ ((rd_T70 l0 x3_1).f0) true t233 _ ?side1 ?side2 A34.out).mono ?_); (case side1 => exact Kd.R_V (Kd.R_tight rfl (Kd.R_types (HO231.out) BK223.out (by decide)))); (case side2 => exact Kd.V_mk HC222_0.out (Kd.F_below (Kd.C_F k24_heap HR222_0.out) (by repeat (first | (with_reducible first | exact HB.out | apply below_alloc | apply pw_below_drewN | apply below_drew1 | refine below_set ?_ GE223.out) | exact HB.out)))); rintro e w80 ⟨rfl, hb⟩; refine ⟨_, rfl, ?_⟩; have n0_ := Aside0.mk (Kd.R_below (by (with_reducible repeat (first | apply Kd.R_alloc | apply Kd.R_drewN | apply Kd.R_drew)); exact HO231.out) hb); have n1_ := Aside0.mk (blk_below (g := gb223) (o := .cells #[.slice A222_0 ((rd_T70 l0 x3_1).f0).length c222_0, .slice A222_1 ((rd_T70 l0 x3_1).f1).length c222_1, .slice A222_2 ((rd_T70 l0 x3_1).f2).length c222_2] 70 (0, 0)) (by (with_reducible repeat (first | refine blk_drewN ?_ _ | refine blk_drew ?_ | refine blk_alloc ?_ _)); exact BK223.out) hb); have n2_ := Aside0.mk (below_step (by repeat (first | (with_reducible first | exact HB.out | apply below_alloc | apply pw_below_drewN | apply below_drew1 | refine below_set ?_ GE223.out) | exact HB.out)) hb); clear HO231; clear BK223; clear HB; have HO231 := n0_; have BK223 := n1_; have HB := n2_; clear n0_ n1_ n2_; (try clear hb); (try clear hb2); (try clear hk); (try clear hi); have hcz81_0 : w80.cell? ⟨gb223, 0, none⟩ = some (.slice A222_0 ((rd_T70 l0 x3_1).f0).length c222_0) := (blk_cell BK223.out 0).trans rfl; have hcz81_1 : w80.cell? ⟨gb223, 1, none⟩ = some (.slice A222_1 ((rd_T70 l0 x3_1).f1).length c222_1) := (blk_cell BK223.out 1).trans rfl; have hcz81_2 : w80.cell? ⟨gb223, 2, none⟩ = some (.slice A222_2 ((rd_T70 l0 x3_1).f2).length c222_2) := (blk_cell BK223.out 2).trans rfl; have hfz81_0 := blk_frozen BK223.out 0; have hfz81_1 := blk_frozen BK223.out 1; have hfz81_2 := blk_frozen BK223.out 2) | ((with_reducible refine gate_callee (f := 62) rfl ?_); refine goesL_ (some 71) rfl rfl Try.func62 (by kernel_rfl) rfl #[.slice A222_0 ((rd_T70 l0 x3_1).f0).length c222_0, .slice Ao79 y229.length co79] rfl (by (try simp only [List.map_toArray, List.map_cons, List.map_nil]); first | done | rfl | (simp only [List.length_drop, List.length_take]; rfl)) ?_; (with_reducible refine (keys_Begins.calls kj6 (fun k_ => k_ < w.heap.size) _ _ ((rd_T70 l0 x3_1).f0) (fun k_ => some k_ = (.slice Ao79 y229.length co79 : Value).ownBlock) _ _ y229 true t235 _ ?side1 ?side2 A35.out).mono ?_); (case side1 => exact Kd.V_mk HC222_0.out (Kd.F_below (Kd.C_F k24_heap HR222_0.out) (by repeat (first | (with_reducible first | exact HB.out | apply below_alloc | apply pw_below_drewN | apply below_drew1 | refine below_set ?_ GE223.out) | exact HB.out)))); (case side2 => exact Kd.R_V (Kd.R_tight rfl (Kd.R_types (HO231.out) BK223.out (by decide)))); rintro e w82 ⟨rfl, hb⟩; refine ⟨_, rfl, ?_⟩; have n0_ := Aside0.mk (Kd.R_below (by (with_reducible repeat (first | apply Kd.R_alloc | apply Kd.R_drewN | apply Kd.R_drew)); exact HO231.out) hb); have n1_ := Aside0.mk (blk_below (g := gb223) (o := .cells #[.slice A222_0 ((rd_T70 l0 x3_1).f0).length c222_0, .slice A222_1 ((rd_T70 l0 x3_1).f1).length c222_1, .slice A222_2 ((rd_T70 l0 x3_1).f2).length c222_2] 70 (0, 0)) (by (with_reducible repeat (first | refine blk_drewN ?_ _ | refine blk_drew ?_ | refine blk_alloc ?_ _)); exact BK223.out) hb); have n2_ := Aside0.mk (below_step (by repeat (first | (with_reducible first | exact HB.out | apply below_alloc | apply pw_below_drewN | apply below_drew1 | refine below_set ?_ GE223.out) | exact HB.out)) hb); clear HO231; clear BK223; clear HB; have HO231 := n0_; have BK223 := n1_; have HB := n2_; clear n0_ n1_ n2_; (try clear hb); (try clear hb2); (try clear hk); (try clear hi); have hcz83_0 : w82.cell? ⟨gb223, 0, none⟩ = some (.slice A222_0 ((rd_T70 l0 x3_1).f0).length c222_0) := (blk_cell BK223.out 0).trans rfl; have hcz83_1 : w82.cell? ⟨gb223, 1, none⟩ = some (.slice A222_1 ((rd_T70 l0 x3_1).f1).length c222_1) := (blk_cell BK223.out 1).trans rfl; have hcz83_2 : w82.cell? ⟨gb223, 2, none⟩ = some (.slice A222_2 ((rd_T70 l0 x3_1).f2).length c222_2) := (blk_cell BK223.out 2).trans rfl; have hfz83_0 := blk_frozen BK223.out 0; have hfz83_1 := blk_frozen BK223.out 1; have hfz83_2 := blk_frozen BK223.out 2) | ((with_reducible refine gate_callee (f := 59) rfl ?_); refine goesL_ (some 78) rfl rfl Try.func59 (by kernel_rfl) rfl #[.slice Ao79 y229.length co79, .slice A222_0 ((rd_T70 l0 x3_1).f0).length c222_0] rfl (by (try simp only [List.map_toArray, List.map_cons, List.map_nil]); first | done | rfl | (simp only [List.length_drop, List.length_take]; rfl)) ?_; (with_reducible refine (keys_Cmp.calls kj6 (fun k_ => some k_ = (.slice Ao79 y229.length co79 : Value).ownBlock) _ _ y229 (fun k_ => k_ < w.heap.size) _ _ ((rd_T70 l0 x3_1).f0) t236 t237 _ ?side1 ?side2 A36.out).mono ?_); (case side1 => exact Kd.R_V (Kd.R_tight rfl (Kd.R_types (HO231.out) BK223.out (by decide)))); (case side2 => exact Kd.V_mk HC222_0.out (Kd.F_below (Kd.C_F k24_heap HR222_0.out) (by repeat (first | (with_reducible first | exact HB.out | apply below_alloc | apply pw_below_drewN | apply below_drew1 | refine below_set ?_ GE223.out) | exact HB.out)))); rintro e w84 ⟨rfl, hb⟩; refine ⟨_, rfl, ?_⟩; have n0_ := Aside0.mk (Kd.R_below (by (with_reducible repeat (first | apply Kd.R_alloc | apply Kd.R_drewN | apply Kd.R_drew)); exact HO231.out) hb); have n1_ := Aside0.mk (blk_below (g := gb223) (o := .cells #[.slice A222_0 ((rd_T70 l0 x3_1).f0).length c222_0, .slice A222_1 ((rd_T70 l0 x3_1).f1).length c222_1, .slice A222_2 ((rd_T70 l0 x3_1).f2).length c222_2] 70 (0, 0)) (by (with_reducible repeat (first | refine blk_drewN ?_ _ | refine blk_drew ?_ | refine blk_alloc ?_ _)); exact BK223.out) hb); have n2_ := Aside0.mk (below_step (by repeat (first | (with_reducible first | exact HB.out | apply below_alloc | apply pw_below_drewN | apply below_drew1 | refine below_set ?_ GE223.out) | exact HB.out)) hb); clear HO231; clear BK223; clear HB; have HO231 := n0_; have BK223 := n1_; have HB := n2_; clear n0_ n1_ n2_; (try clear hb); (try clear hb2); (try clear hk); (try clear hi)) | ((with_reducible refine gate_callee (f := 60) rfl ?_); refine goesL_ (some 82) rfl rfl Try.func60 (by kernel_rfl) rfl #[.int .i64 t233] rfl (by (try simp only [List.map_toArray, List.map_cons, List.map_nil]); first | done | rfl | (simp only [List.length_drop, List.length_take]; rfl)) ?_; (with_reducible refine (cadastrelaw7_num.calls t233 t238 _ A37.out).mono ?_); rintro e w' ⟨rfl, ⟨nd, rfl⟩⟩; refine ⟨_, rfl, ?_⟩) | (go_at_call 60; (with_reducible refine (cadastrelaw7_num.calls t235 t239 _ A49.out).mono ?_); rintro e w' ⟨rfl, ⟨nd, rfl⟩⟩; (try clear A49)) | (go_at_call 60; (with_reducible refine (cadastrelaw7_num.calls t237 t240 _ A61.out).mono ?_); rintro e w' ⟨rfl, ⟨nd, rfl⟩⟩; (try clear A61)))
                      go_ret
                      exact ⟨by first | rfl | (simp [errW_none, errW_some] <;> rfl) | (simp [*, errW_none, errW_some] <;> rfl), by repeat (first | (with_reducible first | exact HB.out | apply below_alloc | apply pw_below_drewN | apply below_drew1 | refine below_set ?_ GE223.out) | exact HB.out)⟩
                    · replace c74 := Bool.eq_false_iff.mpr c74
                      subst c74
                      have H1 : (if t236 = 1 then (cadastrelaw7_KeysBegin.l0 kj6 l0 (wrap64 (x3_1 + 1))) else (some false)) = some r := by rw [if_neg (show ¬ (false = true) by decide)] at H; exact H
                      clear H
                      have H := H1
                      clear H1
                      by_cases c85 : t236 = 1
                      · rw [if_pos c85] at H
                        have c85b0 : (t236 == 1) = true := beq_iff_eq.mpr c85
                        have c85b1 : (t236 != 1) = false := bne_eq_false_iff_eq.mpr c85
                        clear c85
                        have H' := Aside0.mk H
                        clear H
                        try go_wp2
                        have n0_ := Aside0.mk (blk_drew BK223.out)
                        have n1_ := Aside0.mk (below_drew1 HB.out)
                        clear BK223
                        clear HB
                        have BK223 := n0_
                        have HB := n1_
                        clear n0_ n1_
                        refine start_ (n := 7) (S := fun w' => w'.cell? ⟨gb223, 0, none⟩ = some (.slice A222_0 ((rd_T70 l0 x3_1).f0).length c222_0) ∧ w'.cell? ⟨gb223, 1, none⟩ = some (.slice A222_1 ((rd_T70 l0 x3_1).f1).length c222_1) ∧ w'.cell? ⟨gb223, 2, none⟩ = some (.slice A222_2 ((rd_T70 l0 x3_1).f2).length c222_2)) (ds := []) #[false, false, false, false, false, false, false] (by kernel_rfl) rfl rfl ⟨(blk_cell BK223.out 0).trans rfl, (blk_cell BK223.out 1).trans rfl, (blk_cell BK223.out 2).trans rfl⟩ (fun hHeld => ?_)
                        generalize wc.drew = w86 at BK223 HB hHeld ⊢
                        refine pure_ (i := 0) (N := some 54) (v := ?_) (a' := ?_) #[true, false, false, false, false, false, false] rfl rfl (by kernel_rfl) (fun _ _ _ h => h) (Or.inl ⟨by rfl, ?_⟩) ?_ ?_
                        rotate_left
                        · intro w'
                          go_simp
                          with_reducible rfl
                        rotate_left
                        · simp only [Act.put, List.setIfInBounds_toArray, List.set_cons_zero, List.set_cons_succ, i64_w, i32_w, u32_w, u8_w, w64_m8, w64_m32, w64_bt]
                          rfl
                        refine pure_ (i := 3) (N := some 57) (v := ?_) (a' := ?_) #[true, false, false, true, false, false, false] rfl rfl (by kernel_rfl) (fun _ _ _ h => h) (Or.inl ⟨by rfl, ?_⟩) ?_ ?_
                        rotate_left
                        · intro w'
                          go_simp
                          with_reducible rfl
                        rotate_left
                        · simp only [Act.put, List.setIfInBounds_toArray, List.set_cons_zero, List.set_cons_succ, i64_w, i32_w, u32_w, u8_w, w64_m8, w64_m32, w64_bt]
                          rfl
                        refine take_ (i := 1) (N := some 55) (v := ?_) (a' := ?_) #[true, true, false, true, false, false, false] rfl rfl (by kernel_rfl) (fun _ _ _ h => h) (Or.inl ⟨by rfl, ?_⟩) hHeld ?_ ?_
                        rotate_left
                        · rintro w' ⟨s0, s1, s2⟩
                          go_simp
                          with_reducible rfl
                        rotate_left
                        · simp only [Act.put, List.setIfInBounds_toArray, List.set_cons_zero, List.set_cons_succ, i64_w, i32_w, u32_w, u8_w, w64_m8, w64_m32, w64_bt]
                          rfl
                        refine take_ (i := 4) (N := some 58) (v := ?_) (a' := ?_) #[true, true, false, true, true, false, false] rfl rfl (by kernel_rfl) (fun _ _ _ h => h) (Or.inl ⟨by rfl, ?_⟩) hHeld ?_ ?_
                        rotate_left
                        · rintro w' ⟨s0, s1, s2⟩
                          go_simp
                          with_reducible rfl
                        rotate_left
                        · simp only [Act.put, List.setIfInBounds_toArray, List.set_cons_zero, List.set_cons_succ, i64_w, i32_w, u32_w, u8_w, w64_m8, w64_m32, w64_bt]
                          rfl
                        refine one_ (i := 2) (N := some 56) #[true, true, true, true, true, false, false] rfl rfl (by kernel_rfl) (by decide) (fun K hK => ?_)
                        refine goes_ Try.func64 (by kernel_rfl) rfl #[.slice A222_0 ((rd_T70 l0 x3_1).f0).length c222_0] (by rfl) rfl rfl (by (try simp only [List.map_toArray, List.map_cons, List.map_nil]); first | done | rfl | (simp only [List.length_drop, List.length_take]; rfl)) ?_
                        with_reducible refine (cadastreref0_CopyValues.calls kj6 _ _ ((rd_T70 l0 x3_1).f0) t226 _ ?side1 ?side2 A32.out).mono ?_
                        (case side1 => repeat (first | exact (Kd.C_below HR222_0.out HB.out) | (with_reducible refine Kd.C_alloc ?_ _) | (with_reducible refine Kd.C_drewN ?_ _) | (with_reducible refine Kd.C_drew ?_)))
                        (case side2 => exact HC222_0.out)
                        rintro e w87 ⟨v227, rfl, ho0, hb⟩
                        refine ⟨_, rfl, ?_⟩
                        have n0_ := Aside0.mk (Kd.R_lower ho0 (below_size (by repeat (first | (with_reducible first | exact HB.out | apply below_alloc | apply pw_below_drewN | apply below_drew1 | refine below_set ?_ GE223.out) | exact HB.out))))
                        have n1_ := Aside0.mk (blk_below (g := gb223) (o := .cells #[.slice A222_0 ((rd_T70 l0 x3_1).f0).length c222_0, .slice A222_1 ((rd_T70 l0 x3_1).f1).length c222_1, .slice A222_2 ((rd_T70 l0 x3_1).f2).length c222_2] 70 (0, 0)) (by (with_reducible repeat (first | refine blk_drewN ?_ _ | refine blk_drew ?_ | refine blk_alloc ?_ _)); exact BK223.out) hb)
                        have n2_ := Aside0.mk (below_step (by repeat (first | (with_reducible first | exact HB.out | apply below_alloc | apply pw_below_drewN | apply below_drew1 | refine below_set ?_ GE223.out) | exact HB.out)) hb)
                        clear BK223
                        clear HB
                        have HO228 := n0_
                        have BK223 := n1_
                        have HB := n2_
                        clear n0_ n1_ n2_
                        (try clear hb)
                        (try clear hb2)
                        (try clear hk)
                        (try clear hi)
                        (try clear ho0)
                        refine hK.out _ _ ⟨(blk_cell BK223.out 0).trans rfl, (blk_cell BK223.out 1).trans rfl, (blk_cell BK223.out 2).trans rfl⟩ (fun hHeld => ?_)
                        clear hK K
                        refine norm_ (a' := ?_) ?_ ?_
                        rotate_left
                        · show Act.put _ (some 56) _ = _
                          simp only [Act.put, List.setIfInBounds_toArray, List.set_cons_zero, List.set_cons_succ, i64_w, i32_w, u32_w, u8_w, w64_m8, w64_m32, w64_bt]
                          rfl
                        refine one_ (i := 5) (N := some 59) #[true, true, true, true, true, true, false] rfl rfl (by kernel_rfl) (by decide) (fun K hK => ?_)
                        refine Kd.R_append_rows_step k24 (w0 := w) w.heap.size (by rfl) (.tmp 56) (.tmp 58) 67 24 (.agg #[(.int .i64 0), (.int .i64 0), (.string ⟨#[]⟩)]) 32 rfl Try.underlying67 info24 rfl (by decide) (by omega) v227 t226 ((rd_T70 l0 x3_1).f1) _ _ _ (fun _ => True) (fun _ => False) rfl rfl ?aO ?aR (fun _ _ h => h) (fun _ h => h.elim) ?aF ?aB ?aS ?aL ?_
                        (case aR => repeat (first | exact (Kd.C_below HR222_1.out HB.out) | (with_reducible refine Kd.C_alloc ?_ _) | (with_reducible refine Kd.C_drewN ?_ _) | (with_reducible refine Kd.C_drew ?_)))
                        (case aB => exact (by repeat (first | (with_reducible first | exact HB.out | apply below_alloc | apply pw_below_drewN | apply below_drew1 | refine below_set ?_ GE223.out) | exact HB.out)))
                        (case aF => exact (fun _ _ => trivial))
                        (case aO => exact (by (with_reducible repeat (first | apply Kd.R_alloc | apply Kd.R_drewN | apply Kd.R_drew)); exact HO228.out))
                        (case aS => exact (below_size (by repeat (first | (with_reducible first | exact HB.out | apply below_alloc | apply pw_below_drewN | apply below_drew1 | refine below_set ?_ GE223.out) | exact HB.out))))
                        (case aL => have := LMc33.out; omega)
                        intro v230 w88 ho hb hg hat
                        rw [← Ny229.out] at ho
                        have n0_ := Aside0.mk (blk_grown (g := gb223) (o := .cells #[.slice A222_0 ((rd_T70 l0 x3_1).f0).length c222_0, .slice A222_1 ((rd_T70 l0 x3_1).f1).length c222_1, .slice A222_2 ((rd_T70 l0 x3_1).f2).length c222_2] 70 (0, 0)) (by (with_reducible repeat (first | refine blk_drewN ?_ _ | refine blk_drew ?_ | refine blk_alloc ?_ _)); exact BK223.out) hg (Kd.R_ne HO228.out BK223.out (by decide)))
                        have n1_ := Aside0.mk (hb)
                        have n2_ := Aside0.mk (ho)
                        clear BK223
                        clear HB
                        clear HO228
                        have BK223 := n0_
                        have HB := n1_
                        have HO231 := n2_
                        clear n0_ n1_ n2_
                        clear ho hb hg hat
                        refine hK.out _ _ ⟨(blk_cell BK223.out 0).trans rfl, (blk_cell BK223.out 1).trans rfl, (blk_cell BK223.out 2).trans rfl⟩ (fun hHeld => ?_)
                        clear hK K
                        refine norm_ (a' := ?_) ?_ ?_
                        rotate_left
                        · show Act.put _ (some 59) _ = _
                          simp only [Act.put, List.setIfInBounds_toArray, List.set_cons_zero, List.set_cons_succ, i64_w, i32_w, u32_w, u8_w, w64_m8, w64_m32, w64_bt]
                          rfl
                        refine pure_ (i := 6) (N := some 5) (v := ?_) (a' := ?_) #[true, true, true, true, true, true, true] rfl rfl (by kernel_rfl) (fun _ _ _ h => h) (Or.inl ⟨by rfl, ?_⟩) ?_ ?_
                        rotate_left
                        · intro w'
                          go_simp
                          with_reducible rfl
                        rotate_left
                        · simp only [Act.put, List.setIfInBounds_toArray, List.set_cons_zero, List.set_cons_succ, i64_w, i32_w, u32_w, u8_w, w64_m8, w64_m32, w64_bt]
                          rfl
                        refine done_ (by kernel_rfl) ?_
                        have hcz89_0 : w88.cell? ⟨gb223, 0, none⟩ = some (.slice A222_0 ((rd_T70 l0 x3_1).f0).length c222_0) := (blk_cell BK223.out 0).trans rfl
                        have hcz89_1 : w88.cell? ⟨gb223, 1, none⟩ = some (.slice A222_1 ((rd_T70 l0 x3_1).f1).length c222_1) := (blk_cell BK223.out 1).trans rfl
                        have hcz89_2 : w88.cell? ⟨gb223, 2, none⟩ = some (.slice A222_2 ((rd_T70 l0 x3_1).f2).length c222_2) := (blk_cell BK223.out 2).trans rfl
                        have hfz89_0 := blk_frozen BK223.out 0
                        have hfz89_1 := blk_frozen BK223.out 1
                        have hfz89_2 := blk_frozen BK223.out 2
                        obtain ⟨Ao90, co90, eo90⟩ := Kd.R_slice HO231.out
                        subst eo90
                        try go_wp2_with (first | ((with_reducible refine gate_callee (f := 62) rfl ?_); refine goesL_ (some 64) rfl rfl Try.func62 (by kernel_rfl) rfl #[.slice Ao90 y229.length co90, .slice A222_0 ((rd_T70 l0 x3_1).f0).length c222_0] rfl (by (try simp only [List.map_toArray, List.map_cons, List.map_nil]); first | done | rfl | (simp only [List.length_drop, List.length_take]; rfl)) ?_; (with_reducible refine (keys_Begins.calls kj6 (fun k_ => some k_ = (.slice Ao90 y229.length co90 : Value).ownBlock) _ _ y229 (fun k_ => k_ < w.heap.size) _ _ ((rd_T70 l0 x3_1).f0) true t233 _ ?side1 ?side2 A34.out).mono ?_); (case side1 => exact Kd.R_V (Kd.R_tight rfl (Kd.R_types (HO231.out) BK223.out (by decide)))); (case side2 => exact Kd.V_mk HC222_0.out (Kd.F_below (Kd.C_F k24_heap HR222_0.out) (by repeat (first | (with_reducible first | exact HB.out | apply below_alloc | apply pw_below_drewN | apply below_drew1 | refine below_set ?_ GE223.out) | exact HB.out)))); rintro e w91 ⟨rfl, hb⟩; refine ⟨_, rfl, ?_⟩; have n0_ := Aside0.mk (Kd.R_below (by (with_reducible repeat (first | apply Kd.R_alloc | apply Kd.R_drewN | apply Kd.R_drew)); exact HO231.out) hb); have n1_ := Aside0.mk (blk_below (g := gb223) (o := .cells #[.slice A222_0 ((rd_T70 l0 x3_1).f0).length c222_0, .slice A222_1 ((rd_T70 l0 x3_1).f1).length c222_1, .slice A222_2 ((rd_T70 l0 x3_1).f2).length c222_2] 70 (0, 0)) (by (with_reducible repeat (first | refine blk_drewN ?_ _ | refine blk_drew ?_ | refine blk_alloc ?_ _)); exact BK223.out) hb); have n2_ := Aside0.mk (below_step (by repeat (first | (with_reducible first | exact HB.out | apply below_alloc | apply pw_below_drewN | apply below_drew1 | refine below_set ?_ GE223.out) | exact HB.out)) hb); clear HO231; clear BK223; clear HB; have HO231 := n0_; have BK223 := n1_; have HB := n2_; clear n0_ n1_ n2_; (try clear hb); (try clear hb2); (try clear hk); (try clear hi); have hcz92_0 : w91.cell? ⟨gb223, 0, none⟩ = some (.slice A222_0 ((rd_T70 l0 x3_1).f0).length c222_0) := (blk_cell BK223.out 0).trans rfl; have hcz92_1 : w91.cell? ⟨gb223, 1, none⟩ = some (.slice A222_1 ((rd_T70 l0 x3_1).f1).length c222_1) := (blk_cell BK223.out 1).trans rfl; have hcz92_2 : w91.cell? ⟨gb223, 2, none⟩ = some (.slice A222_2 ((rd_T70 l0 x3_1).f2).length c222_2) := (blk_cell BK223.out 2).trans rfl; have hfz92_0 := blk_frozen BK223.out 0; have hfz92_1 := blk_frozen BK223.out 1; have hfz92_2 := blk_frozen BK223.out 2) | ((with_reducible refine gate_callee (f := 62) rfl ?_); refine goesL_ (some 71) rfl rfl Try.func62 (by kernel_rfl) rfl #[.slice A222_0 ((rd_T70 l0 x3_1).f0).length c222_0, .slice Ao90 y229.length co90] rfl (by (try simp only [List.map_toArray, List.map_cons, List.map_nil]); first | done | rfl | (simp only [List.length_drop, List.length_take]; rfl)) ?_; (with_reducible refine (keys_Begins.calls kj6 (fun k_ => k_ < w.heap.size) _ _ ((rd_T70 l0 x3_1).f0) (fun k_ => some k_ = (.slice Ao90 y229.length co90 : Value).ownBlock) _ _ y229 false t235 _ ?side1 ?side2 A35.out).mono ?_); (case side1 => exact Kd.V_mk HC222_0.out (Kd.F_below (Kd.C_F k24_heap HR222_0.out) (by repeat (first | (with_reducible first | exact HB.out | apply below_alloc | apply pw_below_drewN | apply below_drew1 | refine below_set ?_ GE223.out) | exact HB.out)))); (case side2 => exact Kd.R_V (Kd.R_tight rfl (Kd.R_types (HO231.out) BK223.out (by decide)))); rintro e w93 ⟨rfl, hb⟩; refine ⟨_, rfl, ?_⟩; have n0_ := Aside0.mk (Kd.R_below (by (with_reducible repeat (first | apply Kd.R_alloc | apply Kd.R_drewN | apply Kd.R_drew)); exact HO231.out) hb); have n1_ := Aside0.mk (blk_below (g := gb223) (o := .cells #[.slice A222_0 ((rd_T70 l0 x3_1).f0).length c222_0, .slice A222_1 ((rd_T70 l0 x3_1).f1).length c222_1, .slice A222_2 ((rd_T70 l0 x3_1).f2).length c222_2] 70 (0, 0)) (by (with_reducible repeat (first | refine blk_drewN ?_ _ | refine blk_drew ?_ | refine blk_alloc ?_ _)); exact BK223.out) hb); have n2_ := Aside0.mk (below_step (by repeat (first | (with_reducible first | exact HB.out | apply below_alloc | apply pw_below_drewN | apply below_drew1 | refine below_set ?_ GE223.out) | exact HB.out)) hb); clear HO231; clear BK223; clear HB; have HO231 := n0_; have BK223 := n1_; have HB := n2_; clear n0_ n1_ n2_; (try clear hb); (try clear hb2); (try clear hk); (try clear hi); have hcz94_0 : w93.cell? ⟨gb223, 0, none⟩ = some (.slice A222_0 ((rd_T70 l0 x3_1).f0).length c222_0) := (blk_cell BK223.out 0).trans rfl; have hcz94_1 : w93.cell? ⟨gb223, 1, none⟩ = some (.slice A222_1 ((rd_T70 l0 x3_1).f1).length c222_1) := (blk_cell BK223.out 1).trans rfl; have hcz94_2 : w93.cell? ⟨gb223, 2, none⟩ = some (.slice A222_2 ((rd_T70 l0 x3_1).f2).length c222_2) := (blk_cell BK223.out 2).trans rfl; have hfz94_0 := blk_frozen BK223.out 0; have hfz94_1 := blk_frozen BK223.out 1; have hfz94_2 := blk_frozen BK223.out 2) | ((with_reducible refine gate_callee (f := 59) rfl ?_); refine goesL_ (some 78) rfl rfl Try.func59 (by kernel_rfl) rfl #[.slice Ao90 y229.length co90, .slice A222_0 ((rd_T70 l0 x3_1).f0).length c222_0] rfl (by (try simp only [List.map_toArray, List.map_cons, List.map_nil]); first | done | rfl | (simp only [List.length_drop, List.length_take]; rfl)) ?_; (with_reducible refine (keys_Cmp.calls kj6 (fun k_ => some k_ = (.slice Ao90 y229.length co90 : Value).ownBlock) _ _ y229 (fun k_ => k_ < w.heap.size) _ _ ((rd_T70 l0 x3_1).f0) t236 t237 _ ?side1 ?side2 A36.out).mono ?_); (case side1 => exact Kd.R_V (Kd.R_tight rfl (Kd.R_types (HO231.out) BK223.out (by decide)))); (case side2 => exact Kd.V_mk HC222_0.out (Kd.F_below (Kd.C_F k24_heap HR222_0.out) (by repeat (first | (with_reducible first | exact HB.out | apply below_alloc | apply pw_below_drewN | apply below_drew1 | refine below_set ?_ GE223.out) | exact HB.out)))); rintro e w95 ⟨rfl, hb⟩; refine ⟨_, rfl, ?_⟩; have n0_ := Aside0.mk (Kd.R_below (by (with_reducible repeat (first | apply Kd.R_alloc | apply Kd.R_drewN | apply Kd.R_drew)); exact HO231.out) hb); have n1_ := Aside0.mk (blk_below (g := gb223) (o := .cells #[.slice A222_0 ((rd_T70 l0 x3_1).f0).length c222_0, .slice A222_1 ((rd_T70 l0 x3_1).f1).length c222_1, .slice A222_2 ((rd_T70 l0 x3_1).f2).length c222_2] 70 (0, 0)) (by (with_reducible repeat (first | refine blk_drewN ?_ _ | refine blk_drew ?_ | refine blk_alloc ?_ _)); exact BK223.out) hb); have n2_ := Aside0.mk (below_step (by repeat (first | (with_reducible first | exact HB.out | apply below_alloc | apply pw_below_drewN | apply below_drew1 | refine below_set ?_ GE223.out) | exact HB.out)) hb); clear HO231; clear BK223; clear HB; have HO231 := n0_; have BK223 := n1_; have HB := n2_; clear n0_ n1_ n2_; (try clear hb); (try clear hb2); (try clear hk); (try clear hi)) | ((with_reducible refine gate_callee (f := 60) rfl ?_); refine goesL_ (some 82) rfl rfl Try.func60 (by kernel_rfl) rfl #[.int .i64 t233] rfl (by (try simp only [List.map_toArray, List.map_cons, List.map_nil]); first | done | rfl | (simp only [List.length_drop, List.length_take]; rfl)) ?_; (with_reducible refine (cadastrelaw7_num.calls t233 t238 _ A37.out).mono ?_); rintro e w' ⟨rfl, ⟨nd, rfl⟩⟩; refine ⟨_, rfl, ?_⟩) | (go_at_call 60; (with_reducible refine (cadastrelaw7_num.calls t235 t239 _ A49.out).mono ?_); rintro e w' ⟨rfl, ⟨nd, rfl⟩⟩; (try clear A49)) | (go_at_call 60; (with_reducible refine (cadastrelaw7_num.calls t237 t240 _ A61.out).mono ?_); rintro e w' ⟨rfl, ⟨nd, rfl⟩⟩; (try clear A61)))
                        go_roundg kj6
                        case measure => have := HK1.out; have := HJ1.out; have := HJ6.out; omega
                        case rel => exact ⟨(wrap64 (x3_1 + 1)), (by first | rfl | (simp; done) | (simp [*]; done)), H', ⟨by have := HK1.out; have := HJ1.out; have := HJ6.out; omega⟩, ⟨by repeat (first | (with_reducible first | exact HB.out | apply below_alloc | apply pw_below_drewN | apply below_drew1 | refine below_set ?_ GE223.out) | exact HB.out)⟩⟩
                      rw [if_neg c85] at H
                      have c85b0 : (t236 == 1) = false := beq_eq_false_iff_ne.mpr c85
                      have c85b1 : (t236 != 1) = true := bne_iff_ne.mpr c85
                      obtain rfl := Option.some.inj H
                      try go_wp2
                      have n0_ := Aside0.mk (blk_drew BK223.out)
                      have n1_ := Aside0.mk (below_drew1 HB.out)
                      clear BK223
                      clear HB
                      have BK223 := n0_
                      have HB := n1_
                      clear n0_ n1_
                      refine start_ (n := 7) (S := fun w' => w'.cell? ⟨gb223, 0, none⟩ = some (.slice A222_0 ((rd_T70 l0 x3_1).f0).length c222_0) ∧ w'.cell? ⟨gb223, 1, none⟩ = some (.slice A222_1 ((rd_T70 l0 x3_1).f1).length c222_1) ∧ w'.cell? ⟨gb223, 2, none⟩ = some (.slice A222_2 ((rd_T70 l0 x3_1).f2).length c222_2)) (ds := []) #[false, false, false, false, false, false, false] (by kernel_rfl) rfl rfl ⟨(blk_cell BK223.out 0).trans rfl, (blk_cell BK223.out 1).trans rfl, (blk_cell BK223.out 2).trans rfl⟩ (fun hHeld => ?_)
                      generalize wc.drew = w96 at BK223 HB hHeld ⊢
                      refine pure_ (i := 0) (N := some 54) (v := ?_) (a' := ?_) #[true, false, false, false, false, false, false] rfl rfl (by kernel_rfl) (fun _ _ _ h => h) (Or.inl ⟨by rfl, ?_⟩) ?_ ?_
                      rotate_left
                      · intro w'
                        go_simp
                        with_reducible rfl
                      rotate_left
                      · simp only [Act.put, List.setIfInBounds_toArray, List.set_cons_zero, List.set_cons_succ, i64_w, i32_w, u32_w, u8_w, w64_m8, w64_m32, w64_bt]
                        rfl
                      refine pure_ (i := 3) (N := some 57) (v := ?_) (a' := ?_) #[true, false, false, true, false, false, false] rfl rfl (by kernel_rfl) (fun _ _ _ h => h) (Or.inl ⟨by rfl, ?_⟩) ?_ ?_
                      rotate_left
                      · intro w'
                        go_simp
                        with_reducible rfl
                      rotate_left
                      · simp only [Act.put, List.setIfInBounds_toArray, List.set_cons_zero, List.set_cons_succ, i64_w, i32_w, u32_w, u8_w, w64_m8, w64_m32, w64_bt]
                        rfl
                      refine take_ (i := 1) (N := some 55) (v := ?_) (a' := ?_) #[true, true, false, true, false, false, false] rfl rfl (by kernel_rfl) (fun _ _ _ h => h) (Or.inl ⟨by rfl, ?_⟩) hHeld ?_ ?_
                      rotate_left
                      · rintro w' ⟨s0, s1, s2⟩
                        go_simp
                        with_reducible rfl
                      rotate_left
                      · simp only [Act.put, List.setIfInBounds_toArray, List.set_cons_zero, List.set_cons_succ, i64_w, i32_w, u32_w, u8_w, w64_m8, w64_m32, w64_bt]
                        rfl
                      refine take_ (i := 4) (N := some 58) (v := ?_) (a' := ?_) #[true, true, false, true, true, false, false] rfl rfl (by kernel_rfl) (fun _ _ _ h => h) (Or.inl ⟨by rfl, ?_⟩) hHeld ?_ ?_
                      rotate_left
                      · rintro w' ⟨s0, s1, s2⟩
                        go_simp
                        with_reducible rfl
                      rotate_left
                      · simp only [Act.put, List.setIfInBounds_toArray, List.set_cons_zero, List.set_cons_succ, i64_w, i32_w, u32_w, u8_w, w64_m8, w64_m32, w64_bt]
                        rfl
                      refine one_ (i := 2) (N := some 56) #[true, true, true, true, true, false, false] rfl rfl (by kernel_rfl) (by decide) (fun K hK => ?_)
                      refine goes_ Try.func64 (by kernel_rfl) rfl #[.slice A222_0 ((rd_T70 l0 x3_1).f0).length c222_0] (by rfl) rfl rfl (by (try simp only [List.map_toArray, List.map_cons, List.map_nil]); first | done | rfl | (simp only [List.length_drop, List.length_take]; rfl)) ?_
                      with_reducible refine (cadastreref0_CopyValues.calls kj6 _ _ ((rd_T70 l0 x3_1).f0) t226 _ ?side1 ?side2 A32.out).mono ?_
                      (case side1 => repeat (first | exact (Kd.C_below HR222_0.out HB.out) | (with_reducible refine Kd.C_alloc ?_ _) | (with_reducible refine Kd.C_drewN ?_ _) | (with_reducible refine Kd.C_drew ?_)))
                      (case side2 => exact HC222_0.out)
                      rintro e w97 ⟨v227, rfl, ho0, hb⟩
                      refine ⟨_, rfl, ?_⟩
                      have n0_ := Aside0.mk (Kd.R_lower ho0 (below_size (by repeat (first | (with_reducible first | exact HB.out | apply below_alloc | apply pw_below_drewN | apply below_drew1 | refine below_set ?_ GE223.out) | exact HB.out))))
                      have n1_ := Aside0.mk (blk_below (g := gb223) (o := .cells #[.slice A222_0 ((rd_T70 l0 x3_1).f0).length c222_0, .slice A222_1 ((rd_T70 l0 x3_1).f1).length c222_1, .slice A222_2 ((rd_T70 l0 x3_1).f2).length c222_2] 70 (0, 0)) (by (with_reducible repeat (first | refine blk_drewN ?_ _ | refine blk_drew ?_ | refine blk_alloc ?_ _)); exact BK223.out) hb)
                      have n2_ := Aside0.mk (below_step (by repeat (first | (with_reducible first | exact HB.out | apply below_alloc | apply pw_below_drewN | apply below_drew1 | refine below_set ?_ GE223.out) | exact HB.out)) hb)
                      clear BK223
                      clear HB
                      have HO228 := n0_
                      have BK223 := n1_
                      have HB := n2_
                      clear n0_ n1_ n2_
                      (try clear hb)
                      (try clear hb2)
                      (try clear hk)
                      (try clear hi)
                      (try clear ho0)
                      refine hK.out _ _ ⟨(blk_cell BK223.out 0).trans rfl, (blk_cell BK223.out 1).trans rfl, (blk_cell BK223.out 2).trans rfl⟩ (fun hHeld => ?_)
                      clear hK K
                      refine norm_ (a' := ?_) ?_ ?_
                      rotate_left
                      · show Act.put _ (some 56) _ = _
                        simp only [Act.put, List.setIfInBounds_toArray, List.set_cons_zero, List.set_cons_succ, i64_w, i32_w, u32_w, u8_w, w64_m8, w64_m32, w64_bt]
                        rfl
                      refine one_ (i := 5) (N := some 59) #[true, true, true, true, true, true, false] rfl rfl (by kernel_rfl) (by decide) (fun K hK => ?_)
                      refine Kd.R_append_rows_step k24 (w0 := w) w.heap.size (by rfl) (.tmp 56) (.tmp 58) 67 24 (.agg #[(.int .i64 0), (.int .i64 0), (.string ⟨#[]⟩)]) 32 rfl Try.underlying67 info24 rfl (by decide) (by omega) v227 t226 ((rd_T70 l0 x3_1).f1) _ _ _ (fun _ => True) (fun _ => False) rfl rfl ?aO ?aR (fun _ _ h => h) (fun _ h => h.elim) ?aF ?aB ?aS ?aL ?_
                      (case aR => repeat (first | exact (Kd.C_below HR222_1.out HB.out) | (with_reducible refine Kd.C_alloc ?_ _) | (with_reducible refine Kd.C_drewN ?_ _) | (with_reducible refine Kd.C_drew ?_)))
                      (case aB => exact (by repeat (first | (with_reducible first | exact HB.out | apply below_alloc | apply pw_below_drewN | apply below_drew1 | refine below_set ?_ GE223.out) | exact HB.out)))
                      (case aF => exact (fun _ _ => trivial))
                      (case aO => exact (by (with_reducible repeat (first | apply Kd.R_alloc | apply Kd.R_drewN | apply Kd.R_drew)); exact HO228.out))
                      (case aS => exact (below_size (by repeat (first | (with_reducible first | exact HB.out | apply below_alloc | apply pw_below_drewN | apply below_drew1 | refine below_set ?_ GE223.out) | exact HB.out))))
                      (case aL => have := LMc33.out; omega)
                      intro v230 w98 ho hb hg hat
                      rw [← Ny229.out] at ho
                      have n0_ := Aside0.mk (blk_grown (g := gb223) (o := .cells #[.slice A222_0 ((rd_T70 l0 x3_1).f0).length c222_0, .slice A222_1 ((rd_T70 l0 x3_1).f1).length c222_1, .slice A222_2 ((rd_T70 l0 x3_1).f2).length c222_2] 70 (0, 0)) (by (with_reducible repeat (first | refine blk_drewN ?_ _ | refine blk_drew ?_ | refine blk_alloc ?_ _)); exact BK223.out) hg (Kd.R_ne HO228.out BK223.out (by decide)))
                      have n1_ := Aside0.mk (hb)
                      have n2_ := Aside0.mk (ho)
                      clear BK223
                      clear HB
                      clear HO228
                      have BK223 := n0_
                      have HB := n1_
                      have HO231 := n2_
                      clear n0_ n1_ n2_
                      clear ho hb hg hat
                      refine hK.out _ _ ⟨(blk_cell BK223.out 0).trans rfl, (blk_cell BK223.out 1).trans rfl, (blk_cell BK223.out 2).trans rfl⟩ (fun hHeld => ?_)
                      clear hK K
                      refine norm_ (a' := ?_) ?_ ?_
                      rotate_left
                      · show Act.put _ (some 59) _ = _
                        simp only [Act.put, List.setIfInBounds_toArray, List.set_cons_zero, List.set_cons_succ, i64_w, i32_w, u32_w, u8_w, w64_m8, w64_m32, w64_bt]
                        rfl
                      refine pure_ (i := 6) (N := some 5) (v := ?_) (a' := ?_) #[true, true, true, true, true, true, true] rfl rfl (by kernel_rfl) (fun _ _ _ h => h) (Or.inl ⟨by rfl, ?_⟩) ?_ ?_
                      rotate_left
                      · intro w'
                        go_simp
                        with_reducible rfl
                      rotate_left
                      · simp only [Act.put, List.setIfInBounds_toArray, List.set_cons_zero, List.set_cons_succ, i64_w, i32_w, u32_w, u8_w, w64_m8, w64_m32, w64_bt]
                        rfl
                      refine done_ (by kernel_rfl) ?_
                      have hcz99_0 : w98.cell? ⟨gb223, 0, none⟩ = some (.slice A222_0 ((rd_T70 l0 x3_1).f0).length c222_0) := (blk_cell BK223.out 0).trans rfl
                      have hcz99_1 : w98.cell? ⟨gb223, 1, none⟩ = some (.slice A222_1 ((rd_T70 l0 x3_1).f1).length c222_1) := (blk_cell BK223.out 1).trans rfl
                      have hcz99_2 : w98.cell? ⟨gb223, 2, none⟩ = some (.slice A222_2 ((rd_T70 l0 x3_1).f2).length c222_2) := (blk_cell BK223.out 2).trans rfl
                      have hfz99_0 := blk_frozen BK223.out 0
                      have hfz99_1 := blk_frozen BK223.out 1
                      have hfz99_2 := blk_frozen BK223.out 2
                      obtain ⟨Ao100, co100, eo100⟩ := Kd.R_slice HO231.out
                      subst eo100
                      try go_wp2_with (first | ((with_reducible refine gate_callee (f := 62) rfl ?_); refine goesL_ (some 64) rfl rfl Try.func62 (by kernel_rfl) rfl #[.slice Ao100 y229.length co100, .slice A222_0 ((rd_T70 l0 x3_1).f0).length c222_0] rfl (by (try simp only [List.map_toArray, List.map_cons, List.map_nil]); first | done | rfl | (simp only [List.length_drop, List.length_take]; rfl)) ?_; (with_reducible refine (keys_Begins.calls kj6 (fun k_ => some k_ = (.slice Ao100 y229.length co100 : Value).ownBlock) _ _ y229 (fun k_ => k_ < w.heap.size) _ _ ((rd_T70 l0 x3_1).f0) true t233 _ ?side1 ?side2 A34.out).mono ?_); (case side1 => exact Kd.R_V (Kd.R_tight rfl (Kd.R_types (HO231.out) BK223.out (by decide)))); (case side2 => exact Kd.V_mk HC222_0.out (Kd.F_below (Kd.C_F k24_heap HR222_0.out) (by repeat (first | (with_reducible first | exact HB.out | apply below_alloc | apply pw_below_drewN | apply below_drew1 | refine below_set ?_ GE223.out) | exact HB.out)))); rintro e w101 ⟨rfl, hb⟩; refine ⟨_, rfl, ?_⟩; have n0_ := Aside0.mk (Kd.R_below (by (with_reducible repeat (first | apply Kd.R_alloc | apply Kd.R_drewN | apply Kd.R_drew)); exact HO231.out) hb); have n1_ := Aside0.mk (blk_below (g := gb223) (o := .cells #[.slice A222_0 ((rd_T70 l0 x3_1).f0).length c222_0, .slice A222_1 ((rd_T70 l0 x3_1).f1).length c222_1, .slice A222_2 ((rd_T70 l0 x3_1).f2).length c222_2] 70 (0, 0)) (by (with_reducible repeat (first | refine blk_drewN ?_ _ | refine blk_drew ?_ | refine blk_alloc ?_ _)); exact BK223.out) hb); have n2_ := Aside0.mk (below_step (by repeat (first | (with_reducible first | exact HB.out | apply below_alloc | apply pw_below_drewN | apply below_drew1 | refine below_set ?_ GE223.out) | exact HB.out)) hb); clear HO231; clear BK223; clear HB; have HO231 := n0_; have BK223 := n1_; have HB := n2_; clear n0_ n1_ n2_; (try clear hb); (try clear hb2); (try clear hk); (try clear hi); have hcz102_0 : w101.cell? ⟨gb223, 0, none⟩ = some (.slice A222_0 ((rd_T70 l0 x3_1).f0).length c222_0) := (blk_cell BK223.out 0).trans rfl; have hcz102_1 : w101.cell? ⟨gb223, 1, none⟩ = some (.slice A222_1 ((rd_T70 l0 x3_1).f1).length c222_1) := (blk_cell BK223.out 1).trans rfl; have hcz102_2 : w101.cell? ⟨gb223, 2, none⟩ = some (.slice A222_2 ((rd_T70 l0 x3_1).f2).length c222_2) := (blk_cell BK223.out 2).trans rfl; have hfz102_0 := blk_frozen BK223.out 0; have hfz102_1 := blk_frozen BK223.out 1; have hfz102_2 := blk_frozen BK223.out 2) | ((with_reducible refine gate_callee (f := 62) rfl ?_); refine goesL_ (some 71) rfl rfl Try.func62 (by kernel_rfl) rfl #[.slice A222_0 ((rd_T70 l0 x3_1).f0).length c222_0, .slice Ao100 y229.length co100] rfl (by (try simp only [List.map_toArray, List.map_cons, List.map_nil]); first | done | rfl | (simp only [List.length_drop, List.length_take]; rfl)) ?_; (with_reducible refine (keys_Begins.calls kj6 (fun k_ => k_ < w.heap.size) _ _ ((rd_T70 l0 x3_1).f0) (fun k_ => some k_ = (.slice Ao100 y229.length co100 : Value).ownBlock) _ _ y229 false t235 _ ?side1 ?side2 A35.out).mono ?_); (case side1 => exact Kd.V_mk HC222_0.out (Kd.F_below (Kd.C_F k24_heap HR222_0.out) (by repeat (first | (with_reducible first | exact HB.out | apply below_alloc | apply pw_below_drewN | apply below_drew1 | refine below_set ?_ GE223.out) | exact HB.out)))); (case side2 => exact Kd.R_V (Kd.R_tight rfl (Kd.R_types (HO231.out) BK223.out (by decide)))); rintro e w103 ⟨rfl, hb⟩; refine ⟨_, rfl, ?_⟩; have n0_ := Aside0.mk (Kd.R_below (by (with_reducible repeat (first | apply Kd.R_alloc | apply Kd.R_drewN | apply Kd.R_drew)); exact HO231.out) hb); have n1_ := Aside0.mk (blk_below (g := gb223) (o := .cells #[.slice A222_0 ((rd_T70 l0 x3_1).f0).length c222_0, .slice A222_1 ((rd_T70 l0 x3_1).f1).length c222_1, .slice A222_2 ((rd_T70 l0 x3_1).f2).length c222_2] 70 (0, 0)) (by (with_reducible repeat (first | refine blk_drewN ?_ _ | refine blk_drew ?_ | refine blk_alloc ?_ _)); exact BK223.out) hb); have n2_ := Aside0.mk (below_step (by repeat (first | (with_reducible first | exact HB.out | apply below_alloc | apply pw_below_drewN | apply below_drew1 | refine below_set ?_ GE223.out) | exact HB.out)) hb); clear HO231; clear BK223; clear HB; have HO231 := n0_; have BK223 := n1_; have HB := n2_; clear n0_ n1_ n2_; (try clear hb); (try clear hb2); (try clear hk); (try clear hi); have hcz104_0 : w103.cell? ⟨gb223, 0, none⟩ = some (.slice A222_0 ((rd_T70 l0 x3_1).f0).length c222_0) := (blk_cell BK223.out 0).trans rfl; have hcz104_1 : w103.cell? ⟨gb223, 1, none⟩ = some (.slice A222_1 ((rd_T70 l0 x3_1).f1).length c222_1) := (blk_cell BK223.out 1).trans rfl; have hcz104_2 : w103.cell? ⟨gb223, 2, none⟩ = some (.slice A222_2 ((rd_T70 l0 x3_1).f2).length c222_2) := (blk_cell BK223.out 2).trans rfl; have hfz104_0 := blk_frozen BK223.out 0; have hfz104_1 := blk_frozen BK223.out 1; have hfz104_2 := blk_frozen BK223.out 2) | ((with_reducible refine gate_callee (f := 59) rfl ?_); refine goesL_ (some 78) rfl rfl Try.func59 (by kernel_rfl) rfl #[.slice Ao100 y229.length co100, .slice A222_0 ((rd_T70 l0 x3_1).f0).length c222_0] rfl (by (try simp only [List.map_toArray, List.map_cons, List.map_nil]); first | done | rfl | (simp only [List.length_drop, List.length_take]; rfl)) ?_; (with_reducible refine (keys_Cmp.calls kj6 (fun k_ => some k_ = (.slice Ao100 y229.length co100 : Value).ownBlock) _ _ y229 (fun k_ => k_ < w.heap.size) _ _ ((rd_T70 l0 x3_1).f0) t236 t237 _ ?side1 ?side2 A36.out).mono ?_); (case side1 => exact Kd.R_V (Kd.R_tight rfl (Kd.R_types (HO231.out) BK223.out (by decide)))); (case side2 => exact Kd.V_mk HC222_0.out (Kd.F_below (Kd.C_F k24_heap HR222_0.out) (by repeat (first | (with_reducible first | exact HB.out | apply below_alloc | apply pw_below_drewN | apply below_drew1 | refine below_set ?_ GE223.out) | exact HB.out)))); rintro e w105 ⟨rfl, hb⟩; refine ⟨_, rfl, ?_⟩; have n0_ := Aside0.mk (Kd.R_below (by (with_reducible repeat (first | apply Kd.R_alloc | apply Kd.R_drewN | apply Kd.R_drew)); exact HO231.out) hb); have n1_ := Aside0.mk (blk_below (g := gb223) (o := .cells #[.slice A222_0 ((rd_T70 l0 x3_1).f0).length c222_0, .slice A222_1 ((rd_T70 l0 x3_1).f1).length c222_1, .slice A222_2 ((rd_T70 l0 x3_1).f2).length c222_2] 70 (0, 0)) (by (with_reducible repeat (first | refine blk_drewN ?_ _ | refine blk_drew ?_ | refine blk_alloc ?_ _)); exact BK223.out) hb); have n2_ := Aside0.mk (below_step (by repeat (first | (with_reducible first | exact HB.out | apply below_alloc | apply pw_below_drewN | apply below_drew1 | refine below_set ?_ GE223.out) | exact HB.out)) hb); clear HO231; clear BK223; clear HB; have HO231 := n0_; have BK223 := n1_; have HB := n2_; clear n0_ n1_ n2_; (try clear hb); (try clear hb2); (try clear hk); (try clear hi)) | ((with_reducible refine gate_callee (f := 60) rfl ?_); refine goesL_ (some 82) rfl rfl Try.func60 (by kernel_rfl) rfl #[.int .i64 t233] rfl (by (try simp only [List.map_toArray, List.map_cons, List.map_nil]); first | done | rfl | (simp only [List.length_drop, List.length_take]; rfl)) ?_; (with_reducible refine (cadastrelaw7_num.calls t233 t238 _ A37.out).mono ?_); rintro e w' ⟨rfl, ⟨nd, rfl⟩⟩; refine ⟨_, rfl, ?_⟩) | (go_at_call 60; (with_reducible refine (cadastrelaw7_num.calls t235 t239 _ A49.out).mono ?_); rintro e w' ⟨rfl, ⟨nd, rfl⟩⟩; (try clear A49)) | (go_at_call 60; (with_reducible refine (cadastrelaw7_num.calls t237 t240 _ A61.out).mono ?_); rintro e w' ⟨rfl, ⟨nd, rfl⟩⟩; (try clear A61)))
                      go_ret
                      exact ⟨by first | rfl | (simp [errW_none, errW_some] <;> rfl) | (simp [*, errW_none, errW_some] <;> rfl), by repeat (first | (with_reducible first | exact HB.out | apply below_alloc | apply pw_below_drewN | apply below_drew1 | refine below_set ?_ GE223.out) | exact HB.out)⟩
                  · replace c73 := Bool.eq_false_iff.mpr c73
                    subst c73
                    have H1 : (some false) = some r := by rw [if_neg (show ¬ (false = true) by decide)] at H; exact H
                    clear H
                    have H := H1
                    clear H1
                    obtain rfl := Option.some.inj H
                    try go_wp2
                    have n0_ := Aside0.mk (blk_drew BK223.out)
                    have n1_ := Aside0.mk (below_drew1 HB.out)
                    clear BK223
                    clear HB
                    have BK223 := n0_
                    have HB := n1_
                    clear n0_ n1_
                    refine start_ (n := 7) (S := fun w' => w'.cell? ⟨gb223, 0, none⟩ = some (.slice A222_0 ((rd_T70 l0 x3_1).f0).length c222_0) ∧ w'.cell? ⟨gb223, 1, none⟩ = some (.slice A222_1 ((rd_T70 l0 x3_1).f1).length c222_1) ∧ w'.cell? ⟨gb223, 2, none⟩ = some (.slice A222_2 ((rd_T70 l0 x3_1).f2).length c222_2)) (ds := []) #[false, false, false, false, false, false, false] (by kernel_rfl) rfl rfl ⟨(blk_cell BK223.out 0).trans rfl, (blk_cell BK223.out 1).trans rfl, (blk_cell BK223.out 2).trans rfl⟩ (fun hHeld => ?_)
                    generalize wc.drew = w106 at BK223 HB hHeld ⊢
                    refine pure_ (i := 0) (N := some 54) (v := ?_) (a' := ?_) #[true, false, false, false, false, false, false] rfl rfl (by kernel_rfl) (fun _ _ _ h => h) (Or.inl ⟨by rfl, ?_⟩) ?_ ?_
                    rotate_left
                    · intro w'
                      go_simp
                      with_reducible rfl
                    rotate_left
                    · simp only [Act.put, List.setIfInBounds_toArray, List.set_cons_zero, List.set_cons_succ, i64_w, i32_w, u32_w, u8_w, w64_m8, w64_m32, w64_bt]
                      rfl
                    refine pure_ (i := 3) (N := some 57) (v := ?_) (a' := ?_) #[true, false, false, true, false, false, false] rfl rfl (by kernel_rfl) (fun _ _ _ h => h) (Or.inl ⟨by rfl, ?_⟩) ?_ ?_
                    rotate_left
                    · intro w'
                      go_simp
                      with_reducible rfl
                    rotate_left
                    · simp only [Act.put, List.setIfInBounds_toArray, List.set_cons_zero, List.set_cons_succ, i64_w, i32_w, u32_w, u8_w, w64_m8, w64_m32, w64_bt]
                      rfl
                    refine take_ (i := 1) (N := some 55) (v := ?_) (a' := ?_) #[true, true, false, true, false, false, false] rfl rfl (by kernel_rfl) (fun _ _ _ h => h) (Or.inl ⟨by rfl, ?_⟩) hHeld ?_ ?_
                    rotate_left
                    · rintro w' ⟨s0, s1, s2⟩
                      go_simp
                      with_reducible rfl
                    rotate_left
                    · simp only [Act.put, List.setIfInBounds_toArray, List.set_cons_zero, List.set_cons_succ, i64_w, i32_w, u32_w, u8_w, w64_m8, w64_m32, w64_bt]
                      rfl
                    refine take_ (i := 4) (N := some 58) (v := ?_) (a' := ?_) #[true, true, false, true, true, false, false] rfl rfl (by kernel_rfl) (fun _ _ _ h => h) (Or.inl ⟨by rfl, ?_⟩) hHeld ?_ ?_
                    rotate_left
                    · rintro w' ⟨s0, s1, s2⟩
                      go_simp
                      with_reducible rfl
                    rotate_left
                    · simp only [Act.put, List.setIfInBounds_toArray, List.set_cons_zero, List.set_cons_succ, i64_w, i32_w, u32_w, u8_w, w64_m8, w64_m32, w64_bt]
                      rfl
                    refine one_ (i := 2) (N := some 56) #[true, true, true, true, true, false, false] rfl rfl (by kernel_rfl) (by decide) (fun K hK => ?_)
                    refine goes_ Try.func64 (by kernel_rfl) rfl #[.slice A222_0 ((rd_T70 l0 x3_1).f0).length c222_0] (by rfl) rfl rfl (by (try simp only [List.map_toArray, List.map_cons, List.map_nil]); first | done | rfl | (simp only [List.length_drop, List.length_take]; rfl)) ?_
                    with_reducible refine (cadastreref0_CopyValues.calls kj6 _ _ ((rd_T70 l0 x3_1).f0) t226 _ ?side1 ?side2 A32.out).mono ?_
                    (case side1 => repeat (first | exact (Kd.C_below HR222_0.out HB.out) | (with_reducible refine Kd.C_alloc ?_ _) | (with_reducible refine Kd.C_drewN ?_ _) | (with_reducible refine Kd.C_drew ?_)))
                    (case side2 => exact HC222_0.out)
                    rintro e w107 ⟨v227, rfl, ho0, hb⟩
                    refine ⟨_, rfl, ?_⟩
                    have n0_ := Aside0.mk (Kd.R_lower ho0 (below_size (by repeat (first | (with_reducible first | exact HB.out | apply below_alloc | apply pw_below_drewN | apply below_drew1 | refine below_set ?_ GE223.out) | exact HB.out))))
                    have n1_ := Aside0.mk (blk_below (g := gb223) (o := .cells #[.slice A222_0 ((rd_T70 l0 x3_1).f0).length c222_0, .slice A222_1 ((rd_T70 l0 x3_1).f1).length c222_1, .slice A222_2 ((rd_T70 l0 x3_1).f2).length c222_2] 70 (0, 0)) (by (with_reducible repeat (first | refine blk_drewN ?_ _ | refine blk_drew ?_ | refine blk_alloc ?_ _)); exact BK223.out) hb)
                    have n2_ := Aside0.mk (below_step (by repeat (first | (with_reducible first | exact HB.out | apply below_alloc | apply pw_below_drewN | apply below_drew1 | refine below_set ?_ GE223.out) | exact HB.out)) hb)
                    clear BK223
                    clear HB
                    have HO228 := n0_
                    have BK223 := n1_
                    have HB := n2_
                    clear n0_ n1_ n2_
                    (try clear hb)
                    (try clear hb2)
                    (try clear hk)
                    (try clear hi)
                    (try clear ho0)
                    refine hK.out _ _ ⟨(blk_cell BK223.out 0).trans rfl, (blk_cell BK223.out 1).trans rfl, (blk_cell BK223.out 2).trans rfl⟩ (fun hHeld => ?_)
                    clear hK K
                    refine norm_ (a' := ?_) ?_ ?_
                    rotate_left
                    · show Act.put _ (some 56) _ = _
                      simp only [Act.put, List.setIfInBounds_toArray, List.set_cons_zero, List.set_cons_succ, i64_w, i32_w, u32_w, u8_w, w64_m8, w64_m32, w64_bt]
                      rfl
                    refine one_ (i := 5) (N := some 59) #[true, true, true, true, true, true, false] rfl rfl (by kernel_rfl) (by decide) (fun K hK => ?_)
                    refine Kd.R_append_rows_step k24 (w0 := w) w.heap.size (by rfl) (.tmp 56) (.tmp 58) 67 24 (.agg #[(.int .i64 0), (.int .i64 0), (.string ⟨#[]⟩)]) 32 rfl Try.underlying67 info24 rfl (by decide) (by omega) v227 t226 ((rd_T70 l0 x3_1).f1) _ _ _ (fun _ => True) (fun _ => False) rfl rfl ?aO ?aR (fun _ _ h => h) (fun _ h => h.elim) ?aF ?aB ?aS ?aL ?_
                    (case aR => repeat (first | exact (Kd.C_below HR222_1.out HB.out) | (with_reducible refine Kd.C_alloc ?_ _) | (with_reducible refine Kd.C_drewN ?_ _) | (with_reducible refine Kd.C_drew ?_)))
                    (case aB => exact (by repeat (first | (with_reducible first | exact HB.out | apply below_alloc | apply pw_below_drewN | apply below_drew1 | refine below_set ?_ GE223.out) | exact HB.out)))
                    (case aF => exact (fun _ _ => trivial))
                    (case aO => exact (by (with_reducible repeat (first | apply Kd.R_alloc | apply Kd.R_drewN | apply Kd.R_drew)); exact HO228.out))
                    (case aS => exact (below_size (by repeat (first | (with_reducible first | exact HB.out | apply below_alloc | apply pw_below_drewN | apply below_drew1 | refine below_set ?_ GE223.out) | exact HB.out))))
                    (case aL => have := LMc33.out; omega)
                    intro v230 w108 ho hb hg hat
                    rw [← Ny229.out] at ho
                    have n0_ := Aside0.mk (blk_grown (g := gb223) (o := .cells #[.slice A222_0 ((rd_T70 l0 x3_1).f0).length c222_0, .slice A222_1 ((rd_T70 l0 x3_1).f1).length c222_1, .slice A222_2 ((rd_T70 l0 x3_1).f2).length c222_2] 70 (0, 0)) (by (with_reducible repeat (first | refine blk_drewN ?_ _ | refine blk_drew ?_ | refine blk_alloc ?_ _)); exact BK223.out) hg (Kd.R_ne HO228.out BK223.out (by decide)))
                    have n1_ := Aside0.mk (hb)
                    have n2_ := Aside0.mk (ho)
                    clear BK223
                    clear HB
                    clear HO228
                    have BK223 := n0_
                    have HB := n1_
                    have HO231 := n2_
                    clear n0_ n1_ n2_
                    clear ho hb hg hat
                    refine hK.out _ _ ⟨(blk_cell BK223.out 0).trans rfl, (blk_cell BK223.out 1).trans rfl, (blk_cell BK223.out 2).trans rfl⟩ (fun hHeld => ?_)
                    clear hK K
                    refine norm_ (a' := ?_) ?_ ?_
                    rotate_left
                    · show Act.put _ (some 59) _ = _
                      simp only [Act.put, List.setIfInBounds_toArray, List.set_cons_zero, List.set_cons_succ, i64_w, i32_w, u32_w, u8_w, w64_m8, w64_m32, w64_bt]
                      rfl
                    refine pure_ (i := 6) (N := some 5) (v := ?_) (a' := ?_) #[true, true, true, true, true, true, true] rfl rfl (by kernel_rfl) (fun _ _ _ h => h) (Or.inl ⟨by rfl, ?_⟩) ?_ ?_
                    rotate_left
                    · intro w'
                      go_simp
                      with_reducible rfl
                    rotate_left
                    · simp only [Act.put, List.setIfInBounds_toArray, List.set_cons_zero, List.set_cons_succ, i64_w, i32_w, u32_w, u8_w, w64_m8, w64_m32, w64_bt]
                      rfl
                    refine done_ (by kernel_rfl) ?_
                    have hcz109_0 : w108.cell? ⟨gb223, 0, none⟩ = some (.slice A222_0 ((rd_T70 l0 x3_1).f0).length c222_0) := (blk_cell BK223.out 0).trans rfl
                    have hcz109_1 : w108.cell? ⟨gb223, 1, none⟩ = some (.slice A222_1 ((rd_T70 l0 x3_1).f1).length c222_1) := (blk_cell BK223.out 1).trans rfl
                    have hcz109_2 : w108.cell? ⟨gb223, 2, none⟩ = some (.slice A222_2 ((rd_T70 l0 x3_1).f2).length c222_2) := (blk_cell BK223.out 2).trans rfl
                    have hfz109_0 := blk_frozen BK223.out 0
                    have hfz109_1 := blk_frozen BK223.out 1
                    have hfz109_2 := blk_frozen BK223.out 2
                    obtain ⟨Ao110, co110, eo110⟩ := Kd.R_slice HO231.out
                    subst eo110
                    try go_wp2_with (first | ((with_reducible refine gate_callee (f := 62) rfl ?_); refine goesL_ (some 64) rfl rfl Try.func62 (by kernel_rfl) rfl #[.slice Ao110 y229.length co110, .slice A222_0 ((rd_T70 l0 x3_1).f0).length c222_0] rfl (by (try simp only [List.map_toArray, List.map_cons, List.map_nil]); first | done | rfl | (simp only [List.length_drop, List.length_take]; rfl)) ?_; (with_reducible refine (keys_Begins.calls kj6 (fun k_ => some k_ = (.slice Ao110 y229.length co110 : Value).ownBlock) _ _ y229 (fun k_ => k_ < w.heap.size) _ _ ((rd_T70 l0 x3_1).f0) false t233 _ ?side1 ?side2 A34.out).mono ?_); (case side1 => exact Kd.R_V (Kd.R_tight rfl (Kd.R_types (HO231.out) BK223.out (by decide)))); (case side2 => exact Kd.V_mk HC222_0.out (Kd.F_below (Kd.C_F k24_heap HR222_0.out) (by repeat (first | (with_reducible first | exact HB.out | apply below_alloc | apply pw_below_drewN | apply below_drew1 | refine below_set ?_ GE223.out) | exact HB.out)))); rintro e w111 ⟨rfl, hb⟩; refine ⟨_, rfl, ?_⟩; have n0_ := Aside0.mk (Kd.R_below (by (with_reducible repeat (first | apply Kd.R_alloc | apply Kd.R_drewN | apply Kd.R_drew)); exact HO231.out) hb); have n1_ := Aside0.mk (blk_below (g := gb223) (o := .cells #[.slice A222_0 ((rd_T70 l0 x3_1).f0).length c222_0, .slice A222_1 ((rd_T70 l0 x3_1).f1).length c222_1, .slice A222_2 ((rd_T70 l0 x3_1).f2).length c222_2] 70 (0, 0)) (by (with_reducible repeat (first | refine blk_drewN ?_ _ | refine blk_drew ?_ | refine blk_alloc ?_ _)); exact BK223.out) hb); have n2_ := Aside0.mk (below_step (by repeat (first | (with_reducible first | exact HB.out | apply below_alloc | apply pw_below_drewN | apply below_drew1 | refine below_set ?_ GE223.out) | exact HB.out)) hb); clear HO231; clear BK223; clear HB; have HO231 := n0_; have BK223 := n1_; have HB := n2_; clear n0_ n1_ n2_; (try clear hb); (try clear hb2); (try clear hk); (try clear hi); have hcz112_0 : w111.cell? ⟨gb223, 0, none⟩ = some (.slice A222_0 ((rd_T70 l0 x3_1).f0).length c222_0) := (blk_cell BK223.out 0).trans rfl; have hcz112_1 : w111.cell? ⟨gb223, 1, none⟩ = some (.slice A222_1 ((rd_T70 l0 x3_1).f1).length c222_1) := (blk_cell BK223.out 1).trans rfl; have hcz112_2 : w111.cell? ⟨gb223, 2, none⟩ = some (.slice A222_2 ((rd_T70 l0 x3_1).f2).length c222_2) := (blk_cell BK223.out 2).trans rfl; have hfz112_0 := blk_frozen BK223.out 0; have hfz112_1 := blk_frozen BK223.out 1; have hfz112_2 := blk_frozen BK223.out 2) | ((with_reducible refine gate_callee (f := 62) rfl ?_); refine goesL_ (some 71) rfl rfl Try.func62 (by kernel_rfl) rfl #[.slice A222_0 ((rd_T70 l0 x3_1).f0).length c222_0, .slice Ao110 y229.length co110] rfl (by (try simp only [List.map_toArray, List.map_cons, List.map_nil]); first | done | rfl | (simp only [List.length_drop, List.length_take]; rfl)) ?_; (with_reducible refine (keys_Begins.calls kj6 (fun k_ => k_ < w.heap.size) _ _ ((rd_T70 l0 x3_1).f0) (fun k_ => some k_ = (.slice Ao110 y229.length co110 : Value).ownBlock) _ _ y229 t234 t235 _ ?side1 ?side2 A35.out).mono ?_); (case side1 => exact Kd.V_mk HC222_0.out (Kd.F_below (Kd.C_F k24_heap HR222_0.out) (by repeat (first | (with_reducible first | exact HB.out | apply below_alloc | apply pw_below_drewN | apply below_drew1 | refine below_set ?_ GE223.out) | exact HB.out)))); (case side2 => exact Kd.R_V (Kd.R_tight rfl (Kd.R_types (HO231.out) BK223.out (by decide)))); rintro e w113 ⟨rfl, hb⟩; refine ⟨_, rfl, ?_⟩; have n0_ := Aside0.mk (Kd.R_below (by (with_reducible repeat (first | apply Kd.R_alloc | apply Kd.R_drewN | apply Kd.R_drew)); exact HO231.out) hb); have n1_ := Aside0.mk (blk_below (g := gb223) (o := .cells #[.slice A222_0 ((rd_T70 l0 x3_1).f0).length c222_0, .slice A222_1 ((rd_T70 l0 x3_1).f1).length c222_1, .slice A222_2 ((rd_T70 l0 x3_1).f2).length c222_2] 70 (0, 0)) (by (with_reducible repeat (first | refine blk_drewN ?_ _ | refine blk_drew ?_ | refine blk_alloc ?_ _)); exact BK223.out) hb); have n2_ := Aside0.mk (below_step (by repeat (first | (with_reducible first | exact HB.out | apply below_alloc | apply pw_below_drewN | apply below_drew1 | refine below_set ?_ GE223.out) | exact HB.out)) hb); clear HO231; clear BK223; clear HB; have HO231 := n0_; have BK223 := n1_; have HB := n2_; clear n0_ n1_ n2_; (try clear hb); (try clear hb2); (try clear hk); (try clear hi); have hcz114_0 : w113.cell? ⟨gb223, 0, none⟩ = some (.slice A222_0 ((rd_T70 l0 x3_1).f0).length c222_0) := (blk_cell BK223.out 0).trans rfl; have hcz114_1 : w113.cell? ⟨gb223, 1, none⟩ = some (.slice A222_1 ((rd_T70 l0 x3_1).f1).length c222_1) := (blk_cell BK223.out 1).trans rfl; have hcz114_2 : w113.cell? ⟨gb223, 2, none⟩ = some (.slice A222_2 ((rd_T70 l0 x3_1).f2).length c222_2) := (blk_cell BK223.out 2).trans rfl; have hfz114_0 := blk_frozen BK223.out 0; have hfz114_1 := blk_frozen BK223.out 1; have hfz114_2 := blk_frozen BK223.out 2) | ((with_reducible refine gate_callee (f := 59) rfl ?_); refine goesL_ (some 78) rfl rfl Try.func59 (by kernel_rfl) rfl #[.slice Ao110 y229.length co110, .slice A222_0 ((rd_T70 l0 x3_1).f0).length c222_0] rfl (by (try simp only [List.map_toArray, List.map_cons, List.map_nil]); first | done | rfl | (simp only [List.length_drop, List.length_take]; rfl)) ?_; (with_reducible refine (keys_Cmp.calls kj6 (fun k_ => some k_ = (.slice Ao110 y229.length co110 : Value).ownBlock) _ _ y229 (fun k_ => k_ < w.heap.size) _ _ ((rd_T70 l0 x3_1).f0) t236 t237 _ ?side1 ?side2 A36.out).mono ?_); (case side1 => exact Kd.R_V (Kd.R_tight rfl (Kd.R_types (HO231.out) BK223.out (by decide)))); (case side2 => exact Kd.V_mk HC222_0.out (Kd.F_below (Kd.C_F k24_heap HR222_0.out) (by repeat (first | (with_reducible first | exact HB.out | apply below_alloc | apply pw_below_drewN | apply below_drew1 | refine below_set ?_ GE223.out) | exact HB.out)))); rintro e w115 ⟨rfl, hb⟩; refine ⟨_, rfl, ?_⟩; have n0_ := Aside0.mk (Kd.R_below (by (with_reducible repeat (first | apply Kd.R_alloc | apply Kd.R_drewN | apply Kd.R_drew)); exact HO231.out) hb); have n1_ := Aside0.mk (blk_below (g := gb223) (o := .cells #[.slice A222_0 ((rd_T70 l0 x3_1).f0).length c222_0, .slice A222_1 ((rd_T70 l0 x3_1).f1).length c222_1, .slice A222_2 ((rd_T70 l0 x3_1).f2).length c222_2] 70 (0, 0)) (by (with_reducible repeat (first | refine blk_drewN ?_ _ | refine blk_drew ?_ | refine blk_alloc ?_ _)); exact BK223.out) hb); have n2_ := Aside0.mk (below_step (by repeat (first | (with_reducible first | exact HB.out | apply below_alloc | apply pw_below_drewN | apply below_drew1 | refine below_set ?_ GE223.out) | exact HB.out)) hb); clear HO231; clear BK223; clear HB; have HO231 := n0_; have BK223 := n1_; have HB := n2_; clear n0_ n1_ n2_; (try clear hb); (try clear hb2); (try clear hk); (try clear hi)) | ((with_reducible refine gate_callee (f := 60) rfl ?_); refine goesL_ (some 82) rfl rfl Try.func60 (by kernel_rfl) rfl #[.int .i64 t233] rfl (by (try simp only [List.map_toArray, List.map_cons, List.map_nil]); first | done | rfl | (simp only [List.length_drop, List.length_take]; rfl)) ?_; (with_reducible refine (cadastrelaw7_num.calls t233 t238 _ A37.out).mono ?_); rintro e w' ⟨rfl, ⟨nd, rfl⟩⟩; refine ⟨_, rfl, ?_⟩) | (go_at_call 60; (with_reducible refine (cadastrelaw7_num.calls t235 t239 _ A49.out).mono ?_); rintro e w' ⟨rfl, ⟨nd, rfl⟩⟩; (try clear A49)) | (go_at_call 60; (with_reducible refine (cadastrelaw7_num.calls t237 t240 _ A61.out).mono ?_); rintro e w' ⟨rfl, ⟨nd, rfl⟩⟩; (try clear A61)))
                    go_ret
                    exact ⟨by first | rfl | (simp [errW_none, errW_some] <;> rfl) | (simp [*, errW_none, errW_some] <;> rfl), by repeat (first | (with_reducible first | exact HB.out | apply below_alloc | apply pw_below_drewN | apply below_drew1 | refine below_set ?_ GE223.out) | exact HB.out)⟩
          · replace c4 := Bool.eq_false_iff.mpr c4
            subst c4
            have H1 : (if 18 ≤ 8796093022208 then ((keys_Begins.f kj1 (List.replicate 18 z24) ([] : List (S24))).bind fun bt218 => ((cadastrelaw7_num.f bt218.2).bind fun t220 => (if t220 = 7 then ((cadastrelaw7_wakes.f kj1).bind fun t221 => (some t221)) else (some false)))) else (none)) = some r := by rw [if_neg (show ¬ (false = true) by decide)] at H; exact H
            clear H
            have H := H1
            clear H1
            by_cases c116 : 18 ≤ 8796093022208
            rotate_left
            · rw [if_neg c116] at H
              exact absurd H (by simp)
            rw [if_pos c116] at H
            have c116b0 := eq_true c116
            have c116b1 : decide (18 ≤ 8796093022208) = true := decide_eq_true c116
            clear c116
            obtain ⟨y215, hy215⟩ : ∃ y_ : List (S24), y_ = (List.replicate 18 z24) := ⟨_, rfl⟩
            replace H : ((keys_Begins.f kj1 y215 ([] : List (S24))).bind fun bt218 => ((cadastrelaw7_num.f bt218.2).bind fun t220 => (if t220 = 7 then ((cadastrelaw7_wakes.f kj1).bind fun t221 => (some t221)) else (some false)))) = some r := by first | (rw [hy215]; with_reducible exact H) | (have H2_ := (Option.bind_some _ _).symm.trans H; rw [hy215]; with_reducible exact H2_) | (have H2_ := (Option.bind_some _ _).symm.trans H; with_reducible exact H2_) | with_reducible exact H | (rw [hy215]; exact H) | exact H
            have Ny215 := Aside0.mk hy215
            clear hy215
            replace H := Option.bind_eq_some_iff.mp H
            obtain ⟨⟨t218, t219⟩, A1170, H⟩ := H
            replace H : ((cadastrelaw7_num.f t219).bind fun t220 => (if t220 = 7 then ((cadastrelaw7_wakes.f kj1).bind fun t221 => (some t221)) else (some false))) = some r := H
            have A117 := Aside0.mk A1170
            clear A1170
            replace H := Option.bind_eq_some_iff.mp H
            obtain ⟨t220, A1180, H⟩ := H
            replace H : (if t220 = 7 then ((cadastrelaw7_wakes.f kj1).bind fun t221 => (some t221)) else (some false)) = some r := H
            have A118 := Aside0.mk A1180
            clear A1180
            by_cases c119 : t220 = 7
            rotate_left
            · rw [if_neg c119] at H
              have c119b0 : (t220 == 7) = false := beq_eq_false_iff_ne.mpr c119
              have c119b1 : (t220 != 7) = true := bne_iff_ne.mpr c119
              obtain rfl := Option.some.inj H
              go_wp2_with (first | ((with_reducible refine gate_dst (N := 106) rfl ?_); (try (refine gate_guard (by rfl) ?_; dsimp only)); refine Kd.R_make k24 _ 24 rfl (N := 106) rfl 67 _ _ rfl 18 rfl rfl Try.underlying67 (.agg #[(.int .i64 0), (.int .i64 0), (.string ⟨#[]⟩)]) 32 info24 rfl (by decide) (by omega) z24 (ok := fun _ => True) (okp := fun _ => True) (k24_mkM _ _ _ z24 ) (fun _ hk => hk) trivial (by omega) (by omega) (Below.refl _ _) (Nat.le_refl _) ?_; intro v216 w120 ho121 hb hg_ hnew_; clear hg_ hnew_; (first | rw [← Ny215.out] at ho121 | (simp only [Int.reduceToNat] at ho121; rw [← Ny215.out] at ho121)); have n0_ := Aside0.mk (Kd.R_lower ho121 (below_size (by repeat (first | (with_reducible first | exact HB.out | apply below_alloc | apply pw_below_drewN | apply below_drew1) | exact HB.out)))); have n1_ := Aside0.mk (below_step (by repeat (first | (with_reducible first | exact HB.out | apply below_alloc | apply pw_below_drewN | apply below_drew1) | exact HB.out)) hb); clear HB; have HO217 := n0_; have HB := n1_; clear n0_ n1_; clear hb ho121; obtain ⟨Ao122, co122, eo122⟩ := Kd.R_slice HO217.out; subst eo122) | ((with_reducible refine gate_callee (f := 62) rfl ?_); refine goesL_ (some 107) rfl rfl Try.func62 (by kernel_rfl) rfl #[.slice Ao122 y215.length co122, .slice none 0 0] rfl (by (try simp only [List.map_toArray, List.map_cons, List.map_nil]); first | done | rfl | (simp only [List.length_drop, List.length_take]; rfl)) ?_; (refine (keys_Begins.calls kj1 (fun k_ => some k_ = (.slice Ao122 y215.length co122 : Value).ownBlock) _ _ y215 (fun k_ => False) _ _ ([] : List (S24)) t218 t219 _ ?side1 ?side2 A117.out).mono ?_); (case side1 => exact Kd.R_V (Kd.R_tight rfl (HO217.out))); (case side2 => exact Kd.V_nil _ _ _ _ _); rintro e w123 ⟨rfl, hb⟩; refine ⟨_, rfl, ?_⟩; have n0_ := Aside0.mk (Kd.R_below (by (with_reducible repeat (first | apply Kd.R_alloc | apply Kd.R_drewN | apply Kd.R_drew)); exact HO217.out) hb); have n1_ := Aside0.mk (below_step (by repeat (first | (with_reducible first | exact HB.out | apply below_alloc | apply pw_below_drewN | apply below_drew1) | exact HB.out)) hb); clear HO217; clear HB; have HO217 := n0_; have HB := n1_; clear n0_ n1_; (try clear hb); (try clear hb2); (try clear hk); (try clear hi)) | ((with_reducible refine gate_callee (f := 60) rfl ?_); refine goesL_ (some 111) rfl rfl Try.func60 (by kernel_rfl) rfl #[.int .i64 t219] rfl (by (try simp only [List.map_toArray, List.map_cons, List.map_nil]); first | done | rfl | (simp only [List.length_drop, List.length_take]; rfl)) ?_; (with_reducible refine (cadastrelaw7_num.calls t219 t220 _ A118.out).mono ?_); rintro e w' ⟨rfl, ⟨nd, rfl⟩⟩; refine ⟨_, rfl, ?_⟩))
              go_ret
              exact ⟨by first | rfl | (simp [errW_none, errW_some] <;> rfl) | (simp [*, errW_none, errW_some] <;> rfl), by repeat (first | (with_reducible first | exact HB.out | apply below_alloc | apply pw_below_drewN | apply below_drew1) | exact HB.out)⟩
            rw [if_pos c119] at H
            have c119b0 : (t220 == 7) = true := beq_iff_eq.mpr c119
            have c119b1 : (t220 != 7) = false := bne_eq_false_iff_eq.mpr c119
            clear c119
            replace H := Option.bind_eq_some_iff.mp H
            obtain ⟨t221, A1240, H⟩ := H
            replace H : (some t221) = some r := H
            have A124 := Aside0.mk A1240
            clear A1240
            obtain rfl := Option.some.inj H
            go_wp2_with (first | ((with_reducible refine gate_dst (N := 106) rfl ?_); (try (refine gate_guard (by rfl) ?_; dsimp only)); refine Kd.R_make k24 _ 24 rfl (N := 106) rfl 67 _ _ rfl 18 rfl rfl Try.underlying67 (.agg #[(.int .i64 0), (.int .i64 0), (.string ⟨#[]⟩)]) 32 info24 rfl (by decide) (by omega) z24 (ok := fun _ => True) (okp := fun _ => True) (k24_mkM _ _ _ z24 ) (fun _ hk => hk) trivial (by omega) (by omega) (Below.refl _ _) (Nat.le_refl _) ?_; intro v216 w125 ho126 hb hg_ hnew_; clear hg_ hnew_; (first | rw [← Ny215.out] at ho126 | (simp only [Int.reduceToNat] at ho126; rw [← Ny215.out] at ho126)); have n0_ := Aside0.mk (Kd.R_lower ho126 (below_size (by repeat (first | (with_reducible first | exact HB.out | apply below_alloc | apply pw_below_drewN | apply below_drew1) | exact HB.out)))); have n1_ := Aside0.mk (below_step (by repeat (first | (with_reducible first | exact HB.out | apply below_alloc | apply pw_below_drewN | apply below_drew1) | exact HB.out)) hb); clear HB; have HO217 := n0_; have HB := n1_; clear n0_ n1_; clear hb ho126; obtain ⟨Ao127, co127, eo127⟩ := Kd.R_slice HO217.out; subst eo127) | ((with_reducible refine gate_callee (f := 62) rfl ?_); refine goesL_ (some 107) rfl rfl Try.func62 (by kernel_rfl) rfl #[.slice Ao127 y215.length co127, .slice none 0 0] rfl (by (try simp only [List.map_toArray, List.map_cons, List.map_nil]); first | done | rfl | (simp only [List.length_drop, List.length_take]; rfl)) ?_; (refine (keys_Begins.calls kj1 (fun k_ => some k_ = (.slice Ao127 y215.length co127 : Value).ownBlock) _ _ y215 (fun k_ => False) _ _ ([] : List (S24)) t218 t219 _ ?side1 ?side2 A117.out).mono ?_); (case side1 => exact Kd.R_V (Kd.R_tight rfl (HO217.out))); (case side2 => exact Kd.V_nil _ _ _ _ _); rintro e w128 ⟨rfl, hb⟩; refine ⟨_, rfl, ?_⟩; have n0_ := Aside0.mk (Kd.R_below (by (with_reducible repeat (first | apply Kd.R_alloc | apply Kd.R_drewN | apply Kd.R_drew)); exact HO217.out) hb); have n1_ := Aside0.mk (below_step (by repeat (first | (with_reducible first | exact HB.out | apply below_alloc | apply pw_below_drewN | apply below_drew1) | exact HB.out)) hb); clear HO217; clear HB; have HO217 := n0_; have HB := n1_; clear n0_ n1_; (try clear hb); (try clear hb2); (try clear hk); (try clear hi)) | ((with_reducible refine gate_callee (f := 60) rfl ?_); refine goesL_ (some 111) rfl rfl Try.func60 (by kernel_rfl) rfl #[.int .i64 t219] rfl (by (try simp only [List.map_toArray, List.map_cons, List.map_nil]); first | done | rfl | (simp only [List.length_drop, List.length_take]; rfl)) ?_; (with_reducible refine (cadastrelaw7_num.calls t219 t220 _ A118.out).mono ?_); rintro e w' ⟨rfl, ⟨nd, rfl⟩⟩; refine ⟨_, rfl, ?_⟩) | (go_at_call 61; (with_reducible refine (cadastrelaw7_wakes.calls kj1  t221 _ A124.out).mono ?_); rintro e w129 ⟨rfl, hb⟩; have n0_ := Aside0.mk (Kd.R_below (by (with_reducible repeat (first | apply Kd.R_alloc | apply Kd.R_drewN | apply Kd.R_drew)); exact HO217.out) hb); have n1_ := Aside0.mk (below_step (by repeat (first | (with_reducible first | exact HB.out | apply below_alloc | apply pw_below_drewN | apply below_drew1) | exact HB.out)) hb); clear HO217; clear HB; have HO217 := n0_; have HB := n1_; clear n0_ n1_; (try clear hb); (try clear hb2); (try clear hk); (try clear hi); (try clear A124)))
            go_ret
            exact ⟨by first | rfl | (simp [errW_none, errW_some] <;> rfl) | (simp [*, errW_none, errW_some] <;> rfl), by repeat (first | (with_reducible first | exact HB.out | apply below_alloc | apply pw_below_drewN | apply below_drew1) | exact HB.out)⟩

end Go.Proofs.Ytaodnkhpiiepiaa.K
