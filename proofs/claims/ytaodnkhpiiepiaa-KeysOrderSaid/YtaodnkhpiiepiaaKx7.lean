-- Made by a program of this session (gprint.py, over the kit's printing program).
import Derived.Test.YtaodnkhpiiepiaaKx0
import Derived.Test.YtaodnkhpiiepiaaKx2
import Derived.Test.YtaodnkhpiiepiaaKx5
import Derived.Test.YtaodnkhpiiepiaaKx6
namespace Go.Proofs.Ytaodnkhpiiepiaa.K
open Go.RowKit Go.Proofs.YtaodnkhpiiepiaaG Go.Proofs.YtaodnkhpiiepiaaW.PrintWords Go.Proofs.YtaodnkhpiiepiaaW.PrintLast Go.Proofs.YtaodnkhpiiepiaaW.PrintMore
attribute [local go_sem] max2_int min2_int max_two min_two max_three min_three max_four min_four   -- for this text's walks alone
set_option linter.unusedVariables false
set_option linter.unusedSimpArgs false

/-! ### cadastrelaw7_KeysOrder: function 19 -/
mutual
def cadastrelaw7_KeysOrder.l0 : Nat → List (S70) → Int → Option (Bool)
  | 0, _, _ => none
  | k + 1, x0, x3 => if x3 < (x0.length : Int) then (cadastrelaw7_KeysOrder.j1 k x0 x3 (decide (x3 < 12))) else (cadastrelaw7_KeysOrder.j1 k x0 x3 false)
def cadastrelaw7_KeysOrder.j1 : Nat → List (S70) → Int → Bool → Option (Bool)
  | 0, _, _, _ => none
  | k + 1, x0, x3, x25 => if x25 = true then (if 0 ≤ x3 then (if x3 < (x0.length : Int) then ((cadastrelaw7_heavy.f k ((rd_T70 x0 x3).f0) ((rd_T70 x0 x3).f1) ((rd_T70 x0 x3).f2)).bind fun t179 => (if t179 = true then (cadastrelaw7_KeysOrder.j2 k x0 x3 true ((rd_T70 x0 x3).f0) ((rd_T70 x0 x3).f1) ((rd_T70 x0 x3).f2)) else ((cadastrelaw7_both.f k ((rd_T70 x0 x3).f0) ((rd_T70 x0 x3).f1)).bind fun t180 => (cadastrelaw7_KeysOrder.j2 k x0 x3 (t180 != 0) ((rd_T70 x0 x3).f0) ((rd_T70 x0 x3).f1) ((rd_T70 x0 x3).f2))))) else (none)) else (none)) else ((cadastrelaw7_wakes.f k).bind fun t176 => (some t176))
def cadastrelaw7_KeysOrder.j2 : Nat → List (S70) → Int → Bool → List (S24) → List (S24) → List (List (S24)) → Option (Bool)
  | 0, _, _, _, _, _, _ => none
  | k + 1, x0, x3, x41, x179000, x179001, x179002 => if x41 = true then (cadastrelaw7_KeysOrder.l0 k x0 (wrap64 (x3 + 1))) else ((keys_Cmp.f k x179000 x179001).bind fun bt181 => ((keys_Cmp.f k x179001 x179000).bind fun bt183 => ((keys_Begins.f k x179000 x179000).bind fun bt185 => ((keys_Begins.f k x179000 ([] : List (S24))).bind fun bt187 => ((cadastrelaw7_num.f bt181.2).bind fun t189 => (if t189 = 0 then ((cadastrelaw7_num.f bt183.2).bind fun t190 => (if t190 = 0 then ((cadastrelaw7_num.f bt185.2).bind fun t191 => (if t191 = 0 then ((cadastrelaw7_num.f bt187.2).bind fun t192 => (if t192 = 0 then (if bt181.1 = (wrap64 (-bt183.1)) then (if bt185.1 = true then (if bt187.1 = true then ((cadastreref0_EqValues.f k x179000 x179001).bind fun t193 => (cadastrelaw7_KeysOrder.j3 k x0 x3 bt181.1 ((bt181.1 == 0) != t193) x179000 x179001 x179002)) else (cadastrelaw7_KeysOrder.j3 k x0 x3 bt181.1 true x179000 x179001 x179002)) else (cadastrelaw7_KeysOrder.j3 k x0 x3 bt181.1 true x179000 x179001 x179002)) else (cadastrelaw7_KeysOrder.j3 k x0 x3 bt181.1 true x179000 x179001 x179002)) else (cadastrelaw7_KeysOrder.j3 k x0 x3 bt181.1 true x179000 x179001 x179002))) else (cadastrelaw7_KeysOrder.j3 k x0 x3 bt181.1 true x179000 x179001 x179002))) else (cadastrelaw7_KeysOrder.j3 k x0 x3 bt181.1 true x179000 x179001 x179002))) else (cadastrelaw7_KeysOrder.j3 k x0 x3 bt181.1 true x179000 x179001 x179002)))))))
def cadastrelaw7_KeysOrder.j3 : Nat → List (S70) → Int → Int → Bool → List (S24) → List (S24) → List (List (S24)) → Option (Bool)
  | 0, _, _, _, _, _, _, _ => none
  | k + 1, x0, x3, x5, x113, x179000, x179001, x179002 => if x113 = true then (some false) else ((keys_Begins.f k x179000 x179001).bind fun bt194 => ((cadastrelaw7_num.f bt194.2).bind fun t196 => (if t196 = 0 then (if bt194.1 = true then (cadastrelaw7_KeysOrder.j4 k x0 x3 x5 (decide (x5 < 0)) x179000 x179001 x179002) else (cadastrelaw7_KeysOrder.j4 k x0 x3 x5 false x179000 x179001 x179002)) else (cadastrelaw7_KeysOrder.j4 k x0 x3 x5 true x179000 x179001 x179002))))
def cadastrelaw7_KeysOrder.j4 : Nat → List (S70) → Int → Int → Bool → List (S24) → List (S24) → List (List (S24)) → Option (Bool)
  | 0, _, _, _, _, _, _, _ => none
  | k + 1, x0, x3, x5, x131, x179000, x179001, x179002 => if x131 = true then (some false) else (if (x179000.length : Int) > 16 then (cadastrelaw7_KeysOrder.j5 k x0 x3 x5 true x179000 x179001 x179002) else (cadastrelaw7_KeysOrder.j5 k x0 x3 x5 (decide ((x179001.length : Int) > 16)) x179000 x179001 x179002))
def cadastrelaw7_KeysOrder.j5 : Nat → List (S70) → Int → Int → Bool → List (S24) → List (S24) → List (List (S24)) → Option (Bool)
  | 0, _, _, _, _, _, _, _ => none
  | k + 1, x0, x3, x5, x141, x179000, x179001, x179002 => if x141 = true then (cadastrelaw7_KeysOrder.l0 k x0 (wrap64 (x3 + 1))) else ((some (([(⟨2, 0, (⟨#[120]⟩ : ByteArray)⟩ : S24)] : List (S24)) : List (S24))).bind fun y197 => ((cadastreref0_CopyValues.f k y197).bind fun t200 => (if t200.length + x179000.length < 4398046511104 then ((cadastreref0_CopyValues.f k y197).bind fun t206 => (if t206.length + x179001.length < 4398046511104 then ((keys_Cmp.f k (t200 ++ x179000) (t206 ++ x179001)).bind fun bt212 => ((cadastrelaw7_num.f bt212.2).bind fun t214 => (if t214 = 0 then (if bt212.1 = x5 then (cadastrelaw7_KeysOrder.l0 k x0 (wrap64 (x3 + 1))) else (some false)) else (some false)))) else (none))) else (none))))
end
def cadastrelaw7_KeysOrder.f (k : Nat) (l0 : List (S70)) : Option (Bool) := cadastrelaw7_KeysOrder.l0 k l0 0
theorem cadastrelaw7_KeysOrder.mono_l : ∀ k, (∀ y0 y1, LeO (cadastrelaw7_KeysOrder.l0 k y0 y1) (cadastrelaw7_KeysOrder.l0 (k + 1) y0 y1)) ∧ (∀ y0 y1 y2, LeO (cadastrelaw7_KeysOrder.j1 k y0 y1 y2) (cadastrelaw7_KeysOrder.j1 (k + 1) y0 y1 y2)) ∧ (∀ y0 y1 y2 y3 y4 y5, LeO (cadastrelaw7_KeysOrder.j2 k y0 y1 y2 y3 y4 y5) (cadastrelaw7_KeysOrder.j2 (k + 1) y0 y1 y2 y3 y4 y5)) ∧ (∀ y0 y1 y2 y3 y4 y5 y6, LeO (cadastrelaw7_KeysOrder.j3 k y0 y1 y2 y3 y4 y5 y6) (cadastrelaw7_KeysOrder.j3 (k + 1) y0 y1 y2 y3 y4 y5 y6)) ∧ (∀ y0 y1 y2 y3 y4 y5 y6, LeO (cadastrelaw7_KeysOrder.j4 k y0 y1 y2 y3 y4 y5 y6) (cadastrelaw7_KeysOrder.j4 (k + 1) y0 y1 y2 y3 y4 y5 y6)) ∧ (∀ y0 y1 y2 y3 y4 y5 y6, LeO (cadastrelaw7_KeysOrder.j5 k y0 y1 y2 y3 y4 y5 y6) (cadastrelaw7_KeysOrder.j5 (k + 1) y0 y1 y2 y3 y4 y5 y6))
  | 0 => ⟨fun _ _ r h => by simp [cadastrelaw7_KeysOrder.l0] at h, fun _ _ _ r h => by simp [cadastrelaw7_KeysOrder.j1] at h, fun _ _ _ _ _ _ r h => by simp [cadastrelaw7_KeysOrder.j2] at h, fun _ _ _ _ _ _ _ r h => by simp [cadastrelaw7_KeysOrder.j3] at h, fun _ _ _ _ _ _ _ r h => by simp [cadastrelaw7_KeysOrder.j4] at h, fun _ _ _ _ _ _ _ r h => by simp [cadastrelaw7_KeysOrder.j5] at h⟩
  | k + 1 => by
    obtain ⟨ih0, ih1, ih2, ih3, ih4, ih5⟩ := cadastrelaw7_KeysOrder.mono_l k
    refine ⟨?_, ?_, ?_, ?_, ?_, ?_⟩
    · intro y0 y1
      unfold cadastrelaw7_KeysOrder.l0
      repeat' first
      | (with_reducible exact ih0 _ _)
      | (with_reducible exact ih1 _ _ _)
      | (with_reducible exact ih2 _ _ _ _ _ _)
      | (with_reducible exact ih3 _ _ _ _ _ _ _)
      | (with_reducible exact ih4 _ _ _ _ _ _ _)
      | (with_reducible exact ih5 _ _ _ _ _ _ _)
      | (with_reducible exact cadastrelaw7_both.mono _ _ _)
      | (with_reducible exact cadastrelaw7_heavy.mono _ _ _ _)
      | (with_reducible exact cadastrelaw7_wakes.mono _)
      | (with_reducible exact cadastreref0_CopyValues.mono _ _)
      | (with_reducible exact cadastreref0_EqValues.mono _ _ _)
      | (with_reducible exact keys_Begins.mono _ _ _)
      | (with_reducible exact keys_Cmp.mono _ _ _)
      | (with_reducible exact LeO.refl _)
      | (with_reducible exact LeO.none _)
      | (with_reducible refine LeO.ite ?_ ?_)
      | (with_reducible refine LeO.bind ?_ (fun _ => ?_))
      | exact ih0 _ _
      | exact ih1 _ _ _
      | exact ih2 _ _ _ _ _ _
      | exact ih3 _ _ _ _ _ _ _
      | exact ih4 _ _ _ _ _ _ _
      | exact ih5 _ _ _ _ _ _ _
      | exact cadastrelaw7_both.mono _ _ _
      | exact cadastrelaw7_heavy.mono _ _ _ _
      | exact cadastrelaw7_wakes.mono _
      | exact cadastreref0_CopyValues.mono _ _
      | exact cadastreref0_EqValues.mono _ _ _
      | exact keys_Begins.mono _ _ _
      | exact keys_Cmp.mono _ _ _
      | exact LeO.none _
      | refine LeO.ite ?_ ?_
      | refine LeO.bind ?_ (fun _ => ?_)
    · intro y0 y1 y2
      unfold cadastrelaw7_KeysOrder.j1
      repeat' first
      | (with_reducible exact ih0 _ _)
      | (with_reducible exact ih1 _ _ _)
      | (with_reducible exact ih2 _ _ _ _ _ _)
      | (with_reducible exact ih3 _ _ _ _ _ _ _)
      | (with_reducible exact ih4 _ _ _ _ _ _ _)
      | (with_reducible exact ih5 _ _ _ _ _ _ _)
      | (with_reducible exact cadastrelaw7_both.mono _ _ _)
      | (with_reducible exact cadastrelaw7_heavy.mono _ _ _ _)
      | (with_reducible exact cadastrelaw7_wakes.mono _)
      | (with_reducible exact cadastreref0_CopyValues.mono _ _)
      | (with_reducible exact cadastreref0_EqValues.mono _ _ _)
      | (with_reducible exact keys_Begins.mono _ _ _)
      | (with_reducible exact keys_Cmp.mono _ _ _)
      | (with_reducible exact LeO.refl _)
      | (with_reducible exact LeO.none _)
      | (with_reducible refine LeO.ite ?_ ?_)
      | (with_reducible refine LeO.bind ?_ (fun _ => ?_))
      | exact ih0 _ _
      | exact ih1 _ _ _
      | exact ih2 _ _ _ _ _ _
      | exact ih3 _ _ _ _ _ _ _
      | exact ih4 _ _ _ _ _ _ _
      | exact ih5 _ _ _ _ _ _ _
      | exact cadastrelaw7_both.mono _ _ _
      | exact cadastrelaw7_heavy.mono _ _ _ _
      | exact cadastrelaw7_wakes.mono _
      | exact cadastreref0_CopyValues.mono _ _
      | exact cadastreref0_EqValues.mono _ _ _
      | exact keys_Begins.mono _ _ _
      | exact keys_Cmp.mono _ _ _
      | exact LeO.none _
      | refine LeO.ite ?_ ?_
      | refine LeO.bind ?_ (fun _ => ?_)
    · intro y0 y1 y2 y3 y4 y5
      unfold cadastrelaw7_KeysOrder.j2
      repeat' first
      | (with_reducible exact ih0 _ _)
      | (with_reducible exact ih1 _ _ _)
      | (with_reducible exact ih2 _ _ _ _ _ _)
      | (with_reducible exact ih3 _ _ _ _ _ _ _)
      | (with_reducible exact ih4 _ _ _ _ _ _ _)
      | (with_reducible exact ih5 _ _ _ _ _ _ _)
      | (with_reducible exact cadastrelaw7_both.mono _ _ _)
      | (with_reducible exact cadastrelaw7_heavy.mono _ _ _ _)
      | (with_reducible exact cadastrelaw7_wakes.mono _)
      | (with_reducible exact cadastreref0_CopyValues.mono _ _)
      | (with_reducible exact cadastreref0_EqValues.mono _ _ _)
      | (with_reducible exact keys_Begins.mono _ _ _)
      | (with_reducible exact keys_Cmp.mono _ _ _)
      | (with_reducible exact LeO.refl _)
      | (with_reducible exact LeO.none _)
      | (with_reducible refine LeO.ite ?_ ?_)
      | (with_reducible refine LeO.bind ?_ (fun _ => ?_))
      | exact ih0 _ _
      | exact ih1 _ _ _
      | exact ih2 _ _ _ _ _ _
      | exact ih3 _ _ _ _ _ _ _
      | exact ih4 _ _ _ _ _ _ _
      | exact ih5 _ _ _ _ _ _ _
      | exact cadastrelaw7_both.mono _ _ _
      | exact cadastrelaw7_heavy.mono _ _ _ _
      | exact cadastrelaw7_wakes.mono _
      | exact cadastreref0_CopyValues.mono _ _
      | exact cadastreref0_EqValues.mono _ _ _
      | exact keys_Begins.mono _ _ _
      | exact keys_Cmp.mono _ _ _
      | exact LeO.none _
      | refine LeO.ite ?_ ?_
      | refine LeO.bind ?_ (fun _ => ?_)
    · intro y0 y1 y2 y3 y4 y5 y6
      unfold cadastrelaw7_KeysOrder.j3
      repeat' first
      | (with_reducible exact ih0 _ _)
      | (with_reducible exact ih1 _ _ _)
      | (with_reducible exact ih2 _ _ _ _ _ _)
      | (with_reducible exact ih3 _ _ _ _ _ _ _)
      | (with_reducible exact ih4 _ _ _ _ _ _ _)
      | (with_reducible exact ih5 _ _ _ _ _ _ _)
      | (with_reducible exact cadastrelaw7_both.mono _ _ _)
      | (with_reducible exact cadastrelaw7_heavy.mono _ _ _ _)
      | (with_reducible exact cadastrelaw7_wakes.mono _)
      | (with_reducible exact cadastreref0_CopyValues.mono _ _)
      | (with_reducible exact cadastreref0_EqValues.mono _ _ _)
      | (with_reducible exact keys_Begins.mono _ _ _)
      | (with_reducible exact keys_Cmp.mono _ _ _)
      | (with_reducible exact LeO.refl _)
      | (with_reducible exact LeO.none _)
      | (with_reducible refine LeO.ite ?_ ?_)
      | (with_reducible refine LeO.bind ?_ (fun _ => ?_))
      | exact ih0 _ _
      | exact ih1 _ _ _
      | exact ih2 _ _ _ _ _ _
      | exact ih3 _ _ _ _ _ _ _
      | exact ih4 _ _ _ _ _ _ _
      | exact ih5 _ _ _ _ _ _ _
      | exact cadastrelaw7_both.mono _ _ _
      | exact cadastrelaw7_heavy.mono _ _ _ _
      | exact cadastrelaw7_wakes.mono _
      | exact cadastreref0_CopyValues.mono _ _
      | exact cadastreref0_EqValues.mono _ _ _
      | exact keys_Begins.mono _ _ _
      | exact keys_Cmp.mono _ _ _
      | exact LeO.none _
      | refine LeO.ite ?_ ?_
      | refine LeO.bind ?_ (fun _ => ?_)
    · intro y0 y1 y2 y3 y4 y5 y6
      unfold cadastrelaw7_KeysOrder.j4
      repeat' first
      | (with_reducible exact ih0 _ _)
      | (with_reducible exact ih1 _ _ _)
      | (with_reducible exact ih2 _ _ _ _ _ _)
      | (with_reducible exact ih3 _ _ _ _ _ _ _)
      | (with_reducible exact ih4 _ _ _ _ _ _ _)
      | (with_reducible exact ih5 _ _ _ _ _ _ _)
      | (with_reducible exact cadastrelaw7_both.mono _ _ _)
      | (with_reducible exact cadastrelaw7_heavy.mono _ _ _ _)
      | (with_reducible exact cadastrelaw7_wakes.mono _)
      | (with_reducible exact cadastreref0_CopyValues.mono _ _)
      | (with_reducible exact cadastreref0_EqValues.mono _ _ _)
      | (with_reducible exact keys_Begins.mono _ _ _)
      | (with_reducible exact keys_Cmp.mono _ _ _)
      | (with_reducible exact LeO.refl _)
      | (with_reducible exact LeO.none _)
      | (with_reducible refine LeO.ite ?_ ?_)
      | (with_reducible refine LeO.bind ?_ (fun _ => ?_))
      | exact ih0 _ _
      | exact ih1 _ _ _
      | exact ih2 _ _ _ _ _ _
      | exact ih3 _ _ _ _ _ _ _
      | exact ih4 _ _ _ _ _ _ _
      | exact ih5 _ _ _ _ _ _ _
      | exact cadastrelaw7_both.mono _ _ _
      | exact cadastrelaw7_heavy.mono _ _ _ _
      | exact cadastrelaw7_wakes.mono _
      | exact cadastreref0_CopyValues.mono _ _
      | exact cadastreref0_EqValues.mono _ _ _
      | exact keys_Begins.mono _ _ _
      | exact keys_Cmp.mono _ _ _
      | exact LeO.none _
      | refine LeO.ite ?_ ?_
      | refine LeO.bind ?_ (fun _ => ?_)
    · intro y0 y1 y2 y3 y4 y5 y6
      unfold cadastrelaw7_KeysOrder.j5
      repeat' first
      | (with_reducible exact ih0 _ _)
      | (with_reducible exact ih1 _ _ _)
      | (with_reducible exact ih2 _ _ _ _ _ _)
      | (with_reducible exact ih3 _ _ _ _ _ _ _)
      | (with_reducible exact ih4 _ _ _ _ _ _ _)
      | (with_reducible exact ih5 _ _ _ _ _ _ _)
      | (with_reducible exact cadastrelaw7_both.mono _ _ _)
      | (with_reducible exact cadastrelaw7_heavy.mono _ _ _ _)
      | (with_reducible exact cadastrelaw7_wakes.mono _)
      | (with_reducible exact cadastreref0_CopyValues.mono _ _)
      | (with_reducible exact cadastreref0_EqValues.mono _ _ _)
      | (with_reducible exact keys_Begins.mono _ _ _)
      | (with_reducible exact keys_Cmp.mono _ _ _)
      | (with_reducible exact LeO.refl _)
      | (with_reducible exact LeO.none _)
      | (with_reducible refine LeO.ite ?_ ?_)
      | (with_reducible refine LeO.bind ?_ (fun _ => ?_))
      | exact ih0 _ _
      | exact ih1 _ _ _
      | exact ih2 _ _ _ _ _ _
      | exact ih3 _ _ _ _ _ _ _
      | exact ih4 _ _ _ _ _ _ _
      | exact ih5 _ _ _ _ _ _ _
      | exact cadastrelaw7_both.mono _ _ _
      | exact cadastrelaw7_heavy.mono _ _ _ _
      | exact cadastrelaw7_wakes.mono _
      | exact cadastreref0_CopyValues.mono _ _
      | exact cadastreref0_EqValues.mono _ _ _
      | exact keys_Begins.mono _ _ _
      | exact keys_Cmp.mono _ _ _
      | exact LeO.none _
      | refine LeO.ite ?_ ?_
      | refine LeO.bind ?_ (fun _ => ?_)
theorem cadastrelaw7_KeysOrder.mono : ∀ a0 k, LeO (cadastrelaw7_KeysOrder.f k a0) (cadastrelaw7_KeysOrder.f (k + 1) a0) := by
  intro a0 k
  obtain ⟨ih0, ih1, ih2, ih3, ih4, ih5⟩ := cadastrelaw7_KeysOrder.mono_l k
  unfold cadastrelaw7_KeysOrder.f
  repeat' first
      | (with_reducible exact ih0 _ _)
      | (with_reducible exact ih1 _ _ _)
      | (with_reducible exact ih2 _ _ _ _ _ _)
      | (with_reducible exact ih3 _ _ _ _ _ _ _)
      | (with_reducible exact ih4 _ _ _ _ _ _ _)
      | (with_reducible exact ih5 _ _ _ _ _ _ _)
      | (with_reducible exact cadastrelaw7_both.mono _ _ _)
      | (with_reducible exact cadastrelaw7_heavy.mono _ _ _ _)
      | (with_reducible exact cadastrelaw7_wakes.mono _)
      | (with_reducible exact cadastreref0_CopyValues.mono _ _)
      | (with_reducible exact cadastreref0_EqValues.mono _ _ _)
      | (with_reducible exact keys_Begins.mono _ _ _)
      | (with_reducible exact keys_Cmp.mono _ _ _)
      | (with_reducible exact LeO.refl _)
      | (with_reducible exact LeO.none _)
      | (with_reducible refine LeO.ite ?_ ?_)
      | (with_reducible refine LeO.bind ?_ (fun _ => ?_))
      | exact ih0 _ _
      | exact ih1 _ _ _
      | exact ih2 _ _ _ _ _ _
      | exact ih3 _ _ _ _ _ _ _
      | exact ih4 _ _ _ _ _ _ _
      | exact ih5 _ _ _ _ _ _ _
      | exact cadastrelaw7_both.mono _ _ _
      | exact cadastrelaw7_heavy.mono _ _ _ _
      | exact cadastrelaw7_wakes.mono _
      | exact cadastreref0_CopyValues.mono _ _
      | exact cadastreref0_EqValues.mono _ _ _
      | exact keys_Begins.mono _ _ _
      | exact keys_Cmp.mono _ _ _
      | exact LeO.none _
      | refine LeO.ite ?_ ?_
      | refine LeO.bind ?_ (fun _ => ?_)
def cadastrelaw7_KeysOrder.T17 : Bool × List (List Nat × List Nat) := (true, [([], []), ([0], [0]), ([], []), ([2], [2]), ([1, 3, 1], [1, 3]), ([], []), ([5, 4], [5]), ([], []), ([7], [7]), ([6, 8, 6], [6, 8]), ([4, 9, 9], [4, 9]), ([10], [10]), ([11], [11]), ([11], [11]), ([12, 10, 0, 1, 2, 3, 4, 5, 6, 7, 8, 9, 10, 11, 12], [12]), ([13, 14, 0, 1, 2, 3, 4, 5, 6, 7, 8, 9, 10, 11, 12, 13, 14], [13])])
def cadastrelaw7_KeysOrder.B17 : List Nat := [0, 1, 0, 4, 15, 0, 63, 0, 128, 511, 1023, 2047, 4095, 4095, 8191, 32767]
theorem cadastrelaw7_KeysOrder.tab17 : rtab .any (opsOf Try.f19 17) = cadastrelaw7_KeysOrder.T17 := by kernel_rfl
theorem cadastrelaw7_KeysOrder.bits17 : waitsOk cadastrelaw7_KeysOrder.T17.2 cadastrelaw7_KeysOrder.B17 = true := by kernel_rfl
set_option maxHeartbeats 8000000 in
set_option maxRecDepth 100000 in
theorem cadastrelaw7_KeysOrder.calls (k : Nat) (A0 : Option Addr) (c0 : Nat) (l0 : List (S70)) (r : Bool) (w : World) (hr0 : Kd.C k70 w A0 l0.length l0) (hc0 : l0.length ≤ c0) (h : cadastrelaw7_KeysOrder.f k l0 = some r) :
    Calls Try.prog 19 #[.slice A0 l0.length c0] w fun e w' => e = .returned (.bool r) ∧ Below w.heap.size w w' := by
  have hu70 := Try.underlying70
  have hu24 := Try.underlying24
  have HR0 := Aside0.mk hr0
  have HC0 := Aside0.mk hc0
  clear hr0 hc0
  have HB := Aside0.mk (Below.refl w.heap.size w)
  have H : (cadastrelaw7_KeysOrder.l0 k l0 0) = some r := h
  clear h
  have H' := Aside0.mk H
  clear H
  go_enter Try.func19, Try.ntmps19
  go_wp2
  go_loopg [3] k (fun kq v3 w' => ∃ (x3_1 : Int), v3 = .int .i64 x3_1 ∧ Aside0 (cadastrelaw7_KeysOrder.l0 kq l0 x3_1 = some r) ∧ Aside0 (kq ≤ k) ∧ Aside0 (Below w.heap.size w w'))
  case atStart => exact ⟨(0), (by first | rfl | (simp; done) | (simp [*]; done)), H', ⟨Nat.le_refl _⟩, ⟨by repeat (first | (with_reducible first | exact HB.out | apply below_alloc | apply pw_below_drewN | apply below_drew1) | exact HB.out)⟩⟩
  case round =>
    clear H'
    try clear c1
    obtain ⟨x3_1, rfl, HA, HK1, HB⟩ := hrel
    cases gk with
    | zero => exact absurd HA.out (by simp [cadastrelaw7_KeysOrder.l0])
    | succ k1 =>
      have H := HA.out
      clear HA
      simp only [cadastrelaw7_KeysOrder.l0] at H
      have HC2 := Aside0.mk H
      clear H
      go_upto_region 2 with (fail)
      go_cut [25] (fun v25 wc => ∃ (kq : Nat) (x25_1 : Bool), v25 = .bool x25_1 ∧ Aside0 (cadastrelaw7_KeysOrder.j1 kq l0 x3_1 x25_1 = some r) ∧ Aside0 (kq ≤ k1) ∧ Aside0 (Below w.heap.size w wc))
      case first =>
        have H := HC2.out
        clear HC2
        by_cases c3 : x3_1 < (l0.length : Int)
        · rw [if_pos c3] at H
          have c3b0 : decide (x3_1 < (l0.length : Int)) = true := decide_eq_true c3
          clear c3
          (first | rw [c3b0] | (simp only [i64_w, i32_w]; rw [c3b0]) | skip)
          have H' := Aside0.mk H
          clear H
          go_wp2
          go_meet
          case rel => exact ⟨_, (decide (x3_1 < 12)), (by first | rfl | (simp; done) | (simp [*]; done)), H', ⟨by have := HK1.out; first | omega | exact Nat.le_refl _⟩, ⟨by repeat (first | (with_reducible first | exact HB.out | apply below_alloc | apply pw_below_drewN | apply below_drew1) | exact HB.out)⟩⟩
        rw [if_neg c3] at H
        have c3b0 : decide (x3_1 < (l0.length : Int)) = false := decide_eq_false c3
        clear c3
        (first | rw [c3b0] | (simp only [i64_w, i32_w]; rw [c3b0]) | skip)
        have H' := Aside0.mk H
        clear H
        go_wp2
        go_meet
        case rel => exact ⟨_, (false), (by first | rfl | (simp; done) | (simp [*]; done)), H', ⟨by have := HK1.out; first | omega | exact Nat.le_refl _⟩, ⟨by repeat (first | (with_reducible first | exact HB.out | apply below_alloc | apply pw_below_drewN | apply below_drew1) | exact HB.out)⟩⟩
      case rest => as_aux_lemma =>
        clear HC2
        try clear c1
        try clear p2
        try clear c3
        try clear c3b0
        obtain ⟨kq, x25_1, rfl, HA, HJ1, HB⟩ := hcut
        cases kq with
        | zero => exact absurd HA.out (by simp [cadastrelaw7_KeysOrder.j1])
        | succ kj1 =>
          have H := HA.out
          clear HA
          simp only [cadastrelaw7_KeysOrder.j1] at H
          by_cases c4 : x25_1 = true
          · subst c4
            have H1 : (if 0 ≤ x3_1 then (if x3_1 < (l0.length : Int) then ((cadastrelaw7_heavy.f kj1 ((rd_T70 l0 x3_1).f0) ((rd_T70 l0 x3_1).f1) ((rd_T70 l0 x3_1).f2)).bind fun t179 => (if t179 = true then (cadastrelaw7_KeysOrder.j2 kj1 l0 x3_1 true ((rd_T70 l0 x3_1).f0) ((rd_T70 l0 x3_1).f1) ((rd_T70 l0 x3_1).f2)) else ((cadastrelaw7_both.f kj1 ((rd_T70 l0 x3_1).f0) ((rd_T70 l0 x3_1).f1)).bind fun t180 => (cadastrelaw7_KeysOrder.j2 kj1 l0 x3_1 (t180 != 0) ((rd_T70 l0 x3_1).f0) ((rd_T70 l0 x3_1).f1) ((rd_T70 l0 x3_1).f2))))) else (none)) else (none)) = some r := by rw [if_pos rfl] at H; exact H
            clear H
            have H := H1
            clear H1
            by_cases c5 : 0 ≤ x3_1
            rotate_left
            · rw [if_neg c5] at H
              exact absurd H (by simp)
            rw [if_pos c5] at H
            have c5b0 : decide (0 ≤ x3_1) = true := decide_eq_true c5
            clear c5
            by_cases c6 : x3_1 < (l0.length : Int)
            rotate_left
            · rw [if_neg c6] at H
              exact absurd H (by simp)
            rw [if_pos c6] at H
            have c6b0 : decide (x3_1 < (l0.length : Int)) = true := decide_eq_true c6
            clear c6
            have HC7 := Aside0.mk H
            clear H
            have p177 : 0 ≤ (x3_1 : Int) := of_decide_eq_true (by first | (with_reducible assumption) | assumption)
            have q177 : x3_1 < (l0.length : Int) := of_decide_eq_true (by first | (with_reducible assumption) | assumption)
            obtain ⟨ad177, A177_0, c177_0, A177_1, c177_1, A177_2, c177_2, e177, hx177_0, hx177_1, hx177_2, hl177_0, hi177_0, hl177_1, hi177_1, hl177_2, hi177_2⟩ := at_T70 HR0.out x3_1 p177 q177
            cases e177
            replace hx177_0 := (HB.out.cell (World.block_lt_of_cell? w _ hx177_0)).trans hx177_0
            replace hx177_1 := (HB.out.cell (World.block_lt_of_cell? w _ hx177_1)).trans hx177_1
            replace hx177_2 := (HB.out.cell (World.block_lt_of_cell? w _ hx177_2)).trans hx177_2
            have HR177_0 := Aside0.mk hi177_0
            have HC177_0 := Aside0.mk hl177_0
            clear hi177_0 hl177_0
            have HR177_1 := Aside0.mk hi177_1
            have HC177_1 := Aside0.mk hl177_1
            clear hi177_1 hl177_1
            have HR177_2 := Aside0.mk hi177_2
            have HC177_2 := Aside0.mk hl177_2
            clear hi177_2 hl177_2
            replace p177 := eq_true p177
            replace q177 := eq_true q177
            go_upto_region 5 with (first | ((with_reducible refine gate_dst (N := 4) rfl ?_); (try (refine gate_guard (by rfl) ?_; dsimp only)); refine box_event ?hg (N := 4) ?hd (cs := #[.slice none 0 0, .slice none 0 0, .slice none 0 0]) (t := 70) ?hr ?_; (case hd => rfl); (case hg => rfl); (case hr => first | (go_simp; done) | (go_simp; rfl)); intro gb178 hg w8 hbox hb; have n0_ := Aside0.mk (below_step (by repeat (first | (with_reducible first | exact HB.out | apply below_alloc | apply pw_below_drewN | apply below_drew1) | exact HB.out)) hb); have n1_ := Aside0.mk (hbox); have n2_ := Aside0.mk ((by rw [hg]; exact (below_size (by repeat (first | (with_reducible first | exact HB.out | apply below_alloc | apply pw_below_drewN | apply below_drew1) | exact HB.out))) : w.heap.size ≤ gb178)); have n3_ := Aside0.mk ((by rw [hg]; exact (below_size (by repeat (first | (with_reducible first | exact HB.out | apply below_alloc | apply pw_below_drewN | apply below_drew1) | exact HB.out))) : w.heap.size ≤ gb178)); clear HB; have HB := n0_; have BK178 := n1_; have GW178 := n2_; have GE178 := n3_; clear n0_ n1_ n2_ n3_; clear hb hbox hg; have hcz9_0 : w8.cell? ⟨gb178, 0, none⟩ = some (.slice none 0 0) := (blk_cell BK178.out 0).trans rfl; have hcz9_1 : w8.cell? ⟨gb178, 1, none⟩ = some (.slice none 0 0) := (blk_cell BK178.out 1).trans rfl; have hcz9_2 : w8.cell? ⟨gb178, 2, none⟩ = some (.slice none 0 0) := (blk_cell BK178.out 2).trans rfl; have hfz9_0 := blk_frozen BK178.out 0; have hfz9_1 := blk_frozen BK178.out 1; have hfz9_2 := blk_frozen BK178.out 2))
            (try simp only [Act.put, List.setIfInBounds_toArray, List.set_cons_zero, List.set_cons_succ])
            go_cut [41] (fun v41 wc => ∃ (kq : Nat) (x41_6 : Bool), v41 = .bool x41_6 ∧ Aside0 (cadastrelaw7_KeysOrder.j2 kq l0 x3_1 x41_6 ((rd_T70 l0 x3_1).f0) ((rd_T70 l0 x3_1).f1) ((rd_T70 l0 x3_1).f2) = some r) ∧ Aside0 (kq ≤ kj1) ∧ Aside0 (wc.heap[gb178]? = some (.cells #[(.slice A177_0 ((rd_T70 l0 x3_1).f0).length c177_0), (.slice A177_1 ((rd_T70 l0 x3_1).f1).length c177_1), (.slice A177_2 ((rd_T70 l0 x3_1).f2).length c177_2)] 70 (0, 0))) ∧ Aside0 (Below w.heap.size w wc))
            case first =>
              have H := HC7.out
              clear HC7
              replace H := Option.bind_eq_some_iff.mp H
              obtain ⟨t179, A100, H⟩ := H
              replace H : (if t179 = true then (cadastrelaw7_KeysOrder.j2 kj1 l0 x3_1 true ((rd_T70 l0 x3_1).f0) ((rd_T70 l0 x3_1).f1) ((rd_T70 l0 x3_1).f2)) else ((cadastrelaw7_both.f kj1 ((rd_T70 l0 x3_1).f0) ((rd_T70 l0 x3_1).f1)).bind fun t180 => (cadastrelaw7_KeysOrder.j2 kj1 l0 x3_1 (t180 != 0) ((rd_T70 l0 x3_1).f0) ((rd_T70 l0 x3_1).f1) ((rd_T70 l0 x3_1).f2)))) = some r := H
              have A10 := Aside0.mk A100
              clear A100
              by_cases c11 : t179 = true
              · subst c11
                have H1 : (cadastrelaw7_KeysOrder.j2 kj1 l0 x3_1 true ((rd_T70 l0 x3_1).f0) ((rd_T70 l0 x3_1).f1) ((rd_T70 l0 x3_1).f2)) = some r := by rw [if_pos rfl] at H; exact H
                clear H
                have H := H1
                clear H1
                have H' := Aside0.mk H
                clear H
                have hcz12_0 : w8.cell? ⟨gb178, 0, none⟩ = some (.slice none 0 0) := (blk_cell BK178.out 0).trans rfl
                have hcz12_1 : w8.cell? ⟨gb178, 1, none⟩ = some (.slice none 0 0) := (blk_cell BK178.out 1).trans rfl
                have hcz12_2 : w8.cell? ⟨gb178, 2, none⟩ = some (.slice none 0 0) := (blk_cell BK178.out 2).trans rfl
                have hfz12_0 := blk_frozen BK178.out 0
                have hfz12_1 := blk_frozen BK178.out 1
                have hfz12_2 := blk_frozen BK178.out 2
                go_wp2_with (first | ((with_reducible refine gate_callee (f := 56) rfl ?_); refine goesL_ (some 33) rfl rfl Try.func56 (by kernel_rfl) rfl #[.agg #[.slice A177_0 ((rd_T70 l0 x3_1).f0).length c177_0, .slice A177_1 ((rd_T70 l0 x3_1).f1).length c177_1, .slice A177_2 ((rd_T70 l0 x3_1).f2).length c177_2]] rfl (by (try simp only [List.map_toArray, List.map_cons, List.map_nil]); first | done | rfl | (simp only [List.length_drop, List.length_take]; rfl)) ?_; (with_reducible refine (cadastrelaw7_heavy.calls kj1 _ _ ((rd_T70 l0 x3_1).f0) _ _ ((rd_T70 l0 x3_1).f1) _ _ ((rd_T70 l0 x3_1).f2) true _ ?side1 ?side2 ?side3 ?side4 ?side5 ?side6 A10.out).mono ?_); (case side1 => exact Kd.C_below HR177_0.out (by repeat (first | (with_reducible first | exact HB.out | apply below_alloc | apply pw_below_drewN | apply below_drew1 | refine below_set ?_ GE178.out) | exact HB.out))); (case side2 => exact HC177_0.out); (case side3 => exact Kd.C_below HR177_1.out (by repeat (first | (with_reducible first | exact HB.out | apply below_alloc | apply pw_below_drewN | apply below_drew1 | refine below_set ?_ GE178.out) | exact HB.out))); (case side4 => exact HC177_1.out); (case side5 => exact Kd.C_below HR177_2.out (by repeat (first | (with_reducible first | exact HB.out | apply below_alloc | apply pw_below_drewN | apply below_drew1 | refine below_set ?_ GE178.out) | exact HB.out))); (case side6 => exact HC177_2.out); rintro e w13 ⟨rfl, hb⟩; refine ⟨_, rfl, ?_⟩; have n0_ := Aside0.mk (blk_below (g := gb178) (o := .cells #[.slice A177_0 ((rd_T70 l0 x3_1).f0).length c177_0, .slice A177_1 ((rd_T70 l0 x3_1).f1).length c177_1, .slice A177_2 ((rd_T70 l0 x3_1).f2).length c177_2] 70 (0, 0)) (by (with_reducible repeat (first | refine blk_drewN ?_ _ | refine blk_drew ?_ | refine blk_alloc ?_ _)); refine blk_put (cs := #[.slice A177_0 ((rd_T70 l0 x3_1).f0).length c177_0, .slice A177_1 ((rd_T70 l0 x3_1).f1).length c177_1, .slice none 0 0]) ?_ 2 _ rfl; (with_reducible repeat (first | refine blk_drewN ?_ _ | refine blk_drew ?_ | refine blk_alloc ?_ _)); refine blk_put (cs := #[.slice A177_0 ((rd_T70 l0 x3_1).f0).length c177_0, .slice none 0 0, .slice none 0 0]) ?_ 1 _ rfl; (with_reducible repeat (first | refine blk_drewN ?_ _ | refine blk_drew ?_ | refine blk_alloc ?_ _)); refine blk_put (cs := #[.slice none 0 0, .slice none 0 0, .slice none 0 0]) ?_ 0 _ rfl; (with_reducible repeat (first | refine blk_drewN ?_ _ | refine blk_drew ?_ | refine blk_alloc ?_ _)); exact BK178.out) hb); have n1_ := Aside0.mk (below_step (by repeat (first | (with_reducible first | exact HB.out | apply below_alloc | apply pw_below_drewN | apply below_drew1 | refine below_set ?_ GE178.out) | exact HB.out)) hb); clear BK178; clear HB; have BK178 := n0_; have HB := n1_; clear n0_ n1_; (try clear hb); (try clear hb2); (try clear hk); (try clear hi)))
                go_meet
                case rel => exact ⟨_, (true), (by first | rfl | (simp; done) | (simp [*]; done)), H', ⟨by have := HK1.out; have := HJ1.out; first | omega | exact Nat.le_refl _⟩, ⟨by (with_reducible repeat (first | refine blk_drewN ?_ _ | refine blk_drew ?_ | refine blk_alloc ?_ _)); exact BK178.out⟩, ⟨by repeat (first | (with_reducible first | exact HB.out | apply below_alloc | apply pw_below_drewN | apply below_drew1 | refine below_set ?_ GE178.out) | exact HB.out)⟩⟩
              · replace c11 := Bool.eq_false_iff.mpr c11
                subst c11
                have H1 : ((cadastrelaw7_both.f kj1 ((rd_T70 l0 x3_1).f0) ((rd_T70 l0 x3_1).f1)).bind fun t180 => (cadastrelaw7_KeysOrder.j2 kj1 l0 x3_1 (t180 != 0) ((rd_T70 l0 x3_1).f0) ((rd_T70 l0 x3_1).f1) ((rd_T70 l0 x3_1).f2))) = some r := by rw [if_neg (show ¬ (false = true) by decide)] at H; exact H
                clear H
                have H := H1
                clear H1
                replace H := Option.bind_eq_some_iff.mp H
                obtain ⟨t180, A140, H⟩ := H
                replace H : (cadastrelaw7_KeysOrder.j2 kj1 l0 x3_1 (t180 != 0) ((rd_T70 l0 x3_1).f0) ((rd_T70 l0 x3_1).f1) ((rd_T70 l0 x3_1).f2)) = some r := H
                have A14 := Aside0.mk A140
                clear A140
                have H' := Aside0.mk H
                clear H
                have hcz15_0 : w8.cell? ⟨gb178, 0, none⟩ = some (.slice none 0 0) := (blk_cell BK178.out 0).trans rfl
                have hcz15_1 : w8.cell? ⟨gb178, 1, none⟩ = some (.slice none 0 0) := (blk_cell BK178.out 1).trans rfl
                have hcz15_2 : w8.cell? ⟨gb178, 2, none⟩ = some (.slice none 0 0) := (blk_cell BK178.out 2).trans rfl
                have hfz15_0 := blk_frozen BK178.out 0
                have hfz15_1 := blk_frozen BK178.out 1
                have hfz15_2 := blk_frozen BK178.out 2
                go_wp2_with (first | ((with_reducible refine gate_callee (f := 56) rfl ?_); refine goesL_ (some 33) rfl rfl Try.func56 (by kernel_rfl) rfl #[.agg #[.slice A177_0 ((rd_T70 l0 x3_1).f0).length c177_0, .slice A177_1 ((rd_T70 l0 x3_1).f1).length c177_1, .slice A177_2 ((rd_T70 l0 x3_1).f2).length c177_2]] rfl (by (try simp only [List.map_toArray, List.map_cons, List.map_nil]); first | done | rfl | (simp only [List.length_drop, List.length_take]; rfl)) ?_; (with_reducible refine (cadastrelaw7_heavy.calls kj1 _ _ ((rd_T70 l0 x3_1).f0) _ _ ((rd_T70 l0 x3_1).f1) _ _ ((rd_T70 l0 x3_1).f2) false _ ?side1 ?side2 ?side3 ?side4 ?side5 ?side6 A10.out).mono ?_); (case side1 => exact Kd.C_below HR177_0.out (by repeat (first | (with_reducible first | exact HB.out | apply below_alloc | apply pw_below_drewN | apply below_drew1 | refine below_set ?_ GE178.out) | exact HB.out))); (case side2 => exact HC177_0.out); (case side3 => exact Kd.C_below HR177_1.out (by repeat (first | (with_reducible first | exact HB.out | apply below_alloc | apply pw_below_drewN | apply below_drew1 | refine below_set ?_ GE178.out) | exact HB.out))); (case side4 => exact HC177_1.out); (case side5 => exact Kd.C_below HR177_2.out (by repeat (first | (with_reducible first | exact HB.out | apply below_alloc | apply pw_below_drewN | apply below_drew1 | refine below_set ?_ GE178.out) | exact HB.out))); (case side6 => exact HC177_2.out); rintro e w16 ⟨rfl, hb⟩; refine ⟨_, rfl, ?_⟩; have n0_ := Aside0.mk (blk_below (g := gb178) (o := .cells #[.slice A177_0 ((rd_T70 l0 x3_1).f0).length c177_0, .slice A177_1 ((rd_T70 l0 x3_1).f1).length c177_1, .slice A177_2 ((rd_T70 l0 x3_1).f2).length c177_2] 70 (0, 0)) (by (with_reducible repeat (first | refine blk_drewN ?_ _ | refine blk_drew ?_ | refine blk_alloc ?_ _)); refine blk_put (cs := #[.slice A177_0 ((rd_T70 l0 x3_1).f0).length c177_0, .slice A177_1 ((rd_T70 l0 x3_1).f1).length c177_1, .slice none 0 0]) ?_ 2 _ rfl; (with_reducible repeat (first | refine blk_drewN ?_ _ | refine blk_drew ?_ | refine blk_alloc ?_ _)); refine blk_put (cs := #[.slice A177_0 ((rd_T70 l0 x3_1).f0).length c177_0, .slice none 0 0, .slice none 0 0]) ?_ 1 _ rfl; (with_reducible repeat (first | refine blk_drewN ?_ _ | refine blk_drew ?_ | refine blk_alloc ?_ _)); refine blk_put (cs := #[.slice none 0 0, .slice none 0 0, .slice none 0 0]) ?_ 0 _ rfl; (with_reducible repeat (first | refine blk_drewN ?_ _ | refine blk_drew ?_ | refine blk_alloc ?_ _)); exact BK178.out) hb); have n1_ := Aside0.mk (below_step (by repeat (first | (with_reducible first | exact HB.out | apply below_alloc | apply pw_below_drewN | apply below_drew1 | refine below_set ?_ GE178.out) | exact HB.out)) hb); clear BK178; clear HB; have BK178 := n0_; have HB := n1_; clear n0_ n1_; (try clear hb); (try clear hb2); (try clear hk); (try clear hi); have hcz17_0 : w16.cell? ⟨gb178, 0, none⟩ = some (.slice A177_0 ((rd_T70 l0 x3_1).f0).length c177_0) := (blk_cell BK178.out 0).trans rfl; have hcz17_1 : w16.cell? ⟨gb178, 1, none⟩ = some (.slice A177_1 ((rd_T70 l0 x3_1).f1).length c177_1) := (blk_cell BK178.out 1).trans rfl; have hcz17_2 : w16.cell? ⟨gb178, 2, none⟩ = some (.slice A177_2 ((rd_T70 l0 x3_1).f2).length c177_2) := (blk_cell BK178.out 2).trans rfl; have hfz17_0 := blk_frozen BK178.out 0; have hfz17_1 := blk_frozen BK178.out 1; have hfz17_2 := blk_frozen BK178.out 2) | (go_at_call 57; (with_reducible refine (cadastrelaw7_both.calls kj1 _ _ ((rd_T70 l0 x3_1).f0) _ _ ((rd_T70 l0 x3_1).f1) t180 _ ?side1 ?side2 ?side3 ?side4 A14.out).mono ?_); (case side1 => repeat (first | exact (Kd.C_below HR177_0.out HB.out) | (with_reducible refine Kd.C_alloc ?_ _) | (with_reducible refine Kd.C_drewN ?_ _) | (with_reducible refine Kd.C_drew ?_))); (case side2 => exact HC177_0.out); (case side3 => repeat (first | exact (Kd.C_below HR177_1.out HB.out) | (with_reducible refine Kd.C_alloc ?_ _) | (with_reducible refine Kd.C_drewN ?_ _) | (with_reducible refine Kd.C_drew ?_))); (case side4 => exact HC177_1.out); rintro e w18 ⟨rfl, hb⟩; have n0_ := Aside0.mk (blk_below (g := gb178) (o := .cells #[.slice A177_0 ((rd_T70 l0 x3_1).f0).length c177_0, .slice A177_1 ((rd_T70 l0 x3_1).f1).length c177_1, .slice A177_2 ((rd_T70 l0 x3_1).f2).length c177_2] 70 (0, 0)) (by (with_reducible repeat (first | refine blk_drewN ?_ _ | refine blk_drew ?_ | refine blk_alloc ?_ _)); exact BK178.out) hb); have n1_ := Aside0.mk (below_step (by repeat (first | (with_reducible first | exact HB.out | apply below_alloc | apply pw_below_drewN | apply below_drew1 | refine below_set ?_ GE178.out) | exact HB.out)) hb); clear BK178; clear HB; have BK178 := n0_; have HB := n1_; clear n0_ n1_; (try clear hb); (try clear hb2); (try clear hk); (try clear hi); (try clear A14)))
                go_meet
                case rel => exact ⟨_, ((t180 != 0)), (by first | rfl | (simp; done) | (simp [*]; done)), H', ⟨by have := HK1.out; have := HJ1.out; first | omega | exact Nat.le_refl _⟩, ⟨by (with_reducible repeat (first | refine blk_drewN ?_ _ | refine blk_drew ?_ | refine blk_alloc ?_ _)); exact BK178.out⟩, ⟨by repeat (first | (with_reducible first | exact HB.out | apply below_alloc | apply pw_below_drewN | apply below_drew1 | refine below_set ?_ GE178.out) | exact HB.out)⟩⟩
            case rest => as_aux_lemma =>
              clear HC7
              try clear c1
              try clear p1
              try clear q1
              try clear hx1
              try clear p2
              try clear c3
              try clear c3b0
              try clear c4
              try clear c5
              try clear c5b0
              try clear c6
              try clear c6b0
              try clear c11
              try clear c17
              try clear p17
              try clear q17
              try clear hx17
              try clear hcz12_0
              try clear hcz12_1
              try clear hcz12_2
              try clear hcz15_0
              try clear hcz15_1
              try clear hcz15_2
              try clear hcz17_0
              try clear hcz17_1
              try clear hcz17_2
              try clear hcz9_0
              try clear hcz9_1
              try clear hcz9_2
              try clear hfz12_0
              try clear hfz12_1
              try clear hfz12_2
              try clear hfz15_0
              try clear hfz15_1
              try clear hfz15_2
              try clear hfz17_0
              try clear hfz17_1
              try clear hfz17_2
              try clear hfz9_0
              try clear hfz9_1
              try clear hfz9_2
              try clear hx177_0
              try clear hx177_1
              try clear hx177_2
              try clear p177
              try clear p2
              try clear q177
              obtain ⟨kq, x41_6, rfl, HA, HJ6, BK178, HB⟩ := hcut
              cases kq with
              | zero => exact absurd HA.out (by simp [cadastrelaw7_KeysOrder.j2])
              | succ kj6 =>
                have H := HA.out
                clear HA
                simp only [cadastrelaw7_KeysOrder.j2] at H
                by_cases c19 : x41_6 = true
                · subst c19
                  have H1 : (cadastrelaw7_KeysOrder.l0 kj6 l0 (wrap64 (x3_1 + 1))) = some r := by rw [if_pos rfl] at H; exact H
                  clear H
                  have H := H1
                  clear H1
                  have H' := Aside0.mk H
                  clear H
                  go_wp2
                  go_roundg kj6
                  case measure => have := HK1.out; have := HJ1.out; have := HJ6.out; omega
                  case rel => exact ⟨(wrap64 (x3_1 + 1)), (by first | rfl | (simp; done) | (simp [*]; done)), H', ⟨by have := HK1.out; have := HJ1.out; have := HJ6.out; omega⟩, ⟨by repeat (first | (with_reducible first | exact HB.out | apply below_alloc | apply pw_below_drewN | apply below_drew1 | refine below_set ?_ GE178.out) | exact HB.out)⟩⟩
                · replace c19 := Bool.eq_false_iff.mpr c19
                  subst c19
                  have H1 : ((keys_Cmp.f kj6 ((rd_T70 l0 x3_1).f0) ((rd_T70 l0 x3_1).f1)).bind fun bt181 => ((keys_Cmp.f kj6 ((rd_T70 l0 x3_1).f1) ((rd_T70 l0 x3_1).f0)).bind fun bt183 => ((keys_Begins.f kj6 ((rd_T70 l0 x3_1).f0) ((rd_T70 l0 x3_1).f0)).bind fun bt185 => ((keys_Begins.f kj6 ((rd_T70 l0 x3_1).f0) ([] : List (S24))).bind fun bt187 => ((cadastrelaw7_num.f bt181.2).bind fun t189 => (if t189 = 0 then ((cadastrelaw7_num.f bt183.2).bind fun t190 => (if t190 = 0 then ((cadastrelaw7_num.f bt185.2).bind fun t191 => (if t191 = 0 then ((cadastrelaw7_num.f bt187.2).bind fun t192 => (if t192 = 0 then (if bt181.1 = (wrap64 (-bt183.1)) then (if bt185.1 = true then (if bt187.1 = true then ((cadastreref0_EqValues.f kj6 ((rd_T70 l0 x3_1).f0) ((rd_T70 l0 x3_1).f1)).bind fun t193 => (cadastrelaw7_KeysOrder.j3 kj6 l0 x3_1 bt181.1 ((bt181.1 == 0) != t193) ((rd_T70 l0 x3_1).f0) ((rd_T70 l0 x3_1).f1) ((rd_T70 l0 x3_1).f2))) else (cadastrelaw7_KeysOrder.j3 kj6 l0 x3_1 bt181.1 true ((rd_T70 l0 x3_1).f0) ((rd_T70 l0 x3_1).f1) ((rd_T70 l0 x3_1).f2))) else (cadastrelaw7_KeysOrder.j3 kj6 l0 x3_1 bt181.1 true ((rd_T70 l0 x3_1).f0) ((rd_T70 l0 x3_1).f1) ((rd_T70 l0 x3_1).f2))) else (cadastrelaw7_KeysOrder.j3 kj6 l0 x3_1 bt181.1 true ((rd_T70 l0 x3_1).f0) ((rd_T70 l0 x3_1).f1) ((rd_T70 l0 x3_1).f2))) else (cadastrelaw7_KeysOrder.j3 kj6 l0 x3_1 bt181.1 true ((rd_T70 l0 x3_1).f0) ((rd_T70 l0 x3_1).f1) ((rd_T70 l0 x3_1).f2)))) else (cadastrelaw7_KeysOrder.j3 kj6 l0 x3_1 bt181.1 true ((rd_T70 l0 x3_1).f0) ((rd_T70 l0 x3_1).f1) ((rd_T70 l0 x3_1).f2)))) else (cadastrelaw7_KeysOrder.j3 kj6 l0 x3_1 bt181.1 true ((rd_T70 l0 x3_1).f0) ((rd_T70 l0 x3_1).f1) ((rd_T70 l0 x3_1).f2)))) else (cadastrelaw7_KeysOrder.j3 kj6 l0 x3_1 bt181.1 true ((rd_T70 l0 x3_1).f0) ((rd_T70 l0 x3_1).f1) ((rd_T70 l0 x3_1).f2)))))))) = some r := by rw [if_neg (show ¬ (false = true) by decide)] at H; exact H
                  clear H
                  have H := H1
                  clear H1
                  replace H := Option.bind_eq_some_iff.mp H
                  obtain ⟨⟨t181, t182⟩, A200, H⟩ := H
                  replace H : ((keys_Cmp.f kj6 ((rd_T70 l0 x3_1).f1) ((rd_T70 l0 x3_1).f0)).bind fun bt183 => ((keys_Begins.f kj6 ((rd_T70 l0 x3_1).f0) ((rd_T70 l0 x3_1).f0)).bind fun bt185 => ((keys_Begins.f kj6 ((rd_T70 l0 x3_1).f0) ([] : List (S24))).bind fun bt187 => ((cadastrelaw7_num.f t182).bind fun t189 => (if t189 = 0 then ((cadastrelaw7_num.f bt183.2).bind fun t190 => (if t190 = 0 then ((cadastrelaw7_num.f bt185.2).bind fun t191 => (if t191 = 0 then ((cadastrelaw7_num.f bt187.2).bind fun t192 => (if t192 = 0 then (if t181 = (wrap64 (-bt183.1)) then (if bt185.1 = true then (if bt187.1 = true then ((cadastreref0_EqValues.f kj6 ((rd_T70 l0 x3_1).f0) ((rd_T70 l0 x3_1).f1)).bind fun t193 => (cadastrelaw7_KeysOrder.j3 kj6 l0 x3_1 t181 ((t181 == 0) != t193) ((rd_T70 l0 x3_1).f0) ((rd_T70 l0 x3_1).f1) ((rd_T70 l0 x3_1).f2))) else (cadastrelaw7_KeysOrder.j3 kj6 l0 x3_1 t181 true ((rd_T70 l0 x3_1).f0) ((rd_T70 l0 x3_1).f1) ((rd_T70 l0 x3_1).f2))) else (cadastrelaw7_KeysOrder.j3 kj6 l0 x3_1 t181 true ((rd_T70 l0 x3_1).f0) ((rd_T70 l0 x3_1).f1) ((rd_T70 l0 x3_1).f2))) else (cadastrelaw7_KeysOrder.j3 kj6 l0 x3_1 t181 true ((rd_T70 l0 x3_1).f0) ((rd_T70 l0 x3_1).f1) ((rd_T70 l0 x3_1).f2))) else (cadastrelaw7_KeysOrder.j3 kj6 l0 x3_1 t181 true ((rd_T70 l0 x3_1).f0) ((rd_T70 l0 x3_1).f1) ((rd_T70 l0 x3_1).f2)))) else (cadastrelaw7_KeysOrder.j3 kj6 l0 x3_1 t181 true ((rd_T70 l0 x3_1).f0) ((rd_T70 l0 x3_1).f1) ((rd_T70 l0 x3_1).f2)))) else (cadastrelaw7_KeysOrder.j3 kj6 l0 x3_1 t181 true ((rd_T70 l0 x3_1).f0) ((rd_T70 l0 x3_1).f1) ((rd_T70 l0 x3_1).f2)))) else (cadastrelaw7_KeysOrder.j3 kj6 l0 x3_1 t181 true ((rd_T70 l0 x3_1).f0) ((rd_T70 l0 x3_1).f1) ((rd_T70 l0 x3_1).f2))))))) = some r := H
                  have A20 := Aside0.mk A200
                  clear A200
                  replace H := Option.bind_eq_some_iff.mp H
                  obtain ⟨⟨t183, t184⟩, A210, H⟩ := H
                  replace H : ((keys_Begins.f kj6 ((rd_T70 l0 x3_1).f0) ((rd_T70 l0 x3_1).f0)).bind fun bt185 => ((keys_Begins.f kj6 ((rd_T70 l0 x3_1).f0) ([] : List (S24))).bind fun bt187 => ((cadastrelaw7_num.f t182).bind fun t189 => (if t189 = 0 then ((cadastrelaw7_num.f t184).bind fun t190 => (if t190 = 0 then ((cadastrelaw7_num.f bt185.2).bind fun t191 => (if t191 = 0 then ((cadastrelaw7_num.f bt187.2).bind fun t192 => (if t192 = 0 then (if t181 = (wrap64 (-t183)) then (if bt185.1 = true then (if bt187.1 = true then ((cadastreref0_EqValues.f kj6 ((rd_T70 l0 x3_1).f0) ((rd_T70 l0 x3_1).f1)).bind fun t193 => (cadastrelaw7_KeysOrder.j3 kj6 l0 x3_1 t181 ((t181 == 0) != t193) ((rd_T70 l0 x3_1).f0) ((rd_T70 l0 x3_1).f1) ((rd_T70 l0 x3_1).f2))) else (cadastrelaw7_KeysOrder.j3 kj6 l0 x3_1 t181 true ((rd_T70 l0 x3_1).f0) ((rd_T70 l0 x3_1).f1) ((rd_T70 l0 x3_1).f2))) else (cadastrelaw7_KeysOrder.j3 kj6 l0 x3_1 t181 true ((rd_T70 l0 x3_1).f0) ((rd_T70 l0 x3_1).f1) ((rd_T70 l0 x3_1).f2))) else (cadastrelaw7_KeysOrder.j3 kj6 l0 x3_1 t181 true ((rd_T70 l0 x3_1).f0) ((rd_T70 l0 x3_1).f1) ((rd_T70 l0 x3_1).f2))) else (cadastrelaw7_KeysOrder.j3 kj6 l0 x3_1 t181 true ((rd_T70 l0 x3_1).f0) ((rd_T70 l0 x3_1).f1) ((rd_T70 l0 x3_1).f2)))) else (cadastrelaw7_KeysOrder.j3 kj6 l0 x3_1 t181 true ((rd_T70 l0 x3_1).f0) ((rd_T70 l0 x3_1).f1) ((rd_T70 l0 x3_1).f2)))) else (cadastrelaw7_KeysOrder.j3 kj6 l0 x3_1 t181 true ((rd_T70 l0 x3_1).f0) ((rd_T70 l0 x3_1).f1) ((rd_T70 l0 x3_1).f2)))) else (cadastrelaw7_KeysOrder.j3 kj6 l0 x3_1 t181 true ((rd_T70 l0 x3_1).f0) ((rd_T70 l0 x3_1).f1) ((rd_T70 l0 x3_1).f2)))))) = some r := H
                  have A21 := Aside0.mk A210
                  clear A210
                  replace H := Option.bind_eq_some_iff.mp H
                  obtain ⟨⟨t185, t186⟩, A220, H⟩ := H
                  replace H : ((keys_Begins.f kj6 ((rd_T70 l0 x3_1).f0) ([] : List (S24))).bind fun bt187 => ((cadastrelaw7_num.f t182).bind fun t189 => (if t189 = 0 then ((cadastrelaw7_num.f t184).bind fun t190 => (if t190 = 0 then ((cadastrelaw7_num.f t186).bind fun t191 => (if t191 = 0 then ((cadastrelaw7_num.f bt187.2).bind fun t192 => (if t192 = 0 then (if t181 = (wrap64 (-t183)) then (if t185 = true then (if bt187.1 = true then ((cadastreref0_EqValues.f kj6 ((rd_T70 l0 x3_1).f0) ((rd_T70 l0 x3_1).f1)).bind fun t193 => (cadastrelaw7_KeysOrder.j3 kj6 l0 x3_1 t181 ((t181 == 0) != t193) ((rd_T70 l0 x3_1).f0) ((rd_T70 l0 x3_1).f1) ((rd_T70 l0 x3_1).f2))) else (cadastrelaw7_KeysOrder.j3 kj6 l0 x3_1 t181 true ((rd_T70 l0 x3_1).f0) ((rd_T70 l0 x3_1).f1) ((rd_T70 l0 x3_1).f2))) else (cadastrelaw7_KeysOrder.j3 kj6 l0 x3_1 t181 true ((rd_T70 l0 x3_1).f0) ((rd_T70 l0 x3_1).f1) ((rd_T70 l0 x3_1).f2))) else (cadastrelaw7_KeysOrder.j3 kj6 l0 x3_1 t181 true ((rd_T70 l0 x3_1).f0) ((rd_T70 l0 x3_1).f1) ((rd_T70 l0 x3_1).f2))) else (cadastrelaw7_KeysOrder.j3 kj6 l0 x3_1 t181 true ((rd_T70 l0 x3_1).f0) ((rd_T70 l0 x3_1).f1) ((rd_T70 l0 x3_1).f2)))) else (cadastrelaw7_KeysOrder.j3 kj6 l0 x3_1 t181 true ((rd_T70 l0 x3_1).f0) ((rd_T70 l0 x3_1).f1) ((rd_T70 l0 x3_1).f2)))) else (cadastrelaw7_KeysOrder.j3 kj6 l0 x3_1 t181 true ((rd_T70 l0 x3_1).f0) ((rd_T70 l0 x3_1).f1) ((rd_T70 l0 x3_1).f2)))) else (cadastrelaw7_KeysOrder.j3 kj6 l0 x3_1 t181 true ((rd_T70 l0 x3_1).f0) ((rd_T70 l0 x3_1).f1) ((rd_T70 l0 x3_1).f2))))) = some r := H
                  have A22 := Aside0.mk A220
                  clear A220
                  replace H := Option.bind_eq_some_iff.mp H
                  obtain ⟨⟨t187, t188⟩, A230, H⟩ := H
                  replace H : ((cadastrelaw7_num.f t182).bind fun t189 => (if t189 = 0 then ((cadastrelaw7_num.f t184).bind fun t190 => (if t190 = 0 then ((cadastrelaw7_num.f t186).bind fun t191 => (if t191 = 0 then ((cadastrelaw7_num.f t188).bind fun t192 => (if t192 = 0 then (if t181 = (wrap64 (-t183)) then (if t185 = true then (if t187 = true then ((cadastreref0_EqValues.f kj6 ((rd_T70 l0 x3_1).f0) ((rd_T70 l0 x3_1).f1)).bind fun t193 => (cadastrelaw7_KeysOrder.j3 kj6 l0 x3_1 t181 ((t181 == 0) != t193) ((rd_T70 l0 x3_1).f0) ((rd_T70 l0 x3_1).f1) ((rd_T70 l0 x3_1).f2))) else (cadastrelaw7_KeysOrder.j3 kj6 l0 x3_1 t181 true ((rd_T70 l0 x3_1).f0) ((rd_T70 l0 x3_1).f1) ((rd_T70 l0 x3_1).f2))) else (cadastrelaw7_KeysOrder.j3 kj6 l0 x3_1 t181 true ((rd_T70 l0 x3_1).f0) ((rd_T70 l0 x3_1).f1) ((rd_T70 l0 x3_1).f2))) else (cadastrelaw7_KeysOrder.j3 kj6 l0 x3_1 t181 true ((rd_T70 l0 x3_1).f0) ((rd_T70 l0 x3_1).f1) ((rd_T70 l0 x3_1).f2))) else (cadastrelaw7_KeysOrder.j3 kj6 l0 x3_1 t181 true ((rd_T70 l0 x3_1).f0) ((rd_T70 l0 x3_1).f1) ((rd_T70 l0 x3_1).f2)))) else (cadastrelaw7_KeysOrder.j3 kj6 l0 x3_1 t181 true ((rd_T70 l0 x3_1).f0) ((rd_T70 l0 x3_1).f1) ((rd_T70 l0 x3_1).f2)))) else (cadastrelaw7_KeysOrder.j3 kj6 l0 x3_1 t181 true ((rd_T70 l0 x3_1).f0) ((rd_T70 l0 x3_1).f1) ((rd_T70 l0 x3_1).f2)))) else (cadastrelaw7_KeysOrder.j3 kj6 l0 x3_1 t181 true ((rd_T70 l0 x3_1).f0) ((rd_T70 l0 x3_1).f1) ((rd_T70 l0 x3_1).f2)))) = some r := H
                  have A23 := Aside0.mk A230
                  clear A230
                  have HC24 := Aside0.mk H
                  clear H
                  have hcz25_0 : wc.cell? ⟨gb178, 0, none⟩ = some (.slice A177_0 ((rd_T70 l0 x3_1).f0).length c177_0) := (blk_cell BK178.out 0).trans rfl
                  have hcz25_1 : wc.cell? ⟨gb178, 1, none⟩ = some (.slice A177_1 ((rd_T70 l0 x3_1).f1).length c177_1) := (blk_cell BK178.out 1).trans rfl
                  have hcz25_2 : wc.cell? ⟨gb178, 2, none⟩ = some (.slice A177_2 ((rd_T70 l0 x3_1).f2).length c177_2) := (blk_cell BK178.out 2).trans rfl
                  have hfz25_0 := blk_frozen BK178.out 0
                  have hfz25_1 := blk_frozen BK178.out 1
                  have hfz25_2 := blk_frozen BK178.out 2
                  go_upto_region 10 with (first | ((with_reducible refine gate_callee (f := 59) rfl ?_); refine goesL_ (some 47) rfl rfl Try.func59 (by kernel_rfl) rfl #[.slice A177_0 ((rd_T70 l0 x3_1).f0).length c177_0, .slice A177_1 ((rd_T70 l0 x3_1).f1).length c177_1] rfl (by (try simp only [List.map_toArray, List.map_cons, List.map_nil]); first | done | rfl | (simp only [List.length_drop, List.length_take]; rfl)) ?_; (with_reducible refine (keys_Cmp.calls kj6 (fun k_ => k_ < w.heap.size) _ _ ((rd_T70 l0 x3_1).f0) (fun k_ => k_ < w.heap.size) _ _ ((rd_T70 l0 x3_1).f1) t181 t182 _ ?side1 ?side2 A20.out).mono ?_); (case side1 => exact Kd.V_mk HC177_0.out (Kd.F_below (Kd.C_F k24_heap HR177_0.out) (by repeat (first | (with_reducible first | exact HB.out | apply below_alloc | apply pw_below_drewN | apply below_drew1 | refine below_set ?_ GE178.out) | exact HB.out)))); (case side2 => exact Kd.V_mk HC177_1.out (Kd.F_below (Kd.C_F k24_heap HR177_1.out) (by repeat (first | (with_reducible first | exact HB.out | apply below_alloc | apply pw_below_drewN | apply below_drew1 | refine below_set ?_ GE178.out) | exact HB.out)))); rintro e w26 ⟨rfl, hb⟩; refine ⟨_, rfl, ?_⟩; have n0_ := Aside0.mk (blk_below (g := gb178) (o := .cells #[.slice A177_0 ((rd_T70 l0 x3_1).f0).length c177_0, .slice A177_1 ((rd_T70 l0 x3_1).f1).length c177_1, .slice A177_2 ((rd_T70 l0 x3_1).f2).length c177_2] 70 (0, 0)) (by (with_reducible repeat (first | refine blk_drewN ?_ _ | refine blk_drew ?_ | refine blk_alloc ?_ _)); exact BK178.out) hb); have n1_ := Aside0.mk (below_step (by repeat (first | (with_reducible first | exact HB.out | apply below_alloc | apply pw_below_drewN | apply below_drew1 | refine below_set ?_ GE178.out) | exact HB.out)) hb); clear BK178; clear HB; have BK178 := n0_; have HB := n1_; clear n0_ n1_; (try clear hb); (try clear hb2); (try clear hk); (try clear hi); have hcz27_0 : w26.cell? ⟨gb178, 0, none⟩ = some (.slice A177_0 ((rd_T70 l0 x3_1).f0).length c177_0) := (blk_cell BK178.out 0).trans rfl; have hcz27_1 : w26.cell? ⟨gb178, 1, none⟩ = some (.slice A177_1 ((rd_T70 l0 x3_1).f1).length c177_1) := (blk_cell BK178.out 1).trans rfl; have hcz27_2 : w26.cell? ⟨gb178, 2, none⟩ = some (.slice A177_2 ((rd_T70 l0 x3_1).f2).length c177_2) := (blk_cell BK178.out 2).trans rfl; have hfz27_0 := blk_frozen BK178.out 0; have hfz27_1 := blk_frozen BK178.out 1; have hfz27_2 := blk_frozen BK178.out 2) | ((with_reducible refine gate_callee (f := 59) rfl ?_); refine goesL_ (some 55) rfl rfl Try.func59 (by kernel_rfl) rfl #[.slice A177_1 ((rd_T70 l0 x3_1).f1).length c177_1, .slice A177_0 ((rd_T70 l0 x3_1).f0).length c177_0] rfl (by (try simp only [List.map_toArray, List.map_cons, List.map_nil]); first | done | rfl | (simp only [List.length_drop, List.length_take]; rfl)) ?_; (with_reducible refine (keys_Cmp.calls kj6 (fun k_ => k_ < w.heap.size) _ _ ((rd_T70 l0 x3_1).f1) (fun k_ => k_ < w.heap.size) _ _ ((rd_T70 l0 x3_1).f0) t183 t184 _ ?side1 ?side2 A21.out).mono ?_); (case side1 => exact Kd.V_mk HC177_1.out (Kd.F_below (Kd.C_F k24_heap HR177_1.out) (by repeat (first | (with_reducible first | exact HB.out | apply below_alloc | apply pw_below_drewN | apply below_drew1 | refine below_set ?_ GE178.out) | exact HB.out)))); (case side2 => exact Kd.V_mk HC177_0.out (Kd.F_below (Kd.C_F k24_heap HR177_0.out) (by repeat (first | (with_reducible first | exact HB.out | apply below_alloc | apply pw_below_drewN | apply below_drew1 | refine below_set ?_ GE178.out) | exact HB.out)))); rintro e w28 ⟨rfl, hb⟩; refine ⟨_, rfl, ?_⟩; have n0_ := Aside0.mk (blk_below (g := gb178) (o := .cells #[.slice A177_0 ((rd_T70 l0 x3_1).f0).length c177_0, .slice A177_1 ((rd_T70 l0 x3_1).f1).length c177_1, .slice A177_2 ((rd_T70 l0 x3_1).f2).length c177_2] 70 (0, 0)) (by (with_reducible repeat (first | refine blk_drewN ?_ _ | refine blk_drew ?_ | refine blk_alloc ?_ _)); exact BK178.out) hb); have n1_ := Aside0.mk (below_step (by repeat (first | (with_reducible first | exact HB.out | apply below_alloc | apply pw_below_drewN | apply below_drew1 | refine below_set ?_ GE178.out) | exact HB.out)) hb); clear BK178; clear HB; have BK178 := n0_; have HB := n1_; clear n0_ n1_; (try clear hb); (try clear hb2); (try clear hk); (try clear hi); have hcz29_0 : w28.cell? ⟨gb178, 0, none⟩ = some (.slice A177_0 ((rd_T70 l0 x3_1).f0).length c177_0) := (blk_cell BK178.out 0).trans rfl; have hcz29_1 : w28.cell? ⟨gb178, 1, none⟩ = some (.slice A177_1 ((rd_T70 l0 x3_1).f1).length c177_1) := (blk_cell BK178.out 1).trans rfl; have hcz29_2 : w28.cell? ⟨gb178, 2, none⟩ = some (.slice A177_2 ((rd_T70 l0 x3_1).f2).length c177_2) := (blk_cell BK178.out 2).trans rfl; have hfz29_0 := blk_frozen BK178.out 0; have hfz29_1 := blk_frozen BK178.out 1; have hfz29_2 := blk_frozen BK178.out 2) | ((with_reducible refine gate_callee (f := 62) rfl ?_); refine goesL_ (some 63) rfl rfl Try.func62 (by kernel_rfl) rfl #[.slice A177_0 ((rd_T70 l0 x3_1).f0).length c177_0, .slice A177_0 ((rd_T70 l0 x3_1).f0).length c177_0] rfl (by (try simp only [List.map_toArray, List.map_cons, List.map_nil]); first | done | rfl | (simp only [List.length_drop, List.length_take]; rfl)) ?_; (with_reducible refine (keys_Begins.calls kj6 (fun k_ => k_ < w.heap.size) _ _ ((rd_T70 l0 x3_1).f0) (fun k_ => k_ < w.heap.size) _ _ ((rd_T70 l0 x3_1).f0) t185 t186 _ ?side1 ?side2 A22.out).mono ?_); (case side1 => exact Kd.V_mk HC177_0.out (Kd.F_below (Kd.C_F k24_heap HR177_0.out) (by repeat (first | (with_reducible first | exact HB.out | apply below_alloc | apply pw_below_drewN | apply below_drew1 | refine below_set ?_ GE178.out) | exact HB.out)))); (case side2 => exact Kd.V_mk HC177_0.out (Kd.F_below (Kd.C_F k24_heap HR177_0.out) (by repeat (first | (with_reducible first | exact HB.out | apply below_alloc | apply pw_below_drewN | apply below_drew1 | refine below_set ?_ GE178.out) | exact HB.out)))); rintro e w30 ⟨rfl, hb⟩; refine ⟨_, rfl, ?_⟩; have n0_ := Aside0.mk (blk_below (g := gb178) (o := .cells #[.slice A177_0 ((rd_T70 l0 x3_1).f0).length c177_0, .slice A177_1 ((rd_T70 l0 x3_1).f1).length c177_1, .slice A177_2 ((rd_T70 l0 x3_1).f2).length c177_2] 70 (0, 0)) (by (with_reducible repeat (first | refine blk_drewN ?_ _ | refine blk_drew ?_ | refine blk_alloc ?_ _)); exact BK178.out) hb); have n1_ := Aside0.mk (below_step (by repeat (first | (with_reducible first | exact HB.out | apply below_alloc | apply pw_below_drewN | apply below_drew1 | refine below_set ?_ GE178.out) | exact HB.out)) hb); clear BK178; clear HB; have BK178 := n0_; have HB := n1_; clear n0_ n1_; (try clear hb); (try clear hb2); (try clear hk); (try clear hi); have hcz31_0 : w30.cell? ⟨gb178, 0, none⟩ = some (.slice A177_0 ((rd_T70 l0 x3_1).f0).length c177_0) := (blk_cell BK178.out 0).trans rfl; have hcz31_1 : w30.cell? ⟨gb178, 1, none⟩ = some (.slice A177_1 ((rd_T70 l0 x3_1).f1).length c177_1) := (blk_cell BK178.out 1).trans rfl; have hcz31_2 : w30.cell? ⟨gb178, 2, none⟩ = some (.slice A177_2 ((rd_T70 l0 x3_1).f2).length c177_2) := (blk_cell BK178.out 2).trans rfl; have hfz31_0 := blk_frozen BK178.out 0; have hfz31_1 := blk_frozen BK178.out 1; have hfz31_2 := blk_frozen BK178.out 2) | ((with_reducible refine gate_callee (f := 62) rfl ?_); refine goesL_ (some 69) rfl rfl Try.func62 (by kernel_rfl) rfl #[.slice A177_0 ((rd_T70 l0 x3_1).f0).length c177_0, .slice none 0 0] rfl (by (try simp only [List.map_toArray, List.map_cons, List.map_nil]); first | done | rfl | (simp only [List.length_drop, List.length_take]; rfl)) ?_; (refine (keys_Begins.calls kj6 (fun k_ => k_ < w.heap.size) _ _ ((rd_T70 l0 x3_1).f0) (fun k_ => False) _ _ ([] : List (S24)) t187 t188 _ ?side1 ?side2 A23.out).mono ?_); (case side1 => exact Kd.V_mk HC177_0.out (Kd.F_below (Kd.C_F k24_heap HR177_0.out) (by repeat (first | (with_reducible first | exact HB.out | apply below_alloc | apply pw_below_drewN | apply below_drew1 | refine below_set ?_ GE178.out) | exact HB.out)))); (case side2 => exact Kd.V_nil _ _ _ _ _); rintro e w32 ⟨rfl, hb⟩; refine ⟨_, rfl, ?_⟩; have n0_ := Aside0.mk (blk_below (g := gb178) (o := .cells #[.slice A177_0 ((rd_T70 l0 x3_1).f0).length c177_0, .slice A177_1 ((rd_T70 l0 x3_1).f1).length c177_1, .slice A177_2 ((rd_T70 l0 x3_1).f2).length c177_2] 70 (0, 0)) (by (with_reducible repeat (first | refine blk_drewN ?_ _ | refine blk_drew ?_ | refine blk_alloc ?_ _)); exact BK178.out) hb); have n1_ := Aside0.mk (below_step (by repeat (first | (with_reducible first | exact HB.out | apply below_alloc | apply pw_below_drewN | apply below_drew1 | refine below_set ?_ GE178.out) | exact HB.out)) hb); clear BK178; clear HB; have BK178 := n0_; have HB := n1_; clear n0_ n1_; (try clear hb); (try clear hb2); (try clear hk); (try clear hi)))
                  (try simp only [Act.put, List.setIfInBounds_toArray, List.set_cons_zero, List.set_cons_succ])
                  go_cut [113] (fun v113 wc => ∃ (kq : Nat) (x113_23 : Bool), v113 = .bool x113_23 ∧ Aside0 (cadastrelaw7_KeysOrder.j3 kq l0 x3_1 t181 x113_23 ((rd_T70 l0 x3_1).f0) ((rd_T70 l0 x3_1).f1) ((rd_T70 l0 x3_1).f2) = some r) ∧ Aside0 (kq ≤ kj6) ∧ Aside0 (wc.heap[gb178]? = some (.cells #[(.slice A177_0 ((rd_T70 l0 x3_1).f0).length c177_0), (.slice A177_1 ((rd_T70 l0 x3_1).f1).length c177_1), (.slice A177_2 ((rd_T70 l0 x3_1).f2).length c177_2)] 70 (0, 0))) ∧ Aside0 (Below w.heap.size w wc))
                  case first =>
                    have H := HC24.out
                    clear HC24
                    replace H := Option.bind_eq_some_iff.mp H
                    obtain ⟨t189, A330, H⟩ := H
                    replace H : (if t189 = 0 then ((cadastrelaw7_num.f t184).bind fun t190 => (if t190 = 0 then ((cadastrelaw7_num.f t186).bind fun t191 => (if t191 = 0 then ((cadastrelaw7_num.f t188).bind fun t192 => (if t192 = 0 then (if t181 = (wrap64 (-t183)) then (if t185 = true then (if t187 = true then ((cadastreref0_EqValues.f kj6 ((rd_T70 l0 x3_1).f0) ((rd_T70 l0 x3_1).f1)).bind fun t193 => (cadastrelaw7_KeysOrder.j3 kj6 l0 x3_1 t181 ((t181 == 0) != t193) ((rd_T70 l0 x3_1).f0) ((rd_T70 l0 x3_1).f1) ((rd_T70 l0 x3_1).f2))) else (cadastrelaw7_KeysOrder.j3 kj6 l0 x3_1 t181 true ((rd_T70 l0 x3_1).f0) ((rd_T70 l0 x3_1).f1) ((rd_T70 l0 x3_1).f2))) else (cadastrelaw7_KeysOrder.j3 kj6 l0 x3_1 t181 true ((rd_T70 l0 x3_1).f0) ((rd_T70 l0 x3_1).f1) ((rd_T70 l0 x3_1).f2))) else (cadastrelaw7_KeysOrder.j3 kj6 l0 x3_1 t181 true ((rd_T70 l0 x3_1).f0) ((rd_T70 l0 x3_1).f1) ((rd_T70 l0 x3_1).f2))) else (cadastrelaw7_KeysOrder.j3 kj6 l0 x3_1 t181 true ((rd_T70 l0 x3_1).f0) ((rd_T70 l0 x3_1).f1) ((rd_T70 l0 x3_1).f2)))) else (cadastrelaw7_KeysOrder.j3 kj6 l0 x3_1 t181 true ((rd_T70 l0 x3_1).f0) ((rd_T70 l0 x3_1).f1) ((rd_T70 l0 x3_1).f2)))) else (cadastrelaw7_KeysOrder.j3 kj6 l0 x3_1 t181 true ((rd_T70 l0 x3_1).f0) ((rd_T70 l0 x3_1).f1) ((rd_T70 l0 x3_1).f2)))) else (cadastrelaw7_KeysOrder.j3 kj6 l0 x3_1 t181 true ((rd_T70 l0 x3_1).f0) ((rd_T70 l0 x3_1).f1) ((rd_T70 l0 x3_1).f2))) = some r := H
                    have A33 := Aside0.mk A330
                    clear A330
                    by_cases c34 : t189 = 0
                    rotate_left
                    · rw [if_neg c34] at H
                      have c34b0 : (t189 == 0) = false := beq_eq_false_iff_ne.mpr c34
                      have c34b1 : (t189 != 0) = true := bne_iff_ne.mpr c34
                      (first | rw [c34b0] | (simp only [i64_w, i32_w]; rw [c34b0]) | skip)
                      have H' := Aside0.mk H
                      clear H
                      go_wp2_with (first | ((with_reducible refine gate_callee (f := 60) rfl ?_); refine goesL_ (some 73) rfl rfl Try.func60 (by kernel_rfl) rfl #[.int .i64 t182] rfl (by (try simp only [List.map_toArray, List.map_cons, List.map_nil]); first | done | rfl | (simp only [List.length_drop, List.length_take]; rfl)) ?_; (with_reducible refine (cadastrelaw7_num.calls t182 t189 _ A33.out).mono ?_); rintro e w' ⟨rfl, ⟨nd, rfl⟩⟩; refine ⟨_, rfl, ?_⟩))
                      go_meet
                      case rel => exact ⟨_, (true), (by first | rfl | (simp; done) | (simp [*]; done)), H', ⟨by have := HK1.out; have := HJ1.out; have := HJ6.out; first | omega | exact Nat.le_refl _⟩, ⟨by (with_reducible repeat (first | refine blk_drewN ?_ _ | refine blk_drew ?_ | refine blk_alloc ?_ _)); exact BK178.out⟩, ⟨by repeat (first | (with_reducible first | exact HB.out | apply below_alloc | apply pw_below_drewN | apply below_drew1 | refine below_set ?_ GE178.out) | exact HB.out)⟩⟩
                    rw [if_pos c34] at H
                    have c34b0 : (t189 == 0) = true := beq_iff_eq.mpr c34
                    have c34b1 : (t189 != 0) = false := bne_eq_false_iff_eq.mpr c34
                    clear c34
                    (first | rw [c34b0] | (simp only [i64_w, i32_w]; rw [c34b0]) | skip)
                    replace H := Option.bind_eq_some_iff.mp H
                    obtain ⟨t190, A350, H⟩ := H
                    replace H : (if t190 = 0 then ((cadastrelaw7_num.f t186).bind fun t191 => (if t191 = 0 then ((cadastrelaw7_num.f t188).bind fun t192 => (if t192 = 0 then (if t181 = (wrap64 (-t183)) then (if t185 = true then (if t187 = true then ((cadastreref0_EqValues.f kj6 ((rd_T70 l0 x3_1).f0) ((rd_T70 l0 x3_1).f1)).bind fun t193 => (cadastrelaw7_KeysOrder.j3 kj6 l0 x3_1 t181 ((t181 == 0) != t193) ((rd_T70 l0 x3_1).f0) ((rd_T70 l0 x3_1).f1) ((rd_T70 l0 x3_1).f2))) else (cadastrelaw7_KeysOrder.j3 kj6 l0 x3_1 t181 true ((rd_T70 l0 x3_1).f0) ((rd_T70 l0 x3_1).f1) ((rd_T70 l0 x3_1).f2))) else (cadastrelaw7_KeysOrder.j3 kj6 l0 x3_1 t181 true ((rd_T70 l0 x3_1).f0) ((rd_T70 l0 x3_1).f1) ((rd_T70 l0 x3_1).f2))) else (cadastrelaw7_KeysOrder.j3 kj6 l0 x3_1 t181 true ((rd_T70 l0 x3_1).f0) ((rd_T70 l0 x3_1).f1) ((rd_T70 l0 x3_1).f2))) else (cadastrelaw7_KeysOrder.j3 kj6 l0 x3_1 t181 true ((rd_T70 l0 x3_1).f0) ((rd_T70 l0 x3_1).f1) ((rd_T70 l0 x3_1).f2)))) else (cadastrelaw7_KeysOrder.j3 kj6 l0 x3_1 t181 true ((rd_T70 l0 x3_1).f0) ((rd_T70 l0 x3_1).f1) ((rd_T70 l0 x3_1).f2)))) else (cadastrelaw7_KeysOrder.j3 kj6 l0 x3_1 t181 true ((rd_T70 l0 x3_1).f0) ((rd_T70 l0 x3_1).f1) ((rd_T70 l0 x3_1).f2))) = some r := H
                    have A35 := Aside0.mk A350
                    clear A350
                    by_cases c36 : t190 = 0
                    rotate_left
                    · rw [if_neg c36] at H
                      have c36b0 : (t190 == 0) = false := beq_eq_false_iff_ne.mpr c36
                      have c36b1 : (t190 != 0) = true := bne_iff_ne.mpr c36
                      have H' := Aside0.mk H
                      clear H
                      go_wp2_with (first | ((with_reducible refine gate_callee (f := 60) rfl ?_); refine goesL_ (some 73) rfl rfl Try.func60 (by kernel_rfl) rfl #[.int .i64 t182] rfl (by (try simp only [List.map_toArray, List.map_cons, List.map_nil]); first | done | rfl | (simp only [List.length_drop, List.length_take]; rfl)) ?_; (with_reducible refine (cadastrelaw7_num.calls t182 t189 _ A33.out).mono ?_); rintro e w' ⟨rfl, ⟨nd, rfl⟩⟩; refine ⟨_, rfl, ?_⟩) | (go_at_call 60; (with_reducible refine (cadastrelaw7_num.calls t184 t190 _ A35.out).mono ?_); rintro e w' ⟨rfl, ⟨nd, rfl⟩⟩; (try clear A35)))
                      go_meet
                      case rel => exact ⟨_, (true), (by first | rfl | (simp; done) | (simp [*]; done)), H', ⟨by have := HK1.out; have := HJ1.out; have := HJ6.out; first | omega | exact Nat.le_refl _⟩, ⟨by (with_reducible repeat (first | refine blk_drewN ?_ _ | refine blk_drew ?_ | refine blk_alloc ?_ _)); exact BK178.out⟩, ⟨by repeat (first | (with_reducible first | exact HB.out | apply below_alloc | apply pw_below_drewN | apply below_drew1 | refine below_set ?_ GE178.out) | exact HB.out)⟩⟩
                    rw [if_pos c36] at H
                    have c36b0 : (t190 == 0) = true := beq_iff_eq.mpr c36
                    have c36b1 : (t190 != 0) = false := bne_eq_false_iff_eq.mpr c36
                    clear c36
                    replace H := Option.bind_eq_some_iff.mp H
                    obtain ⟨t191, A370, H⟩ := H
                    replace H : (if t191 = 0 then ((cadastrelaw7_num.f t188).bind fun t192 => (if t192 = 0 then (if t181 = (wrap64 (-t183)) then (if t185 = true then (if t187 = true then ((cadastreref0_EqValues.f kj6 ((rd_T70 l0 x3_1).f0) ((rd_T70 l0 x3_1).f1)).bind fun t193 => (cadastrelaw7_KeysOrder.j3 kj6 l0 x3_1 t181 ((t181 == 0) != t193) ((rd_T70 l0 x3_1).f0) ((rd_T70 l0 x3_1).f1) ((rd_T70 l0 x3_1).f2))) else (cadastrelaw7_KeysOrder.j3 kj6 l0 x3_1 t181 true ((rd_T70 l0 x3_1).f0) ((rd_T70 l0 x3_1).f1) ((rd_T70 l0 x3_1).f2))) else (cadastrelaw7_KeysOrder.j3 kj6 l0 x3_1 t181 true ((rd_T70 l0 x3_1).f0) ((rd_T70 l0 x3_1).f1) ((rd_T70 l0 x3_1).f2))) else (cadastrelaw7_KeysOrder.j3 kj6 l0 x3_1 t181 true ((rd_T70 l0 x3_1).f0) ((rd_T70 l0 x3_1).f1) ((rd_T70 l0 x3_1).f2))) else (cadastrelaw7_KeysOrder.j3 kj6 l0 x3_1 t181 true ((rd_T70 l0 x3_1).f0) ((rd_T70 l0 x3_1).f1) ((rd_T70 l0 x3_1).f2)))) else (cadastrelaw7_KeysOrder.j3 kj6 l0 x3_1 t181 true ((rd_T70 l0 x3_1).f0) ((rd_T70 l0 x3_1).f1) ((rd_T70 l0 x3_1).f2))) = some r := H
                    have A37 := Aside0.mk A370
                    clear A370
                    by_cases c38 : t191 = 0
                    rotate_left
                    · rw [if_neg c38] at H
                      have c38b0 : (t191 == 0) = false := beq_eq_false_iff_ne.mpr c38
                      have c38b1 : (t191 != 0) = true := bne_iff_ne.mpr c38
                      have H' := Aside0.mk H
                      clear H
                      go_wp2_with (first | ((with_reducible refine gate_callee (f := 60) rfl ?_); refine goesL_ (some 73) rfl rfl Try.func60 (by kernel_rfl) rfl #[.int .i64 t182] rfl (by (try simp only [List.map_toArray, List.map_cons, List.map_nil]); first | done | rfl | (simp only [List.length_drop, List.length_take]; rfl)) ?_; (with_reducible refine (cadastrelaw7_num.calls t182 t189 _ A33.out).mono ?_); rintro e w' ⟨rfl, ⟨nd, rfl⟩⟩; refine ⟨_, rfl, ?_⟩) | (go_at_call 60; (with_reducible refine (cadastrelaw7_num.calls t184 t190 _ A35.out).mono ?_); rintro e w' ⟨rfl, ⟨nd, rfl⟩⟩; (try clear A35)) | (go_at_call 60; (with_reducible refine (cadastrelaw7_num.calls t186 t191 _ A37.out).mono ?_); rintro e w' ⟨rfl, ⟨nd, rfl⟩⟩; (try clear A37)))
                      go_meet
                      case rel => exact ⟨_, (true), (by first | rfl | (simp; done) | (simp [*]; done)), H', ⟨by have := HK1.out; have := HJ1.out; have := HJ6.out; first | omega | exact Nat.le_refl _⟩, ⟨by (with_reducible repeat (first | refine blk_drewN ?_ _ | refine blk_drew ?_ | refine blk_alloc ?_ _)); exact BK178.out⟩, ⟨by repeat (first | (with_reducible first | exact HB.out | apply below_alloc | apply pw_below_drewN | apply below_drew1 | refine below_set ?_ GE178.out) | exact HB.out)⟩⟩
                    rw [if_pos c38] at H
                    have c38b0 : (t191 == 0) = true := beq_iff_eq.mpr c38
                    have c38b1 : (t191 != 0) = false := bne_eq_false_iff_eq.mpr c38
                    clear c38
                    replace H := Option.bind_eq_some_iff.mp H
                    obtain ⟨t192, A390, H⟩ := H
                    replace H : (if t192 = 0 then (if t181 = (wrap64 (-t183)) then (if t185 = true then (if t187 = true then ((cadastreref0_EqValues.f kj6 ((rd_T70 l0 x3_1).f0) ((rd_T70 l0 x3_1).f1)).bind fun t193 => (cadastrelaw7_KeysOrder.j3 kj6 l0 x3_1 t181 ((t181 == 0) != t193) ((rd_T70 l0 x3_1).f0) ((rd_T70 l0 x3_1).f1) ((rd_T70 l0 x3_1).f2))) else (cadastrelaw7_KeysOrder.j3 kj6 l0 x3_1 t181 true ((rd_T70 l0 x3_1).f0) ((rd_T70 l0 x3_1).f1) ((rd_T70 l0 x3_1).f2))) else (cadastrelaw7_KeysOrder.j3 kj6 l0 x3_1 t181 true ((rd_T70 l0 x3_1).f0) ((rd_T70 l0 x3_1).f1) ((rd_T70 l0 x3_1).f2))) else (cadastrelaw7_KeysOrder.j3 kj6 l0 x3_1 t181 true ((rd_T70 l0 x3_1).f0) ((rd_T70 l0 x3_1).f1) ((rd_T70 l0 x3_1).f2))) else (cadastrelaw7_KeysOrder.j3 kj6 l0 x3_1 t181 true ((rd_T70 l0 x3_1).f0) ((rd_T70 l0 x3_1).f1) ((rd_T70 l0 x3_1).f2))) = some r := H
                    have A39 := Aside0.mk A390
                    clear A390
                    by_cases c40 : t192 = 0
                    rotate_left
                    · rw [if_neg c40] at H
                      have c40b0 : (t192 == 0) = false := beq_eq_false_iff_ne.mpr c40
                      have c40b1 : (t192 != 0) = true := bne_iff_ne.mpr c40
                      have H' := Aside0.mk H
                      clear H
                      go_wp2_with (first | ((with_reducible refine gate_callee (f := 60) rfl ?_); refine goesL_ (some 73) rfl rfl Try.func60 (by kernel_rfl) rfl #[.int .i64 t182] rfl (by (try simp only [List.map_toArray, List.map_cons, List.map_nil]); first | done | rfl | (simp only [List.length_drop, List.length_take]; rfl)) ?_; (with_reducible refine (cadastrelaw7_num.calls t182 t189 _ A33.out).mono ?_); rintro e w' ⟨rfl, ⟨nd, rfl⟩⟩; refine ⟨_, rfl, ?_⟩) | (go_at_call 60; (with_reducible refine (cadastrelaw7_num.calls t184 t190 _ A35.out).mono ?_); rintro e w' ⟨rfl, ⟨nd, rfl⟩⟩; (try clear A35)) | (go_at_call 60; (with_reducible refine (cadastrelaw7_num.calls t186 t191 _ A37.out).mono ?_); rintro e w' ⟨rfl, ⟨nd, rfl⟩⟩; (try clear A37)) | (go_at_call 60; (with_reducible refine (cadastrelaw7_num.calls t188 t192 _ A39.out).mono ?_); rintro e w' ⟨rfl, ⟨nd, rfl⟩⟩; (try clear A39)))
                      go_meet
                      case rel => exact ⟨_, (true), (by first | rfl | (simp; done) | (simp [*]; done)), H', ⟨by have := HK1.out; have := HJ1.out; have := HJ6.out; first | omega | exact Nat.le_refl _⟩, ⟨by (with_reducible repeat (first | refine blk_drewN ?_ _ | refine blk_drew ?_ | refine blk_alloc ?_ _)); exact BK178.out⟩, ⟨by repeat (first | (with_reducible first | exact HB.out | apply below_alloc | apply pw_below_drewN | apply below_drew1 | refine below_set ?_ GE178.out) | exact HB.out)⟩⟩
                    rw [if_pos c40] at H
                    have c40b0 : (t192 == 0) = true := beq_iff_eq.mpr c40
                    have c40b1 : (t192 != 0) = false := bne_eq_false_iff_eq.mpr c40
                    clear c40
                    by_cases c41 : t181 = (wrap64 (-t183))
                    rotate_left
                    · rw [if_neg c41] at H
                      have c41b0 : (t181 == (wrap64 (-t183))) = false := beq_eq_false_iff_ne.mpr c41
                      have c41b1 : (t181 != (wrap64 (-t183))) = true := bne_iff_ne.mpr c41
                      have H' := Aside0.mk H
                      clear H
                      go_wp2_with (first | ((with_reducible refine gate_callee (f := 60) rfl ?_); refine goesL_ (some 73) rfl rfl Try.func60 (by kernel_rfl) rfl #[.int .i64 t182] rfl (by (try simp only [List.map_toArray, List.map_cons, List.map_nil]); first | done | rfl | (simp only [List.length_drop, List.length_take]; rfl)) ?_; (with_reducible refine (cadastrelaw7_num.calls t182 t189 _ A33.out).mono ?_); rintro e w' ⟨rfl, ⟨nd, rfl⟩⟩; refine ⟨_, rfl, ?_⟩) | (go_at_call 60; (with_reducible refine (cadastrelaw7_num.calls t184 t190 _ A35.out).mono ?_); rintro e w' ⟨rfl, ⟨nd, rfl⟩⟩; (try clear A35)) | (go_at_call 60; (with_reducible refine (cadastrelaw7_num.calls t186 t191 _ A37.out).mono ?_); rintro e w' ⟨rfl, ⟨nd, rfl⟩⟩; (try clear A37)) | (go_at_call 60; (with_reducible refine (cadastrelaw7_num.calls t188 t192 _ A39.out).mono ?_); rintro e w' ⟨rfl, ⟨nd, rfl⟩⟩; (try clear A39)))
                      go_meet
                      case rel => exact ⟨_, (true), (by first | rfl | (simp; done) | (simp [*]; done)), H', ⟨by have := HK1.out; have := HJ1.out; have := HJ6.out; first | omega | exact Nat.le_refl _⟩, ⟨by (with_reducible repeat (first | refine blk_drewN ?_ _ | refine blk_drew ?_ | refine blk_alloc ?_ _)); exact BK178.out⟩, ⟨by repeat (first | (with_reducible first | exact HB.out | apply below_alloc | apply pw_below_drewN | apply below_drew1 | refine below_set ?_ GE178.out) | exact HB.out)⟩⟩
                    rw [if_pos c41] at H
                    have c41b0 : (t181 == (wrap64 (-t183))) = true := beq_iff_eq.mpr c41
                    have c41b1 : (t181 != (wrap64 (-t183))) = false := bne_eq_false_iff_eq.mpr c41
                    clear c41
                    by_cases c42 : t185 = true
                    · subst c42
                      have H1 : (if t187 = true then ((cadastreref0_EqValues.f kj6 ((rd_T70 l0 x3_1).f0) ((rd_T70 l0 x3_1).f1)).bind fun t193 => (cadastrelaw7_KeysOrder.j3 kj6 l0 x3_1 t181 ((t181 == 0) != t193) ((rd_T70 l0 x3_1).f0) ((rd_T70 l0 x3_1).f1) ((rd_T70 l0 x3_1).f2))) else (cadastrelaw7_KeysOrder.j3 kj6 l0 x3_1 t181 true ((rd_T70 l0 x3_1).f0) ((rd_T70 l0 x3_1).f1) ((rd_T70 l0 x3_1).f2))) = some r := by rw [if_pos rfl] at H; exact H
                      clear H
                      have H := H1
                      clear H1
                      by_cases c43 : t187 = true
                      · subst c43
                        have H1 : ((cadastreref0_EqValues.f kj6 ((rd_T70 l0 x3_1).f0) ((rd_T70 l0 x3_1).f1)).bind fun t193 => (cadastrelaw7_KeysOrder.j3 kj6 l0 x3_1 t181 ((t181 == 0) != t193) ((rd_T70 l0 x3_1).f0) ((rd_T70 l0 x3_1).f1) ((rd_T70 l0 x3_1).f2))) = some r := by rw [if_pos rfl] at H; exact H
                        clear H
                        have H := H1
                        clear H1
                        replace H := Option.bind_eq_some_iff.mp H
                        obtain ⟨t193, A440, H⟩ := H
                        replace H : (cadastrelaw7_KeysOrder.j3 kj6 l0 x3_1 t181 ((t181 == 0) != t193) ((rd_T70 l0 x3_1).f0) ((rd_T70 l0 x3_1).f1) ((rd_T70 l0 x3_1).f2)) = some r := H
                        have A44 := Aside0.mk A440
                        clear A440
                        have H' := Aside0.mk H
                        clear H
                        go_wp2_with (first | ((with_reducible refine gate_callee (f := 60) rfl ?_); refine goesL_ (some 73) rfl rfl Try.func60 (by kernel_rfl) rfl #[.int .i64 t182] rfl (by (try simp only [List.map_toArray, List.map_cons, List.map_nil]); first | done | rfl | (simp only [List.length_drop, List.length_take]; rfl)) ?_; (with_reducible refine (cadastrelaw7_num.calls t182 t189 _ A33.out).mono ?_); rintro e w' ⟨rfl, ⟨nd, rfl⟩⟩; refine ⟨_, rfl, ?_⟩) | (go_at_call 60; (with_reducible refine (cadastrelaw7_num.calls t184 t190 _ A35.out).mono ?_); rintro e w' ⟨rfl, ⟨nd, rfl⟩⟩; (try clear A35)) | (go_at_call 60; (with_reducible refine (cadastrelaw7_num.calls t186 t191 _ A37.out).mono ?_); rintro e w' ⟨rfl, ⟨nd, rfl⟩⟩; (try clear A37)) | (go_at_call 60; (with_reducible refine (cadastrelaw7_num.calls t188 t192 _ A39.out).mono ?_); rintro e w' ⟨rfl, ⟨nd, rfl⟩⟩; (try clear A39); have hcz45_0 : w32.cell? ⟨gb178, 0, none⟩ = some (.slice A177_0 ((rd_T70 l0 x3_1).f0).length c177_0) := (blk_cell BK178.out 0).trans rfl; have hcz45_1 : w32.cell? ⟨gb178, 1, none⟩ = some (.slice A177_1 ((rd_T70 l0 x3_1).f1).length c177_1) := (blk_cell BK178.out 1).trans rfl; have hcz45_2 : w32.cell? ⟨gb178, 2, none⟩ = some (.slice A177_2 ((rd_T70 l0 x3_1).f2).length c177_2) := (blk_cell BK178.out 2).trans rfl; have hfz45_0 := blk_frozen BK178.out 0; have hfz45_1 := blk_frozen BK178.out 1; have hfz45_2 := blk_frozen BK178.out 2) | (go_at_call 63; (with_reducible refine (cadastreref0_EqValues.calls kj6 _ _ ((rd_T70 l0 x3_1).f0) _ _ ((rd_T70 l0 x3_1).f1) t193 _ ?side1 ?side2 ?side3 ?side4 A44.out).mono ?_); (case side1 => repeat (first | exact (Kd.C_below HR177_0.out (by repeat (first | (with_reducible first | exact HB.out | apply below_alloc | apply pw_below_drewN | apply below_drew1 | refine below_set ?_ GE178.out) | exact HB.out))) | (with_reducible refine Kd.C_alloc ?_ _) | (with_reducible refine Kd.C_drewN ?_ _) | (with_reducible refine Kd.C_drew ?_))); (case side2 => exact HC177_0.out); (case side3 => repeat (first | exact (Kd.C_below HR177_1.out (by repeat (first | (with_reducible first | exact HB.out | apply below_alloc | apply pw_below_drewN | apply below_drew1 | refine below_set ?_ GE178.out) | exact HB.out))) | (with_reducible refine Kd.C_alloc ?_ _) | (with_reducible refine Kd.C_drewN ?_ _) | (with_reducible refine Kd.C_drew ?_))); (case side4 => exact HC177_1.out); rintro e w' ⟨rfl, ⟨nd, rfl⟩⟩; (try clear A44)))
                        go_meet
                        case rel => exact ⟨_, (((t181 == 0) != t193)), (by first | rfl | (simp; done) | (simp [*]; done)), H', ⟨by have := HK1.out; have := HJ1.out; have := HJ6.out; first | omega | exact Nat.le_refl _⟩, ⟨by (with_reducible repeat (first | refine blk_drewN ?_ _ | refine blk_drew ?_ | refine blk_alloc ?_ _)); exact BK178.out⟩, ⟨by repeat (first | (with_reducible first | exact HB.out | apply below_alloc | apply pw_below_drewN | apply below_drew1 | refine below_set ?_ GE178.out) | exact HB.out)⟩⟩
                      · replace c43 := Bool.eq_false_iff.mpr c43
                        subst c43
                        have H1 : (cadastrelaw7_KeysOrder.j3 kj6 l0 x3_1 t181 true ((rd_T70 l0 x3_1).f0) ((rd_T70 l0 x3_1).f1) ((rd_T70 l0 x3_1).f2)) = some r := by rw [if_neg (show ¬ (false = true) by decide)] at H; exact H
                        clear H
                        have H := H1
                        clear H1
                        have H' := Aside0.mk H
                        clear H
                        go_wp2_with (first | ((with_reducible refine gate_callee (f := 60) rfl ?_); refine goesL_ (some 73) rfl rfl Try.func60 (by kernel_rfl) rfl #[.int .i64 t182] rfl (by (try simp only [List.map_toArray, List.map_cons, List.map_nil]); first | done | rfl | (simp only [List.length_drop, List.length_take]; rfl)) ?_; (with_reducible refine (cadastrelaw7_num.calls t182 t189 _ A33.out).mono ?_); rintro e w' ⟨rfl, ⟨nd, rfl⟩⟩; refine ⟨_, rfl, ?_⟩) | (go_at_call 60; (with_reducible refine (cadastrelaw7_num.calls t184 t190 _ A35.out).mono ?_); rintro e w' ⟨rfl, ⟨nd, rfl⟩⟩; (try clear A35)) | (go_at_call 60; (with_reducible refine (cadastrelaw7_num.calls t186 t191 _ A37.out).mono ?_); rintro e w' ⟨rfl, ⟨nd, rfl⟩⟩; (try clear A37)) | (go_at_call 60; (with_reducible refine (cadastrelaw7_num.calls t188 t192 _ A39.out).mono ?_); rintro e w' ⟨rfl, ⟨nd, rfl⟩⟩; (try clear A39)))
                        go_meet
                        case rel => exact ⟨_, (true), (by first | rfl | (simp; done) | (simp [*]; done)), H', ⟨by have := HK1.out; have := HJ1.out; have := HJ6.out; first | omega | exact Nat.le_refl _⟩, ⟨by (with_reducible repeat (first | refine blk_drewN ?_ _ | refine blk_drew ?_ | refine blk_alloc ?_ _)); exact BK178.out⟩, ⟨by repeat (first | (with_reducible first | exact HB.out | apply below_alloc | apply pw_below_drewN | apply below_drew1 | refine below_set ?_ GE178.out) | exact HB.out)⟩⟩
                    · replace c42 := Bool.eq_false_iff.mpr c42
                      subst c42
                      have H1 : (cadastrelaw7_KeysOrder.j3 kj6 l0 x3_1 t181 true ((rd_T70 l0 x3_1).f0) ((rd_T70 l0 x3_1).f1) ((rd_T70 l0 x3_1).f2)) = some r := by rw [if_neg (show ¬ (false = true) by decide)] at H; exact H
                      clear H
                      have H := H1
                      clear H1
                      have H' := Aside0.mk H
                      clear H
                      go_wp2_with (first | ((with_reducible refine gate_callee (f := 60) rfl ?_); refine goesL_ (some 73) rfl rfl Try.func60 (by kernel_rfl) rfl #[.int .i64 t182] rfl (by (try simp only [List.map_toArray, List.map_cons, List.map_nil]); first | done | rfl | (simp only [List.length_drop, List.length_take]; rfl)) ?_; (with_reducible refine (cadastrelaw7_num.calls t182 t189 _ A33.out).mono ?_); rintro e w' ⟨rfl, ⟨nd, rfl⟩⟩; refine ⟨_, rfl, ?_⟩) | (go_at_call 60; (with_reducible refine (cadastrelaw7_num.calls t184 t190 _ A35.out).mono ?_); rintro e w' ⟨rfl, ⟨nd, rfl⟩⟩; (try clear A35)) | (go_at_call 60; (with_reducible refine (cadastrelaw7_num.calls t186 t191 _ A37.out).mono ?_); rintro e w' ⟨rfl, ⟨nd, rfl⟩⟩; (try clear A37)) | (go_at_call 60; (with_reducible refine (cadastrelaw7_num.calls t188 t192 _ A39.out).mono ?_); rintro e w' ⟨rfl, ⟨nd, rfl⟩⟩; (try clear A39)))
                      go_meet
                      case rel => exact ⟨_, (true), (by first | rfl | (simp; done) | (simp [*]; done)), H', ⟨by have := HK1.out; have := HJ1.out; have := HJ6.out; first | omega | exact Nat.le_refl _⟩, ⟨by (with_reducible repeat (first | refine blk_drewN ?_ _ | refine blk_drew ?_ | refine blk_alloc ?_ _)); exact BK178.out⟩, ⟨by repeat (first | (with_reducible first | exact HB.out | apply below_alloc | apply pw_below_drewN | apply below_drew1 | refine below_set ?_ GE178.out) | exact HB.out)⟩⟩
                  case rest => as_aux_lemma =>
                    clear HC24
                    try clear c1
                    try clear p1
                    try clear q1
                    try clear hx1
                    try clear p2
                    try clear c3
                    try clear c3b0
                    try clear c4
                    try clear c5
                    try clear c5b0
                    try clear c6
                    try clear c6b0
                    try clear p6
                    try clear c11
                    try clear c17
                    try clear p17
                    try clear q17
                    try clear hx17
                    try clear c19
                    try clear c34
                    try clear c34b0
                    try clear c34b1
                    try clear c36
                    try clear c36b0
                    try clear c36b1
                    try clear c38
                    try clear c38b0
                    try clear c38b1
                    try clear c40
                    try clear c40b0
                    try clear c40b1
                    try clear c41
                    try clear c41b0
                    try clear c41b1
                    try clear c42
                    try clear c43
                    try clear hcz12_0
                    try clear hcz12_1
                    try clear hcz12_2
                    try clear hcz15_0
                    try clear hcz15_1
                    try clear hcz15_2
                    try clear hcz17_0
                    try clear hcz17_1
                    try clear hcz17_2
                    try clear hcz25_0
                    try clear hcz25_1
                    try clear hcz25_2
                    try clear hcz27_0
                    try clear hcz27_1
                    try clear hcz27_2
                    try clear hcz29_0
                    try clear hcz29_1
                    try clear hcz29_2
                    try clear hcz31_0
                    try clear hcz31_1
                    try clear hcz31_2
                    try clear hcz45_0
                    try clear hcz45_1
                    try clear hcz45_2
                    try clear hcz9_0
                    try clear hcz9_1
                    try clear hcz9_2
                    try clear hfz12_0
                    try clear hfz12_1
                    try clear hfz12_2
                    try clear hfz15_0
                    try clear hfz15_1
                    try clear hfz15_2
                    try clear hfz17_0
                    try clear hfz17_1
                    try clear hfz17_2
                    try clear hfz25_0
                    try clear hfz25_1
                    try clear hfz25_2
                    try clear hfz27_0
                    try clear hfz27_1
                    try clear hfz27_2
                    try clear hfz29_0
                    try clear hfz29_1
                    try clear hfz29_2
                    try clear hfz31_0
                    try clear hfz31_1
                    try clear hfz31_2
                    try clear hfz45_0
                    try clear hfz45_1
                    try clear hfz45_2
                    try clear hfz9_0
                    try clear hfz9_1
                    try clear hfz9_2
                    try clear hx177_0
                    try clear hx177_1
                    try clear hx177_2
                    try clear p1
                    try clear p17
                    try clear p177
                    try clear p2
                    try clear q1
                    try clear q17
                    try clear q177
                    obtain ⟨kq, x113_23, rfl, HA, HJ23, BK178, HB⟩ := hcut
                    cases kq with
                    | zero => exact absurd HA.out (by simp [cadastrelaw7_KeysOrder.j3])
                    | succ kj23 =>
                      have H := HA.out
                      clear HA
                      simp only [cadastrelaw7_KeysOrder.j3] at H
                      by_cases c46 : x113_23 = true
                      · subst c46
                        have H1 : (some false) = some r := by rw [if_pos rfl] at H; exact H
                        clear H
                        have H := H1
                        clear H1
                        obtain rfl := Option.some.inj H
                        go_wp2
                        go_ret
                        exact ⟨by first | rfl | (simp [errW_none, errW_some] <;> rfl) | (simp [*, errW_none, errW_some] <;> rfl), by repeat (first | (with_reducible first | exact HB.out | apply below_alloc | apply pw_below_drewN | apply below_drew1 | refine below_set ?_ GE178.out) | exact HB.out)⟩
                      · replace c46 := Bool.eq_false_iff.mpr c46
                        subst c46
                        have H1 : ((keys_Begins.f kj23 ((rd_T70 l0 x3_1).f0) ((rd_T70 l0 x3_1).f1)).bind fun bt194 => ((cadastrelaw7_num.f bt194.2).bind fun t196 => (if t196 = 0 then (if bt194.1 = true then (cadastrelaw7_KeysOrder.j4 kj23 l0 x3_1 t181 (decide (t181 < 0)) ((rd_T70 l0 x3_1).f0) ((rd_T70 l0 x3_1).f1) ((rd_T70 l0 x3_1).f2)) else (cadastrelaw7_KeysOrder.j4 kj23 l0 x3_1 t181 false ((rd_T70 l0 x3_1).f0) ((rd_T70 l0 x3_1).f1) ((rd_T70 l0 x3_1).f2))) else (cadastrelaw7_KeysOrder.j4 kj23 l0 x3_1 t181 true ((rd_T70 l0 x3_1).f0) ((rd_T70 l0 x3_1).f1) ((rd_T70 l0 x3_1).f2))))) = some r := by rw [if_neg (show ¬ (false = true) by decide)] at H; exact H
                        clear H
                        have H := H1
                        clear H1
                        replace H := Option.bind_eq_some_iff.mp H
                        obtain ⟨⟨t194, t195⟩, A470, H⟩ := H
                        replace H : ((cadastrelaw7_num.f t195).bind fun t196 => (if t196 = 0 then (if t194 = true then (cadastrelaw7_KeysOrder.j4 kj23 l0 x3_1 t181 (decide (t181 < 0)) ((rd_T70 l0 x3_1).f0) ((rd_T70 l0 x3_1).f1) ((rd_T70 l0 x3_1).f2)) else (cadastrelaw7_KeysOrder.j4 kj23 l0 x3_1 t181 false ((rd_T70 l0 x3_1).f0) ((rd_T70 l0 x3_1).f1) ((rd_T70 l0 x3_1).f2))) else (cadastrelaw7_KeysOrder.j4 kj23 l0 x3_1 t181 true ((rd_T70 l0 x3_1).f0) ((rd_T70 l0 x3_1).f1) ((rd_T70 l0 x3_1).f2)))) = some r := H
                        have A47 := Aside0.mk A470
                        clear A470
                        have HC48 := Aside0.mk H
                        clear H
                        have hcz49_0 : wc.cell? ⟨gb178, 0, none⟩ = some (.slice A177_0 ((rd_T70 l0 x3_1).f0).length c177_0) := (blk_cell BK178.out 0).trans rfl
                        have hcz49_1 : wc.cell? ⟨gb178, 1, none⟩ = some (.slice A177_1 ((rd_T70 l0 x3_1).f1).length c177_1) := (blk_cell BK178.out 1).trans rfl
                        have hcz49_2 : wc.cell? ⟨gb178, 2, none⟩ = some (.slice A177_2 ((rd_T70 l0 x3_1).f2).length c177_2) := (blk_cell BK178.out 2).trans rfl
                        have hfz49_0 := blk_frozen BK178.out 0
                        have hfz49_1 := blk_frozen BK178.out 1
                        have hfz49_2 := blk_frozen BK178.out 2
                        go_upto_region 13 with (first | ((with_reducible refine gate_callee (f := 62) rfl ?_); refine goesL_ (some 119) rfl rfl Try.func62 (by kernel_rfl) rfl #[.slice A177_0 ((rd_T70 l0 x3_1).f0).length c177_0, .slice A177_1 ((rd_T70 l0 x3_1).f1).length c177_1] rfl (by (try simp only [List.map_toArray, List.map_cons, List.map_nil]); first | done | rfl | (simp only [List.length_drop, List.length_take]; rfl)) ?_; (with_reducible refine (keys_Begins.calls kj23 (fun k_ => k_ < w.heap.size) _ _ ((rd_T70 l0 x3_1).f0) (fun k_ => k_ < w.heap.size) _ _ ((rd_T70 l0 x3_1).f1) t194 t195 _ ?side1 ?side2 A47.out).mono ?_); (case side1 => exact Kd.V_mk HC177_0.out (Kd.F_below (Kd.C_F k24_heap HR177_0.out) (by repeat (first | (with_reducible first | exact HB.out | apply below_alloc | apply pw_below_drewN | apply below_drew1 | refine below_set ?_ GE178.out) | exact HB.out)))); (case side2 => exact Kd.V_mk HC177_1.out (Kd.F_below (Kd.C_F k24_heap HR177_1.out) (by repeat (first | (with_reducible first | exact HB.out | apply below_alloc | apply pw_below_drewN | apply below_drew1 | refine below_set ?_ GE178.out) | exact HB.out)))); rintro e w50 ⟨rfl, hb⟩; refine ⟨_, rfl, ?_⟩; have n0_ := Aside0.mk (blk_below (g := gb178) (o := .cells #[.slice A177_0 ((rd_T70 l0 x3_1).f0).length c177_0, .slice A177_1 ((rd_T70 l0 x3_1).f1).length c177_1, .slice A177_2 ((rd_T70 l0 x3_1).f2).length c177_2] 70 (0, 0)) (by (with_reducible repeat (first | refine blk_drewN ?_ _ | refine blk_drew ?_ | refine blk_alloc ?_ _)); exact BK178.out) hb); have n1_ := Aside0.mk (below_step (by repeat (first | (with_reducible first | exact HB.out | apply below_alloc | apply pw_below_drewN | apply below_drew1 | refine below_set ?_ GE178.out) | exact HB.out)) hb); clear BK178; clear HB; have BK178 := n0_; have HB := n1_; clear n0_ n1_; (try clear hb); (try clear hb2); (try clear hk); (try clear hi)))
                        (try simp only [Act.put, List.setIfInBounds_toArray, List.set_cons_zero, List.set_cons_succ])
                        go_cut [131] (fun v131 wc => ∃ (kq : Nat) (x131_47 : Bool), v131 = .bool x131_47 ∧ Aside0 (cadastrelaw7_KeysOrder.j4 kq l0 x3_1 t181 x131_47 ((rd_T70 l0 x3_1).f0) ((rd_T70 l0 x3_1).f1) ((rd_T70 l0 x3_1).f2) = some r) ∧ Aside0 (kq ≤ kj23) ∧ Aside0 (wc.heap[gb178]? = some (.cells #[(.slice A177_0 ((rd_T70 l0 x3_1).f0).length c177_0), (.slice A177_1 ((rd_T70 l0 x3_1).f1).length c177_1), (.slice A177_2 ((rd_T70 l0 x3_1).f2).length c177_2)] 70 (0, 0))) ∧ Aside0 (Below w.heap.size w wc))
                        case first =>
                          have H := HC48.out
                          clear HC48
                          replace H := Option.bind_eq_some_iff.mp H
                          obtain ⟨t196, A510, H⟩ := H
                          replace H : (if t196 = 0 then (if t194 = true then (cadastrelaw7_KeysOrder.j4 kj23 l0 x3_1 t181 (decide (t181 < 0)) ((rd_T70 l0 x3_1).f0) ((rd_T70 l0 x3_1).f1) ((rd_T70 l0 x3_1).f2)) else (cadastrelaw7_KeysOrder.j4 kj23 l0 x3_1 t181 false ((rd_T70 l0 x3_1).f0) ((rd_T70 l0 x3_1).f1) ((rd_T70 l0 x3_1).f2))) else (cadastrelaw7_KeysOrder.j4 kj23 l0 x3_1 t181 true ((rd_T70 l0 x3_1).f0) ((rd_T70 l0 x3_1).f1) ((rd_T70 l0 x3_1).f2))) = some r := H
                          have A51 := Aside0.mk A510
                          clear A510
                          by_cases c52 : t196 = 0
                          rotate_left
                          · rw [if_neg c52] at H
                            have c52b0 : (t196 == 0) = false := beq_eq_false_iff_ne.mpr c52
                            have c52b1 : (t196 != 0) = true := bne_iff_ne.mpr c52
                            (first | rw [c52b0] | (simp only [i64_w, i32_w]; rw [c52b0]) | skip)
                            have H' := Aside0.mk H
                            clear H
                            go_wp2_with (first | ((with_reducible refine gate_callee (f := 60) rfl ?_); refine goesL_ (some 123) rfl rfl Try.func60 (by kernel_rfl) rfl #[.int .i64 t195] rfl (by (try simp only [List.map_toArray, List.map_cons, List.map_nil]); first | done | rfl | (simp only [List.length_drop, List.length_take]; rfl)) ?_; (with_reducible refine (cadastrelaw7_num.calls t195 t196 _ A51.out).mono ?_); rintro e w' ⟨rfl, ⟨nd, rfl⟩⟩; refine ⟨_, rfl, ?_⟩))
                            go_meet
                            case rel => exact ⟨_, (true), (by first | rfl | (simp; done) | (simp [*]; done)), H', ⟨by have := HK1.out; have := HJ1.out; have := HJ6.out; have := HJ23.out; first | omega | exact Nat.le_refl _⟩, ⟨by (with_reducible repeat (first | refine blk_drewN ?_ _ | refine blk_drew ?_ | refine blk_alloc ?_ _)); exact BK178.out⟩, ⟨by repeat (first | (with_reducible first | exact HB.out | apply below_alloc | apply pw_below_drewN | apply below_drew1 | refine below_set ?_ GE178.out) | exact HB.out)⟩⟩
                          rw [if_pos c52] at H
                          have c52b0 : (t196 == 0) = true := beq_iff_eq.mpr c52
                          have c52b1 : (t196 != 0) = false := bne_eq_false_iff_eq.mpr c52
                          clear c52
                          (first | rw [c52b0] | (simp only [i64_w, i32_w]; rw [c52b0]) | skip)
                          by_cases c53 : t194 = true
                          · subst c53
                            have H1 : (cadastrelaw7_KeysOrder.j4 kj23 l0 x3_1 t181 (decide (t181 < 0)) ((rd_T70 l0 x3_1).f0) ((rd_T70 l0 x3_1).f1) ((rd_T70 l0 x3_1).f2)) = some r := by rw [if_pos rfl] at H; exact H
                            clear H
                            have H := H1
                            clear H1
                            have H' := Aside0.mk H
                            clear H
                            go_wp2_with (first | ((with_reducible refine gate_callee (f := 60) rfl ?_); refine goesL_ (some 123) rfl rfl Try.func60 (by kernel_rfl) rfl #[.int .i64 t195] rfl (by (try simp only [List.map_toArray, List.map_cons, List.map_nil]); first | done | rfl | (simp only [List.length_drop, List.length_take]; rfl)) ?_; (with_reducible refine (cadastrelaw7_num.calls t195 t196 _ A51.out).mono ?_); rintro e w' ⟨rfl, ⟨nd, rfl⟩⟩; refine ⟨_, rfl, ?_⟩))
                            go_meet
                            case rel => exact ⟨_, (decide (t181 < 0)), (by first | rfl | (simp; done) | (simp [*]; done)), H', ⟨by have := HK1.out; have := HJ1.out; have := HJ6.out; have := HJ23.out; first | omega | exact Nat.le_refl _⟩, ⟨by (with_reducible repeat (first | refine blk_drewN ?_ _ | refine blk_drew ?_ | refine blk_alloc ?_ _)); exact BK178.out⟩, ⟨by repeat (first | (with_reducible first | exact HB.out | apply below_alloc | apply pw_below_drewN | apply below_drew1 | refine below_set ?_ GE178.out) | exact HB.out)⟩⟩
                          · replace c53 := Bool.eq_false_iff.mpr c53
                            subst c53
                            have H1 : (cadastrelaw7_KeysOrder.j4 kj23 l0 x3_1 t181 false ((rd_T70 l0 x3_1).f0) ((rd_T70 l0 x3_1).f1) ((rd_T70 l0 x3_1).f2)) = some r := by rw [if_neg (show ¬ (false = true) by decide)] at H; exact H
                            clear H
                            have H := H1
                            clear H1
                            have H' := Aside0.mk H
                            clear H
                            go_wp2_with (first | ((with_reducible refine gate_callee (f := 60) rfl ?_); refine goesL_ (some 123) rfl rfl Try.func60 (by kernel_rfl) rfl #[.int .i64 t195] rfl (by (try simp only [List.map_toArray, List.map_cons, List.map_nil]); first | done | rfl | (simp only [List.length_drop, List.length_take]; rfl)) ?_; (with_reducible refine (cadastrelaw7_num.calls t195 t196 _ A51.out).mono ?_); rintro e w' ⟨rfl, ⟨nd, rfl⟩⟩; refine ⟨_, rfl, ?_⟩))
                            go_meet
                            case rel => exact ⟨_, (false), (by first | rfl | (simp; done) | (simp [*]; done)), H', ⟨by have := HK1.out; have := HJ1.out; have := HJ6.out; have := HJ23.out; first | omega | exact Nat.le_refl _⟩, ⟨by (with_reducible repeat (first | refine blk_drewN ?_ _ | refine blk_drew ?_ | refine blk_alloc ?_ _)); exact BK178.out⟩, ⟨by repeat (first | (with_reducible first | exact HB.out | apply below_alloc | apply pw_below_drewN | apply below_drew1 | refine below_set ?_ GE178.out) | exact HB.out)⟩⟩
                        case rest => as_aux_lemma =>
                          clear HC48
                          try clear c1
                          try clear p1
                          try clear q1
                          try clear hx1
                          try clear p2
                          try clear c3
                          try clear c3b0
                          try clear c4
                          try clear c5
                          try clear c5b0
                          try clear c6
                          try clear c6b0
                          try clear p6
                          try clear c11
                          try clear c17
                          try clear p17
                          try clear q17
                          try clear hx17
                          try clear c19
                          try clear c34
                          try clear c34b0
                          try clear c34b1
                          try clear c36
                          try clear c36b0
                          try clear c36b1
                          try clear c38
                          try clear c38b0
                          try clear c38b1
                          try clear c40
                          try clear c40b0
                          try clear c40b1
                          try clear c41
                          try clear c41b0
                          try clear c41b1
                          try clear c42
                          try clear c43
                          try clear c46
                          try clear c52
                          try clear c52b0
                          try clear c52b1
                          try clear c53
                          try clear hcz12_0
                          try clear hcz12_1
                          try clear hcz12_2
                          try clear hcz15_0
                          try clear hcz15_1
                          try clear hcz15_2
                          try clear hcz17_0
                          try clear hcz17_1
                          try clear hcz17_2
                          try clear hcz25_0
                          try clear hcz25_1
                          try clear hcz25_2
                          try clear hcz27_0
                          try clear hcz27_1
                          try clear hcz27_2
                          try clear hcz29_0
                          try clear hcz29_1
                          try clear hcz29_2
                          try clear hcz31_0
                          try clear hcz31_1
                          try clear hcz31_2
                          try clear hcz45_0
                          try clear hcz45_1
                          try clear hcz45_2
                          try clear hcz49_0
                          try clear hcz49_1
                          try clear hcz49_2
                          try clear hcz9_0
                          try clear hcz9_1
                          try clear hcz9_2
                          try clear hfz12_0
                          try clear hfz12_1
                          try clear hfz12_2
                          try clear hfz15_0
                          try clear hfz15_1
                          try clear hfz15_2
                          try clear hfz17_0
                          try clear hfz17_1
                          try clear hfz17_2
                          try clear hfz25_0
                          try clear hfz25_1
                          try clear hfz25_2
                          try clear hfz27_0
                          try clear hfz27_1
                          try clear hfz27_2
                          try clear hfz29_0
                          try clear hfz29_1
                          try clear hfz29_2
                          try clear hfz31_0
                          try clear hfz31_1
                          try clear hfz31_2
                          try clear hfz45_0
                          try clear hfz45_1
                          try clear hfz45_2
                          try clear hfz49_0
                          try clear hfz49_1
                          try clear hfz49_2
                          try clear hfz9_0
                          try clear hfz9_1
                          try clear hfz9_2
                          try clear hx177_0
                          try clear hx177_1
                          try clear hx177_2
                          try clear p1
                          try clear p17
                          try clear p177
                          try clear p2
                          try clear p6
                          try clear q1
                          try clear q17
                          try clear q177
                          obtain ⟨kq, x131_47, rfl, HA, HJ47, BK178, HB⟩ := hcut
                          cases kq with
                          | zero => exact absurd HA.out (by simp [cadastrelaw7_KeysOrder.j4])
                          | succ kj47 =>
                            have H := HA.out
                            clear HA
                            simp only [cadastrelaw7_KeysOrder.j4] at H
                            by_cases c54 : x131_47 = true
                            · subst c54
                              have H1 : (some false) = some r := by rw [if_pos rfl] at H; exact H
                              clear H
                              have H := H1
                              clear H1
                              obtain rfl := Option.some.inj H
                              go_wp2
                              go_ret
                              exact ⟨by first | rfl | (simp [errW_none, errW_some] <;> rfl) | (simp [*, errW_none, errW_some] <;> rfl), by repeat (first | (with_reducible first | exact HB.out | apply below_alloc | apply pw_below_drewN | apply below_drew1 | refine below_set ?_ GE178.out) | exact HB.out)⟩
                            · replace c54 := Bool.eq_false_iff.mpr c54
                              subst c54
                              have H1 : (if (((rd_T70 l0 x3_1).f0).length : Int) > 16 then (cadastrelaw7_KeysOrder.j5 kj47 l0 x3_1 t181 true ((rd_T70 l0 x3_1).f0) ((rd_T70 l0 x3_1).f1) ((rd_T70 l0 x3_1).f2)) else (cadastrelaw7_KeysOrder.j5 kj47 l0 x3_1 t181 (decide ((((rd_T70 l0 x3_1).f1).length : Int) > 16)) ((rd_T70 l0 x3_1).f0) ((rd_T70 l0 x3_1).f1) ((rd_T70 l0 x3_1).f2))) = some r := by rw [if_neg (show ¬ (false = true) by decide)] at H; exact H
                              clear H
                              have H := H1
                              clear H1
                              have HC55 := Aside0.mk H
                              clear H
                              go_upto_region 15 with (fail)
                              go_cut [141] (fun v141 wc => ∃ (kq : Nat) (x141_54 : Bool), v141 = .bool x141_54 ∧ Aside0 (cadastrelaw7_KeysOrder.j5 kq l0 x3_1 t181 x141_54 ((rd_T70 l0 x3_1).f0) ((rd_T70 l0 x3_1).f1) ((rd_T70 l0 x3_1).f2) = some r) ∧ Aside0 (kq ≤ kj47) ∧ Aside0 (wc.heap[gb178]? = some (.cells #[(.slice A177_0 ((rd_T70 l0 x3_1).f0).length c177_0), (.slice A177_1 ((rd_T70 l0 x3_1).f1).length c177_1), (.slice A177_2 ((rd_T70 l0 x3_1).f2).length c177_2)] 70 (0, 0))) ∧ Aside0 (Below w.heap.size w wc))
                              case first =>
                                have H := HC55.out
                                clear HC55
                                by_cases c56 : (((rd_T70 l0 x3_1).f0).length : Int) > 16
                                · rw [if_pos c56] at H
                                  have c56b0 : decide (16 < (((rd_T70 l0 x3_1).f0).length : Int)) = true := decide_eq_true c56
                                  have c56b1 : decide (16 < ((rd_T70 l0 x3_1).f0).length) = true := decide_eq_true (by omega)
                                  clear c56
                                  (first | rw [c56b0] | (simp only [i64_w, i32_w]; rw [c56b0]) | skip)
                                  have H' := Aside0.mk H
                                  clear H
                                  have hcz57_0 : wc.cell? ⟨gb178, 0, none⟩ = some (.slice A177_0 ((rd_T70 l0 x3_1).f0).length c177_0) := (blk_cell BK178.out 0).trans rfl
                                  have hcz57_1 : wc.cell? ⟨gb178, 1, none⟩ = some (.slice A177_1 ((rd_T70 l0 x3_1).f1).length c177_1) := (blk_cell BK178.out 1).trans rfl
                                  have hcz57_2 : wc.cell? ⟨gb178, 2, none⟩ = some (.slice A177_2 ((rd_T70 l0 x3_1).f2).length c177_2) := (blk_cell BK178.out 2).trans rfl
                                  have hfz57_0 := blk_frozen BK178.out 0
                                  have hfz57_1 := blk_frozen BK178.out 1
                                  have hfz57_2 := blk_frozen BK178.out 2
                                  go_wp2
                                  go_meet
                                  case rel => exact ⟨_, (true), (by first | rfl | (simp; done) | (simp [*]; done)), H', ⟨by have := HK1.out; have := HJ1.out; have := HJ6.out; have := HJ23.out; have := HJ47.out; first | omega | exact Nat.le_refl _⟩, ⟨by (with_reducible repeat (first | refine blk_drewN ?_ _ | refine blk_drew ?_ | refine blk_alloc ?_ _)); exact BK178.out⟩, ⟨by repeat (first | (with_reducible first | exact HB.out | apply below_alloc | apply pw_below_drewN | apply below_drew1 | refine below_set ?_ GE178.out) | exact HB.out)⟩⟩
                                rw [if_neg c56] at H
                                have c56b0 : decide (16 < (((rd_T70 l0 x3_1).f0).length : Int)) = false := decide_eq_false c56
                                have c56b1 : decide (16 < ((rd_T70 l0 x3_1).f0).length) = false := decide_eq_false (by omega)
                                clear c56
                                (first | rw [c56b0] | (simp only [i64_w, i32_w]; rw [c56b0]) | skip)
                                have H' := Aside0.mk H
                                clear H
                                have hcz58_0 : wc.cell? ⟨gb178, 0, none⟩ = some (.slice A177_0 ((rd_T70 l0 x3_1).f0).length c177_0) := (blk_cell BK178.out 0).trans rfl
                                have hcz58_1 : wc.cell? ⟨gb178, 1, none⟩ = some (.slice A177_1 ((rd_T70 l0 x3_1).f1).length c177_1) := (blk_cell BK178.out 1).trans rfl
                                have hcz58_2 : wc.cell? ⟨gb178, 2, none⟩ = some (.slice A177_2 ((rd_T70 l0 x3_1).f2).length c177_2) := (blk_cell BK178.out 2).trans rfl
                                have hfz58_0 := blk_frozen BK178.out 0
                                have hfz58_1 := blk_frozen BK178.out 1
                                have hfz58_2 := blk_frozen BK178.out 2
                                go_wp2
                                go_meet
                                case rel => exact ⟨_, (decide ((((rd_T70 l0 x3_1).f1).length : Int) > 16)), (by first | rfl | (simp; done) | (simp [*]; done)), H', ⟨by have := HK1.out; have := HJ1.out; have := HJ6.out; have := HJ23.out; have := HJ47.out; first | omega | exact Nat.le_refl _⟩, ⟨by (with_reducible repeat (first | refine blk_drewN ?_ _ | refine blk_drew ?_ | refine blk_alloc ?_ _)); exact BK178.out⟩, ⟨by repeat (first | (with_reducible first | exact HB.out | apply below_alloc | apply pw_below_drewN | apply below_drew1 | refine below_set ?_ GE178.out) | exact HB.out)⟩⟩
                              case rest => as_aux_lemma =>
                                clear HC55
                                try clear c1
                                try clear p1
                                try clear q1
                                try clear hx1
                                try clear p2
                                try clear c3
                                try clear c3b0
                                try clear c4
                                try clear c5
                                try clear c5b0
                                try clear c6
                                try clear c6b0
                                try clear p6
                                try clear c11
                                try clear c17
                                try clear p17
                                try clear q17
                                try clear hx17
                                try clear c19
                                try clear c34
                                try clear c34b0
                                try clear c34b1
                                try clear c36
                                try clear c36b0
                                try clear c36b1
                                try clear c38
                                try clear c38b0
                                try clear c38b1
                                try clear c40
                                try clear c40b0
                                try clear c40b1
                                try clear c41
                                try clear c41b0
                                try clear c41b1
                                try clear c42
                                try clear c43
                                try clear c46
                                try clear c52
                                try clear c52b0
                                try clear c52b1
                                try clear c53
                                try clear c54
                                try clear c56
                                try clear c56b0
                                try clear c56b1
                                try clear hcz12_0
                                try clear hcz12_1
                                try clear hcz12_2
                                try clear hcz15_0
                                try clear hcz15_1
                                try clear hcz15_2
                                try clear hcz17_0
                                try clear hcz17_1
                                try clear hcz17_2
                                try clear hcz25_0
                                try clear hcz25_1
                                try clear hcz25_2
                                try clear hcz27_0
                                try clear hcz27_1
                                try clear hcz27_2
                                try clear hcz29_0
                                try clear hcz29_1
                                try clear hcz29_2
                                try clear hcz31_0
                                try clear hcz31_1
                                try clear hcz31_2
                                try clear hcz45_0
                                try clear hcz45_1
                                try clear hcz45_2
                                try clear hcz49_0
                                try clear hcz49_1
                                try clear hcz49_2
                                try clear hcz57_0
                                try clear hcz57_1
                                try clear hcz57_2
                                try clear hcz58_0
                                try clear hcz58_1
                                try clear hcz58_2
                                try clear hcz9_0
                                try clear hcz9_1
                                try clear hcz9_2
                                try clear hfz12_0
                                try clear hfz12_1
                                try clear hfz12_2
                                try clear hfz15_0
                                try clear hfz15_1
                                try clear hfz15_2
                                try clear hfz17_0
                                try clear hfz17_1
                                try clear hfz17_2
                                try clear hfz25_0
                                try clear hfz25_1
                                try clear hfz25_2
                                try clear hfz27_0
                                try clear hfz27_1
                                try clear hfz27_2
                                try clear hfz29_0
                                try clear hfz29_1
                                try clear hfz29_2
                                try clear hfz31_0
                                try clear hfz31_1
                                try clear hfz31_2
                                try clear hfz45_0
                                try clear hfz45_1
                                try clear hfz45_2
                                try clear hfz49_0
                                try clear hfz49_1
                                try clear hfz49_2
                                try clear hfz57_0
                                try clear hfz57_1
                                try clear hfz57_2
                                try clear hfz58_0
                                try clear hfz58_1
                                try clear hfz58_2
                                try clear hfz9_0
                                try clear hfz9_1
                                try clear hfz9_2
                                try clear hx177_0
                                try clear hx177_1
                                try clear hx177_2
                                try clear p1
                                try clear p17
                                try clear p177
                                try clear p2
                                try clear p6
                                try clear q1
                                try clear q17
                                try clear q177
                                obtain ⟨kq, x141_54, rfl, HA, HJ54, BK178, HB⟩ := hcut
                                cases kq with
                                | zero => exact absurd HA.out (by simp [cadastrelaw7_KeysOrder.j5])
                                | succ kj54 =>
                                  have H := HA.out
                                  clear HA
                                  simp only [cadastrelaw7_KeysOrder.j5] at H
                                  by_cases c59 : x141_54 = true
                                  · subst c59
                                    have H1 : (cadastrelaw7_KeysOrder.l0 kj54 l0 (wrap64 (x3_1 + 1))) = some r := by rw [if_pos rfl] at H; exact H
                                    clear H
                                    have H := H1
                                    clear H1
                                    have H' := Aside0.mk H
                                    clear H
                                    go_wp2
                                    go_roundg kj54
                                    case measure => have := HK1.out; have := HJ1.out; have := HJ6.out; have := HJ23.out; have := HJ47.out; have := HJ54.out; omega
                                    case rel => exact ⟨(wrap64 (x3_1 + 1)), (by first | rfl | (simp; done) | (simp [*]; done)), H', ⟨by have := HK1.out; have := HJ1.out; have := HJ6.out; have := HJ23.out; have := HJ47.out; have := HJ54.out; omega⟩, ⟨by repeat (first | (with_reducible first | exact HB.out | apply below_alloc | apply pw_below_drewN | apply below_drew1 | refine below_set ?_ GE178.out) | exact HB.out)⟩⟩
                                  · replace c59 := Bool.eq_false_iff.mpr c59
                                    subst c59
                                    have H1 : ((some (([(⟨2, 0, (⟨#[120]⟩ : ByteArray)⟩ : S24)] : List (S24)) : List (S24))).bind fun y197 => ((cadastreref0_CopyValues.f kj54 y197).bind fun t200 => (if t200.length + ((rd_T70 l0 x3_1).f0).length < 4398046511104 then ((cadastreref0_CopyValues.f kj54 y197).bind fun t206 => (if t206.length + ((rd_T70 l0 x3_1).f1).length < 4398046511104 then ((keys_Cmp.f kj54 (t200 ++ ((rd_T70 l0 x3_1).f0)) (t206 ++ ((rd_T70 l0 x3_1).f1))).bind fun bt212 => ((cadastrelaw7_num.f bt212.2).bind fun t214 => (if t214 = 0 then (if bt212.1 = t181 then (cadastrelaw7_KeysOrder.l0 kj54 l0 (wrap64 (x3_1 + 1))) else (some false)) else (some false)))) else (none))) else (none)))) = some r := by rw [if_neg (show ¬ (false = true) by decide)] at H; exact H
                                    clear H
                                    have H := H1
                                    clear H1
                                    obtain ⟨y197, hy197⟩ : ∃ y_ : List (S24), y_ = (([(⟨2, 0, (⟨#[120]⟩ : ByteArray)⟩ : S24)] : List (S24))) := ⟨_, rfl⟩
                                    replace H : ((cadastreref0_CopyValues.f kj54 y197).bind fun t200 => (if t200.length + ((rd_T70 l0 x3_1).f0).length < 4398046511104 then ((cadastreref0_CopyValues.f kj54 y197).bind fun t206 => (if t206.length + ((rd_T70 l0 x3_1).f1).length < 4398046511104 then ((keys_Cmp.f kj54 (t200 ++ ((rd_T70 l0 x3_1).f0)) (t206 ++ ((rd_T70 l0 x3_1).f1))).bind fun bt212 => ((cadastrelaw7_num.f bt212.2).bind fun t214 => (if t214 = 0 then (if bt212.1 = t181 then (cadastrelaw7_KeysOrder.l0 kj54 l0 (wrap64 (x3_1 + 1))) else (some false)) else (some false)))) else (none))) else (none))) = some r := by first | (rw [hy197]; with_reducible exact H) | (have H2_ := (Option.bind_some _ _).symm.trans H; rw [hy197]; with_reducible exact H2_) | (have H2_ := (Option.bind_some _ _).symm.trans H; with_reducible exact H2_) | with_reducible exact H | (rw [hy197]; exact H) | exact H
                                    have Ny197 := Aside0.mk hy197
                                    clear hy197
                                    replace H := Option.bind_eq_some_iff.mp H
                                    obtain ⟨t200, A600, H⟩ := H
                                    replace H : (if t200.length + ((rd_T70 l0 x3_1).f0).length < 4398046511104 then ((cadastreref0_CopyValues.f kj54 y197).bind fun t206 => (if t206.length + ((rd_T70 l0 x3_1).f1).length < 4398046511104 then ((keys_Cmp.f kj54 (t200 ++ ((rd_T70 l0 x3_1).f0)) (t206 ++ ((rd_T70 l0 x3_1).f1))).bind fun bt212 => ((cadastrelaw7_num.f bt212.2).bind fun t214 => (if t214 = 0 then (if bt212.1 = t181 then (cadastrelaw7_KeysOrder.l0 kj54 l0 (wrap64 (x3_1 + 1))) else (some false)) else (some false)))) else (none))) else (none)) = some r := H
                                    have A60 := Aside0.mk A600
                                    clear A600
                                    by_cases c61 : t200.length + ((rd_T70 l0 x3_1).f0).length < 4398046511104
                                    rotate_left
                                    · rw [if_neg c61] at H
                                      exact absurd H (by simp)
                                    rw [if_pos c61] at H
                                    have LMc61 := Aside0.mk c61
                                    clear c61
                                    obtain ⟨y203, hy203⟩ : ∃ y_ : List (S24), y_ = (t200 ++ ((rd_T70 l0 x3_1).f0)) := ⟨_, rfl⟩
                                    replace H : ((cadastreref0_CopyValues.f kj54 y197).bind fun t206 => (if t206.length + ((rd_T70 l0 x3_1).f1).length < 4398046511104 then ((keys_Cmp.f kj54 y203 (t206 ++ ((rd_T70 l0 x3_1).f1))).bind fun bt212 => ((cadastrelaw7_num.f bt212.2).bind fun t214 => (if t214 = 0 then (if bt212.1 = t181 then (cadastrelaw7_KeysOrder.l0 kj54 l0 (wrap64 (x3_1 + 1))) else (some false)) else (some false)))) else (none))) = some r := by first | (rw [hy203]; with_reducible exact H) | (have H2_ := (Option.bind_some _ _).symm.trans H; rw [hy203]; with_reducible exact H2_) | (have H2_ := (Option.bind_some _ _).symm.trans H; with_reducible exact H2_) | with_reducible exact H | (rw [hy203]; exact H) | exact H
                                    have Ny203 := Aside0.mk hy203
                                    clear hy203
                                    replace H := Option.bind_eq_some_iff.mp H
                                    obtain ⟨t206, A620, H⟩ := H
                                    replace H : (if t206.length + ((rd_T70 l0 x3_1).f1).length < 4398046511104 then ((keys_Cmp.f kj54 y203 (t206 ++ ((rd_T70 l0 x3_1).f1))).bind fun bt212 => ((cadastrelaw7_num.f bt212.2).bind fun t214 => (if t214 = 0 then (if bt212.1 = t181 then (cadastrelaw7_KeysOrder.l0 kj54 l0 (wrap64 (x3_1 + 1))) else (some false)) else (some false)))) else (none)) = some r := H
                                    have A62 := Aside0.mk A620
                                    clear A620
                                    by_cases c63 : t206.length + ((rd_T70 l0 x3_1).f1).length < 4398046511104
                                    rotate_left
                                    · rw [if_neg c63] at H
                                      exact absurd H (by simp)
                                    rw [if_pos c63] at H
                                    have LMc63 := Aside0.mk c63
                                    clear c63
                                    obtain ⟨y209, hy209⟩ : ∃ y_ : List (S24), y_ = (t206 ++ ((rd_T70 l0 x3_1).f1)) := ⟨_, rfl⟩
                                    replace H : ((keys_Cmp.f kj54 y203 y209).bind fun bt212 => ((cadastrelaw7_num.f bt212.2).bind fun t214 => (if t214 = 0 then (if bt212.1 = t181 then (cadastrelaw7_KeysOrder.l0 kj54 l0 (wrap64 (x3_1 + 1))) else (some false)) else (some false)))) = some r := by first | (rw [hy209]; with_reducible exact H) | (have H2_ := (Option.bind_some _ _).symm.trans H; rw [hy209]; with_reducible exact H2_) | (have H2_ := (Option.bind_some _ _).symm.trans H; with_reducible exact H2_) | with_reducible exact H | (rw [hy209]; exact H) | exact H
                                    have Ny209 := Aside0.mk hy209
                                    clear hy209
                                    replace H := Option.bind_eq_some_iff.mp H
                                    obtain ⟨⟨t212, t213⟩, A640, H⟩ := H
                                    replace H : ((cadastrelaw7_num.f t213).bind fun t214 => (if t214 = 0 then (if t212 = t181 then (cadastrelaw7_KeysOrder.l0 kj54 l0 (wrap64 (x3_1 + 1))) else (some false)) else (some false))) = some r := H
                                    have A64 := Aside0.mk A640
                                    clear A640
                                    replace H := Option.bind_eq_some_iff.mp H
                                    obtain ⟨t214, A650, H⟩ := H
                                    replace H : (if t214 = 0 then (if t212 = t181 then (cadastrelaw7_KeysOrder.l0 kj54 l0 (wrap64 (x3_1 + 1))) else (some false)) else (some false)) = some r := H
                                    have A65 := Aside0.mk A650
                                    clear A650
                                    by_cases c66 : t214 = 0
                                    rotate_left
                                    · as_aux_lemma =>
                                      rw [if_neg c66] at H
                                      have c66b0 : (t214 == 0) = false := beq_eq_false_iff_ne.mpr c66
                                      have c66b1 : (t214 != 0) = true := bne_iff_ne.mpr c66
                                      obtain rfl := Option.some.inj H
                                      try go_wp2_with (first | ((with_reducible refine gate_dst (N := 143) rfl ?_); (try (refine gate_guard (by rfl) ?_; dsimp only)); refine Kd.R_lit k24 _ 24 ?hg (N := 143) ?hd (xs := ([(⟨2, 0, (⟨#[120]⟩ : ByteArray)⟩ : S24)] : List (S24))) (inner := [.int .i64 2, .int .i64 0, .string (⟨#[120]⟩ : ByteArray)]) (ok := fun _ => True) (okp := fun _ => True) ?hr ?hp (fun _ hk => hk) trivial (Below.refl _ _) (Nat.le_refl _) (by simp) ?_; (case hd => rfl); (case hg => rfl); (case hr => first | (go_simp; done) | (go_simp; rfl)); (case hp => exact (Reps.c3 (show Kd.M k24 _ _ _ (⟨2, 0, (⟨#[120]⟩ : ByteArray)⟩ : S24) [.int .i64 2, .int .i64 0, .string (⟨#[120]⟩ : ByteArray)] from (k24_mkM _ _ _ (⟨2, 0, (⟨#[120]⟩ : ByteArray)⟩ : S24) )) (Reps.none _ _))); intro v198 w67 ho68 hb hg_ hnew_; clear hg_ hnew_; (first | rw [← Ny197.out] at ho68 | (simp only [Int.reduceToNat] at ho68; rw [← Ny197.out] at ho68)); have n0_ := Aside0.mk (Kd.R_lower ho68 (below_size (by repeat (first | (with_reducible first | exact HB.out | apply below_alloc | apply pw_below_drewN | apply below_drew1 | refine below_set ?_ GE178.out) | exact HB.out)))); have n1_ := Aside0.mk (blk_below (g := gb178) (o := .cells #[.slice A177_0 ((rd_T70 l0 x3_1).f0).length c177_0, .slice A177_1 ((rd_T70 l0 x3_1).f1).length c177_1, .slice A177_2 ((rd_T70 l0 x3_1).f2).length c177_2] 70 (0, 0)) (by (with_reducible repeat (first | refine blk_drewN ?_ _ | refine blk_drew ?_ | refine blk_alloc ?_ _)); exact BK178.out) hb); have n2_ := Aside0.mk (below_step (by repeat (first | (with_reducible first | exact HB.out | apply below_alloc | apply pw_below_drewN | apply below_drew1 | refine below_set ?_ GE178.out) | exact HB.out)) hb); clear BK178; clear HB; have HO199 := n0_; have BK178 := n1_; have HB := n2_; clear n0_ n1_ n2_; clear hb ho68))
                                      have n0_ := Aside0.mk (Kd.R_drew HO199.out)
                                      have n1_ := Aside0.mk (blk_drew BK178.out)
                                      have n2_ := Aside0.mk (below_drew1 HB.out)
                                      clear HO199
                                      clear BK178
                                      clear HB
                                      have HO199 := n0_
                                      have BK178 := n1_
                                      have HB := n2_
                                      clear n0_ n1_ n2_
                                      obtain ⟨Ao70, co70, eo70⟩ := Kd.R_slice HO199.out
                                      (first | subst eo70 | (injection eo70 with f1_ f2_ f3_; have f4_ := f1_.symm; have f5_ := f3_.symm; clear f1_ f2_ f3_; subst f4_; subst f5_))
                                      refine start_ (n := 16) (S := fun w' => w'.cell? ⟨gb178, 0, none⟩ = some (.slice A177_0 ((rd_T70 l0 x3_1).f0).length c177_0) ∧ w'.cell? ⟨gb178, 1, none⟩ = some (.slice A177_1 ((rd_T70 l0 x3_1).f1).length c177_1) ∧ w'.cell? ⟨gb178, 2, none⟩ = some (.slice A177_2 ((rd_T70 l0 x3_1).f2).length c177_2)) (ds := []) #[false, false, false, false, false, false, false, false, false, false, false, false, false, false, false, false] (by kernel_rfl) rfl rfl ⟨(blk_cell BK178.out 0).trans rfl, (blk_cell BK178.out 1).trans rfl, (blk_cell BK178.out 2).trans rfl⟩ (fun hHeld => ?_); refine with_tabW cadastrelaw7_KeysOrder.tab17 cadastrelaw7_KeysOrder.bits17 (fun HT_ HW_ => ?_)
                                      generalize w67.drew = w69 at HO199 BK178 HB hHeld ⊢
                                      refine pure_ (i := 0) (N := some 145) (v := ?_) (a' := ?_) #[true, false, false, false, false, false, false, false, false, false, false, false, false, false, false, false] rfl rfl (any_of HT_.out (by kernel_rfl)) (fun _ _ _ h => h) (Or.inl ⟨by rfl, ?_⟩) ?_ ?_
                                      rotate_left
                                      · intro w'
                                        go_simp
                                        with_reducible rfl
                                      rotate_left
                                      · simp only [Act.put, List.setIfInBounds_toArray, List.set_cons_zero, List.set_cons_succ, i64_w, i32_w, u32_w, u8_w, w64_m8, w64_m32, w64_bt]
                                        rfl
                                      refine pure_ (i := 2) (N := some 147) (v := ?_) (a' := ?_) #[true, false, true, false, false, false, false, false, false, false, false, false, false, false, false, false] rfl rfl (any_of HT_.out (by kernel_rfl)) (fun _ _ _ h => h) (Or.inl ⟨by rfl, ?_⟩) ?_ ?_
                                      rotate_left
                                      · intro w'
                                        go_simp
                                        with_reducible rfl
                                      rotate_left
                                      · simp only [Act.put, List.setIfInBounds_toArray, List.set_cons_zero, List.set_cons_succ, i64_w, i32_w, u32_w, u8_w, w64_m8, w64_m32, w64_bt]
                                        rfl
                                      refine pure_ (i := 5) (N := some 150) (v := ?_) (a' := ?_) #[true, false, true, false, false, true, false, false, false, false, false, false, false, false, false, false] rfl rfl (any_of HT_.out (by kernel_rfl)) (fun _ _ _ h => h) (Or.inl ⟨by rfl, ?_⟩) ?_ ?_
                                      rotate_left
                                      · intro w'
                                        go_simp
                                        with_reducible rfl
                                      rotate_left
                                      · simp only [Act.put, List.setIfInBounds_toArray, List.set_cons_zero, List.set_cons_succ, i64_w, i32_w, u32_w, u8_w, w64_m8, w64_m32, w64_bt]
                                        rfl
                                      refine pure_ (i := 7) (N := some 152) (v := ?_) (a' := ?_) #[true, false, true, false, false, true, false, true, false, false, false, false, false, false, false, false] rfl rfl (any_of HT_.out (by kernel_rfl)) (fun _ _ _ h => h) (Or.inl ⟨by rfl, ?_⟩) ?_ ?_
                                      rotate_left
                                      · intro w'
                                        go_simp
                                        with_reducible rfl
                                      rotate_left
                                      · simp only [Act.put, List.setIfInBounds_toArray, List.set_cons_zero, List.set_cons_succ, i64_w, i32_w, u32_w, u8_w, w64_m8, w64_m32, w64_bt]
                                        rfl
                                      refine take_ (i := 3) (N := some 148) (v := ?_) (a' := ?_) #[true, false, true, true, false, true, false, true, false, false, false, false, false, false, false, false] rfl rfl (take_ofW HT_.out HW_.out (by kernel_rfl)) (fun _ _ _ h => h) (Or.inl ⟨by rfl, ?_⟩) hHeld ?_ ?_
                                      rotate_left
                                      · rintro w' ⟨s0, s1, s2⟩
                                        go_simp
                                        with_reducible rfl
                                      rotate_left
                                      · simp only [Act.put, List.setIfInBounds_toArray, List.set_cons_zero, List.set_cons_succ, i64_w, i32_w, u32_w, u8_w, w64_m8, w64_m32, w64_bt]
                                        rfl
                                      refine take_ (i := 8) (N := some 153) (v := ?_) (a' := ?_) #[true, false, true, true, false, true, false, true, true, false, false, false, false, false, false, false] rfl rfl (take_ofW HT_.out HW_.out (by kernel_rfl)) (fun _ _ _ h => h) (Or.inl ⟨by rfl, ?_⟩) hHeld ?_ ?_
                                      rotate_left
                                      · rintro w' ⟨s0, s1, s2⟩
                                        go_simp
                                        with_reducible rfl
                                      rotate_left
                                      · simp only [Act.put, List.setIfInBounds_toArray, List.set_cons_zero, List.set_cons_succ, i64_w, i32_w, u32_w, u8_w, w64_m8, w64_m32, w64_bt]
                                        rfl
                                      refine one_ (i := 1) (N := some 146) #[true, true, true, true, false, true, false, true, true, false, false, false, false, false, false, false] rfl rfl (one_of HT_.out (by kernel_rfl)) (by decide) (fun K hK => ?_)
                                      refine goes_ Try.func64 (by kernel_rfl) rfl #[.slice Ao70 y197.length co70] (by rfl) rfl rfl (by (try simp only [List.map_toArray, List.map_cons, List.map_nil]); first | done | rfl | (simp only [List.length_drop, List.length_take]; rfl)) ?_
                                      with_reducible refine (cadastreref0_CopyValues.calls kj54 _ _ y197 t200 _ ?side1 ?side2 A60.out).mono ?_
                                      (case side1 => repeat (first | exact (Kd.R_reads' HO199.out).2.2 | (with_reducible refine Kd.C_alloc ?_ _) | (with_reducible refine Kd.C_drewN ?_ _) | (with_reducible refine Kd.C_drew ?_)))
                                      (case side2 => exact (Kd.R_reads' HO199.out).2.1)
                                      rintro e w71 ⟨v201, rfl, ho0, hb⟩
                                      refine ⟨_, rfl, ?_⟩
                                      have n0_ := Aside0.mk (Kd.R_elder' (by (with_reducible repeat (first | apply Kd.R_alloc | apply Kd.R_drewN | apply Kd.R_drew)); exact HO199.out) (Kd.R_base ho0) hb)
                                      have n1_ := Aside0.mk (Kd.R_lower (Kd.R_new' ho0 (Kd.R_lt (by (with_reducible repeat (first | apply Kd.R_alloc | apply Kd.R_drewN | apply Kd.R_drew)); exact HO199.out))) (below_size (by repeat (first | (with_reducible first | exact HB.out | apply below_alloc | apply pw_below_drewN | apply below_drew1 | refine below_set ?_ GE178.out) | exact HB.out))))
                                      have n2_ := Aside0.mk (blk_below (g := gb178) (o := .cells #[.slice A177_0 ((rd_T70 l0 x3_1).f0).length c177_0, .slice A177_1 ((rd_T70 l0 x3_1).f1).length c177_1, .slice A177_2 ((rd_T70 l0 x3_1).f2).length c177_2] 70 (0, 0)) (by (with_reducible repeat (first | refine blk_drewN ?_ _ | refine blk_drew ?_ | refine blk_alloc ?_ _)); exact BK178.out) hb)
                                      have n3_ := Aside0.mk (below_step (by repeat (first | (with_reducible first | exact HB.out | apply below_alloc | apply pw_below_drewN | apply below_drew1 | refine below_set ?_ GE178.out) | exact HB.out)) hb)
                                      clear HO199
                                      clear BK178
                                      clear HB
                                      have HO199 := n0_
                                      have HO202 := n1_
                                      have BK178 := n2_
                                      have HB := n3_
                                      clear n0_ n1_ n2_ n3_
                                      (try clear hb)
                                      (try clear hb2)
                                      (try clear hk)
                                      (try clear hi)
                                      (try clear ho0)
                                      refine hK.out _ _ ⟨(blk_cell BK178.out 0).trans rfl, (blk_cell BK178.out 1).trans rfl, (blk_cell BK178.out 2).trans rfl⟩ (fun hHeld => ?_)
                                      clear hK K
                                      refine norm_ (a' := ?_) ?_ ?_
                                      rotate_left
                                      · show Act.put _ (some 146) _ = _
                                        simp only [Act.put, List.setIfInBounds_toArray, List.set_cons_zero, List.set_cons_succ, i64_w, i32_w, u32_w, u8_w, w64_m8, w64_m32, w64_bt]
                                        rfl
                                      refine one_ (i := 4) (N := some 149) #[true, true, true, true, true, true, false, true, true, false, false, false, false, false, false, false] rfl rfl (one_of HT_.out (by kernel_rfl)) (by decide) (fun K hK => ?_)
                                      refine Kd.R_append_rows_step k24 (w0 := w) w.heap.size (by rfl) (.tmp 146) (.tmp 148) 67 24 (.agg #[(.int .i64 0), (.int .i64 0), (.string ⟨#[]⟩)]) 32 rfl Try.underlying67 info24 rfl (by decide) (by omega) v201 t200 ((rd_T70 l0 x3_1).f0) _ _ _ (fun k_ => some k_ ≠ (.slice Ao70 y197.length co70 : Value).ownBlock) (fun _ => False) rfl rfl ?aO ?aR (fun _ _ h => h) (fun _ h => h.elim) ?aF ?aB ?aS ?aL ?_
                                      (case aR => repeat (first | exact (Kd.C_below HR177_0.out HB.out) | (with_reducible refine Kd.C_alloc ?_ _) | (with_reducible refine Kd.C_drewN ?_ _) | (with_reducible refine Kd.C_drew ?_)))
                                      (case aB => exact (by repeat (first | (with_reducible first | exact HB.out | apply below_alloc | apply pw_below_drewN | apply below_drew1 | refine below_set ?_ GE178.out) | exact HB.out)))
                                      (case aF => exact (fun k_ hk => Kd.fresh' (Kd.R_lt (by (with_reducible repeat (first | apply Kd.R_alloc | apply Kd.R_drewN | apply Kd.R_drew)); exact HO199.out)) k_ hk))
                                      (case aO => exact (by (with_reducible repeat (first | apply Kd.R_alloc | apply Kd.R_drewN | apply Kd.R_drew)); exact Kd.R_mono HO202.out (fun _ hk => hk.2)))
                                      (case aS => exact (below_size (by repeat (first | (with_reducible first | exact HB.out | apply below_alloc | apply pw_below_drewN | apply below_drew1 | refine below_set ?_ GE178.out) | exact HB.out))))
                                      (case aL => have := LMc61.out; omega)
                                      intro v204 w72 ho hb hg hat
                                      rw [← Ny203.out] at ho
                                      have n0_ := Aside0.mk (blk_grown (g := gb178) (o := .cells #[.slice A177_0 ((rd_T70 l0 x3_1).f0).length c177_0, .slice A177_1 ((rd_T70 l0 x3_1).f1).length c177_1, .slice A177_2 ((rd_T70 l0 x3_1).f2).length c177_2] 70 (0, 0)) (by (with_reducible repeat (first | refine blk_drewN ?_ _ | refine blk_drew ?_ | refine blk_alloc ?_ _)); exact BK178.out) hg (Kd.R_ne HO202.out BK178.out (by decide)))
                                      have n1_ := Aside0.mk (Kd.R_after (ok := (fun _ => True)) (by (with_reducible repeat (first | apply Kd.R_alloc | apply Kd.R_drewN | apply Kd.R_drew)); exact HO199.out) hg hat)
                                      have n2_ := Aside0.mk (hb)
                                      have n3_ := Aside0.mk (ho)
                                      clear BK178
                                      clear HO199
                                      clear HB
                                      clear HO202
                                      have BK178 := n0_
                                      have HO199 := n1_
                                      have HB := n2_
                                      have HO205 := n3_
                                      clear n0_ n1_ n2_ n3_
                                      clear ho hb hg hat
                                      refine hK.out _ _ ⟨(blk_cell BK178.out 0).trans rfl, (blk_cell BK178.out 1).trans rfl, (blk_cell BK178.out 2).trans rfl⟩ (fun hHeld => ?_)
                                      clear hK K
                                      refine norm_ (a' := ?_) ?_ ?_
                                      rotate_left
                                      · show Act.put _ (some 149) _ = _
                                        simp only [Act.put, List.setIfInBounds_toArray, List.set_cons_zero, List.set_cons_succ, i64_w, i32_w, u32_w, u8_w, w64_m8, w64_m32, w64_bt]
                                        rfl
                                      refine one_ (i := 6) (N := some 151) #[true, true, true, true, true, true, true, true, true, false, false, false, false, false, false, false] rfl rfl (one_of HT_.out (by kernel_rfl)) (by decide) (fun K hK => ?_)
                                      refine goes_ Try.func64 (by kernel_rfl) rfl #[.slice Ao70 y197.length co70] (by rfl) rfl rfl (by (try simp only [List.map_toArray, List.map_cons, List.map_nil]); first | done | rfl | (simp only [List.length_drop, List.length_take]; rfl)) ?_
                                      with_reducible refine (cadastreref0_CopyValues.calls kj54 _ _ y197 t206 _ ?side1 ?side2 A62.out).mono ?_
                                      (case side1 => repeat (first | exact (Kd.R_reads' HO199.out).2.2 | (with_reducible refine Kd.C_alloc ?_ _) | (with_reducible refine Kd.C_drewN ?_ _) | (with_reducible refine Kd.C_drew ?_)))
                                      (case side2 => exact (Kd.R_reads' HO199.out).2.1)
                                      rintro e w73 ⟨v207, rfl, ho0, hb⟩
                                      refine ⟨_, rfl, ?_⟩
                                      have n0_ := Aside0.mk (Kd.R_elder' (by (with_reducible repeat (first | apply Kd.R_alloc | apply Kd.R_drewN | apply Kd.R_drew)); exact HO199.out) (Kd.R_base ho0) hb)
                                      have n1_ := Aside0.mk (Kd.R_elder' (by (with_reducible repeat (first | apply Kd.R_alloc | apply Kd.R_drewN | apply Kd.R_drew)); exact HO205.out) (Kd.R_base ho0) hb)
                                      have n2_ := Aside0.mk (Kd.R_lower (Kd.R_new' (Kd.R_new' ho0 (Kd.R_lt (by (with_reducible repeat (first | apply Kd.R_alloc | apply Kd.R_drewN | apply Kd.R_drew)); exact HO199.out))) (Kd.R_lt (by (with_reducible repeat (first | apply Kd.R_alloc | apply Kd.R_drewN | apply Kd.R_drew)); exact HO205.out))) (below_size (by repeat (first | (with_reducible first | exact HB.out | apply below_alloc | apply pw_below_drewN | apply below_drew1 | refine below_set ?_ GE178.out) | exact HB.out))))
                                      have n3_ := Aside0.mk (blk_below (g := gb178) (o := .cells #[.slice A177_0 ((rd_T70 l0 x3_1).f0).length c177_0, .slice A177_1 ((rd_T70 l0 x3_1).f1).length c177_1, .slice A177_2 ((rd_T70 l0 x3_1).f2).length c177_2] 70 (0, 0)) (by (with_reducible repeat (first | refine blk_drewN ?_ _ | refine blk_drew ?_ | refine blk_alloc ?_ _)); exact BK178.out) hb)
                                      have n4_ := Aside0.mk (below_step (by repeat (first | (with_reducible first | exact HB.out | apply below_alloc | apply pw_below_drewN | apply below_drew1 | refine below_set ?_ GE178.out) | exact HB.out)) hb)
                                      clear HO199
                                      clear HO205
                                      clear BK178
                                      clear HB
                                      have HO199 := n0_
                                      have HO205 := n1_
                                      have HO208 := n2_
                                      have BK178 := n3_
                                      have HB := n4_
                                      clear n0_ n1_ n2_ n3_ n4_
                                      (try clear hb)
                                      (try clear hb2)
                                      (try clear hk)
                                      (try clear hi)
                                      (try clear ho0)
                                      refine hK.out _ _ ⟨(blk_cell BK178.out 0).trans rfl, (blk_cell BK178.out 1).trans rfl, (blk_cell BK178.out 2).trans rfl⟩ (fun hHeld => ?_)
                                      clear hK K
                                      refine norm_ (a' := ?_) ?_ ?_
                                      rotate_left
                                      · show Act.put _ (some 151) _ = _
                                        simp only [Act.put, List.setIfInBounds_toArray, List.set_cons_zero, List.set_cons_succ, i64_w, i32_w, u32_w, u8_w, w64_m8, w64_m32, w64_bt]
                                        rfl
                                      refine one_ (i := 9) (N := some 154) #[true, true, true, true, true, true, true, true, true, true, false, false, false, false, false, false] rfl rfl (one_of HT_.out (by kernel_rfl)) (by decide) (fun K hK => ?_)
                                      refine Kd.R_append_rows_step k24 (w0 := w) w.heap.size (by rfl) (.tmp 151) (.tmp 153) 67 24 (.agg #[(.int .i64 0), (.int .i64 0), (.string ⟨#[]⟩)]) 32 rfl Try.underlying67 info24 rfl (by decide) (by omega) v207 t206 ((rd_T70 l0 x3_1).f1) _ _ _ (fun k_ => some k_ ≠ (.slice Ao70 y197.length co70 : Value).ownBlock ∧ some k_ ≠ (v204 : Value).ownBlock) (fun _ => False) rfl rfl ?aO ?aR (fun _ _ h => h) (fun _ h => h.elim) ?aF ?aB ?aS ?aL ?_
                                      (case aR => repeat (first | exact (Kd.C_below HR177_1.out HB.out) | (with_reducible refine Kd.C_alloc ?_ _) | (with_reducible refine Kd.C_drewN ?_ _) | (with_reducible refine Kd.C_drew ?_)))
                                      (case aB => exact (by repeat (first | (with_reducible first | exact HB.out | apply below_alloc | apply pw_below_drewN | apply below_drew1 | refine below_set ?_ GE178.out) | exact HB.out)))
                                      (case aF => exact (fun k_ hk => ⟨Kd.fresh' (Kd.R_lt (by (with_reducible repeat (first | apply Kd.R_alloc | apply Kd.R_drewN | apply Kd.R_drew)); exact HO199.out)) k_ hk, Kd.fresh' (Kd.R_lt (by (with_reducible repeat (first | apply Kd.R_alloc | apply Kd.R_drewN | apply Kd.R_drew)); exact HO205.out)) k_ hk⟩))
                                      (case aO => exact (by (with_reducible repeat (first | apply Kd.R_alloc | apply Kd.R_drewN | apply Kd.R_drew)); exact Kd.R_mono HO208.out (fun _ hk => ⟨hk.1.2, hk.2⟩)))
                                      (case aS => exact (below_size (by repeat (first | (with_reducible first | exact HB.out | apply below_alloc | apply pw_below_drewN | apply below_drew1 | refine below_set ?_ GE178.out) | exact HB.out))))
                                      (case aL => have := LMc63.out; omega)
                                      intro v210 w74 ho hb hg hat
                                      rw [← Ny209.out] at ho
                                      have n0_ := Aside0.mk (blk_grown (g := gb178) (o := .cells #[.slice A177_0 ((rd_T70 l0 x3_1).f0).length c177_0, .slice A177_1 ((rd_T70 l0 x3_1).f1).length c177_1, .slice A177_2 ((rd_T70 l0 x3_1).f2).length c177_2] 70 (0, 0)) (by (with_reducible repeat (first | refine blk_drewN ?_ _ | refine blk_drew ?_ | refine blk_alloc ?_ _)); exact BK178.out) hg (Kd.R_ne HO208.out BK178.out (by decide)))
                                      have n1_ := Aside0.mk (Kd.R_after (ok := (fun k_ => some k_ ≠ (v204 : Value).ownBlock)) (by (with_reducible repeat (first | apply Kd.R_alloc | apply Kd.R_drewN | apply Kd.R_drew)); exact Kd.R_mono HO199.out (fun _ hk => ⟨hk.1.2, hk.2⟩)) hg hat)
                                      have n2_ := Aside0.mk (Kd.R_after (ok := (fun k_ => some k_ ≠ (.slice Ao70 y197.length co70 : Value).ownBlock)) (by (with_reducible repeat (first | apply Kd.R_alloc | apply Kd.R_drewN | apply Kd.R_drew)); exact HO205.out) hg hat)
                                      have n3_ := Aside0.mk (hb)
                                      have n4_ := Aside0.mk (ho)
                                      clear BK178
                                      clear HO199
                                      clear HO205
                                      clear HB
                                      clear HO208
                                      have BK178 := n0_
                                      have HO199 := n1_
                                      have HO205 := n2_
                                      have HB := n3_
                                      have HO211 := n4_
                                      clear n0_ n1_ n2_ n3_ n4_
                                      clear ho hb hg hat
                                      obtain ⟨Ao75, co75, eo75⟩ := Kd.R_slice HO205.out
                                      (first | subst eo75 | (injection eo75 with f1_ f2_ f3_; have f4_ := f1_.symm; have f5_ := f3_.symm; clear f1_ f2_ f3_; subst f4_; subst f5_))
                                      obtain ⟨Ao76, co76, eo76⟩ := Kd.R_slice HO211.out
                                      (first | subst eo76 | (injection eo76 with f1_ f2_ f3_; have f4_ := f1_.symm; have f5_ := f3_.symm; clear f1_ f2_ f3_; subst f4_; subst f5_))
                                      refine hK.out _ _ ⟨(blk_cell BK178.out 0).trans rfl, (blk_cell BK178.out 1).trans rfl, (blk_cell BK178.out 2).trans rfl⟩ (fun hHeld => ?_)
                                      clear hK K
                                      refine norm_ (a' := ?_) ?_ ?_
                                      rotate_left
                                      · show Act.put _ (some 154) _ = _
                                        simp only [Act.put, List.setIfInBounds_toArray, List.set_cons_zero, List.set_cons_succ, i64_w, i32_w, u32_w, u8_w, w64_m8, w64_m32, w64_bt]
                                        rfl
                                      refine one_ (i := 10) (N := some 155) #[true, true, true, true, true, true, true, true, true, true, true, false, false, false, false, false] rfl rfl (one_of HT_.out (by kernel_rfl)) (by decide) (fun K hK => ?_)
                                      refine goes_ Try.func59 (by kernel_rfl) rfl #[.slice Ao75 y203.length co75, .slice Ao76 y209.length co76] (by rfl) rfl rfl (by (try simp only [List.map_toArray, List.map_cons, List.map_nil]); first | done | rfl | (simp only [List.length_drop, List.length_take]; rfl)) ?_
                                      with_reducible refine (keys_Cmp.calls kj54 (fun k_ => some k_ = (.slice Ao75 y203.length co75 : Value).ownBlock) _ _ y203 (fun k_ => some k_ = (.slice Ao76 y209.length co76 : Value).ownBlock) _ _ y209 t212 t213 _ ?side1 ?side2 A64.out).mono ?_
                                      (case side1 => exact Kd.R_V (Kd.R_tight rfl (Kd.R_types (HO205.out) BK178.out (by decide))))
                                      (case side2 => exact Kd.R_V (Kd.R_tight rfl (Kd.R_types (HO211.out) BK178.out (by decide))))
                                      rintro e w77 ⟨rfl, hb⟩
                                      refine ⟨_, rfl, ?_⟩
                                      have n0_ := Aside0.mk (Kd.R_below (by (with_reducible repeat (first | apply Kd.R_alloc | apply Kd.R_drewN | apply Kd.R_drew)); exact HO199.out) hb)
                                      have n1_ := Aside0.mk (Kd.R_below (by (with_reducible repeat (first | apply Kd.R_alloc | apply Kd.R_drewN | apply Kd.R_drew)); exact HO205.out) hb)
                                      have n2_ := Aside0.mk (Kd.R_below (by (with_reducible repeat (first | apply Kd.R_alloc | apply Kd.R_drewN | apply Kd.R_drew)); exact HO211.out) hb)
                                      have n3_ := Aside0.mk (blk_below (g := gb178) (o := .cells #[.slice A177_0 ((rd_T70 l0 x3_1).f0).length c177_0, .slice A177_1 ((rd_T70 l0 x3_1).f1).length c177_1, .slice A177_2 ((rd_T70 l0 x3_1).f2).length c177_2] 70 (0, 0)) (by (with_reducible repeat (first | refine blk_drewN ?_ _ | refine blk_drew ?_ | refine blk_alloc ?_ _)); exact BK178.out) hb)
                                      have n4_ := Aside0.mk (below_step (by repeat (first | (with_reducible first | exact HB.out | apply below_alloc | apply pw_below_drewN | apply below_drew1 | refine below_set ?_ GE178.out) | exact HB.out)) hb)
                                      clear HO199
                                      clear HO205
                                      clear HO211
                                      clear BK178
                                      clear HB
                                      have HO199 := n0_
                                      have HO205 := n1_
                                      have HO211 := n2_
                                      have BK178 := n3_
                                      have HB := n4_
                                      clear n0_ n1_ n2_ n3_ n4_
                                      (try clear hb)
                                      (try clear hb2)
                                      (try clear hk)
                                      (try clear hi)
                                      refine hK.out _ _ ⟨(blk_cell BK178.out 0).trans rfl, (blk_cell BK178.out 1).trans rfl, (blk_cell BK178.out 2).trans rfl⟩ (fun hHeld => ?_)
                                      clear hK K
                                      refine norm_ (a' := ?_) ?_ ?_
                                      rotate_left
                                      · show Act.put _ (some 155) _ = _
                                        simp only [Act.put, List.setIfInBounds_toArray, List.set_cons_zero, List.set_cons_succ, i64_w, i32_w, u32_w, u8_w, w64_m8, w64_m32, w64_bt]
                                        rfl
                                      refine pure_ (i := 11) (N := some 144) (v := ?_) (a' := ?_) #[true, true, true, true, true, true, true, true, true, true, true, true, false, false, false, false] rfl rfl (any_of HT_.out (by kernel_rfl)) (fun _ _ _ h => h) (Or.inl ⟨by rfl, ?_⟩) ?_ ?_
                                      rotate_left
                                      · intro w'
                                        go_simp
                                        with_reducible rfl
                                      rotate_left
                                      · simp only [Act.put, List.setIfInBounds_toArray, List.set_cons_zero, List.set_cons_succ, i64_w, i32_w, u32_w, u8_w, w64_m8, w64_m32, w64_bt]
                                        rfl
                                      refine pure_ (i := 12) (N := some 156) (v := ?_) (a' := ?_) #[true, true, true, true, true, true, true, true, true, true, true, true, true, false, false, false] rfl rfl (any_of HT_.out (by kernel_rfl)) (fun _ _ _ h => h) (Or.inl ⟨by rfl, ?_⟩) ?_ ?_
                                      rotate_left
                                      · intro w'
                                        go_simp
                                        with_reducible rfl
                                      rotate_left
                                      · simp only [Act.put, List.setIfInBounds_toArray, List.set_cons_zero, List.set_cons_succ, i64_w, i32_w, u32_w, u8_w, w64_m8, w64_m32, w64_bt]
                                        rfl
                                      refine pure_ (i := 13) (N := some 157) (v := ?_) (a' := ?_) #[true, true, true, true, true, true, true, true, true, true, true, true, true, true, false, false] rfl rfl (any_of HT_.out (by kernel_rfl)) (fun _ _ _ h => h) (Or.inl ⟨by rfl, ?_⟩) ?_ ?_
                                      rotate_left
                                      · intro w'
                                        go_simp
                                        with_reducible rfl
                                      rotate_left
                                      · simp only [Act.put, List.setIfInBounds_toArray, List.set_cons_zero, List.set_cons_succ, i64_w, i32_w, u32_w, u8_w, w64_m8, w64_m32, w64_bt]
                                        rfl
                                      refine pure_ (i := 14) (N := some 16) (v := ?_) (a' := ?_) #[true, true, true, true, true, true, true, true, true, true, true, true, true, true, true, false] rfl rfl (any_of HT_.out (by kernel_rfl)) (fun _ _ _ h => h) (Or.inl ⟨by rfl, ?_⟩) ?_ ?_
                                      rotate_left
                                      · intro w'
                                        go_simp
                                        with_reducible rfl
                                      rotate_left
                                      · simp only [Act.put, List.setIfInBounds_toArray, List.set_cons_zero, List.set_cons_succ, i64_w, i32_w, u32_w, u8_w, w64_m8, w64_m32, w64_bt]
                                        rfl
                                      refine pure_ (i := 15) (N := some 17) (v := ?_) (a' := ?_) #[true, true, true, true, true, true, true, true, true, true, true, true, true, true, true, true] rfl rfl (any_of HT_.out (by kernel_rfl)) (fun _ _ _ h => h) (Or.inl ⟨by rfl, ?_⟩) ?_ ?_
                                      rotate_left
                                      · intro w'
                                        go_simp
                                        with_reducible rfl
                                      rotate_left
                                      · simp only [Act.put, List.setIfInBounds_toArray, List.set_cons_zero, List.set_cons_succ, i64_w, i32_w, u32_w, u8_w, w64_m8, w64_m32, w64_bt]
                                        rfl
                                      refine done_ (done_of HT_.out (by kernel_rfl)) ?_
                                      try go_wp2_with (first | ((with_reducible refine gate_callee (f := 60) rfl ?_); refine goesL_ (some 159) rfl rfl Try.func60 (by kernel_rfl) rfl #[.int .i64 t213] rfl (by (try simp only [List.map_toArray, List.map_cons, List.map_nil]); first | done | rfl | (simp only [List.length_drop, List.length_take]; rfl)) ?_; (with_reducible refine (cadastrelaw7_num.calls t213 t214 _ A65.out).mono ?_); rintro e w' ⟨rfl, ⟨nd, rfl⟩⟩; refine ⟨_, rfl, ?_⟩))
                                      go_ret
                                      exact ⟨by first | rfl | (simp [errW_none, errW_some] <;> rfl) | (simp [*, errW_none, errW_some] <;> rfl), by repeat (first | (with_reducible first | exact HB.out | apply below_alloc | apply pw_below_drewN | apply below_drew1 | refine below_set ?_ GE178.out) | exact HB.out)⟩
                                    rw [if_pos c66] at H
                                    have c66b0 : (t214 == 0) = true := beq_iff_eq.mpr c66
                                    have c66b1 : (t214 != 0) = false := bne_eq_false_iff_eq.mpr c66
                                    clear c66
                                    by_cases c78 : t212 = t181
                                    · as_aux_lemma =>
                                      rw [if_pos c78] at H
                                      have c78b0 : (t212 == t181) = true := beq_iff_eq.mpr c78
                                      have c78b1 : (t212 != t181) = false := bne_eq_false_iff_eq.mpr c78
                                      clear c78
                                      have H' := Aside0.mk H
                                      clear H
                                      try go_wp2_with (first | ((with_reducible refine gate_dst (N := 143) rfl ?_); (try (refine gate_guard (by rfl) ?_; dsimp only)); refine Kd.R_lit k24 _ 24 ?hg (N := 143) ?hd (xs := ([(⟨2, 0, (⟨#[120]⟩ : ByteArray)⟩ : S24)] : List (S24))) (inner := [.int .i64 2, .int .i64 0, .string (⟨#[120]⟩ : ByteArray)]) (ok := fun _ => True) (okp := fun _ => True) ?hr ?hp (fun _ hk => hk) trivial (Below.refl _ _) (Nat.le_refl _) (by simp) ?_; (case hd => rfl); (case hg => rfl); (case hr => first | (go_simp; done) | (go_simp; rfl)); (case hp => exact (Reps.c3 (show Kd.M k24 _ _ _ (⟨2, 0, (⟨#[120]⟩ : ByteArray)⟩ : S24) [.int .i64 2, .int .i64 0, .string (⟨#[120]⟩ : ByteArray)] from (k24_mkM _ _ _ (⟨2, 0, (⟨#[120]⟩ : ByteArray)⟩ : S24) )) (Reps.none _ _))); intro v198 w79 ho80 hb hg_ hnew_; clear hg_ hnew_; (first | rw [← Ny197.out] at ho80 | (simp only [Int.reduceToNat] at ho80; rw [← Ny197.out] at ho80)); have n0_ := Aside0.mk (Kd.R_lower ho80 (below_size (by repeat (first | (with_reducible first | exact HB.out | apply below_alloc | apply pw_below_drewN | apply below_drew1 | refine below_set ?_ GE178.out) | exact HB.out)))); have n1_ := Aside0.mk (blk_below (g := gb178) (o := .cells #[.slice A177_0 ((rd_T70 l0 x3_1).f0).length c177_0, .slice A177_1 ((rd_T70 l0 x3_1).f1).length c177_1, .slice A177_2 ((rd_T70 l0 x3_1).f2).length c177_2] 70 (0, 0)) (by (with_reducible repeat (first | refine blk_drewN ?_ _ | refine blk_drew ?_ | refine blk_alloc ?_ _)); exact BK178.out) hb); have n2_ := Aside0.mk (below_step (by repeat (first | (with_reducible first | exact HB.out | apply below_alloc | apply pw_below_drewN | apply below_drew1 | refine below_set ?_ GE178.out) | exact HB.out)) hb); clear BK178; clear HB; have HO199 := n0_; have BK178 := n1_; have HB := n2_; clear n0_ n1_ n2_; clear hb ho80))
                                      have n0_ := Aside0.mk (Kd.R_drew HO199.out)
                                      have n1_ := Aside0.mk (blk_drew BK178.out)
                                      have n2_ := Aside0.mk (below_drew1 HB.out)
                                      clear HO199
                                      clear BK178
                                      clear HB
                                      have HO199 := n0_
                                      have BK178 := n1_
                                      have HB := n2_
                                      clear n0_ n1_ n2_
                                      obtain ⟨Ao82, co82, eo82⟩ := Kd.R_slice HO199.out
                                      (first | subst eo82 | (injection eo82 with f1_ f2_ f3_; have f4_ := f1_.symm; have f5_ := f3_.symm; clear f1_ f2_ f3_; subst f4_; subst f5_))
                                      refine start_ (n := 16) (S := fun w' => w'.cell? ⟨gb178, 0, none⟩ = some (.slice A177_0 ((rd_T70 l0 x3_1).f0).length c177_0) ∧ w'.cell? ⟨gb178, 1, none⟩ = some (.slice A177_1 ((rd_T70 l0 x3_1).f1).length c177_1) ∧ w'.cell? ⟨gb178, 2, none⟩ = some (.slice A177_2 ((rd_T70 l0 x3_1).f2).length c177_2)) (ds := []) #[false, false, false, false, false, false, false, false, false, false, false, false, false, false, false, false] (by kernel_rfl) rfl rfl ⟨(blk_cell BK178.out 0).trans rfl, (blk_cell BK178.out 1).trans rfl, (blk_cell BK178.out 2).trans rfl⟩ (fun hHeld => ?_); refine with_tabW cadastrelaw7_KeysOrder.tab17 cadastrelaw7_KeysOrder.bits17 (fun HT_ HW_ => ?_)
                                      generalize w79.drew = w81 at HO199 BK178 HB hHeld ⊢
                                      refine pure_ (i := 0) (N := some 145) (v := ?_) (a' := ?_) #[true, false, false, false, false, false, false, false, false, false, false, false, false, false, false, false] rfl rfl (any_of HT_.out (by kernel_rfl)) (fun _ _ _ h => h) (Or.inl ⟨by rfl, ?_⟩) ?_ ?_
                                      rotate_left
                                      · intro w'
                                        go_simp
                                        with_reducible rfl
                                      rotate_left
                                      · simp only [Act.put, List.setIfInBounds_toArray, List.set_cons_zero, List.set_cons_succ, i64_w, i32_w, u32_w, u8_w, w64_m8, w64_m32, w64_bt]
                                        rfl
                                      refine pure_ (i := 2) (N := some 147) (v := ?_) (a' := ?_) #[true, false, true, false, false, false, false, false, false, false, false, false, false, false, false, false] rfl rfl (any_of HT_.out (by kernel_rfl)) (fun _ _ _ h => h) (Or.inl ⟨by rfl, ?_⟩) ?_ ?_
                                      rotate_left
                                      · intro w'
                                        go_simp
                                        with_reducible rfl
                                      rotate_left
                                      · simp only [Act.put, List.setIfInBounds_toArray, List.set_cons_zero, List.set_cons_succ, i64_w, i32_w, u32_w, u8_w, w64_m8, w64_m32, w64_bt]
                                        rfl
                                      refine pure_ (i := 5) (N := some 150) (v := ?_) (a' := ?_) #[true, false, true, false, false, true, false, false, false, false, false, false, false, false, false, false] rfl rfl (any_of HT_.out (by kernel_rfl)) (fun _ _ _ h => h) (Or.inl ⟨by rfl, ?_⟩) ?_ ?_
                                      rotate_left
                                      · intro w'
                                        go_simp
                                        with_reducible rfl
                                      rotate_left
                                      · simp only [Act.put, List.setIfInBounds_toArray, List.set_cons_zero, List.set_cons_succ, i64_w, i32_w, u32_w, u8_w, w64_m8, w64_m32, w64_bt]
                                        rfl
                                      refine pure_ (i := 7) (N := some 152) (v := ?_) (a' := ?_) #[true, false, true, false, false, true, false, true, false, false, false, false, false, false, false, false] rfl rfl (any_of HT_.out (by kernel_rfl)) (fun _ _ _ h => h) (Or.inl ⟨by rfl, ?_⟩) ?_ ?_
                                      rotate_left
                                      · intro w'
                                        go_simp
                                        with_reducible rfl
                                      rotate_left
                                      · simp only [Act.put, List.setIfInBounds_toArray, List.set_cons_zero, List.set_cons_succ, i64_w, i32_w, u32_w, u8_w, w64_m8, w64_m32, w64_bt]
                                        rfl
                                      refine take_ (i := 3) (N := some 148) (v := ?_) (a' := ?_) #[true, false, true, true, false, true, false, true, false, false, false, false, false, false, false, false] rfl rfl (take_ofW HT_.out HW_.out (by kernel_rfl)) (fun _ _ _ h => h) (Or.inl ⟨by rfl, ?_⟩) hHeld ?_ ?_
                                      rotate_left
                                      · rintro w' ⟨s0, s1, s2⟩
                                        go_simp
                                        with_reducible rfl
                                      rotate_left
                                      · simp only [Act.put, List.setIfInBounds_toArray, List.set_cons_zero, List.set_cons_succ, i64_w, i32_w, u32_w, u8_w, w64_m8, w64_m32, w64_bt]
                                        rfl
                                      refine take_ (i := 8) (N := some 153) (v := ?_) (a' := ?_) #[true, false, true, true, false, true, false, true, true, false, false, false, false, false, false, false] rfl rfl (take_ofW HT_.out HW_.out (by kernel_rfl)) (fun _ _ _ h => h) (Or.inl ⟨by rfl, ?_⟩) hHeld ?_ ?_
                                      rotate_left
                                      · rintro w' ⟨s0, s1, s2⟩
                                        go_simp
                                        with_reducible rfl
                                      rotate_left
                                      · simp only [Act.put, List.setIfInBounds_toArray, List.set_cons_zero, List.set_cons_succ, i64_w, i32_w, u32_w, u8_w, w64_m8, w64_m32, w64_bt]
                                        rfl
                                      refine one_ (i := 1) (N := some 146) #[true, true, true, true, false, true, false, true, true, false, false, false, false, false, false, false] rfl rfl (one_of HT_.out (by kernel_rfl)) (by decide) (fun K hK => ?_)
                                      refine goes_ Try.func64 (by kernel_rfl) rfl #[.slice Ao82 y197.length co82] (by rfl) rfl rfl (by (try simp only [List.map_toArray, List.map_cons, List.map_nil]); first | done | rfl | (simp only [List.length_drop, List.length_take]; rfl)) ?_
                                      with_reducible refine (cadastreref0_CopyValues.calls kj54 _ _ y197 t200 _ ?side1 ?side2 A60.out).mono ?_
                                      (case side1 => repeat (first | exact (Kd.R_reads' HO199.out).2.2 | (with_reducible refine Kd.C_alloc ?_ _) | (with_reducible refine Kd.C_drewN ?_ _) | (with_reducible refine Kd.C_drew ?_)))
                                      (case side2 => exact (Kd.R_reads' HO199.out).2.1)
                                      rintro e w83 ⟨v201, rfl, ho0, hb⟩
                                      refine ⟨_, rfl, ?_⟩
                                      have n0_ := Aside0.mk (Kd.R_elder' (by (with_reducible repeat (first | apply Kd.R_alloc | apply Kd.R_drewN | apply Kd.R_drew)); exact HO199.out) (Kd.R_base ho0) hb)
                                      have n1_ := Aside0.mk (Kd.R_lower (Kd.R_new' ho0 (Kd.R_lt (by (with_reducible repeat (first | apply Kd.R_alloc | apply Kd.R_drewN | apply Kd.R_drew)); exact HO199.out))) (below_size (by repeat (first | (with_reducible first | exact HB.out | apply below_alloc | apply pw_below_drewN | apply below_drew1 | refine below_set ?_ GE178.out) | exact HB.out))))
                                      have n2_ := Aside0.mk (blk_below (g := gb178) (o := .cells #[.slice A177_0 ((rd_T70 l0 x3_1).f0).length c177_0, .slice A177_1 ((rd_T70 l0 x3_1).f1).length c177_1, .slice A177_2 ((rd_T70 l0 x3_1).f2).length c177_2] 70 (0, 0)) (by (with_reducible repeat (first | refine blk_drewN ?_ _ | refine blk_drew ?_ | refine blk_alloc ?_ _)); exact BK178.out) hb)
                                      have n3_ := Aside0.mk (below_step (by repeat (first | (with_reducible first | exact HB.out | apply below_alloc | apply pw_below_drewN | apply below_drew1 | refine below_set ?_ GE178.out) | exact HB.out)) hb)
                                      clear HO199
                                      clear BK178
                                      clear HB
                                      have HO199 := n0_
                                      have HO202 := n1_
                                      have BK178 := n2_
                                      have HB := n3_
                                      clear n0_ n1_ n2_ n3_
                                      (try clear hb)
                                      (try clear hb2)
                                      (try clear hk)
                                      (try clear hi)
                                      (try clear ho0)
                                      refine hK.out _ _ ⟨(blk_cell BK178.out 0).trans rfl, (blk_cell BK178.out 1).trans rfl, (blk_cell BK178.out 2).trans rfl⟩ (fun hHeld => ?_)
                                      clear hK K
                                      refine norm_ (a' := ?_) ?_ ?_
                                      rotate_left
                                      · show Act.put _ (some 146) _ = _
                                        simp only [Act.put, List.setIfInBounds_toArray, List.set_cons_zero, List.set_cons_succ, i64_w, i32_w, u32_w, u8_w, w64_m8, w64_m32, w64_bt]
                                        rfl
                                      refine one_ (i := 4) (N := some 149) #[true, true, true, true, true, true, false, true, true, false, false, false, false, false, false, false] rfl rfl (one_of HT_.out (by kernel_rfl)) (by decide) (fun K hK => ?_)
                                      refine Kd.R_append_rows_step k24 (w0 := w) w.heap.size (by rfl) (.tmp 146) (.tmp 148) 67 24 (.agg #[(.int .i64 0), (.int .i64 0), (.string ⟨#[]⟩)]) 32 rfl Try.underlying67 info24 rfl (by decide) (by omega) v201 t200 ((rd_T70 l0 x3_1).f0) _ _ _ (fun k_ => some k_ ≠ (.slice Ao82 y197.length co82 : Value).ownBlock) (fun _ => False) rfl rfl ?aO ?aR (fun _ _ h => h) (fun _ h => h.elim) ?aF ?aB ?aS ?aL ?_
                                      (case aR => repeat (first | exact (Kd.C_below HR177_0.out HB.out) | (with_reducible refine Kd.C_alloc ?_ _) | (with_reducible refine Kd.C_drewN ?_ _) | (with_reducible refine Kd.C_drew ?_)))
                                      (case aB => exact (by repeat (first | (with_reducible first | exact HB.out | apply below_alloc | apply pw_below_drewN | apply below_drew1 | refine below_set ?_ GE178.out) | exact HB.out)))
                                      (case aF => exact (fun k_ hk => Kd.fresh' (Kd.R_lt (by (with_reducible repeat (first | apply Kd.R_alloc | apply Kd.R_drewN | apply Kd.R_drew)); exact HO199.out)) k_ hk))
                                      (case aO => exact (by (with_reducible repeat (first | apply Kd.R_alloc | apply Kd.R_drewN | apply Kd.R_drew)); exact Kd.R_mono HO202.out (fun _ hk => hk.2)))
                                      (case aS => exact (below_size (by repeat (first | (with_reducible first | exact HB.out | apply below_alloc | apply pw_below_drewN | apply below_drew1 | refine below_set ?_ GE178.out) | exact HB.out))))
                                      (case aL => have := LMc61.out; omega)
                                      intro v204 w84 ho hb hg hat
                                      rw [← Ny203.out] at ho
                                      have n0_ := Aside0.mk (blk_grown (g := gb178) (o := .cells #[.slice A177_0 ((rd_T70 l0 x3_1).f0).length c177_0, .slice A177_1 ((rd_T70 l0 x3_1).f1).length c177_1, .slice A177_2 ((rd_T70 l0 x3_1).f2).length c177_2] 70 (0, 0)) (by (with_reducible repeat (first | refine blk_drewN ?_ _ | refine blk_drew ?_ | refine blk_alloc ?_ _)); exact BK178.out) hg (Kd.R_ne HO202.out BK178.out (by decide)))
                                      have n1_ := Aside0.mk (Kd.R_after (ok := (fun _ => True)) (by (with_reducible repeat (first | apply Kd.R_alloc | apply Kd.R_drewN | apply Kd.R_drew)); exact HO199.out) hg hat)
                                      have n2_ := Aside0.mk (hb)
                                      have n3_ := Aside0.mk (ho)
                                      clear BK178
                                      clear HO199
                                      clear HB
                                      clear HO202
                                      have BK178 := n0_
                                      have HO199 := n1_
                                      have HB := n2_
                                      have HO205 := n3_
                                      clear n0_ n1_ n2_ n3_
                                      clear ho hb hg hat
                                      refine hK.out _ _ ⟨(blk_cell BK178.out 0).trans rfl, (blk_cell BK178.out 1).trans rfl, (blk_cell BK178.out 2).trans rfl⟩ (fun hHeld => ?_)
                                      clear hK K
                                      refine norm_ (a' := ?_) ?_ ?_
                                      rotate_left
                                      · show Act.put _ (some 149) _ = _
                                        simp only [Act.put, List.setIfInBounds_toArray, List.set_cons_zero, List.set_cons_succ, i64_w, i32_w, u32_w, u8_w, w64_m8, w64_m32, w64_bt]
                                        rfl
                                      refine one_ (i := 6) (N := some 151) #[true, true, true, true, true, true, true, true, true, false, false, false, false, false, false, false] rfl rfl (one_of HT_.out (by kernel_rfl)) (by decide) (fun K hK => ?_)
                                      refine goes_ Try.func64 (by kernel_rfl) rfl #[.slice Ao82 y197.length co82] (by rfl) rfl rfl (by (try simp only [List.map_toArray, List.map_cons, List.map_nil]); first | done | rfl | (simp only [List.length_drop, List.length_take]; rfl)) ?_
                                      with_reducible refine (cadastreref0_CopyValues.calls kj54 _ _ y197 t206 _ ?side1 ?side2 A62.out).mono ?_
                                      (case side1 => repeat (first | exact (Kd.R_reads' HO199.out).2.2 | (with_reducible refine Kd.C_alloc ?_ _) | (with_reducible refine Kd.C_drewN ?_ _) | (with_reducible refine Kd.C_drew ?_)))
                                      (case side2 => exact (Kd.R_reads' HO199.out).2.1)
                                      rintro e w85 ⟨v207, rfl, ho0, hb⟩
                                      refine ⟨_, rfl, ?_⟩
                                      have n0_ := Aside0.mk (Kd.R_elder' (by (with_reducible repeat (first | apply Kd.R_alloc | apply Kd.R_drewN | apply Kd.R_drew)); exact HO199.out) (Kd.R_base ho0) hb)
                                      have n1_ := Aside0.mk (Kd.R_elder' (by (with_reducible repeat (first | apply Kd.R_alloc | apply Kd.R_drewN | apply Kd.R_drew)); exact HO205.out) (Kd.R_base ho0) hb)
                                      have n2_ := Aside0.mk (Kd.R_lower (Kd.R_new' (Kd.R_new' ho0 (Kd.R_lt (by (with_reducible repeat (first | apply Kd.R_alloc | apply Kd.R_drewN | apply Kd.R_drew)); exact HO199.out))) (Kd.R_lt (by (with_reducible repeat (first | apply Kd.R_alloc | apply Kd.R_drewN | apply Kd.R_drew)); exact HO205.out))) (below_size (by repeat (first | (with_reducible first | exact HB.out | apply below_alloc | apply pw_below_drewN | apply below_drew1 | refine below_set ?_ GE178.out) | exact HB.out))))
                                      have n3_ := Aside0.mk (blk_below (g := gb178) (o := .cells #[.slice A177_0 ((rd_T70 l0 x3_1).f0).length c177_0, .slice A177_1 ((rd_T70 l0 x3_1).f1).length c177_1, .slice A177_2 ((rd_T70 l0 x3_1).f2).length c177_2] 70 (0, 0)) (by (with_reducible repeat (first | refine blk_drewN ?_ _ | refine blk_drew ?_ | refine blk_alloc ?_ _)); exact BK178.out) hb)
                                      have n4_ := Aside0.mk (below_step (by repeat (first | (with_reducible first | exact HB.out | apply below_alloc | apply pw_below_drewN | apply below_drew1 | refine below_set ?_ GE178.out) | exact HB.out)) hb)
                                      clear HO199
                                      clear HO205
                                      clear BK178
                                      clear HB
                                      have HO199 := n0_
                                      have HO205 := n1_
                                      have HO208 := n2_
                                      have BK178 := n3_
                                      have HB := n4_
                                      clear n0_ n1_ n2_ n3_ n4_
                                      (try clear hb)
                                      (try clear hb2)
                                      (try clear hk)
                                      (try clear hi)
                                      (try clear ho0)
                                      refine hK.out _ _ ⟨(blk_cell BK178.out 0).trans rfl, (blk_cell BK178.out 1).trans rfl, (blk_cell BK178.out 2).trans rfl⟩ (fun hHeld => ?_)
                                      clear hK K
                                      refine norm_ (a' := ?_) ?_ ?_
                                      rotate_left
                                      · show Act.put _ (some 151) _ = _
                                        simp only [Act.put, List.setIfInBounds_toArray, List.set_cons_zero, List.set_cons_succ, i64_w, i32_w, u32_w, u8_w, w64_m8, w64_m32, w64_bt]
                                        rfl
                                      refine one_ (i := 9) (N := some 154) #[true, true, true, true, true, true, true, true, true, true, false, false, false, false, false, false] rfl rfl (one_of HT_.out (by kernel_rfl)) (by decide) (fun K hK => ?_)
                                      refine Kd.R_append_rows_step k24 (w0 := w) w.heap.size (by rfl) (.tmp 151) (.tmp 153) 67 24 (.agg #[(.int .i64 0), (.int .i64 0), (.string ⟨#[]⟩)]) 32 rfl Try.underlying67 info24 rfl (by decide) (by omega) v207 t206 ((rd_T70 l0 x3_1).f1) _ _ _ (fun k_ => some k_ ≠ (.slice Ao82 y197.length co82 : Value).ownBlock ∧ some k_ ≠ (v204 : Value).ownBlock) (fun _ => False) rfl rfl ?aO ?aR (fun _ _ h => h) (fun _ h => h.elim) ?aF ?aB ?aS ?aL ?_
                                      (case aR => repeat (first | exact (Kd.C_below HR177_1.out HB.out) | (with_reducible refine Kd.C_alloc ?_ _) | (with_reducible refine Kd.C_drewN ?_ _) | (with_reducible refine Kd.C_drew ?_)))
                                      (case aB => exact (by repeat (first | (with_reducible first | exact HB.out | apply below_alloc | apply pw_below_drewN | apply below_drew1 | refine below_set ?_ GE178.out) | exact HB.out)))
                                      (case aF => exact (fun k_ hk => ⟨Kd.fresh' (Kd.R_lt (by (with_reducible repeat (first | apply Kd.R_alloc | apply Kd.R_drewN | apply Kd.R_drew)); exact HO199.out)) k_ hk, Kd.fresh' (Kd.R_lt (by (with_reducible repeat (first | apply Kd.R_alloc | apply Kd.R_drewN | apply Kd.R_drew)); exact HO205.out)) k_ hk⟩))
                                      (case aO => exact (by (with_reducible repeat (first | apply Kd.R_alloc | apply Kd.R_drewN | apply Kd.R_drew)); exact Kd.R_mono HO208.out (fun _ hk => ⟨hk.1.2, hk.2⟩)))
                                      (case aS => exact (below_size (by repeat (first | (with_reducible first | exact HB.out | apply below_alloc | apply pw_below_drewN | apply below_drew1 | refine below_set ?_ GE178.out) | exact HB.out))))
                                      (case aL => have := LMc63.out; omega)
                                      intro v210 w86 ho hb hg hat
                                      rw [← Ny209.out] at ho
                                      have n0_ := Aside0.mk (blk_grown (g := gb178) (o := .cells #[.slice A177_0 ((rd_T70 l0 x3_1).f0).length c177_0, .slice A177_1 ((rd_T70 l0 x3_1).f1).length c177_1, .slice A177_2 ((rd_T70 l0 x3_1).f2).length c177_2] 70 (0, 0)) (by (with_reducible repeat (first | refine blk_drewN ?_ _ | refine blk_drew ?_ | refine blk_alloc ?_ _)); exact BK178.out) hg (Kd.R_ne HO208.out BK178.out (by decide)))
                                      have n1_ := Aside0.mk (Kd.R_after (ok := (fun k_ => some k_ ≠ (v204 : Value).ownBlock)) (by (with_reducible repeat (first | apply Kd.R_alloc | apply Kd.R_drewN | apply Kd.R_drew)); exact Kd.R_mono HO199.out (fun _ hk => ⟨hk.1.2, hk.2⟩)) hg hat)
                                      have n2_ := Aside0.mk (Kd.R_after (ok := (fun k_ => some k_ ≠ (.slice Ao82 y197.length co82 : Value).ownBlock)) (by (with_reducible repeat (first | apply Kd.R_alloc | apply Kd.R_drewN | apply Kd.R_drew)); exact HO205.out) hg hat)
                                      have n3_ := Aside0.mk (hb)
                                      have n4_ := Aside0.mk (ho)
                                      clear BK178
                                      clear HO199
                                      clear HO205
                                      clear HB
                                      clear HO208
                                      have BK178 := n0_
                                      have HO199 := n1_
                                      have HO205 := n2_
                                      have HB := n3_
                                      have HO211 := n4_
                                      clear n0_ n1_ n2_ n3_ n4_
                                      clear ho hb hg hat
                                      obtain ⟨Ao87, co87, eo87⟩ := Kd.R_slice HO205.out
                                      (first | subst eo87 | (injection eo87 with f1_ f2_ f3_; have f4_ := f1_.symm; have f5_ := f3_.symm; clear f1_ f2_ f3_; subst f4_; subst f5_))
                                      obtain ⟨Ao88, co88, eo88⟩ := Kd.R_slice HO211.out
                                      (first | subst eo88 | (injection eo88 with f1_ f2_ f3_; have f4_ := f1_.symm; have f5_ := f3_.symm; clear f1_ f2_ f3_; subst f4_; subst f5_))
                                      refine hK.out _ _ ⟨(blk_cell BK178.out 0).trans rfl, (blk_cell BK178.out 1).trans rfl, (blk_cell BK178.out 2).trans rfl⟩ (fun hHeld => ?_)
                                      clear hK K
                                      refine norm_ (a' := ?_) ?_ ?_
                                      rotate_left
                                      · show Act.put _ (some 154) _ = _
                                        simp only [Act.put, List.setIfInBounds_toArray, List.set_cons_zero, List.set_cons_succ, i64_w, i32_w, u32_w, u8_w, w64_m8, w64_m32, w64_bt]
                                        rfl
                                      refine one_ (i := 10) (N := some 155) #[true, true, true, true, true, true, true, true, true, true, true, false, false, false, false, false] rfl rfl (one_of HT_.out (by kernel_rfl)) (by decide) (fun K hK => ?_)
                                      refine goes_ Try.func59 (by kernel_rfl) rfl #[.slice Ao87 y203.length co87, .slice Ao88 y209.length co88] (by rfl) rfl rfl (by (try simp only [List.map_toArray, List.map_cons, List.map_nil]); first | done | rfl | (simp only [List.length_drop, List.length_take]; rfl)) ?_
                                      with_reducible refine (keys_Cmp.calls kj54 (fun k_ => some k_ = (.slice Ao87 y203.length co87 : Value).ownBlock) _ _ y203 (fun k_ => some k_ = (.slice Ao88 y209.length co88 : Value).ownBlock) _ _ y209 t212 t213 _ ?side1 ?side2 A64.out).mono ?_
                                      (case side1 => exact Kd.R_V (Kd.R_tight rfl (Kd.R_types (HO205.out) BK178.out (by decide))))
                                      (case side2 => exact Kd.R_V (Kd.R_tight rfl (Kd.R_types (HO211.out) BK178.out (by decide))))
                                      rintro e w89 ⟨rfl, hb⟩
                                      refine ⟨_, rfl, ?_⟩
                                      have n0_ := Aside0.mk (Kd.R_below (by (with_reducible repeat (first | apply Kd.R_alloc | apply Kd.R_drewN | apply Kd.R_drew)); exact HO199.out) hb)
                                      have n1_ := Aside0.mk (Kd.R_below (by (with_reducible repeat (first | apply Kd.R_alloc | apply Kd.R_drewN | apply Kd.R_drew)); exact HO205.out) hb)
                                      have n2_ := Aside0.mk (Kd.R_below (by (with_reducible repeat (first | apply Kd.R_alloc | apply Kd.R_drewN | apply Kd.R_drew)); exact HO211.out) hb)
                                      have n3_ := Aside0.mk (blk_below (g := gb178) (o := .cells #[.slice A177_0 ((rd_T70 l0 x3_1).f0).length c177_0, .slice A177_1 ((rd_T70 l0 x3_1).f1).length c177_1, .slice A177_2 ((rd_T70 l0 x3_1).f2).length c177_2] 70 (0, 0)) (by (with_reducible repeat (first | refine blk_drewN ?_ _ | refine blk_drew ?_ | refine blk_alloc ?_ _)); exact BK178.out) hb)
                                      have n4_ := Aside0.mk (below_step (by repeat (first | (with_reducible first | exact HB.out | apply below_alloc | apply pw_below_drewN | apply below_drew1 | refine below_set ?_ GE178.out) | exact HB.out)) hb)
                                      clear HO199
                                      clear HO205
                                      clear HO211
                                      clear BK178
                                      clear HB
                                      have HO199 := n0_
                                      have HO205 := n1_
                                      have HO211 := n2_
                                      have BK178 := n3_
                                      have HB := n4_
                                      clear n0_ n1_ n2_ n3_ n4_
                                      (try clear hb)
                                      (try clear hb2)
                                      (try clear hk)
                                      (try clear hi)
                                      refine hK.out _ _ ⟨(blk_cell BK178.out 0).trans rfl, (blk_cell BK178.out 1).trans rfl, (blk_cell BK178.out 2).trans rfl⟩ (fun hHeld => ?_)
                                      clear hK K
                                      refine norm_ (a' := ?_) ?_ ?_
                                      rotate_left
                                      · show Act.put _ (some 155) _ = _
                                        simp only [Act.put, List.setIfInBounds_toArray, List.set_cons_zero, List.set_cons_succ, i64_w, i32_w, u32_w, u8_w, w64_m8, w64_m32, w64_bt]
                                        rfl
                                      refine pure_ (i := 11) (N := some 144) (v := ?_) (a' := ?_) #[true, true, true, true, true, true, true, true, true, true, true, true, false, false, false, false] rfl rfl (any_of HT_.out (by kernel_rfl)) (fun _ _ _ h => h) (Or.inl ⟨by rfl, ?_⟩) ?_ ?_
                                      rotate_left
                                      · intro w'
                                        go_simp
                                        with_reducible rfl
                                      rotate_left
                                      · simp only [Act.put, List.setIfInBounds_toArray, List.set_cons_zero, List.set_cons_succ, i64_w, i32_w, u32_w, u8_w, w64_m8, w64_m32, w64_bt]
                                        rfl
                                      refine pure_ (i := 12) (N := some 156) (v := ?_) (a' := ?_) #[true, true, true, true, true, true, true, true, true, true, true, true, true, false, false, false] rfl rfl (any_of HT_.out (by kernel_rfl)) (fun _ _ _ h => h) (Or.inl ⟨by rfl, ?_⟩) ?_ ?_
                                      rotate_left
                                      · intro w'
                                        go_simp
                                        with_reducible rfl
                                      rotate_left
                                      · simp only [Act.put, List.setIfInBounds_toArray, List.set_cons_zero, List.set_cons_succ, i64_w, i32_w, u32_w, u8_w, w64_m8, w64_m32, w64_bt]
                                        rfl
                                      refine pure_ (i := 13) (N := some 157) (v := ?_) (a' := ?_) #[true, true, true, true, true, true, true, true, true, true, true, true, true, true, false, false] rfl rfl (any_of HT_.out (by kernel_rfl)) (fun _ _ _ h => h) (Or.inl ⟨by rfl, ?_⟩) ?_ ?_
                                      rotate_left
                                      · intro w'
                                        go_simp
                                        with_reducible rfl
                                      rotate_left
                                      · simp only [Act.put, List.setIfInBounds_toArray, List.set_cons_zero, List.set_cons_succ, i64_w, i32_w, u32_w, u8_w, w64_m8, w64_m32, w64_bt]
                                        rfl
                                      refine pure_ (i := 14) (N := some 16) (v := ?_) (a' := ?_) #[true, true, true, true, true, true, true, true, true, true, true, true, true, true, true, false] rfl rfl (any_of HT_.out (by kernel_rfl)) (fun _ _ _ h => h) (Or.inl ⟨by rfl, ?_⟩) ?_ ?_
                                      rotate_left
                                      · intro w'
                                        go_simp
                                        with_reducible rfl
                                      rotate_left
                                      · simp only [Act.put, List.setIfInBounds_toArray, List.set_cons_zero, List.set_cons_succ, i64_w, i32_w, u32_w, u8_w, w64_m8, w64_m32, w64_bt]
                                        rfl
                                      refine pure_ (i := 15) (N := some 17) (v := ?_) (a' := ?_) #[true, true, true, true, true, true, true, true, true, true, true, true, true, true, true, true] rfl rfl (any_of HT_.out (by kernel_rfl)) (fun _ _ _ h => h) (Or.inl ⟨by rfl, ?_⟩) ?_ ?_
                                      rotate_left
                                      · intro w'
                                        go_simp
                                        with_reducible rfl
                                      rotate_left
                                      · simp only [Act.put, List.setIfInBounds_toArray, List.set_cons_zero, List.set_cons_succ, i64_w, i32_w, u32_w, u8_w, w64_m8, w64_m32, w64_bt]
                                        rfl
                                      refine done_ (done_of HT_.out (by kernel_rfl)) ?_
                                      try go_wp2_with (first | ((with_reducible refine gate_callee (f := 60) rfl ?_); refine goesL_ (some 159) rfl rfl Try.func60 (by kernel_rfl) rfl #[.int .i64 t213] rfl (by (try simp only [List.map_toArray, List.map_cons, List.map_nil]); first | done | rfl | (simp only [List.length_drop, List.length_take]; rfl)) ?_; (with_reducible refine (cadastrelaw7_num.calls t213 t214 _ A65.out).mono ?_); rintro e w' ⟨rfl, ⟨nd, rfl⟩⟩; refine ⟨_, rfl, ?_⟩))
                                      go_roundg kj54
                                      case measure => have := HK1.out; have := HJ1.out; have := HJ6.out; have := HJ23.out; have := HJ47.out; have := HJ54.out; omega
                                      case rel => exact ⟨(wrap64 (x3_1 + 1)), (by first | rfl | (simp; done) | (simp [*]; done)), H', ⟨by have := HK1.out; have := HJ1.out; have := HJ6.out; have := HJ23.out; have := HJ47.out; have := HJ54.out; omega⟩, ⟨by repeat (first | (with_reducible first | exact HB.out | apply below_alloc | apply pw_below_drewN | apply below_drew1 | refine below_set ?_ GE178.out) | exact HB.out)⟩⟩
                                    rw [if_neg c78] at H
                                    have c78b0 : (t212 == t181) = false := beq_eq_false_iff_ne.mpr c78
                                    have c78b1 : (t212 != t181) = true := bne_iff_ne.mpr c78
                                    obtain rfl := Option.some.inj H
                                    try go_wp2_with (first | ((with_reducible refine gate_dst (N := 143) rfl ?_); (try (refine gate_guard (by rfl) ?_; dsimp only)); refine Kd.R_lit k24 _ 24 ?hg (N := 143) ?hd (xs := ([(⟨2, 0, (⟨#[120]⟩ : ByteArray)⟩ : S24)] : List (S24))) (inner := [.int .i64 2, .int .i64 0, .string (⟨#[120]⟩ : ByteArray)]) (ok := fun _ => True) (okp := fun _ => True) ?hr ?hp (fun _ hk => hk) trivial (Below.refl _ _) (Nat.le_refl _) (by simp) ?_; (case hd => rfl); (case hg => rfl); (case hr => first | (go_simp; done) | (go_simp; rfl)); (case hp => exact (Reps.c3 (show Kd.M k24 _ _ _ (⟨2, 0, (⟨#[120]⟩ : ByteArray)⟩ : S24) [.int .i64 2, .int .i64 0, .string (⟨#[120]⟩ : ByteArray)] from (k24_mkM _ _ _ (⟨2, 0, (⟨#[120]⟩ : ByteArray)⟩ : S24) )) (Reps.none _ _))); intro v198 w90 ho91 hb hg_ hnew_; clear hg_ hnew_; (first | rw [← Ny197.out] at ho91 | (simp only [Int.reduceToNat] at ho91; rw [← Ny197.out] at ho91)); have n0_ := Aside0.mk (Kd.R_lower ho91 (below_size (by repeat (first | (with_reducible first | exact HB.out | apply below_alloc | apply pw_below_drewN | apply below_drew1 | refine below_set ?_ GE178.out) | exact HB.out)))); have n1_ := Aside0.mk (blk_below (g := gb178) (o := .cells #[.slice A177_0 ((rd_T70 l0 x3_1).f0).length c177_0, .slice A177_1 ((rd_T70 l0 x3_1).f1).length c177_1, .slice A177_2 ((rd_T70 l0 x3_1).f2).length c177_2] 70 (0, 0)) (by (with_reducible repeat (first | refine blk_drewN ?_ _ | refine blk_drew ?_ | refine blk_alloc ?_ _)); exact BK178.out) hb); have n2_ := Aside0.mk (below_step (by repeat (first | (with_reducible first | exact HB.out | apply below_alloc | apply pw_below_drewN | apply below_drew1 | refine below_set ?_ GE178.out) | exact HB.out)) hb); clear BK178; clear HB; have HO199 := n0_; have BK178 := n1_; have HB := n2_; clear n0_ n1_ n2_; clear hb ho91))
                                    have n0_ := Aside0.mk (Kd.R_drew HO199.out)
                                    have n1_ := Aside0.mk (blk_drew BK178.out)
                                    have n2_ := Aside0.mk (below_drew1 HB.out)
                                    clear HO199
                                    clear BK178
                                    clear HB
                                    have HO199 := n0_
                                    have BK178 := n1_
                                    have HB := n2_
                                    clear n0_ n1_ n2_
                                    obtain ⟨Ao93, co93, eo93⟩ := Kd.R_slice HO199.out
                                    (first | subst eo93 | (injection eo93 with f1_ f2_ f3_; have f4_ := f1_.symm; have f5_ := f3_.symm; clear f1_ f2_ f3_; subst f4_; subst f5_))
                                    refine start_ (n := 16) (S := fun w' => w'.cell? ⟨gb178, 0, none⟩ = some (.slice A177_0 ((rd_T70 l0 x3_1).f0).length c177_0) ∧ w'.cell? ⟨gb178, 1, none⟩ = some (.slice A177_1 ((rd_T70 l0 x3_1).f1).length c177_1) ∧ w'.cell? ⟨gb178, 2, none⟩ = some (.slice A177_2 ((rd_T70 l0 x3_1).f2).length c177_2)) (ds := []) #[false, false, false, false, false, false, false, false, false, false, false, false, false, false, false, false] (by kernel_rfl) rfl rfl ⟨(blk_cell BK178.out 0).trans rfl, (blk_cell BK178.out 1).trans rfl, (blk_cell BK178.out 2).trans rfl⟩ (fun hHeld => ?_); refine with_tabW cadastrelaw7_KeysOrder.tab17 cadastrelaw7_KeysOrder.bits17 (fun HT_ HW_ => ?_)
                                    generalize w90.drew = w92 at HO199 BK178 HB hHeld ⊢
                                    refine pure_ (i := 0) (N := some 145) (v := ?_) (a' := ?_) #[true, false, false, false, false, false, false, false, false, false, false, false, false, false, false, false] rfl rfl (any_of HT_.out (by kernel_rfl)) (fun _ _ _ h => h) (Or.inl ⟨by rfl, ?_⟩) ?_ ?_
                                    rotate_left
                                    · intro w'
                                      go_simp
                                      with_reducible rfl
                                    rotate_left
                                    · simp only [Act.put, List.setIfInBounds_toArray, List.set_cons_zero, List.set_cons_succ, i64_w, i32_w, u32_w, u8_w, w64_m8, w64_m32, w64_bt]
                                      rfl
                                    refine pure_ (i := 2) (N := some 147) (v := ?_) (a' := ?_) #[true, false, true, false, false, false, false, false, false, false, false, false, false, false, false, false] rfl rfl (any_of HT_.out (by kernel_rfl)) (fun _ _ _ h => h) (Or.inl ⟨by rfl, ?_⟩) ?_ ?_
                                    rotate_left
                                    · intro w'
                                      go_simp
                                      with_reducible rfl
                                    rotate_left
                                    · simp only [Act.put, List.setIfInBounds_toArray, List.set_cons_zero, List.set_cons_succ, i64_w, i32_w, u32_w, u8_w, w64_m8, w64_m32, w64_bt]
                                      rfl
                                    refine pure_ (i := 5) (N := some 150) (v := ?_) (a' := ?_) #[true, false, true, false, false, true, false, false, false, false, false, false, false, false, false, false] rfl rfl (any_of HT_.out (by kernel_rfl)) (fun _ _ _ h => h) (Or.inl ⟨by rfl, ?_⟩) ?_ ?_
                                    rotate_left
                                    · intro w'
                                      go_simp
                                      with_reducible rfl
                                    rotate_left
                                    · simp only [Act.put, List.setIfInBounds_toArray, List.set_cons_zero, List.set_cons_succ, i64_w, i32_w, u32_w, u8_w, w64_m8, w64_m32, w64_bt]
                                      rfl
                                    refine pure_ (i := 7) (N := some 152) (v := ?_) (a' := ?_) #[true, false, true, false, false, true, false, true, false, false, false, false, false, false, false, false] rfl rfl (any_of HT_.out (by kernel_rfl)) (fun _ _ _ h => h) (Or.inl ⟨by rfl, ?_⟩) ?_ ?_
                                    rotate_left
                                    · intro w'
                                      go_simp
                                      with_reducible rfl
                                    rotate_left
                                    · simp only [Act.put, List.setIfInBounds_toArray, List.set_cons_zero, List.set_cons_succ, i64_w, i32_w, u32_w, u8_w, w64_m8, w64_m32, w64_bt]
                                      rfl
                                    refine take_ (i := 3) (N := some 148) (v := ?_) (a' := ?_) #[true, false, true, true, false, true, false, true, false, false, false, false, false, false, false, false] rfl rfl (take_ofW HT_.out HW_.out (by kernel_rfl)) (fun _ _ _ h => h) (Or.inl ⟨by rfl, ?_⟩) hHeld ?_ ?_
                                    rotate_left
                                    · rintro w' ⟨s0, s1, s2⟩
                                      go_simp
                                      with_reducible rfl
                                    rotate_left
                                    · simp only [Act.put, List.setIfInBounds_toArray, List.set_cons_zero, List.set_cons_succ, i64_w, i32_w, u32_w, u8_w, w64_m8, w64_m32, w64_bt]
                                      rfl
                                    refine take_ (i := 8) (N := some 153) (v := ?_) (a' := ?_) #[true, false, true, true, false, true, false, true, true, false, false, false, false, false, false, false] rfl rfl (take_ofW HT_.out HW_.out (by kernel_rfl)) (fun _ _ _ h => h) (Or.inl ⟨by rfl, ?_⟩) hHeld ?_ ?_
                                    rotate_left
                                    · rintro w' ⟨s0, s1, s2⟩
                                      go_simp
                                      with_reducible rfl
                                    rotate_left
                                    · simp only [Act.put, List.setIfInBounds_toArray, List.set_cons_zero, List.set_cons_succ, i64_w, i32_w, u32_w, u8_w, w64_m8, w64_m32, w64_bt]
                                      rfl
                                    refine one_ (i := 1) (N := some 146) #[true, true, true, true, false, true, false, true, true, false, false, false, false, false, false, false] rfl rfl (one_of HT_.out (by kernel_rfl)) (by decide) (fun K hK => ?_)
                                    refine goes_ Try.func64 (by kernel_rfl) rfl #[.slice Ao93 y197.length co93] (by rfl) rfl rfl (by (try simp only [List.map_toArray, List.map_cons, List.map_nil]); first | done | rfl | (simp only [List.length_drop, List.length_take]; rfl)) ?_
                                    with_reducible refine (cadastreref0_CopyValues.calls kj54 _ _ y197 t200 _ ?side1 ?side2 A60.out).mono ?_
                                    (case side1 => repeat (first | exact (Kd.R_reads' HO199.out).2.2 | (with_reducible refine Kd.C_alloc ?_ _) | (with_reducible refine Kd.C_drewN ?_ _) | (with_reducible refine Kd.C_drew ?_)))
                                    (case side2 => exact (Kd.R_reads' HO199.out).2.1)
                                    rintro e w94 ⟨v201, rfl, ho0, hb⟩
                                    refine ⟨_, rfl, ?_⟩
                                    have n0_ := Aside0.mk (Kd.R_elder' (by (with_reducible repeat (first | apply Kd.R_alloc | apply Kd.R_drewN | apply Kd.R_drew)); exact HO199.out) (Kd.R_base ho0) hb)
                                    have n1_ := Aside0.mk (Kd.R_lower (Kd.R_new' ho0 (Kd.R_lt (by (with_reducible repeat (first | apply Kd.R_alloc | apply Kd.R_drewN | apply Kd.R_drew)); exact HO199.out))) (below_size (by repeat (first | (with_reducible first | exact HB.out | apply below_alloc | apply pw_below_drewN | apply below_drew1 | refine below_set ?_ GE178.out) | exact HB.out))))
                                    have n2_ := Aside0.mk (blk_below (g := gb178) (o := .cells #[.slice A177_0 ((rd_T70 l0 x3_1).f0).length c177_0, .slice A177_1 ((rd_T70 l0 x3_1).f1).length c177_1, .slice A177_2 ((rd_T70 l0 x3_1).f2).length c177_2] 70 (0, 0)) (by (with_reducible repeat (first | refine blk_drewN ?_ _ | refine blk_drew ?_ | refine blk_alloc ?_ _)); exact BK178.out) hb)
                                    have n3_ := Aside0.mk (below_step (by repeat (first | (with_reducible first | exact HB.out | apply below_alloc | apply pw_below_drewN | apply below_drew1 | refine below_set ?_ GE178.out) | exact HB.out)) hb)
                                    clear HO199
                                    clear BK178
                                    clear HB
                                    have HO199 := n0_
                                    have HO202 := n1_
                                    have BK178 := n2_
                                    have HB := n3_
                                    clear n0_ n1_ n2_ n3_
                                    (try clear hb)
                                    (try clear hb2)
                                    (try clear hk)
                                    (try clear hi)
                                    (try clear ho0)
                                    refine hK.out _ _ ⟨(blk_cell BK178.out 0).trans rfl, (blk_cell BK178.out 1).trans rfl, (blk_cell BK178.out 2).trans rfl⟩ (fun hHeld => ?_)
                                    clear hK K
                                    refine norm_ (a' := ?_) ?_ ?_
                                    rotate_left
                                    · show Act.put _ (some 146) _ = _
                                      simp only [Act.put, List.setIfInBounds_toArray, List.set_cons_zero, List.set_cons_succ, i64_w, i32_w, u32_w, u8_w, w64_m8, w64_m32, w64_bt]
                                      rfl
                                    refine one_ (i := 4) (N := some 149) #[true, true, true, true, true, true, false, true, true, false, false, false, false, false, false, false] rfl rfl (one_of HT_.out (by kernel_rfl)) (by decide) (fun K hK => ?_)
                                    refine Kd.R_append_rows_step k24 (w0 := w) w.heap.size (by rfl) (.tmp 146) (.tmp 148) 67 24 (.agg #[(.int .i64 0), (.int .i64 0), (.string ⟨#[]⟩)]) 32 rfl Try.underlying67 info24 rfl (by decide) (by omega) v201 t200 ((rd_T70 l0 x3_1).f0) _ _ _ (fun k_ => some k_ ≠ (.slice Ao93 y197.length co93 : Value).ownBlock) (fun _ => False) rfl rfl ?aO ?aR (fun _ _ h => h) (fun _ h => h.elim) ?aF ?aB ?aS ?aL ?_
                                    (case aR => repeat (first | exact (Kd.C_below HR177_0.out HB.out) | (with_reducible refine Kd.C_alloc ?_ _) | (with_reducible refine Kd.C_drewN ?_ _) | (with_reducible refine Kd.C_drew ?_)))
                                    (case aB => exact (by repeat (first | (with_reducible first | exact HB.out | apply below_alloc | apply pw_below_drewN | apply below_drew1 | refine below_set ?_ GE178.out) | exact HB.out)))
                                    (case aF => exact (fun k_ hk => Kd.fresh' (Kd.R_lt (by (with_reducible repeat (first | apply Kd.R_alloc | apply Kd.R_drewN | apply Kd.R_drew)); exact HO199.out)) k_ hk))
                                    (case aO => exact (by (with_reducible repeat (first | apply Kd.R_alloc | apply Kd.R_drewN | apply Kd.R_drew)); exact Kd.R_mono HO202.out (fun _ hk => hk.2)))
                                    (case aS => exact (below_size (by repeat (first | (with_reducible first | exact HB.out | apply below_alloc | apply pw_below_drewN | apply below_drew1 | refine below_set ?_ GE178.out) | exact HB.out))))
                                    (case aL => have := LMc61.out; omega)
                                    intro v204 w95 ho hb hg hat
                                    rw [← Ny203.out] at ho
                                    have n0_ := Aside0.mk (blk_grown (g := gb178) (o := .cells #[.slice A177_0 ((rd_T70 l0 x3_1).f0).length c177_0, .slice A177_1 ((rd_T70 l0 x3_1).f1).length c177_1, .slice A177_2 ((rd_T70 l0 x3_1).f2).length c177_2] 70 (0, 0)) (by (with_reducible repeat (first | refine blk_drewN ?_ _ | refine blk_drew ?_ | refine blk_alloc ?_ _)); exact BK178.out) hg (Kd.R_ne HO202.out BK178.out (by decide)))
                                    have n1_ := Aside0.mk (Kd.R_after (ok := (fun _ => True)) (by (with_reducible repeat (first | apply Kd.R_alloc | apply Kd.R_drewN | apply Kd.R_drew)); exact HO199.out) hg hat)
                                    have n2_ := Aside0.mk (hb)
                                    have n3_ := Aside0.mk (ho)
                                    clear BK178
                                    clear HO199
                                    clear HB
                                    clear HO202
                                    have BK178 := n0_
                                    have HO199 := n1_
                                    have HB := n2_
                                    have HO205 := n3_
                                    clear n0_ n1_ n2_ n3_
                                    clear ho hb hg hat
                                    refine hK.out _ _ ⟨(blk_cell BK178.out 0).trans rfl, (blk_cell BK178.out 1).trans rfl, (blk_cell BK178.out 2).trans rfl⟩ (fun hHeld => ?_)
                                    clear hK K
                                    refine norm_ (a' := ?_) ?_ ?_
                                    rotate_left
                                    · show Act.put _ (some 149) _ = _
                                      simp only [Act.put, List.setIfInBounds_toArray, List.set_cons_zero, List.set_cons_succ, i64_w, i32_w, u32_w, u8_w, w64_m8, w64_m32, w64_bt]
                                      rfl
                                    refine one_ (i := 6) (N := some 151) #[true, true, true, true, true, true, true, true, true, false, false, false, false, false, false, false] rfl rfl (one_of HT_.out (by kernel_rfl)) (by decide) (fun K hK => ?_)
                                    refine goes_ Try.func64 (by kernel_rfl) rfl #[.slice Ao93 y197.length co93] (by rfl) rfl rfl (by (try simp only [List.map_toArray, List.map_cons, List.map_nil]); first | done | rfl | (simp only [List.length_drop, List.length_take]; rfl)) ?_
                                    with_reducible refine (cadastreref0_CopyValues.calls kj54 _ _ y197 t206 _ ?side1 ?side2 A62.out).mono ?_
                                    (case side1 => repeat (first | exact (Kd.R_reads' HO199.out).2.2 | (with_reducible refine Kd.C_alloc ?_ _) | (with_reducible refine Kd.C_drewN ?_ _) | (with_reducible refine Kd.C_drew ?_)))
                                    (case side2 => exact (Kd.R_reads' HO199.out).2.1)
                                    rintro e w96 ⟨v207, rfl, ho0, hb⟩
                                    refine ⟨_, rfl, ?_⟩
                                    have n0_ := Aside0.mk (Kd.R_elder' (by (with_reducible repeat (first | apply Kd.R_alloc | apply Kd.R_drewN | apply Kd.R_drew)); exact HO199.out) (Kd.R_base ho0) hb)
                                    have n1_ := Aside0.mk (Kd.R_elder' (by (with_reducible repeat (first | apply Kd.R_alloc | apply Kd.R_drewN | apply Kd.R_drew)); exact HO205.out) (Kd.R_base ho0) hb)
                                    have n2_ := Aside0.mk (Kd.R_lower (Kd.R_new' (Kd.R_new' ho0 (Kd.R_lt (by (with_reducible repeat (first | apply Kd.R_alloc | apply Kd.R_drewN | apply Kd.R_drew)); exact HO199.out))) (Kd.R_lt (by (with_reducible repeat (first | apply Kd.R_alloc | apply Kd.R_drewN | apply Kd.R_drew)); exact HO205.out))) (below_size (by repeat (first | (with_reducible first | exact HB.out | apply below_alloc | apply pw_below_drewN | apply below_drew1 | refine below_set ?_ GE178.out) | exact HB.out))))
                                    have n3_ := Aside0.mk (blk_below (g := gb178) (o := .cells #[.slice A177_0 ((rd_T70 l0 x3_1).f0).length c177_0, .slice A177_1 ((rd_T70 l0 x3_1).f1).length c177_1, .slice A177_2 ((rd_T70 l0 x3_1).f2).length c177_2] 70 (0, 0)) (by (with_reducible repeat (first | refine blk_drewN ?_ _ | refine blk_drew ?_ | refine blk_alloc ?_ _)); exact BK178.out) hb)
                                    have n4_ := Aside0.mk (below_step (by repeat (first | (with_reducible first | exact HB.out | apply below_alloc | apply pw_below_drewN | apply below_drew1 | refine below_set ?_ GE178.out) | exact HB.out)) hb)
                                    clear HO199
                                    clear HO205
                                    clear BK178
                                    clear HB
                                    have HO199 := n0_
                                    have HO205 := n1_
                                    have HO208 := n2_
                                    have BK178 := n3_
                                    have HB := n4_
                                    clear n0_ n1_ n2_ n3_ n4_
                                    (try clear hb)
                                    (try clear hb2)
                                    (try clear hk)
                                    (try clear hi)
                                    (try clear ho0)
                                    refine hK.out _ _ ⟨(blk_cell BK178.out 0).trans rfl, (blk_cell BK178.out 1).trans rfl, (blk_cell BK178.out 2).trans rfl⟩ (fun hHeld => ?_)
                                    clear hK K
                                    refine norm_ (a' := ?_) ?_ ?_
                                    rotate_left
                                    · show Act.put _ (some 151) _ = _
                                      simp only [Act.put, List.setIfInBounds_toArray, List.set_cons_zero, List.set_cons_succ, i64_w, i32_w, u32_w, u8_w, w64_m8, w64_m32, w64_bt]
                                      rfl
                                    refine one_ (i := 9) (N := some 154) #[true, true, true, true, true, true, true, true, true, true, false, false, false, false, false, false] rfl rfl (one_of HT_.out (by kernel_rfl)) (by decide) (fun K hK => ?_)
                                    refine Kd.R_append_rows_step k24 (w0 := w) w.heap.size (by rfl) (.tmp 151) (.tmp 153) 67 24 (.agg #[(.int .i64 0), (.int .i64 0), (.string ⟨#[]⟩)]) 32 rfl Try.underlying67 info24 rfl (by decide) (by omega) v207 t206 ((rd_T70 l0 x3_1).f1) _ _ _ (fun k_ => some k_ ≠ (.slice Ao93 y197.length co93 : Value).ownBlock ∧ some k_ ≠ (v204 : Value).ownBlock) (fun _ => False) rfl rfl ?aO ?aR (fun _ _ h => h) (fun _ h => h.elim) ?aF ?aB ?aS ?aL ?_
                                    (case aR => repeat (first | exact (Kd.C_below HR177_1.out HB.out) | (with_reducible refine Kd.C_alloc ?_ _) | (with_reducible refine Kd.C_drewN ?_ _) | (with_reducible refine Kd.C_drew ?_)))
                                    (case aB => exact (by repeat (first | (with_reducible first | exact HB.out | apply below_alloc | apply pw_below_drewN | apply below_drew1 | refine below_set ?_ GE178.out) | exact HB.out)))
                                    (case aF => exact (fun k_ hk => ⟨Kd.fresh' (Kd.R_lt (by (with_reducible repeat (first | apply Kd.R_alloc | apply Kd.R_drewN | apply Kd.R_drew)); exact HO199.out)) k_ hk, Kd.fresh' (Kd.R_lt (by (with_reducible repeat (first | apply Kd.R_alloc | apply Kd.R_drewN | apply Kd.R_drew)); exact HO205.out)) k_ hk⟩))
                                    (case aO => exact (by (with_reducible repeat (first | apply Kd.R_alloc | apply Kd.R_drewN | apply Kd.R_drew)); exact Kd.R_mono HO208.out (fun _ hk => ⟨hk.1.2, hk.2⟩)))
                                    (case aS => exact (below_size (by repeat (first | (with_reducible first | exact HB.out | apply below_alloc | apply pw_below_drewN | apply below_drew1 | refine below_set ?_ GE178.out) | exact HB.out))))
                                    (case aL => have := LMc63.out; omega)
                                    intro v210 w97 ho hb hg hat
                                    rw [← Ny209.out] at ho
                                    have n0_ := Aside0.mk (blk_grown (g := gb178) (o := .cells #[.slice A177_0 ((rd_T70 l0 x3_1).f0).length c177_0, .slice A177_1 ((rd_T70 l0 x3_1).f1).length c177_1, .slice A177_2 ((rd_T70 l0 x3_1).f2).length c177_2] 70 (0, 0)) (by (with_reducible repeat (first | refine blk_drewN ?_ _ | refine blk_drew ?_ | refine blk_alloc ?_ _)); exact BK178.out) hg (Kd.R_ne HO208.out BK178.out (by decide)))
                                    have n1_ := Aside0.mk (Kd.R_after (ok := (fun k_ => some k_ ≠ (v204 : Value).ownBlock)) (by (with_reducible repeat (first | apply Kd.R_alloc | apply Kd.R_drewN | apply Kd.R_drew)); exact Kd.R_mono HO199.out (fun _ hk => ⟨hk.1.2, hk.2⟩)) hg hat)
                                    have n2_ := Aside0.mk (Kd.R_after (ok := (fun k_ => some k_ ≠ (.slice Ao93 y197.length co93 : Value).ownBlock)) (by (with_reducible repeat (first | apply Kd.R_alloc | apply Kd.R_drewN | apply Kd.R_drew)); exact HO205.out) hg hat)
                                    have n3_ := Aside0.mk (hb)
                                    have n4_ := Aside0.mk (ho)
                                    clear BK178
                                    clear HO199
                                    clear HO205
                                    clear HB
                                    clear HO208
                                    have BK178 := n0_
                                    have HO199 := n1_
                                    have HO205 := n2_
                                    have HB := n3_
                                    have HO211 := n4_
                                    clear n0_ n1_ n2_ n3_ n4_
                                    clear ho hb hg hat
                                    obtain ⟨Ao98, co98, eo98⟩ := Kd.R_slice HO205.out
                                    (first | subst eo98 | (injection eo98 with f1_ f2_ f3_; have f4_ := f1_.symm; have f5_ := f3_.symm; clear f1_ f2_ f3_; subst f4_; subst f5_))
                                    obtain ⟨Ao99, co99, eo99⟩ := Kd.R_slice HO211.out
                                    (first | subst eo99 | (injection eo99 with f1_ f2_ f3_; have f4_ := f1_.symm; have f5_ := f3_.symm; clear f1_ f2_ f3_; subst f4_; subst f5_))
                                    refine hK.out _ _ ⟨(blk_cell BK178.out 0).trans rfl, (blk_cell BK178.out 1).trans rfl, (blk_cell BK178.out 2).trans rfl⟩ (fun hHeld => ?_)
                                    clear hK K
                                    refine norm_ (a' := ?_) ?_ ?_
                                    rotate_left
                                    · show Act.put _ (some 154) _ = _
                                      simp only [Act.put, List.setIfInBounds_toArray, List.set_cons_zero, List.set_cons_succ, i64_w, i32_w, u32_w, u8_w, w64_m8, w64_m32, w64_bt]
                                      rfl
                                    refine one_ (i := 10) (N := some 155) #[true, true, true, true, true, true, true, true, true, true, true, false, false, false, false, false] rfl rfl (one_of HT_.out (by kernel_rfl)) (by decide) (fun K hK => ?_)
                                    refine goes_ Try.func59 (by kernel_rfl) rfl #[.slice Ao98 y203.length co98, .slice Ao99 y209.length co99] (by rfl) rfl rfl (by (try simp only [List.map_toArray, List.map_cons, List.map_nil]); first | done | rfl | (simp only [List.length_drop, List.length_take]; rfl)) ?_
                                    with_reducible refine (keys_Cmp.calls kj54 (fun k_ => some k_ = (.slice Ao98 y203.length co98 : Value).ownBlock) _ _ y203 (fun k_ => some k_ = (.slice Ao99 y209.length co99 : Value).ownBlock) _ _ y209 t212 t213 _ ?side1 ?side2 A64.out).mono ?_
                                    (case side1 => exact Kd.R_V (Kd.R_tight rfl (Kd.R_types (HO205.out) BK178.out (by decide))))
                                    (case side2 => exact Kd.R_V (Kd.R_tight rfl (Kd.R_types (HO211.out) BK178.out (by decide))))
                                    rintro e w100 ⟨rfl, hb⟩
                                    refine ⟨_, rfl, ?_⟩
                                    have n0_ := Aside0.mk (Kd.R_below (by (with_reducible repeat (first | apply Kd.R_alloc | apply Kd.R_drewN | apply Kd.R_drew)); exact HO199.out) hb)
                                    have n1_ := Aside0.mk (Kd.R_below (by (with_reducible repeat (first | apply Kd.R_alloc | apply Kd.R_drewN | apply Kd.R_drew)); exact HO205.out) hb)
                                    have n2_ := Aside0.mk (Kd.R_below (by (with_reducible repeat (first | apply Kd.R_alloc | apply Kd.R_drewN | apply Kd.R_drew)); exact HO211.out) hb)
                                    have n3_ := Aside0.mk (blk_below (g := gb178) (o := .cells #[.slice A177_0 ((rd_T70 l0 x3_1).f0).length c177_0, .slice A177_1 ((rd_T70 l0 x3_1).f1).length c177_1, .slice A177_2 ((rd_T70 l0 x3_1).f2).length c177_2] 70 (0, 0)) (by (with_reducible repeat (first | refine blk_drewN ?_ _ | refine blk_drew ?_ | refine blk_alloc ?_ _)); exact BK178.out) hb)
                                    have n4_ := Aside0.mk (below_step (by repeat (first | (with_reducible first | exact HB.out | apply below_alloc | apply pw_below_drewN | apply below_drew1 | refine below_set ?_ GE178.out) | exact HB.out)) hb)
                                    clear HO199
                                    clear HO205
                                    clear HO211
                                    clear BK178
                                    clear HB
                                    have HO199 := n0_
                                    have HO205 := n1_
                                    have HO211 := n2_
                                    have BK178 := n3_
                                    have HB := n4_
                                    clear n0_ n1_ n2_ n3_ n4_
                                    (try clear hb)
                                    (try clear hb2)
                                    (try clear hk)
                                    (try clear hi)
                                    refine hK.out _ _ ⟨(blk_cell BK178.out 0).trans rfl, (blk_cell BK178.out 1).trans rfl, (blk_cell BK178.out 2).trans rfl⟩ (fun hHeld => ?_)
                                    clear hK K
                                    refine norm_ (a' := ?_) ?_ ?_
                                    rotate_left
                                    · show Act.put _ (some 155) _ = _
                                      simp only [Act.put, List.setIfInBounds_toArray, List.set_cons_zero, List.set_cons_succ, i64_w, i32_w, u32_w, u8_w, w64_m8, w64_m32, w64_bt]
                                      rfl
                                    refine pure_ (i := 11) (N := some 144) (v := ?_) (a' := ?_) #[true, true, true, true, true, true, true, true, true, true, true, true, false, false, false, false] rfl rfl (any_of HT_.out (by kernel_rfl)) (fun _ _ _ h => h) (Or.inl ⟨by rfl, ?_⟩) ?_ ?_
                                    rotate_left
                                    · intro w'
                                      go_simp
                                      with_reducible rfl
                                    rotate_left
                                    · simp only [Act.put, List.setIfInBounds_toArray, List.set_cons_zero, List.set_cons_succ, i64_w, i32_w, u32_w, u8_w, w64_m8, w64_m32, w64_bt]
                                      rfl
                                    refine pure_ (i := 12) (N := some 156) (v := ?_) (a' := ?_) #[true, true, true, true, true, true, true, true, true, true, true, true, true, false, false, false] rfl rfl (any_of HT_.out (by kernel_rfl)) (fun _ _ _ h => h) (Or.inl ⟨by rfl, ?_⟩) ?_ ?_
                                    rotate_left
                                    · intro w'
                                      go_simp
                                      with_reducible rfl
                                    rotate_left
                                    · simp only [Act.put, List.setIfInBounds_toArray, List.set_cons_zero, List.set_cons_succ, i64_w, i32_w, u32_w, u8_w, w64_m8, w64_m32, w64_bt]
                                      rfl
                                    refine pure_ (i := 13) (N := some 157) (v := ?_) (a' := ?_) #[true, true, true, true, true, true, true, true, true, true, true, true, true, true, false, false] rfl rfl (any_of HT_.out (by kernel_rfl)) (fun _ _ _ h => h) (Or.inl ⟨by rfl, ?_⟩) ?_ ?_
                                    rotate_left
                                    · intro w'
                                      go_simp
                                      with_reducible rfl
                                    rotate_left
                                    · simp only [Act.put, List.setIfInBounds_toArray, List.set_cons_zero, List.set_cons_succ, i64_w, i32_w, u32_w, u8_w, w64_m8, w64_m32, w64_bt]
                                      rfl
                                    refine pure_ (i := 14) (N := some 16) (v := ?_) (a' := ?_) #[true, true, true, true, true, true, true, true, true, true, true, true, true, true, true, false] rfl rfl (any_of HT_.out (by kernel_rfl)) (fun _ _ _ h => h) (Or.inl ⟨by rfl, ?_⟩) ?_ ?_
                                    rotate_left
                                    · intro w'
                                      go_simp
                                      with_reducible rfl
                                    rotate_left
                                    · simp only [Act.put, List.setIfInBounds_toArray, List.set_cons_zero, List.set_cons_succ, i64_w, i32_w, u32_w, u8_w, w64_m8, w64_m32, w64_bt]
                                      rfl
                                    refine pure_ (i := 15) (N := some 17) (v := ?_) (a' := ?_) #[true, true, true, true, true, true, true, true, true, true, true, true, true, true, true, true] rfl rfl (any_of HT_.out (by kernel_rfl)) (fun _ _ _ h => h) (Or.inl ⟨by rfl, ?_⟩) ?_ ?_
                                    rotate_left
                                    · intro w'
                                      go_simp
                                      with_reducible rfl
                                    rotate_left
                                    · simp only [Act.put, List.setIfInBounds_toArray, List.set_cons_zero, List.set_cons_succ, i64_w, i32_w, u32_w, u8_w, w64_m8, w64_m32, w64_bt]
                                      rfl
                                    refine done_ (done_of HT_.out (by kernel_rfl)) ?_
                                    try go_wp2_with (first | ((with_reducible refine gate_callee (f := 60) rfl ?_); refine goesL_ (some 159) rfl rfl Try.func60 (by kernel_rfl) rfl #[.int .i64 t213] rfl (by (try simp only [List.map_toArray, List.map_cons, List.map_nil]); first | done | rfl | (simp only [List.length_drop, List.length_take]; rfl)) ?_; (with_reducible refine (cadastrelaw7_num.calls t213 t214 _ A65.out).mono ?_); rintro e w' ⟨rfl, ⟨nd, rfl⟩⟩; refine ⟨_, rfl, ?_⟩))
                                    go_ret
                                    exact ⟨by first | rfl | (simp [errW_none, errW_some] <;> rfl) | (simp [*, errW_none, errW_some] <;> rfl), by repeat (first | (with_reducible first | exact HB.out | apply below_alloc | apply pw_below_drewN | apply below_drew1 | refine below_set ?_ GE178.out) | exact HB.out)⟩
          · replace c4 := Bool.eq_false_iff.mpr c4
            subst c4
            have H1 : ((cadastrelaw7_wakes.f kj1).bind fun t176 => (some t176)) = some r := by rw [if_neg (show ¬ (false = true) by decide)] at H; exact H
            clear H
            have H := H1
            clear H1
            replace H := Option.bind_eq_some_iff.mp H
            obtain ⟨t176, A1010, H⟩ := H
            replace H : (some t176) = some r := H
            have A101 := Aside0.mk A1010
            clear A1010
            obtain rfl := Option.some.inj H
            go_wp2_with (first | ((with_reducible refine gate_callee (f := 61) rfl ?_); refine goesL_ (some 166) rfl rfl Try.func61 (by kernel_rfl) rfl #[] rfl (by (try simp only [List.map_toArray, List.map_cons, List.map_nil]); first | done | rfl | (simp only [List.length_drop, List.length_take]; rfl)) ?_; (with_reducible refine (cadastrelaw7_wakes.calls kj1  t176 _ A101.out).mono ?_); rintro e w102 ⟨rfl, hb⟩; refine ⟨_, rfl, ?_⟩; have n0_ := Aside0.mk (below_step (by repeat (first | (with_reducible first | exact HB.out | apply below_alloc | apply pw_below_drewN | apply below_drew1) | exact HB.out)) hb); clear HB; have HB := n0_; clear n0_; (try clear hb); (try clear hb2); (try clear hk); (try clear hi)))
            go_ret
            exact ⟨by first | rfl | (simp [errW_none, errW_some] <;> rfl) | (simp [*, errW_none, errW_some] <;> rfl), by repeat (first | (with_reducible first | exact HB.out | apply below_alloc | apply pw_below_drewN | apply below_drew1) | exact HB.out)⟩

end Go.Proofs.Ytaodnkhpiiepiaa.K
