-- Made by a program of this session (gprint.py, over the kit's printing program).
import Derived.Test.YtaodnkhpiiepiaaVx0
import Derived.Test.YtaodnkhpiiepiaaVx2
import Derived.Test.YtaodnkhpiiepiaaVx4
import Derived.Test.YtaodnkhpiiepiaaVx7
namespace Go.Proofs.Ytaodnkhpiiepiaa.V
open Go.RowKit Go.Proofs.YtaodnkhpiiepiaaG Go.Proofs.YtaodnkhpiiepiaaW.PrintWords Go.Proofs.YtaodnkhpiiepiaaW.PrintLast Go.Proofs.YtaodnkhpiiepiaaW.PrintMore
attribute [local go_sem] max2_int min2_int max_two min_two max_three min_three max_four min_four   -- for this text's walks alone
set_option linter.unusedVariables false
set_option linter.unusedSimpArgs false

/-! ### cadastrelaw2_ValueExact: function 15 -/
mutual
def cadastrelaw2_ValueExact.l0 : Nat → List (S47) → Int → Option (Bool)
  | 0, _, _ => none
  | k + 1, x0, x3 => if x3 < (x0.length : Int) then (cadastrelaw2_ValueExact.j1 k x0 x3 (decide (x3 < 30))) else (cadastrelaw2_ValueExact.j1 k x0 x3 false)
def cadastrelaw2_ValueExact.j1 : Nat → List (S47) → Int → Bool → Option (Bool)
  | 0, _, _, _ => none
  | k + 1, x0, x3, x20 => if x20 = true then (if 0 ≤ x3 then (if x3 < (x0.length : Int) then ((cadastreref2_May.f ((rd_T47 x0 x3).f0.f0) ((rd_T47 x0 x3).f0.f1) ((rd_T47 x0 x3).f0.f2)).bind fun t188 => (if t188 = true then (cadastrelaw2_ValueExact.j2 k x0 x3 0 ((rd_T47 x0 x3).f0.f0) ((rd_T47 x0 x3).f0.f1) ((rd_T47 x0 x3).f0.f2) ((rd_T47 x0 x3).f1.f0) ((rd_T47 x0 x3).f1.f1) ((rd_T47 x0 x3).f1.f2) ((rd_T47 x0 x3).f2.f0) ((rd_T47 x0 x3).f2.f1) ((rd_T47 x0 x3).f2.f2) ((rd_T47 x0 x3).f3)) else (cadastrelaw2_ValueExact.j2 k x0 x3 1 ((rd_T47 x0 x3).f0.f0) ((rd_T47 x0 x3).f0.f1) ((rd_T47 x0 x3).f0.f2) ((rd_T47 x0 x3).f1.f0) ((rd_T47 x0 x3).f1.f1) ((rd_T47 x0 x3).f1.f2) ((rd_T47 x0 x3).f2.f0) ((rd_T47 x0 x3).f2.f1) ((rd_T47 x0 x3).f2.f2) ((rd_T47 x0 x3).f3)))) else (none)) else (none)) else ((cadastrelaw2_wakes.f k).bind fun t185 => (some t185))
def cadastrelaw2_ValueExact.j2 : Nat → List (S47) → Int → Int → Int → Int → ByteArray → Int → Int → ByteArray → Int → Int → ByteArray → Int → Option (Bool)
  | 0, _, _, _, _, _, _, _, _, _, _, _, _, _ => none
  | k + 1, x0, x3, x5, x188000, x188001, x188002, x188003, x188004, x188005, x188006, x188007, x188008, x188009 => (cadastreref2_May.f x188003 x188004 x188005).bind fun t189 => (if t189 = true then (cadastrelaw2_ValueExact.j3 k x0 x3 x5 x5 x188000 x188001 x188002 x188003 x188004 x188005 x188006 x188007 x188008 x188009) else (cadastrelaw2_ValueExact.j3 k x0 x3 x5 1 x188000 x188001 x188002 x188003 x188004 x188005 x188006 x188007 x188008 x188009))
def cadastrelaw2_ValueExact.j3 : Nat → List (S47) → Int → Int → Int → Int → Int → ByteArray → Int → Int → ByteArray → Int → Int → ByteArray → Int → Option (Bool)
  | 0, _, _, _, _, _, _, _, _, _, _, _, _, _, _ => none
  | k + 1, x0, x3, x5, x6, x188000, x188001, x188002, x188003, x188004, x188005, x188006, x188007, x188008, x188009 => if x6 = 0 then ((cadastreref2_Cmp.f k x188000 x188001 x188002 x188003 x188004 x188005).bind fun t190 => (cadastrelaw2_ValueExact.j4 k x0 x3 x5 x6 t190 x188000 x188001 x188002 x188003 x188004 x188005 x188006 x188007 x188008 x188009)) else (cadastrelaw2_ValueExact.j4 k x0 x3 x5 x6 0 x188000 x188001 x188002 x188003 x188004 x188005 x188006 x188007 x188008 x188009)
def cadastrelaw2_ValueExact.j4 : Nat → List (S47) → Int → Int → Int → Int → Int → Int → ByteArray → Int → Int → ByteArray → Int → Int → ByteArray → Int → Option (Bool)
  | 0, _, _, _, _, _, _, _, _, _, _, _, _, _, _, _ => none
  | k + 1, x0, x3, x5, x6, x7, x188000, x188001, x188002, x188003, x188004, x188005, x188006, x188007, x188008, x188009 => (cadastreref2_Type.f x188009).bind fun t191 => (if t191 = true then (cadastrelaw2_ValueExact.j5 k x0 x3 x5 x6 x7 x5 x188000 x188001 x188002 x188003 x188004 x188005 x188006 x188007 x188008 x188009) else (cadastrelaw2_ValueExact.j5 k x0 x3 x5 x6 x7 1 x188000 x188001 x188002 x188003 x188004 x188005 x188006 x188007 x188008 x188009))
def cadastrelaw2_ValueExact.j5 : Nat → List (S47) → Int → Int → Int → Int → Int → Int → Int → ByteArray → Int → Int → ByteArray → Int → Int → ByteArray → Int → Option (Bool)
  | 0, _, _, _, _, _, _, _, _, _, _, _, _, _, _, _, _ => none
  | k + 1, x0, x3, x5, x6, x7, x8, x188000, x188001, x188002, x188003, x188004, x188005, x188006, x188007, x188008, x188009 => (value_Cmp.f k x188000 x188001 x188002 x188003 x188004 x188005).bind fun bt192 => ((value_Fits.f x188000 x188001 x188002 x188009).bind fun bt194 => ((value_Check.f x188000 x188001 x188002).bind fun t196 => ((cadastrelaw2_num.f t196).bind fun t197 => (if t197 = x5 then ((cadastrelaw2_num.f bt192.2).bind fun t198 => (if t198 = x6 then (if bt192.1 = x7 then ((cadastrelaw2_num.f bt194.2).bind fun t199 => (if t199 = x8 then (if x8 = 0 then ((cadastreref2_Fits.f x188000 x188001 x188002 x188009).bind fun t200 => (if (bt194.1 != t200) = true then (some false) else (cadastrelaw2_ValueExact.l0 k x0 (wrap64 (x3 + 1))))) else (if (bt194.1 != false) = true then (some false) else (cadastrelaw2_ValueExact.l0 k x0 (wrap64 (x3 + 1))))) else (some false))) else (some false)) else (some false))) else (some false)))))
end
def cadastrelaw2_ValueExact.f (k : Nat) (l0 : List (S47)) : Option (Bool) := cadastrelaw2_ValueExact.l0 k l0 0
theorem cadastrelaw2_ValueExact.mono_l : ∀ k, (∀ y0 y1, LeO (cadastrelaw2_ValueExact.l0 k y0 y1) (cadastrelaw2_ValueExact.l0 (k + 1) y0 y1)) ∧ (∀ y0 y1 y2, LeO (cadastrelaw2_ValueExact.j1 k y0 y1 y2) (cadastrelaw2_ValueExact.j1 (k + 1) y0 y1 y2)) ∧ (∀ y0 y1 y2 y3 y4 y5 y6 y7 y8 y9 y10 y11 y12, LeO (cadastrelaw2_ValueExact.j2 k y0 y1 y2 y3 y4 y5 y6 y7 y8 y9 y10 y11 y12) (cadastrelaw2_ValueExact.j2 (k + 1) y0 y1 y2 y3 y4 y5 y6 y7 y8 y9 y10 y11 y12)) ∧ (∀ y0 y1 y2 y3 y4 y5 y6 y7 y8 y9 y10 y11 y12 y13, LeO (cadastrelaw2_ValueExact.j3 k y0 y1 y2 y3 y4 y5 y6 y7 y8 y9 y10 y11 y12 y13) (cadastrelaw2_ValueExact.j3 (k + 1) y0 y1 y2 y3 y4 y5 y6 y7 y8 y9 y10 y11 y12 y13)) ∧ (∀ y0 y1 y2 y3 y4 y5 y6 y7 y8 y9 y10 y11 y12 y13 y14, LeO (cadastrelaw2_ValueExact.j4 k y0 y1 y2 y3 y4 y5 y6 y7 y8 y9 y10 y11 y12 y13 y14) (cadastrelaw2_ValueExact.j4 (k + 1) y0 y1 y2 y3 y4 y5 y6 y7 y8 y9 y10 y11 y12 y13 y14)) ∧ (∀ y0 y1 y2 y3 y4 y5 y6 y7 y8 y9 y10 y11 y12 y13 y14 y15, LeO (cadastrelaw2_ValueExact.j5 k y0 y1 y2 y3 y4 y5 y6 y7 y8 y9 y10 y11 y12 y13 y14 y15) (cadastrelaw2_ValueExact.j5 (k + 1) y0 y1 y2 y3 y4 y5 y6 y7 y8 y9 y10 y11 y12 y13 y14 y15))
  | 0 => ⟨fun _ _ r h => by simp [cadastrelaw2_ValueExact.l0] at h, fun _ _ _ r h => by simp [cadastrelaw2_ValueExact.j1] at h, fun _ _ _ _ _ _ _ _ _ _ _ _ _ r h => by simp [cadastrelaw2_ValueExact.j2] at h, fun _ _ _ _ _ _ _ _ _ _ _ _ _ _ r h => by simp [cadastrelaw2_ValueExact.j3] at h, fun _ _ _ _ _ _ _ _ _ _ _ _ _ _ _ r h => by simp [cadastrelaw2_ValueExact.j4] at h, fun _ _ _ _ _ _ _ _ _ _ _ _ _ _ _ _ r h => by simp [cadastrelaw2_ValueExact.j5] at h⟩
  | k + 1 => by
    obtain ⟨ih0, ih1, ih2, ih3, ih4, ih5⟩ := cadastrelaw2_ValueExact.mono_l k
    refine ⟨?_, ?_, ?_, ?_, ?_, ?_⟩
    · intro y0 y1
      unfold cadastrelaw2_ValueExact.l0
      repeat' first
      | (with_reducible exact ih0 _ _)
      | (with_reducible exact ih1 _ _ _)
      | (with_reducible exact ih2 _ _ _ _ _ _ _ _ _ _ _ _ _)
      | (with_reducible exact ih3 _ _ _ _ _ _ _ _ _ _ _ _ _ _)
      | (with_reducible exact ih4 _ _ _ _ _ _ _ _ _ _ _ _ _ _ _)
      | (with_reducible exact ih5 _ _ _ _ _ _ _ _ _ _ _ _ _ _ _ _)
      | (with_reducible exact cadastrelaw2_wakes.mono _)
      | (with_reducible exact cadastreref2_Cmp.mono _ _ _ _ _ _ _)
      | (with_reducible exact value_Cmp.mono _ _ _ _ _ _ _)
      | (with_reducible exact LeO.refl _)
      | (with_reducible exact LeO.none _)
      | (with_reducible refine LeO.ite ?_ ?_)
      | (with_reducible refine LeO.bind ?_ (fun _ => ?_))
      | exact ih0 _ _
      | exact ih1 _ _ _
      | exact ih2 _ _ _ _ _ _ _ _ _ _ _ _ _
      | exact ih3 _ _ _ _ _ _ _ _ _ _ _ _ _ _
      | exact ih4 _ _ _ _ _ _ _ _ _ _ _ _ _ _ _
      | exact ih5 _ _ _ _ _ _ _ _ _ _ _ _ _ _ _ _
      | exact cadastrelaw2_wakes.mono _
      | exact cadastreref2_Cmp.mono _ _ _ _ _ _ _
      | exact value_Cmp.mono _ _ _ _ _ _ _
      | exact LeO.none _
      | refine LeO.ite ?_ ?_
      | refine LeO.bind ?_ (fun _ => ?_)
    · intro y0 y1 y2
      unfold cadastrelaw2_ValueExact.j1
      repeat' first
      | (with_reducible exact ih0 _ _)
      | (with_reducible exact ih1 _ _ _)
      | (with_reducible exact ih2 _ _ _ _ _ _ _ _ _ _ _ _ _)
      | (with_reducible exact ih3 _ _ _ _ _ _ _ _ _ _ _ _ _ _)
      | (with_reducible exact ih4 _ _ _ _ _ _ _ _ _ _ _ _ _ _ _)
      | (with_reducible exact ih5 _ _ _ _ _ _ _ _ _ _ _ _ _ _ _ _)
      | (with_reducible exact cadastrelaw2_wakes.mono _)
      | (with_reducible exact cadastreref2_Cmp.mono _ _ _ _ _ _ _)
      | (with_reducible exact value_Cmp.mono _ _ _ _ _ _ _)
      | (with_reducible exact LeO.refl _)
      | (with_reducible exact LeO.none _)
      | (with_reducible refine LeO.ite ?_ ?_)
      | (with_reducible refine LeO.bind ?_ (fun _ => ?_))
      | exact ih0 _ _
      | exact ih1 _ _ _
      | exact ih2 _ _ _ _ _ _ _ _ _ _ _ _ _
      | exact ih3 _ _ _ _ _ _ _ _ _ _ _ _ _ _
      | exact ih4 _ _ _ _ _ _ _ _ _ _ _ _ _ _ _
      | exact ih5 _ _ _ _ _ _ _ _ _ _ _ _ _ _ _ _
      | exact cadastrelaw2_wakes.mono _
      | exact cadastreref2_Cmp.mono _ _ _ _ _ _ _
      | exact value_Cmp.mono _ _ _ _ _ _ _
      | exact LeO.none _
      | refine LeO.ite ?_ ?_
      | refine LeO.bind ?_ (fun _ => ?_)
    · intro y0 y1 y2 y3 y4 y5 y6 y7 y8 y9 y10 y11 y12
      unfold cadastrelaw2_ValueExact.j2
      repeat' first
      | (with_reducible exact ih0 _ _)
      | (with_reducible exact ih1 _ _ _)
      | (with_reducible exact ih2 _ _ _ _ _ _ _ _ _ _ _ _ _)
      | (with_reducible exact ih3 _ _ _ _ _ _ _ _ _ _ _ _ _ _)
      | (with_reducible exact ih4 _ _ _ _ _ _ _ _ _ _ _ _ _ _ _)
      | (with_reducible exact ih5 _ _ _ _ _ _ _ _ _ _ _ _ _ _ _ _)
      | (with_reducible exact cadastrelaw2_wakes.mono _)
      | (with_reducible exact cadastreref2_Cmp.mono _ _ _ _ _ _ _)
      | (with_reducible exact value_Cmp.mono _ _ _ _ _ _ _)
      | (with_reducible exact LeO.refl _)
      | (with_reducible exact LeO.none _)
      | (with_reducible refine LeO.ite ?_ ?_)
      | (with_reducible refine LeO.bind ?_ (fun _ => ?_))
      | exact ih0 _ _
      | exact ih1 _ _ _
      | exact ih2 _ _ _ _ _ _ _ _ _ _ _ _ _
      | exact ih3 _ _ _ _ _ _ _ _ _ _ _ _ _ _
      | exact ih4 _ _ _ _ _ _ _ _ _ _ _ _ _ _ _
      | exact ih5 _ _ _ _ _ _ _ _ _ _ _ _ _ _ _ _
      | exact cadastrelaw2_wakes.mono _
      | exact cadastreref2_Cmp.mono _ _ _ _ _ _ _
      | exact value_Cmp.mono _ _ _ _ _ _ _
      | exact LeO.none _
      | refine LeO.ite ?_ ?_
      | refine LeO.bind ?_ (fun _ => ?_)
    · intro y0 y1 y2 y3 y4 y5 y6 y7 y8 y9 y10 y11 y12 y13
      unfold cadastrelaw2_ValueExact.j3
      repeat' first
      | (with_reducible exact ih0 _ _)
      | (with_reducible exact ih1 _ _ _)
      | (with_reducible exact ih2 _ _ _ _ _ _ _ _ _ _ _ _ _)
      | (with_reducible exact ih3 _ _ _ _ _ _ _ _ _ _ _ _ _ _)
      | (with_reducible exact ih4 _ _ _ _ _ _ _ _ _ _ _ _ _ _ _)
      | (with_reducible exact ih5 _ _ _ _ _ _ _ _ _ _ _ _ _ _ _ _)
      | (with_reducible exact cadastrelaw2_wakes.mono _)
      | (with_reducible exact cadastreref2_Cmp.mono _ _ _ _ _ _ _)
      | (with_reducible exact value_Cmp.mono _ _ _ _ _ _ _)
      | (with_reducible exact LeO.refl _)
      | (with_reducible exact LeO.none _)
      | (with_reducible refine LeO.ite ?_ ?_)
      | (with_reducible refine LeO.bind ?_ (fun _ => ?_))
      | exact ih0 _ _
      | exact ih1 _ _ _
      | exact ih2 _ _ _ _ _ _ _ _ _ _ _ _ _
      | exact ih3 _ _ _ _ _ _ _ _ _ _ _ _ _ _
      | exact ih4 _ _ _ _ _ _ _ _ _ _ _ _ _ _ _
      | exact ih5 _ _ _ _ _ _ _ _ _ _ _ _ _ _ _ _
      | exact cadastrelaw2_wakes.mono _
      | exact cadastreref2_Cmp.mono _ _ _ _ _ _ _
      | exact value_Cmp.mono _ _ _ _ _ _ _
      | exact LeO.none _
      | refine LeO.ite ?_ ?_
      | refine LeO.bind ?_ (fun _ => ?_)
    · intro y0 y1 y2 y3 y4 y5 y6 y7 y8 y9 y10 y11 y12 y13 y14
      unfold cadastrelaw2_ValueExact.j4
      repeat' first
      | (with_reducible exact ih0 _ _)
      | (with_reducible exact ih1 _ _ _)
      | (with_reducible exact ih2 _ _ _ _ _ _ _ _ _ _ _ _ _)
      | (with_reducible exact ih3 _ _ _ _ _ _ _ _ _ _ _ _ _ _)
      | (with_reducible exact ih4 _ _ _ _ _ _ _ _ _ _ _ _ _ _ _)
      | (with_reducible exact ih5 _ _ _ _ _ _ _ _ _ _ _ _ _ _ _ _)
      | (with_reducible exact cadastrelaw2_wakes.mono _)
      | (with_reducible exact cadastreref2_Cmp.mono _ _ _ _ _ _ _)
      | (with_reducible exact value_Cmp.mono _ _ _ _ _ _ _)
      | (with_reducible exact LeO.refl _)
      | (with_reducible exact LeO.none _)
      | (with_reducible refine LeO.ite ?_ ?_)
      | (with_reducible refine LeO.bind ?_ (fun _ => ?_))
      | exact ih0 _ _
      | exact ih1 _ _ _
      | exact ih2 _ _ _ _ _ _ _ _ _ _ _ _ _
      | exact ih3 _ _ _ _ _ _ _ _ _ _ _ _ _ _
      | exact ih4 _ _ _ _ _ _ _ _ _ _ _ _ _ _ _
      | exact ih5 _ _ _ _ _ _ _ _ _ _ _ _ _ _ _ _
      | exact cadastrelaw2_wakes.mono _
      | exact cadastreref2_Cmp.mono _ _ _ _ _ _ _
      | exact value_Cmp.mono _ _ _ _ _ _ _
      | exact LeO.none _
      | refine LeO.ite ?_ ?_
      | refine LeO.bind ?_ (fun _ => ?_)
    · intro y0 y1 y2 y3 y4 y5 y6 y7 y8 y9 y10 y11 y12 y13 y14 y15
      unfold cadastrelaw2_ValueExact.j5
      repeat' first
      | (with_reducible exact ih0 _ _)
      | (with_reducible exact ih1 _ _ _)
      | (with_reducible exact ih2 _ _ _ _ _ _ _ _ _ _ _ _ _)
      | (with_reducible exact ih3 _ _ _ _ _ _ _ _ _ _ _ _ _ _)
      | (with_reducible exact ih4 _ _ _ _ _ _ _ _ _ _ _ _ _ _ _)
      | (with_reducible exact ih5 _ _ _ _ _ _ _ _ _ _ _ _ _ _ _ _)
      | (with_reducible exact cadastrelaw2_wakes.mono _)
      | (with_reducible exact cadastreref2_Cmp.mono _ _ _ _ _ _ _)
      | (with_reducible exact value_Cmp.mono _ _ _ _ _ _ _)
      | (with_reducible exact LeO.refl _)
      | (with_reducible exact LeO.none _)
      | (with_reducible refine LeO.ite ?_ ?_)
      | (with_reducible refine LeO.bind ?_ (fun _ => ?_))
      | exact ih0 _ _
      | exact ih1 _ _ _
      | exact ih2 _ _ _ _ _ _ _ _ _ _ _ _ _
      | exact ih3 _ _ _ _ _ _ _ _ _ _ _ _ _ _
      | exact ih4 _ _ _ _ _ _ _ _ _ _ _ _ _ _ _
      | exact ih5 _ _ _ _ _ _ _ _ _ _ _ _ _ _ _ _
      | exact cadastrelaw2_wakes.mono _
      | exact cadastreref2_Cmp.mono _ _ _ _ _ _ _
      | exact value_Cmp.mono _ _ _ _ _ _ _
      | exact LeO.none _
      | refine LeO.ite ?_ ?_
      | refine LeO.bind ?_ (fun _ => ?_)
theorem cadastrelaw2_ValueExact.mono : ∀ a0 k, LeO (cadastrelaw2_ValueExact.f k a0) (cadastrelaw2_ValueExact.f (k + 1) a0) := by
  intro a0 k
  obtain ⟨ih0, ih1, ih2, ih3, ih4, ih5⟩ := cadastrelaw2_ValueExact.mono_l k
  unfold cadastrelaw2_ValueExact.f
  repeat' first
      | (with_reducible exact ih0 _ _)
      | (with_reducible exact ih1 _ _ _)
      | (with_reducible exact ih2 _ _ _ _ _ _ _ _ _ _ _ _ _)
      | (with_reducible exact ih3 _ _ _ _ _ _ _ _ _ _ _ _ _ _)
      | (with_reducible exact ih4 _ _ _ _ _ _ _ _ _ _ _ _ _ _ _)
      | (with_reducible exact ih5 _ _ _ _ _ _ _ _ _ _ _ _ _ _ _ _)
      | (with_reducible exact cadastrelaw2_wakes.mono _)
      | (with_reducible exact cadastreref2_Cmp.mono _ _ _ _ _ _ _)
      | (with_reducible exact value_Cmp.mono _ _ _ _ _ _ _)
      | (with_reducible exact LeO.refl _)
      | (with_reducible exact LeO.none _)
      | (with_reducible refine LeO.ite ?_ ?_)
      | (with_reducible refine LeO.bind ?_ (fun _ => ?_))
      | exact ih0 _ _
      | exact ih1 _ _ _
      | exact ih2 _ _ _ _ _ _ _ _ _ _ _ _ _
      | exact ih3 _ _ _ _ _ _ _ _ _ _ _ _ _ _
      | exact ih4 _ _ _ _ _ _ _ _ _ _ _ _ _ _ _
      | exact ih5 _ _ _ _ _ _ _ _ _ _ _ _ _ _ _ _
      | exact cadastrelaw2_wakes.mono _
      | exact cadastreref2_Cmp.mono _ _ _ _ _ _ _
      | exact value_Cmp.mono _ _ _ _ _ _ _
      | exact LeO.none _
      | refine LeO.ite ?_ ?_
      | refine LeO.bind ?_ (fun _ => ?_)
set_option maxHeartbeats 8000000 in
set_option maxRecDepth 100000 in
theorem cadastrelaw2_ValueExact.calls (k : Nat) (A0 : Option Addr) (c0 : Nat) (l0 : List (S47)) (r : Bool) (w : World) (hr0 : Kd.C k47 w A0 l0.length l0) (hc0 : l0.length ≤ c0) (h : cadastrelaw2_ValueExact.f k l0 = some r) :
    Calls Try.prog 15 #[.slice A0 l0.length c0] w fun e w' => e = .returned (.bool r) ∧ Below w.heap.size w w' := by
  have hu47 := Try.underlying47
  have hu24 := Try.underlying24
  have HR0 := Aside0.mk hr0
  have HC0 := Aside0.mk hc0
  clear hr0 hc0
  have HB := Aside0.mk (Below.refl w.heap.size w)
  have H : (cadastrelaw2_ValueExact.l0 k l0 0) = some r := h
  clear h
  have H' := Aside0.mk H
  clear H
  go_enter Try.func15, Try.ntmps15
  go_wp2
  go_loopg [3] k (fun kq v3 w' => ∃ (x3_1 : Int), v3 = .int .i64 x3_1 ∧ Aside0 (cadastrelaw2_ValueExact.l0 kq l0 x3_1 = some r) ∧ Aside0 (kq ≤ k) ∧ Aside0 (Below w.heap.size w w'))
  case atStart => exact ⟨(0), (by first | rfl | (simp; done) | (simp [*]; done)), H', ⟨Nat.le_refl _⟩, ⟨by repeat (first | (with_reducible first | exact HB.out | apply below_alloc | apply pw_below_drewN | apply below_drew1) | exact HB.out)⟩⟩
  case round =>
    clear H'
    try clear c1
    obtain ⟨x3_1, rfl, HA, HK1, HB⟩ := hrel
    cases gk with
    | zero => exact absurd HA.out (by simp [cadastrelaw2_ValueExact.l0])
    | succ k1 =>
      have H := HA.out
      clear HA
      simp only [cadastrelaw2_ValueExact.l0] at H
      have HC2 := Aside0.mk H
      clear H
      go_upto_region 2 with (fail)
      go_cut [20] (fun v20 wc => ∃ (kq : Nat) (x20_1 : Bool), v20 = .bool x20_1 ∧ Aside0 (cadastrelaw2_ValueExact.j1 kq l0 x3_1 x20_1 = some r) ∧ Aside0 (kq ≤ k1) ∧ Aside0 (Below w.heap.size w wc))
      case first =>
        have H := HC2.out
        clear HC2
        by_cases c3 : x3_1 < (l0.length : Int)
        · rw [if_pos c3] at H
          have c3b0 : decide (x3_1 < (l0.length : Int)) = true := decide_eq_true c3
          clear c3
          (first | rw [c3b0] | (simp only [i64_w, i32_w]; rw [c3b0]) | skip)
          have H' := Aside0.mk H
          clear H
          go_wp2
          go_meet
          case rel => exact ⟨_, (decide (x3_1 < 30)), (by first | rfl | (simp; done) | (simp [*]; done)), H', ⟨by have := HK1.out; first | omega | exact Nat.le_refl _⟩, ⟨by repeat (first | (with_reducible first | exact HB.out | apply below_alloc | apply pw_below_drewN | apply below_drew1) | exact HB.out)⟩⟩
        rw [if_neg c3] at H
        have c3b0 : decide (x3_1 < (l0.length : Int)) = false := decide_eq_false c3
        clear c3
        (first | rw [c3b0] | (simp only [i64_w, i32_w]; rw [c3b0]) | skip)
        have H' := Aside0.mk H
        clear H
        go_wp2
        go_meet
        case rel => exact ⟨_, (false), (by first | rfl | (simp; done) | (simp [*]; done)), H', ⟨by have := HK1.out; first | omega | exact Nat.le_refl _⟩, ⟨by repeat (first | (with_reducible first | exact HB.out | apply below_alloc | apply pw_below_drewN | apply below_drew1) | exact HB.out)⟩⟩
      case rest =>
        clear HC2
        try clear c1
        try clear p2
        try clear c3
        try clear c3b0
        obtain ⟨kq, x20_1, rfl, HA, HJ1, HB⟩ := hcut
        cases kq with
        | zero => exact absurd HA.out (by simp [cadastrelaw2_ValueExact.j1])
        | succ kj1 =>
          have H := HA.out
          clear HA
          simp only [cadastrelaw2_ValueExact.j1] at H
          by_cases c4 : x20_1 = true
          · subst c4
            have H1 : (if 0 ≤ x3_1 then (if x3_1 < (l0.length : Int) then ((cadastreref2_May.f ((rd_T47 l0 x3_1).f0.f0) ((rd_T47 l0 x3_1).f0.f1) ((rd_T47 l0 x3_1).f0.f2)).bind fun t188 => (if t188 = true then (cadastrelaw2_ValueExact.j2 kj1 l0 x3_1 0 ((rd_T47 l0 x3_1).f0.f0) ((rd_T47 l0 x3_1).f0.f1) ((rd_T47 l0 x3_1).f0.f2) ((rd_T47 l0 x3_1).f1.f0) ((rd_T47 l0 x3_1).f1.f1) ((rd_T47 l0 x3_1).f1.f2) ((rd_T47 l0 x3_1).f2.f0) ((rd_T47 l0 x3_1).f2.f1) ((rd_T47 l0 x3_1).f2.f2) ((rd_T47 l0 x3_1).f3)) else (cadastrelaw2_ValueExact.j2 kj1 l0 x3_1 1 ((rd_T47 l0 x3_1).f0.f0) ((rd_T47 l0 x3_1).f0.f1) ((rd_T47 l0 x3_1).f0.f2) ((rd_T47 l0 x3_1).f1.f0) ((rd_T47 l0 x3_1).f1.f1) ((rd_T47 l0 x3_1).f1.f2) ((rd_T47 l0 x3_1).f2.f0) ((rd_T47 l0 x3_1).f2.f1) ((rd_T47 l0 x3_1).f2.f2) ((rd_T47 l0 x3_1).f3)))) else (none)) else (none)) = some r := by rw [if_pos rfl] at H; exact H
            clear H
            have H := H1
            clear H1
            by_cases c5 : 0 ≤ x3_1
            rotate_left
            · rw [if_neg c5] at H
              exact absurd H (by simp)
            rw [if_pos c5] at H
            have c5b0 : decide (0 ≤ x3_1) = true := decide_eq_true c5
            clear c5
            by_cases c6 : x3_1 < (l0.length : Int)
            rotate_left
            · rw [if_neg c6] at H
              exact absurd H (by simp)
            rw [if_pos c6] at H
            have c6b0 : decide (x3_1 < (l0.length : Int)) = true := decide_eq_true c6
            clear c6
            replace H := Option.bind_eq_some_iff.mp H
            obtain ⟨t188, A70, H⟩ := H
            replace H : (if t188 = true then (cadastrelaw2_ValueExact.j2 kj1 l0 x3_1 0 ((rd_T47 l0 x3_1).f0.f0) ((rd_T47 l0 x3_1).f0.f1) ((rd_T47 l0 x3_1).f0.f2) ((rd_T47 l0 x3_1).f1.f0) ((rd_T47 l0 x3_1).f1.f1) ((rd_T47 l0 x3_1).f1.f2) ((rd_T47 l0 x3_1).f2.f0) ((rd_T47 l0 x3_1).f2.f1) ((rd_T47 l0 x3_1).f2.f2) ((rd_T47 l0 x3_1).f3)) else (cadastrelaw2_ValueExact.j2 kj1 l0 x3_1 1 ((rd_T47 l0 x3_1).f0.f0) ((rd_T47 l0 x3_1).f0.f1) ((rd_T47 l0 x3_1).f0.f2) ((rd_T47 l0 x3_1).f1.f0) ((rd_T47 l0 x3_1).f1.f1) ((rd_T47 l0 x3_1).f1.f2) ((rd_T47 l0 x3_1).f2.f0) ((rd_T47 l0 x3_1).f2.f1) ((rd_T47 l0 x3_1).f2.f2) ((rd_T47 l0 x3_1).f3))) = some r := H
            have A7 := Aside0.mk A70
            clear A70
            have HC8 := Aside0.mk H
            clear H
            have p186 : 0 ≤ (x3_1 : Int) := of_decide_eq_true (by first | (with_reducible assumption) | assumption)
            have q186 : x3_1 < (l0.length : Int) := of_decide_eq_true (by first | (with_reducible assumption) | assumption)
            obtain ⟨ad186, e186, hx186_0, hx186_1, hx186_2, hx186_3, hx186_4, hx186_5, hx186_6, hx186_7, hx186_8, hx186_9⟩ := at_T47 HR0.out x3_1 p186 q186
            cases e186
            replace hx186_0 := (HB.out.cell (World.block_lt_of_cell? w _ hx186_0)).trans hx186_0
            replace hx186_1 := (HB.out.cell (World.block_lt_of_cell? w _ hx186_1)).trans hx186_1
            replace hx186_2 := (HB.out.cell (World.block_lt_of_cell? w _ hx186_2)).trans hx186_2
            replace hx186_3 := (HB.out.cell (World.block_lt_of_cell? w _ hx186_3)).trans hx186_3
            replace hx186_4 := (HB.out.cell (World.block_lt_of_cell? w _ hx186_4)).trans hx186_4
            replace hx186_5 := (HB.out.cell (World.block_lt_of_cell? w _ hx186_5)).trans hx186_5
            replace hx186_6 := (HB.out.cell (World.block_lt_of_cell? w _ hx186_6)).trans hx186_6
            replace hx186_7 := (HB.out.cell (World.block_lt_of_cell? w _ hx186_7)).trans hx186_7
            replace hx186_8 := (HB.out.cell (World.block_lt_of_cell? w _ hx186_8)).trans hx186_8
            replace hx186_9 := (HB.out.cell (World.block_lt_of_cell? w _ hx186_9)).trans hx186_9
            replace p186 := eq_true p186
            replace q186 := eq_true q186
            go_upto_if 30 with (first | ((with_reducible refine gate_dst (N := 4) rfl ?_); refine box_event ?hg (N := 4) ?hd (cs := #[.int .i64 0, .int .i64 0, .string (⟨#[]⟩ : ByteArray), .int .i64 0, .int .i64 0, .string (⟨#[]⟩ : ByteArray), .int .i64 0, .int .i64 0, .string (⟨#[]⟩ : ByteArray), .int .i64 0]) (t := 47) ?hr ?_; (case hd => rfl); (case hg => rfl); (case hr => first | (go_simp; done) | (go_simp; rfl)); intro gb187 hg w9 hbox hb; have n0_ := Aside0.mk (below_step (by repeat (first | (with_reducible first | exact HB.out | apply below_alloc | apply pw_below_drewN | apply below_drew1) | exact HB.out)) hb); have n1_ := Aside0.mk (hbox); have n2_ := Aside0.mk ((by rw [hg]; exact (below_size (by repeat (first | (with_reducible first | exact HB.out | apply below_alloc | apply pw_below_drewN | apply below_drew1) | exact HB.out))) : w.heap.size ≤ gb187)); have n3_ := Aside0.mk ((by rw [hg]; exact (below_size (by repeat (first | (with_reducible first | exact HB.out | apply below_alloc | apply pw_below_drewN | apply below_drew1) | exact HB.out))) : w.heap.size ≤ gb187)); clear HB; have HB := n0_; have BK187 := n1_; have GW187 := n2_; have GE187 := n3_; clear n0_ n1_ n2_ n3_; clear hb hbox hg; have hcz10_0 : w9.cell? ⟨gb187, 0, none⟩ = some (.int .i64 0) := (blk_cell BK187.out 0).trans rfl; have hcz10_1 : w9.cell? ⟨gb187, 1, none⟩ = some (.int .i64 0) := (blk_cell BK187.out 1).trans rfl; have hcz10_2 : w9.cell? ⟨gb187, 2, none⟩ = some (.string (⟨#[]⟩ : ByteArray)) := (blk_cell BK187.out 2).trans rfl; have hcz10_3 : w9.cell? ⟨gb187, 3, none⟩ = some (.int .i64 0) := (blk_cell BK187.out 3).trans rfl; have hcz10_4 : w9.cell? ⟨gb187, 4, none⟩ = some (.int .i64 0) := (blk_cell BK187.out 4).trans rfl; have hcz10_5 : w9.cell? ⟨gb187, 5, none⟩ = some (.string (⟨#[]⟩ : ByteArray)) := (blk_cell BK187.out 5).trans rfl; have hcz10_6 : w9.cell? ⟨gb187, 6, none⟩ = some (.int .i64 0) := (blk_cell BK187.out 6).trans rfl; have hcz10_7 : w9.cell? ⟨gb187, 7, none⟩ = some (.int .i64 0) := (blk_cell BK187.out 7).trans rfl; have hcz10_8 : w9.cell? ⟨gb187, 8, none⟩ = some (.string (⟨#[]⟩ : ByteArray)) := (blk_cell BK187.out 8).trans rfl; have hcz10_9 : w9.cell? ⟨gb187, 9, none⟩ = some (.int .i64 0) := (blk_cell BK187.out 9).trans rfl; have hfz10_0 := blk_frozen BK187.out 0; have hfz10_1 := blk_frozen BK187.out 1; have hfz10_2 := blk_frozen BK187.out 2; have hfz10_3 := blk_frozen BK187.out 3; have hfz10_4 := blk_frozen BK187.out 4; have hfz10_5 := blk_frozen BK187.out 5; have hfz10_6 := blk_frozen BK187.out 6; have hfz10_7 := blk_frozen BK187.out 7; have hfz10_8 := blk_frozen BK187.out 8; have hfz10_9 := blk_frozen BK187.out 9) | ((with_reducible refine gate_callee (f := 31) rfl ?_); refine goesL_ (some 29) rfl rfl Try.func31 (by kernel_rfl) rfl #[.agg #[.int .i64 ((rd_T47 l0 x3_1).f0.f0), .int .i64 ((rd_T47 l0 x3_1).f0.f1), .string ((rd_T47 l0 x3_1).f0.f2)]] rfl (by (try simp only [List.map_toArray, List.map_cons, List.map_nil]); first | done | rfl | (simp only [List.length_drop, List.length_take]; rfl)) ?_; (with_reducible refine (cadastreref2_May.calls ((rd_T47 l0 x3_1).f0.f0) ((rd_T47 l0 x3_1).f0.f1) ((rd_T47 l0 x3_1).f0.f2) t188 _ A7.out).mono ?_); rintro e w11 ⟨rfl, hb⟩; refine ⟨_, rfl, ?_⟩; have n0_ := Aside0.mk (blk_below (g := gb187) (o := .cells #[.int .i64 ((rd_T47 l0 x3_1).f0.f0), .int .i64 ((rd_T47 l0 x3_1).f0.f1), .string ((rd_T47 l0 x3_1).f0.f2), .int .i64 ((rd_T47 l0 x3_1).f1.f0), .int .i64 ((rd_T47 l0 x3_1).f1.f1), .string ((rd_T47 l0 x3_1).f1.f2), .int .i64 ((rd_T47 l0 x3_1).f2.f0), .int .i64 ((rd_T47 l0 x3_1).f2.f1), .string ((rd_T47 l0 x3_1).f2.f2), .int .i64 ((rd_T47 l0 x3_1).f3)] 47 (0, 0)) (by (with_reducible repeat (first | refine blk_drewN ?_ _ | refine blk_drew ?_ | refine blk_alloc ?_ _)); refine blk_put (cs := #[.int .i64 ((rd_T47 l0 x3_1).f0.f0), .int .i64 ((rd_T47 l0 x3_1).f0.f1), .string ((rd_T47 l0 x3_1).f0.f2), .int .i64 ((rd_T47 l0 x3_1).f1.f0), .int .i64 ((rd_T47 l0 x3_1).f1.f1), .string ((rd_T47 l0 x3_1).f1.f2), .int .i64 ((rd_T47 l0 x3_1).f2.f0), .int .i64 ((rd_T47 l0 x3_1).f2.f1), .string ((rd_T47 l0 x3_1).f2.f2), .int .i64 0]) ?_ 9 _ rfl; (with_reducible repeat (first | refine blk_drewN ?_ _ | refine blk_drew ?_ | refine blk_alloc ?_ _)); refine blk_put (cs := #[.int .i64 ((rd_T47 l0 x3_1).f0.f0), .int .i64 ((rd_T47 l0 x3_1).f0.f1), .string ((rd_T47 l0 x3_1).f0.f2), .int .i64 ((rd_T47 l0 x3_1).f1.f0), .int .i64 ((rd_T47 l0 x3_1).f1.f1), .string ((rd_T47 l0 x3_1).f1.f2), .int .i64 ((rd_T47 l0 x3_1).f2.f0), .int .i64 ((rd_T47 l0 x3_1).f2.f1), .string (⟨#[]⟩ : ByteArray), .int .i64 0]) ?_ 8 _ rfl; (with_reducible repeat (first | refine blk_drewN ?_ _ | refine blk_drew ?_ | refine blk_alloc ?_ _)); refine blk_put (cs := #[.int .i64 ((rd_T47 l0 x3_1).f0.f0), .int .i64 ((rd_T47 l0 x3_1).f0.f1), .string ((rd_T47 l0 x3_1).f0.f2), .int .i64 ((rd_T47 l0 x3_1).f1.f0), .int .i64 ((rd_T47 l0 x3_1).f1.f1), .string ((rd_T47 l0 x3_1).f1.f2), .int .i64 ((rd_T47 l0 x3_1).f2.f0), .int .i64 0, .string (⟨#[]⟩ : ByteArray), .int .i64 0]) ?_ 7 _ rfl; (with_reducible repeat (first | refine blk_drewN ?_ _ | refine blk_drew ?_ | refine blk_alloc ?_ _)); refine blk_put (cs := #[.int .i64 ((rd_T47 l0 x3_1).f0.f0), .int .i64 ((rd_T47 l0 x3_1).f0.f1), .string ((rd_T47 l0 x3_1).f0.f2), .int .i64 ((rd_T47 l0 x3_1).f1.f0), .int .i64 ((rd_T47 l0 x3_1).f1.f1), .string ((rd_T47 l0 x3_1).f1.f2), .int .i64 0, .int .i64 0, .string (⟨#[]⟩ : ByteArray), .int .i64 0]) ?_ 6 _ rfl; (with_reducible repeat (first | refine blk_drewN ?_ _ | refine blk_drew ?_ | refine blk_alloc ?_ _)); refine blk_put (cs := #[.int .i64 ((rd_T47 l0 x3_1).f0.f0), .int .i64 ((rd_T47 l0 x3_1).f0.f1), .string ((rd_T47 l0 x3_1).f0.f2), .int .i64 ((rd_T47 l0 x3_1).f1.f0), .int .i64 ((rd_T47 l0 x3_1).f1.f1), .string (⟨#[]⟩ : ByteArray), .int .i64 0, .int .i64 0, .string (⟨#[]⟩ : ByteArray), .int .i64 0]) ?_ 5 _ rfl; (with_reducible repeat (first | refine blk_drewN ?_ _ | refine blk_drew ?_ | refine blk_alloc ?_ _)); refine blk_put (cs := #[.int .i64 ((rd_T47 l0 x3_1).f0.f0), .int .i64 ((rd_T47 l0 x3_1).f0.f1), .string ((rd_T47 l0 x3_1).f0.f2), .int .i64 ((rd_T47 l0 x3_1).f1.f0), .int .i64 0, .string (⟨#[]⟩ : ByteArray), .int .i64 0, .int .i64 0, .string (⟨#[]⟩ : ByteArray), .int .i64 0]) ?_ 4 _ rfl; (with_reducible repeat (first | refine blk_drewN ?_ _ | refine blk_drew ?_ | refine blk_alloc ?_ _)); refine blk_put (cs := #[.int .i64 ((rd_T47 l0 x3_1).f0.f0), .int .i64 ((rd_T47 l0 x3_1).f0.f1), .string ((rd_T47 l0 x3_1).f0.f2), .int .i64 0, .int .i64 0, .string (⟨#[]⟩ : ByteArray), .int .i64 0, .int .i64 0, .string (⟨#[]⟩ : ByteArray), .int .i64 0]) ?_ 3 _ rfl; (with_reducible repeat (first | refine blk_drewN ?_ _ | refine blk_drew ?_ | refine blk_alloc ?_ _)); refine blk_put (cs := #[.int .i64 ((rd_T47 l0 x3_1).f0.f0), .int .i64 ((rd_T47 l0 x3_1).f0.f1), .string (⟨#[]⟩ : ByteArray), .int .i64 0, .int .i64 0, .string (⟨#[]⟩ : ByteArray), .int .i64 0, .int .i64 0, .string (⟨#[]⟩ : ByteArray), .int .i64 0]) ?_ 2 _ rfl; (with_reducible repeat (first | refine blk_drewN ?_ _ | refine blk_drew ?_ | refine blk_alloc ?_ _)); refine blk_put (cs := #[.int .i64 ((rd_T47 l0 x3_1).f0.f0), .int .i64 0, .string (⟨#[]⟩ : ByteArray), .int .i64 0, .int .i64 0, .string (⟨#[]⟩ : ByteArray), .int .i64 0, .int .i64 0, .string (⟨#[]⟩ : ByteArray), .int .i64 0]) ?_ 1 _ rfl; (with_reducible repeat (first | refine blk_drewN ?_ _ | refine blk_drew ?_ | refine blk_alloc ?_ _)); refine blk_put (cs := #[.int .i64 0, .int .i64 0, .string (⟨#[]⟩ : ByteArray), .int .i64 0, .int .i64 0, .string (⟨#[]⟩ : ByteArray), .int .i64 0, .int .i64 0, .string (⟨#[]⟩ : ByteArray), .int .i64 0]) ?_ 0 _ rfl; (with_reducible repeat (first | refine blk_drewN ?_ _ | refine blk_drew ?_ | refine blk_alloc ?_ _)); exact BK187.out) hb); have n1_ := Aside0.mk (below_step (by repeat (first | (with_reducible first | exact HB.out | apply below_alloc | apply pw_below_drewN | apply below_drew1 | refine below_set ?_ GE187.out) | exact HB.out)) hb); clear BK187; clear HB; have BK187 := n0_; have HB := n1_; clear n0_ n1_; (try clear hb); (try clear hb2); (try clear hk); (try clear hi)))
            (try simp only [Act.put, List.setIfInBounds_toArray, List.set_cons_zero, List.set_cons_succ])
            go_cut [5] (fun v5 wc => ∃ (kq : Nat) (x5_7 : Int), v5 = .int .i64 x5_7 ∧ Aside0 (cadastrelaw2_ValueExact.j2 kq l0 x3_1 x5_7 ((rd_T47 l0 x3_1).f0.f0) ((rd_T47 l0 x3_1).f0.f1) ((rd_T47 l0 x3_1).f0.f2) ((rd_T47 l0 x3_1).f1.f0) ((rd_T47 l0 x3_1).f1.f1) ((rd_T47 l0 x3_1).f1.f2) ((rd_T47 l0 x3_1).f2.f0) ((rd_T47 l0 x3_1).f2.f1) ((rd_T47 l0 x3_1).f2.f2) ((rd_T47 l0 x3_1).f3) = some r) ∧ Aside0 (kq ≤ kj1) ∧ Aside0 (wc.heap[gb187]? = some (.cells #[.int .i64 ((rd_T47 l0 x3_1).f0.f0), .int .i64 ((rd_T47 l0 x3_1).f0.f1), .string ((rd_T47 l0 x3_1).f0.f2), .int .i64 ((rd_T47 l0 x3_1).f1.f0), .int .i64 ((rd_T47 l0 x3_1).f1.f1), .string ((rd_T47 l0 x3_1).f1.f2), .int .i64 ((rd_T47 l0 x3_1).f2.f0), .int .i64 ((rd_T47 l0 x3_1).f2.f1), .string ((rd_T47 l0 x3_1).f2.f2), .int .i64 ((rd_T47 l0 x3_1).f3)] 47 (0, 0))) ∧ Aside0 (Below w.heap.size w wc))
            case first =>
              have H := HC8.out
              clear HC8
              by_cases c12 : t188 = true
              · subst c12
                have H1 : (cadastrelaw2_ValueExact.j2 kj1 l0 x3_1 0 ((rd_T47 l0 x3_1).f0.f0) ((rd_T47 l0 x3_1).f0.f1) ((rd_T47 l0 x3_1).f0.f2) ((rd_T47 l0 x3_1).f1.f0) ((rd_T47 l0 x3_1).f1.f1) ((rd_T47 l0 x3_1).f1.f2) ((rd_T47 l0 x3_1).f2.f0) ((rd_T47 l0 x3_1).f2.f1) ((rd_T47 l0 x3_1).f2.f2) ((rd_T47 l0 x3_1).f3)) = some r := by rw [if_pos rfl] at H; exact H
                clear H
                have H := H1
                clear H1
                have H' := Aside0.mk H
                clear H
                go_wp2
                go_meet
                case rel => exact ⟨_, (0), (by first | rfl | (simp; done) | (simp [*]; done)), H', ⟨by have := HK1.out; have := HJ1.out; first | omega | exact Nat.le_refl _⟩, ⟨by (with_reducible repeat (first | refine blk_drewN ?_ _ | refine blk_drew ?_ | refine blk_alloc ?_ _)); exact BK187.out⟩, ⟨by repeat (first | (with_reducible first | exact HB.out | apply below_alloc | apply pw_below_drewN | apply below_drew1 | refine below_set ?_ GE187.out) | exact HB.out)⟩⟩
              · replace c12 := Bool.eq_false_iff.mpr c12
                subst c12
                have H1 : (cadastrelaw2_ValueExact.j2 kj1 l0 x3_1 1 ((rd_T47 l0 x3_1).f0.f0) ((rd_T47 l0 x3_1).f0.f1) ((rd_T47 l0 x3_1).f0.f2) ((rd_T47 l0 x3_1).f1.f0) ((rd_T47 l0 x3_1).f1.f1) ((rd_T47 l0 x3_1).f1.f2) ((rd_T47 l0 x3_1).f2.f0) ((rd_T47 l0 x3_1).f2.f1) ((rd_T47 l0 x3_1).f2.f2) ((rd_T47 l0 x3_1).f3)) = some r := by rw [if_neg (show ¬ (false = true) by decide)] at H; exact H
                clear H
                have H := H1
                clear H1
                have H' := Aside0.mk H
                clear H
                go_wp2
                go_meet
                case rel => exact ⟨_, (1), (by first | rfl | (simp; done) | (simp [*]; done)), H', ⟨by have := HK1.out; have := HJ1.out; first | omega | exact Nat.le_refl _⟩, ⟨by (with_reducible repeat (first | refine blk_drewN ?_ _ | refine blk_drew ?_ | refine blk_alloc ?_ _)); exact BK187.out⟩, ⟨by repeat (first | (with_reducible first | exact HB.out | apply below_alloc | apply pw_below_drewN | apply below_drew1 | refine below_set ?_ GE187.out) | exact HB.out)⟩⟩
            case rest =>
              clear HC8
              try clear c1
              try clear p1
              try clear q1
              try clear hx1
              try clear p2
              try clear c3
              try clear c3b0
              try clear c4
              try clear c5
              try clear c5b0
              try clear c6
              try clear c6b0
              try clear c12
              try clear hcz10_0
              try clear hcz10_1
              try clear hcz10_2
              try clear hcz10_3
              try clear hcz10_4
              try clear hcz10_5
              try clear hcz10_6
              try clear hcz10_7
              try clear hcz10_8
              try clear hcz10_9
              try clear hfz10_0
              try clear hfz10_1
              try clear hfz10_2
              try clear hfz10_3
              try clear hfz10_4
              try clear hfz10_5
              try clear hfz10_6
              try clear hfz10_7
              try clear hfz10_8
              try clear hfz10_9
              try clear hx186_0
              try clear hx186_1
              try clear hx186_2
              try clear hx186_3
              try clear hx186_4
              try clear hx186_5
              try clear hx186_6
              try clear hx186_7
              try clear hx186_8
              try clear hx186_9
              try clear p186
              try clear p2
              try clear q186
              obtain ⟨kq, x5_7, rfl, HA, HJ7, BK187, HB⟩ := hcut
              cases kq with
              | zero => exact absurd HA.out (by simp [cadastrelaw2_ValueExact.j2])
              | succ kj7 =>
                have H := HA.out
                clear HA
                simp only [cadastrelaw2_ValueExact.j2] at H
                replace H := Option.bind_eq_some_iff.mp H
                obtain ⟨t189, A130, H⟩ := H
                replace H : (if t189 = true then (cadastrelaw2_ValueExact.j3 kj7 l0 x3_1 x5_7 x5_7 ((rd_T47 l0 x3_1).f0.f0) ((rd_T47 l0 x3_1).f0.f1) ((rd_T47 l0 x3_1).f0.f2) ((rd_T47 l0 x3_1).f1.f0) ((rd_T47 l0 x3_1).f1.f1) ((rd_T47 l0 x3_1).f1.f2) ((rd_T47 l0 x3_1).f2.f0) ((rd_T47 l0 x3_1).f2.f1) ((rd_T47 l0 x3_1).f2.f2) ((rd_T47 l0 x3_1).f3)) else (cadastrelaw2_ValueExact.j3 kj7 l0 x3_1 x5_7 1 ((rd_T47 l0 x3_1).f0.f0) ((rd_T47 l0 x3_1).f0.f1) ((rd_T47 l0 x3_1).f0.f2) ((rd_T47 l0 x3_1).f1.f0) ((rd_T47 l0 x3_1).f1.f1) ((rd_T47 l0 x3_1).f1.f2) ((rd_T47 l0 x3_1).f2.f0) ((rd_T47 l0 x3_1).f2.f1) ((rd_T47 l0 x3_1).f2.f2) ((rd_T47 l0 x3_1).f3))) = some r := H
                have A13 := Aside0.mk A130
                clear A130
                have HC14 := Aside0.mk H
                clear H
                have hcz15_0 : wc.cell? ⟨gb187, 0, none⟩ = some (.int .i64 ((rd_T47 l0 x3_1).f0.f0)) := (blk_cell BK187.out 0).trans rfl
                have hcz15_1 : wc.cell? ⟨gb187, 1, none⟩ = some (.int .i64 ((rd_T47 l0 x3_1).f0.f1)) := (blk_cell BK187.out 1).trans rfl
                have hcz15_2 : wc.cell? ⟨gb187, 2, none⟩ = some (.string ((rd_T47 l0 x3_1).f0.f2)) := (blk_cell BK187.out 2).trans rfl
                have hcz15_3 : wc.cell? ⟨gb187, 3, none⟩ = some (.int .i64 ((rd_T47 l0 x3_1).f1.f0)) := (blk_cell BK187.out 3).trans rfl
                have hcz15_4 : wc.cell? ⟨gb187, 4, none⟩ = some (.int .i64 ((rd_T47 l0 x3_1).f1.f1)) := (blk_cell BK187.out 4).trans rfl
                have hcz15_5 : wc.cell? ⟨gb187, 5, none⟩ = some (.string ((rd_T47 l0 x3_1).f1.f2)) := (blk_cell BK187.out 5).trans rfl
                have hcz15_6 : wc.cell? ⟨gb187, 6, none⟩ = some (.int .i64 ((rd_T47 l0 x3_1).f2.f0)) := (blk_cell BK187.out 6).trans rfl
                have hcz15_7 : wc.cell? ⟨gb187, 7, none⟩ = some (.int .i64 ((rd_T47 l0 x3_1).f2.f1)) := (blk_cell BK187.out 7).trans rfl
                have hcz15_8 : wc.cell? ⟨gb187, 8, none⟩ = some (.string ((rd_T47 l0 x3_1).f2.f2)) := (blk_cell BK187.out 8).trans rfl
                have hcz15_9 : wc.cell? ⟨gb187, 9, none⟩ = some (.int .i64 ((rd_T47 l0 x3_1).f3)) := (blk_cell BK187.out 9).trans rfl
                have hfz15_0 := blk_frozen BK187.out 0
                have hfz15_1 := blk_frozen BK187.out 1
                have hfz15_2 := blk_frozen BK187.out 2
                have hfz15_3 := blk_frozen BK187.out 3
                have hfz15_4 := blk_frozen BK187.out 4
                have hfz15_5 := blk_frozen BK187.out 5
                have hfz15_6 := blk_frozen BK187.out 6
                have hfz15_7 := blk_frozen BK187.out 7
                have hfz15_8 := blk_frozen BK187.out 8
                have hfz15_9 := blk_frozen BK187.out 9
                go_upto_if 35 with (first | ((with_reducible refine gate_callee (f := 31) rfl ?_); refine goesL_ (some 34) rfl rfl Try.func31 (by kernel_rfl) rfl #[.agg #[.int .i64 ((rd_T47 l0 x3_1).f1.f0), .int .i64 ((rd_T47 l0 x3_1).f1.f1), .string ((rd_T47 l0 x3_1).f1.f2)]] rfl (by (try simp only [List.map_toArray, List.map_cons, List.map_nil]); first | done | rfl | (simp only [List.length_drop, List.length_take]; rfl)) ?_; (with_reducible refine (cadastreref2_May.calls ((rd_T47 l0 x3_1).f1.f0) ((rd_T47 l0 x3_1).f1.f1) ((rd_T47 l0 x3_1).f1.f2) t189 _ A13.out).mono ?_); rintro e w16 ⟨rfl, hb⟩; refine ⟨_, rfl, ?_⟩; have n0_ := Aside0.mk (blk_below (g := gb187) (o := .cells #[.int .i64 ((rd_T47 l0 x3_1).f0.f0), .int .i64 ((rd_T47 l0 x3_1).f0.f1), .string ((rd_T47 l0 x3_1).f0.f2), .int .i64 ((rd_T47 l0 x3_1).f1.f0), .int .i64 ((rd_T47 l0 x3_1).f1.f1), .string ((rd_T47 l0 x3_1).f1.f2), .int .i64 ((rd_T47 l0 x3_1).f2.f0), .int .i64 ((rd_T47 l0 x3_1).f2.f1), .string ((rd_T47 l0 x3_1).f2.f2), .int .i64 ((rd_T47 l0 x3_1).f3)] 47 (0, 0)) (by (with_reducible repeat (first | refine blk_drewN ?_ _ | refine blk_drew ?_ | refine blk_alloc ?_ _)); exact BK187.out) hb); have n1_ := Aside0.mk (below_step (by repeat (first | (with_reducible first | exact HB.out | apply below_alloc | apply pw_below_drewN | apply below_drew1 | refine below_set ?_ GE187.out) | exact HB.out)) hb); clear BK187; clear HB; have BK187 := n0_; have HB := n1_; clear n0_ n1_; (try clear hb); (try clear hb2); (try clear hk); (try clear hi)))
                (try simp only [Act.put, List.setIfInBounds_toArray, List.set_cons_zero, List.set_cons_succ])
                go_cut [6] (fun v6 wc => ∃ (kq : Nat) (x6_13 : Int), v6 = .int .i64 x6_13 ∧ Aside0 (cadastrelaw2_ValueExact.j3 kq l0 x3_1 x5_7 x6_13 ((rd_T47 l0 x3_1).f0.f0) ((rd_T47 l0 x3_1).f0.f1) ((rd_T47 l0 x3_1).f0.f2) ((rd_T47 l0 x3_1).f1.f0) ((rd_T47 l0 x3_1).f1.f1) ((rd_T47 l0 x3_1).f1.f2) ((rd_T47 l0 x3_1).f2.f0) ((rd_T47 l0 x3_1).f2.f1) ((rd_T47 l0 x3_1).f2.f2) ((rd_T47 l0 x3_1).f3) = some r) ∧ Aside0 (kq ≤ kj7) ∧ Aside0 (wc.heap[gb187]? = some (.cells #[.int .i64 ((rd_T47 l0 x3_1).f0.f0), .int .i64 ((rd_T47 l0 x3_1).f0.f1), .string ((rd_T47 l0 x3_1).f0.f2), .int .i64 ((rd_T47 l0 x3_1).f1.f0), .int .i64 ((rd_T47 l0 x3_1).f1.f1), .string ((rd_T47 l0 x3_1).f1.f2), .int .i64 ((rd_T47 l0 x3_1).f2.f0), .int .i64 ((rd_T47 l0 x3_1).f2.f1), .string ((rd_T47 l0 x3_1).f2.f2), .int .i64 ((rd_T47 l0 x3_1).f3)] 47 (0, 0))) ∧ Aside0 (Below w.heap.size w wc))
                case first =>
                  have H := HC14.out
                  clear HC14
                  by_cases c17 : t189 = true
                  · subst c17
                    have H1 : (cadastrelaw2_ValueExact.j3 kj7 l0 x3_1 x5_7 x5_7 ((rd_T47 l0 x3_1).f0.f0) ((rd_T47 l0 x3_1).f0.f1) ((rd_T47 l0 x3_1).f0.f2) ((rd_T47 l0 x3_1).f1.f0) ((rd_T47 l0 x3_1).f1.f1) ((rd_T47 l0 x3_1).f1.f2) ((rd_T47 l0 x3_1).f2.f0) ((rd_T47 l0 x3_1).f2.f1) ((rd_T47 l0 x3_1).f2.f2) ((rd_T47 l0 x3_1).f3)) = some r := by rw [if_pos rfl] at H; exact H
                    clear H
                    have H := H1
                    clear H1
                    have H' := Aside0.mk H
                    clear H
                    go_wp2
                    go_meet
                    case rel => exact ⟨_, (x5_7), (by first | rfl | (simp; done) | (simp [*]; done)), H', ⟨by have := HK1.out; have := HJ1.out; have := HJ7.out; first | omega | exact Nat.le_refl _⟩, ⟨by (with_reducible repeat (first | refine blk_drewN ?_ _ | refine blk_drew ?_ | refine blk_alloc ?_ _)); exact BK187.out⟩, ⟨by repeat (first | (with_reducible first | exact HB.out | apply below_alloc | apply pw_below_drewN | apply below_drew1 | refine below_set ?_ GE187.out) | exact HB.out)⟩⟩
                  · replace c17 := Bool.eq_false_iff.mpr c17
                    subst c17
                    have H1 : (cadastrelaw2_ValueExact.j3 kj7 l0 x3_1 x5_7 1 ((rd_T47 l0 x3_1).f0.f0) ((rd_T47 l0 x3_1).f0.f1) ((rd_T47 l0 x3_1).f0.f2) ((rd_T47 l0 x3_1).f1.f0) ((rd_T47 l0 x3_1).f1.f1) ((rd_T47 l0 x3_1).f1.f2) ((rd_T47 l0 x3_1).f2.f0) ((rd_T47 l0 x3_1).f2.f1) ((rd_T47 l0 x3_1).f2.f2) ((rd_T47 l0 x3_1).f3)) = some r := by rw [if_neg (show ¬ (false = true) by decide)] at H; exact H
                    clear H
                    have H := H1
                    clear H1
                    have H' := Aside0.mk H
                    clear H
                    go_wp2
                    go_meet
                    case rel => exact ⟨_, (1), (by first | rfl | (simp; done) | (simp [*]; done)), H', ⟨by have := HK1.out; have := HJ1.out; have := HJ7.out; first | omega | exact Nat.le_refl _⟩, ⟨by (with_reducible repeat (first | refine blk_drewN ?_ _ | refine blk_drew ?_ | refine blk_alloc ?_ _)); exact BK187.out⟩, ⟨by repeat (first | (with_reducible first | exact HB.out | apply below_alloc | apply pw_below_drewN | apply below_drew1 | refine below_set ?_ GE187.out) | exact HB.out)⟩⟩
                case rest =>
                  clear HC14
                  try clear c1
                  try clear p1
                  try clear q1
                  try clear hx1
                  try clear p2
                  try clear c3
                  try clear c3b0
                  try clear c4
                  try clear c5
                  try clear c5b0
                  try clear c6
                  try clear c6b0
                  try clear c12
                  try clear c15
                  try clear c17
                  try clear hcz10_0
                  try clear hcz10_1
                  try clear hcz10_2
                  try clear hcz10_3
                  try clear hcz10_4
                  try clear hcz10_5
                  try clear hcz10_6
                  try clear hcz10_7
                  try clear hcz10_8
                  try clear hcz10_9
                  try clear hcz15_0
                  try clear hcz15_1
                  try clear hcz15_2
                  try clear hcz15_3
                  try clear hcz15_4
                  try clear hcz15_5
                  try clear hcz15_6
                  try clear hcz15_7
                  try clear hcz15_8
                  try clear hcz15_9
                  try clear hfz10_0
                  try clear hfz10_1
                  try clear hfz10_2
                  try clear hfz10_3
                  try clear hfz10_4
                  try clear hfz10_5
                  try clear hfz10_6
                  try clear hfz10_7
                  try clear hfz10_8
                  try clear hfz10_9
                  try clear hfz15_0
                  try clear hfz15_1
                  try clear hfz15_2
                  try clear hfz15_3
                  try clear hfz15_4
                  try clear hfz15_5
                  try clear hfz15_6
                  try clear hfz15_7
                  try clear hfz15_8
                  try clear hfz15_9
                  try clear hx186_0
                  try clear hx186_1
                  try clear hx186_2
                  try clear hx186_3
                  try clear hx186_4
                  try clear hx186_5
                  try clear hx186_6
                  try clear hx186_7
                  try clear hx186_8
                  try clear hx186_9
                  try clear p1
                  try clear p186
                  try clear p2
                  try clear q1
                  try clear q186
                  obtain ⟨kq, x6_13, rfl, HA, HJ13, BK187, HB⟩ := hcut
                  cases kq with
                  | zero => exact absurd HA.out (by simp [cadastrelaw2_ValueExact.j3])
                  | succ kj13 =>
                    have H := HA.out
                    clear HA
                    simp only [cadastrelaw2_ValueExact.j3] at H
                    have HC18 := Aside0.mk H
                    clear H
                    go_upto_if 37 with (fail)
                    go_cut [7] (fun v7 wc => ∃ (kq : Nat) (x7_17 : Int), v7 = .int .i64 x7_17 ∧ Aside0 (cadastrelaw2_ValueExact.j4 kq l0 x3_1 x5_7 x6_13 x7_17 ((rd_T47 l0 x3_1).f0.f0) ((rd_T47 l0 x3_1).f0.f1) ((rd_T47 l0 x3_1).f0.f2) ((rd_T47 l0 x3_1).f1.f0) ((rd_T47 l0 x3_1).f1.f1) ((rd_T47 l0 x3_1).f1.f2) ((rd_T47 l0 x3_1).f2.f0) ((rd_T47 l0 x3_1).f2.f1) ((rd_T47 l0 x3_1).f2.f2) ((rd_T47 l0 x3_1).f3) = some r) ∧ Aside0 (kq ≤ kj13) ∧ Aside0 (wc.heap[gb187]? = some (.cells #[.int .i64 ((rd_T47 l0 x3_1).f0.f0), .int .i64 ((rd_T47 l0 x3_1).f0.f1), .string ((rd_T47 l0 x3_1).f0.f2), .int .i64 ((rd_T47 l0 x3_1).f1.f0), .int .i64 ((rd_T47 l0 x3_1).f1.f1), .string ((rd_T47 l0 x3_1).f1.f2), .int .i64 ((rd_T47 l0 x3_1).f2.f0), .int .i64 ((rd_T47 l0 x3_1).f2.f1), .string ((rd_T47 l0 x3_1).f2.f2), .int .i64 ((rd_T47 l0 x3_1).f3)] 47 (0, 0))) ∧ Aside0 (Below w.heap.size w wc))
                    case first =>
                      have H := HC18.out
                      clear HC18
                      by_cases c19 : x6_13 = 0
                      rotate_left
                      · rw [if_neg c19] at H
                        have c19b0 : (x6_13 == 0) = false := beq_eq_false_iff_ne.mpr c19
                        have c19b1 : (x6_13 != 0) = true := bne_iff_ne.mpr c19
                        (first | rw [c19b0] | (simp only [i64_w, i32_w]; rw [c19b0]) | skip)
                        have H' := Aside0.mk H
                        clear H
                        go_wp2
                        go_meet
                        case rel => exact ⟨_, (0), (by first | rfl | (simp; done) | (simp [*]; done)), H', ⟨by have := HK1.out; have := HJ1.out; have := HJ7.out; have := HJ13.out; first | omega | exact Nat.le_refl _⟩, ⟨by (with_reducible repeat (first | refine blk_drewN ?_ _ | refine blk_drew ?_ | refine blk_alloc ?_ _)); exact BK187.out⟩, ⟨by repeat (first | (with_reducible first | exact HB.out | apply below_alloc | apply pw_below_drewN | apply below_drew1 | refine below_set ?_ GE187.out) | exact HB.out)⟩⟩
                      rw [if_pos c19] at H
                      have c19b0 : (x6_13 == 0) = true := beq_iff_eq.mpr c19
                      have c19b1 : (x6_13 != 0) = false := bne_eq_false_iff_eq.mpr c19
                      clear c19
                      (first | rw [c19b0] | (simp only [i64_w, i32_w]; rw [c19b0]) | skip)
                      replace H := Option.bind_eq_some_iff.mp H
                      obtain ⟨t190, A200, H⟩ := H
                      replace H : (cadastrelaw2_ValueExact.j4 kj13 l0 x3_1 x5_7 x6_13 t190 ((rd_T47 l0 x3_1).f0.f0) ((rd_T47 l0 x3_1).f0.f1) ((rd_T47 l0 x3_1).f0.f2) ((rd_T47 l0 x3_1).f1.f0) ((rd_T47 l0 x3_1).f1.f1) ((rd_T47 l0 x3_1).f1.f2) ((rd_T47 l0 x3_1).f2.f0) ((rd_T47 l0 x3_1).f2.f1) ((rd_T47 l0 x3_1).f2.f2) ((rd_T47 l0 x3_1).f3)) = some r := H
                      have A20 := Aside0.mk A200
                      clear A200
                      have H' := Aside0.mk H
                      clear H
                      have hcz21_0 : wc.cell? ⟨gb187, 0, none⟩ = some (.int .i64 ((rd_T47 l0 x3_1).f0.f0)) := (blk_cell BK187.out 0).trans rfl
                      have hcz21_1 : wc.cell? ⟨gb187, 1, none⟩ = some (.int .i64 ((rd_T47 l0 x3_1).f0.f1)) := (blk_cell BK187.out 1).trans rfl
                      have hcz21_2 : wc.cell? ⟨gb187, 2, none⟩ = some (.string ((rd_T47 l0 x3_1).f0.f2)) := (blk_cell BK187.out 2).trans rfl
                      have hcz21_3 : wc.cell? ⟨gb187, 3, none⟩ = some (.int .i64 ((rd_T47 l0 x3_1).f1.f0)) := (blk_cell BK187.out 3).trans rfl
                      have hcz21_4 : wc.cell? ⟨gb187, 4, none⟩ = some (.int .i64 ((rd_T47 l0 x3_1).f1.f1)) := (blk_cell BK187.out 4).trans rfl
                      have hcz21_5 : wc.cell? ⟨gb187, 5, none⟩ = some (.string ((rd_T47 l0 x3_1).f1.f2)) := (blk_cell BK187.out 5).trans rfl
                      have hcz21_6 : wc.cell? ⟨gb187, 6, none⟩ = some (.int .i64 ((rd_T47 l0 x3_1).f2.f0)) := (blk_cell BK187.out 6).trans rfl
                      have hcz21_7 : wc.cell? ⟨gb187, 7, none⟩ = some (.int .i64 ((rd_T47 l0 x3_1).f2.f1)) := (blk_cell BK187.out 7).trans rfl
                      have hcz21_8 : wc.cell? ⟨gb187, 8, none⟩ = some (.string ((rd_T47 l0 x3_1).f2.f2)) := (blk_cell BK187.out 8).trans rfl
                      have hcz21_9 : wc.cell? ⟨gb187, 9, none⟩ = some (.int .i64 ((rd_T47 l0 x3_1).f3)) := (blk_cell BK187.out 9).trans rfl
                      have hfz21_0 := blk_frozen BK187.out 0
                      have hfz21_1 := blk_frozen BK187.out 1
                      have hfz21_2 := blk_frozen BK187.out 2
                      have hfz21_3 := blk_frozen BK187.out 3
                      have hfz21_4 := blk_frozen BK187.out 4
                      have hfz21_5 := blk_frozen BK187.out 5
                      have hfz21_6 := blk_frozen BK187.out 6
                      have hfz21_7 := blk_frozen BK187.out 7
                      have hfz21_8 := blk_frozen BK187.out 8
                      have hfz21_9 := blk_frozen BK187.out 9
                      go_wp2_with (first | ((with_reducible refine gate_callee (f := 38) rfl ?_); refine goesL_ (some 42) rfl rfl Try.func38 (by kernel_rfl) rfl #[.agg #[.int .i64 ((rd_T47 l0 x3_1).f0.f0), .int .i64 ((rd_T47 l0 x3_1).f0.f1), .string ((rd_T47 l0 x3_1).f0.f2)], .agg #[.int .i64 ((rd_T47 l0 x3_1).f1.f0), .int .i64 ((rd_T47 l0 x3_1).f1.f1), .string ((rd_T47 l0 x3_1).f1.f2)]] rfl (by (try simp only [List.map_toArray, List.map_cons, List.map_nil]); first | done | rfl | (simp only [List.length_drop, List.length_take]; rfl)) ?_; (with_reducible refine (cadastreref2_Cmp.calls kj13 ((rd_T47 l0 x3_1).f0.f0) ((rd_T47 l0 x3_1).f0.f1) ((rd_T47 l0 x3_1).f0.f2) ((rd_T47 l0 x3_1).f1.f0) ((rd_T47 l0 x3_1).f1.f1) ((rd_T47 l0 x3_1).f1.f2) t190 _ A20.out).mono ?_); rintro e w22 ⟨rfl, hb⟩; refine ⟨_, rfl, ?_⟩; have n0_ := Aside0.mk (blk_below (g := gb187) (o := .cells #[.int .i64 ((rd_T47 l0 x3_1).f0.f0), .int .i64 ((rd_T47 l0 x3_1).f0.f1), .string ((rd_T47 l0 x3_1).f0.f2), .int .i64 ((rd_T47 l0 x3_1).f1.f0), .int .i64 ((rd_T47 l0 x3_1).f1.f1), .string ((rd_T47 l0 x3_1).f1.f2), .int .i64 ((rd_T47 l0 x3_1).f2.f0), .int .i64 ((rd_T47 l0 x3_1).f2.f1), .string ((rd_T47 l0 x3_1).f2.f2), .int .i64 ((rd_T47 l0 x3_1).f3)] 47 (0, 0)) (by (with_reducible repeat (first | refine blk_drewN ?_ _ | refine blk_drew ?_ | refine blk_alloc ?_ _)); exact BK187.out) hb); have n1_ := Aside0.mk (below_step (by repeat (first | (with_reducible first | exact HB.out | apply below_alloc | apply pw_below_drewN | apply below_drew1 | refine below_set ?_ GE187.out) | exact HB.out)) hb); clear BK187; clear HB; have BK187 := n0_; have HB := n1_; clear n0_ n1_; (try clear hb); (try clear hb2); (try clear hk); (try clear hi)))
                      go_meet
                      case rel => exact ⟨_, (t190), (by first | rfl | (simp; done) | (simp [*]; done)), H', ⟨by have := HK1.out; have := HJ1.out; have := HJ7.out; have := HJ13.out; first | omega | exact Nat.le_refl _⟩, ⟨by (with_reducible repeat (first | refine blk_drewN ?_ _ | refine blk_drew ?_ | refine blk_alloc ?_ _)); exact BK187.out⟩, ⟨by repeat (first | (with_reducible first | exact HB.out | apply below_alloc | apply pw_below_drewN | apply below_drew1 | refine below_set ?_ GE187.out) | exact HB.out)⟩⟩
                    case rest =>
                      clear HC18
                      try clear c1
                      try clear p1
                      try clear q1
                      try clear hx1
                      try clear p2
                      try clear c3
                      try clear c3b0
                      try clear c4
                      try clear c5
                      try clear c5b0
                      try clear c6
                      try clear c6b0
                      try clear c12
                      try clear c15
                      try clear c17
                      try clear p18
                      try clear q18
                      try clear hx18
                      try clear c19
                      try clear c19b0
                      try clear c19b1
                      try clear hcz10_0
                      try clear hcz10_1
                      try clear hcz10_2
                      try clear hcz10_3
                      try clear hcz10_4
                      try clear hcz10_5
                      try clear hcz10_6
                      try clear hcz10_7
                      try clear hcz10_8
                      try clear hcz10_9
                      try clear hcz15_0
                      try clear hcz15_1
                      try clear hcz15_2
                      try clear hcz15_3
                      try clear hcz15_4
                      try clear hcz15_5
                      try clear hcz15_6
                      try clear hcz15_7
                      try clear hcz15_8
                      try clear hcz15_9
                      try clear hcz21_0
                      try clear hcz21_1
                      try clear hcz21_2
                      try clear hcz21_3
                      try clear hcz21_4
                      try clear hcz21_5
                      try clear hcz21_6
                      try clear hcz21_7
                      try clear hcz21_8
                      try clear hcz21_9
                      try clear hfz10_0
                      try clear hfz10_1
                      try clear hfz10_2
                      try clear hfz10_3
                      try clear hfz10_4
                      try clear hfz10_5
                      try clear hfz10_6
                      try clear hfz10_7
                      try clear hfz10_8
                      try clear hfz10_9
                      try clear hfz15_0
                      try clear hfz15_1
                      try clear hfz15_2
                      try clear hfz15_3
                      try clear hfz15_4
                      try clear hfz15_5
                      try clear hfz15_6
                      try clear hfz15_7
                      try clear hfz15_8
                      try clear hfz15_9
                      try clear hfz21_0
                      try clear hfz21_1
                      try clear hfz21_2
                      try clear hfz21_3
                      try clear hfz21_4
                      try clear hfz21_5
                      try clear hfz21_6
                      try clear hfz21_7
                      try clear hfz21_8
                      try clear hfz21_9
                      try clear hx186_0
                      try clear hx186_1
                      try clear hx186_2
                      try clear hx186_3
                      try clear hx186_4
                      try clear hx186_5
                      try clear hx186_6
                      try clear hx186_7
                      try clear hx186_8
                      try clear hx186_9
                      try clear p1
                      try clear p186
                      try clear p2
                      try clear q1
                      try clear q186
                      obtain ⟨kq, x7_17, rfl, HA, HJ17, BK187, HB⟩ := hcut
                      cases kq with
                      | zero => exact absurd HA.out (by simp [cadastrelaw2_ValueExact.j4])
                      | succ kj17 =>
                        have H := HA.out
                        clear HA
                        simp only [cadastrelaw2_ValueExact.j4] at H
                        replace H := Option.bind_eq_some_iff.mp H
                        obtain ⟨t191, A230, H⟩ := H
                        replace H : (if t191 = true then (cadastrelaw2_ValueExact.j5 kj17 l0 x3_1 x5_7 x6_13 x7_17 x5_7 ((rd_T47 l0 x3_1).f0.f0) ((rd_T47 l0 x3_1).f0.f1) ((rd_T47 l0 x3_1).f0.f2) ((rd_T47 l0 x3_1).f1.f0) ((rd_T47 l0 x3_1).f1.f1) ((rd_T47 l0 x3_1).f1.f2) ((rd_T47 l0 x3_1).f2.f0) ((rd_T47 l0 x3_1).f2.f1) ((rd_T47 l0 x3_1).f2.f2) ((rd_T47 l0 x3_1).f3)) else (cadastrelaw2_ValueExact.j5 kj17 l0 x3_1 x5_7 x6_13 x7_17 1 ((rd_T47 l0 x3_1).f0.f0) ((rd_T47 l0 x3_1).f0.f1) ((rd_T47 l0 x3_1).f0.f2) ((rd_T47 l0 x3_1).f1.f0) ((rd_T47 l0 x3_1).f1.f1) ((rd_T47 l0 x3_1).f1.f2) ((rd_T47 l0 x3_1).f2.f0) ((rd_T47 l0 x3_1).f2.f1) ((rd_T47 l0 x3_1).f2.f2) ((rd_T47 l0 x3_1).f3))) = some r := H
                        have A23 := Aside0.mk A230
                        clear A230
                        have HC24 := Aside0.mk H
                        clear H
                        have hcz25_0 : wc.cell? ⟨gb187, 0, none⟩ = some (.int .i64 ((rd_T47 l0 x3_1).f0.f0)) := (blk_cell BK187.out 0).trans rfl
                        have hcz25_1 : wc.cell? ⟨gb187, 1, none⟩ = some (.int .i64 ((rd_T47 l0 x3_1).f0.f1)) := (blk_cell BK187.out 1).trans rfl
                        have hcz25_2 : wc.cell? ⟨gb187, 2, none⟩ = some (.string ((rd_T47 l0 x3_1).f0.f2)) := (blk_cell BK187.out 2).trans rfl
                        have hcz25_3 : wc.cell? ⟨gb187, 3, none⟩ = some (.int .i64 ((rd_T47 l0 x3_1).f1.f0)) := (blk_cell BK187.out 3).trans rfl
                        have hcz25_4 : wc.cell? ⟨gb187, 4, none⟩ = some (.int .i64 ((rd_T47 l0 x3_1).f1.f1)) := (blk_cell BK187.out 4).trans rfl
                        have hcz25_5 : wc.cell? ⟨gb187, 5, none⟩ = some (.string ((rd_T47 l0 x3_1).f1.f2)) := (blk_cell BK187.out 5).trans rfl
                        have hcz25_6 : wc.cell? ⟨gb187, 6, none⟩ = some (.int .i64 ((rd_T47 l0 x3_1).f2.f0)) := (blk_cell BK187.out 6).trans rfl
                        have hcz25_7 : wc.cell? ⟨gb187, 7, none⟩ = some (.int .i64 ((rd_T47 l0 x3_1).f2.f1)) := (blk_cell BK187.out 7).trans rfl
                        have hcz25_8 : wc.cell? ⟨gb187, 8, none⟩ = some (.string ((rd_T47 l0 x3_1).f2.f2)) := (blk_cell BK187.out 8).trans rfl
                        have hcz25_9 : wc.cell? ⟨gb187, 9, none⟩ = some (.int .i64 ((rd_T47 l0 x3_1).f3)) := (blk_cell BK187.out 9).trans rfl
                        have hfz25_0 := blk_frozen BK187.out 0
                        have hfz25_1 := blk_frozen BK187.out 1
                        have hfz25_2 := blk_frozen BK187.out 2
                        have hfz25_3 := blk_frozen BK187.out 3
                        have hfz25_4 := blk_frozen BK187.out 4
                        have hfz25_5 := blk_frozen BK187.out 5
                        have hfz25_6 := blk_frozen BK187.out 6
                        have hfz25_7 := blk_frozen BK187.out 7
                        have hfz25_8 := blk_frozen BK187.out 8
                        have hfz25_9 := blk_frozen BK187.out 9
                        go_upto_if 47 with (first | ((with_reducible refine gate_callee (f := 48) rfl ?_); refine goesL_ (some 46) rfl rfl Try.func48 (by kernel_rfl) rfl #[.int .i64 ((rd_T47 l0 x3_1).f3)] rfl (by (try simp only [List.map_toArray, List.map_cons, List.map_nil]); first | done | rfl | (simp only [List.length_drop, List.length_take]; rfl)) ?_; (with_reducible refine (cadastreref2_Type.calls ((rd_T47 l0 x3_1).f3) t191 _ A23.out).mono ?_); rintro e w' ⟨rfl, ⟨nd, rfl⟩⟩; refine ⟨_, rfl, ?_⟩))
                        (try simp only [Act.put, List.setIfInBounds_toArray, List.set_cons_zero, List.set_cons_succ])
                        go_cut [8] (fun v8 wc => ∃ (kq : Nat) (x8_23 : Int), v8 = .int .i64 x8_23 ∧ Aside0 (cadastrelaw2_ValueExact.j5 kq l0 x3_1 x5_7 x6_13 x7_17 x8_23 ((rd_T47 l0 x3_1).f0.f0) ((rd_T47 l0 x3_1).f0.f1) ((rd_T47 l0 x3_1).f0.f2) ((rd_T47 l0 x3_1).f1.f0) ((rd_T47 l0 x3_1).f1.f1) ((rd_T47 l0 x3_1).f1.f2) ((rd_T47 l0 x3_1).f2.f0) ((rd_T47 l0 x3_1).f2.f1) ((rd_T47 l0 x3_1).f2.f2) ((rd_T47 l0 x3_1).f3) = some r) ∧ Aside0 (kq ≤ kj17) ∧ Aside0 (wc.heap[gb187]? = some (.cells #[.int .i64 ((rd_T47 l0 x3_1).f0.f0), .int .i64 ((rd_T47 l0 x3_1).f0.f1), .string ((rd_T47 l0 x3_1).f0.f2), .int .i64 ((rd_T47 l0 x3_1).f1.f0), .int .i64 ((rd_T47 l0 x3_1).f1.f1), .string ((rd_T47 l0 x3_1).f1.f2), .int .i64 ((rd_T47 l0 x3_1).f2.f0), .int .i64 ((rd_T47 l0 x3_1).f2.f1), .string ((rd_T47 l0 x3_1).f2.f2), .int .i64 ((rd_T47 l0 x3_1).f3)] 47 (0, 0))) ∧ Aside0 (Below w.heap.size w wc))
                        case first =>
                          have H := HC24.out
                          clear HC24
                          by_cases c26 : t191 = true
                          · subst c26
                            have H1 : (cadastrelaw2_ValueExact.j5 kj17 l0 x3_1 x5_7 x6_13 x7_17 x5_7 ((rd_T47 l0 x3_1).f0.f0) ((rd_T47 l0 x3_1).f0.f1) ((rd_T47 l0 x3_1).f0.f2) ((rd_T47 l0 x3_1).f1.f0) ((rd_T47 l0 x3_1).f1.f1) ((rd_T47 l0 x3_1).f1.f2) ((rd_T47 l0 x3_1).f2.f0) ((rd_T47 l0 x3_1).f2.f1) ((rd_T47 l0 x3_1).f2.f2) ((rd_T47 l0 x3_1).f3)) = some r := by rw [if_pos rfl] at H; exact H
                            clear H
                            have H := H1
                            clear H1
                            have H' := Aside0.mk H
                            clear H
                            go_wp2
                            go_meet
                            case rel => exact ⟨_, (x5_7), (by first | rfl | (simp; done) | (simp [*]; done)), H', ⟨by have := HK1.out; have := HJ1.out; have := HJ7.out; have := HJ13.out; have := HJ17.out; first | omega | exact Nat.le_refl _⟩, ⟨by (with_reducible repeat (first | refine blk_drewN ?_ _ | refine blk_drew ?_ | refine blk_alloc ?_ _)); exact BK187.out⟩, ⟨by repeat (first | (with_reducible first | exact HB.out | apply below_alloc | apply pw_below_drewN | apply below_drew1 | refine below_set ?_ GE187.out) | exact HB.out)⟩⟩
                          · replace c26 := Bool.eq_false_iff.mpr c26
                            subst c26
                            have H1 : (cadastrelaw2_ValueExact.j5 kj17 l0 x3_1 x5_7 x6_13 x7_17 1 ((rd_T47 l0 x3_1).f0.f0) ((rd_T47 l0 x3_1).f0.f1) ((rd_T47 l0 x3_1).f0.f2) ((rd_T47 l0 x3_1).f1.f0) ((rd_T47 l0 x3_1).f1.f1) ((rd_T47 l0 x3_1).f1.f2) ((rd_T47 l0 x3_1).f2.f0) ((rd_T47 l0 x3_1).f2.f1) ((rd_T47 l0 x3_1).f2.f2) ((rd_T47 l0 x3_1).f3)) = some r := by rw [if_neg (show ¬ (false = true) by decide)] at H; exact H
                            clear H
                            have H := H1
                            clear H1
                            have H' := Aside0.mk H
                            clear H
                            go_wp2
                            go_meet
                            case rel => exact ⟨_, (1), (by first | rfl | (simp; done) | (simp [*]; done)), H', ⟨by have := HK1.out; have := HJ1.out; have := HJ7.out; have := HJ13.out; have := HJ17.out; first | omega | exact Nat.le_refl _⟩, ⟨by (with_reducible repeat (first | refine blk_drewN ?_ _ | refine blk_drew ?_ | refine blk_alloc ?_ _)); exact BK187.out⟩, ⟨by repeat (first | (with_reducible first | exact HB.out | apply below_alloc | apply pw_below_drewN | apply below_drew1 | refine below_set ?_ GE187.out) | exact HB.out)⟩⟩
                        case rest =>
                          clear HC24
                          try clear c1
                          try clear p1
                          try clear q1
                          try clear hx1
                          try clear c2
                          try clear p2
                          try clear c3
                          try clear c3b0
                          try clear c4
                          try clear c5
                          try clear c5b0
                          try clear c6
                          try clear c6b0
                          try clear c12
                          try clear c15
                          try clear c17
                          try clear p18
                          try clear q18
                          try clear hx18
                          try clear c19
                          try clear c19b0
                          try clear c19b1
                          try clear c26
                          try clear hcz10_0
                          try clear hcz10_1
                          try clear hcz10_2
                          try clear hcz10_3
                          try clear hcz10_4
                          try clear hcz10_5
                          try clear hcz10_6
                          try clear hcz10_7
                          try clear hcz10_8
                          try clear hcz10_9
                          try clear hcz15_0
                          try clear hcz15_1
                          try clear hcz15_2
                          try clear hcz15_3
                          try clear hcz15_4
                          try clear hcz15_5
                          try clear hcz15_6
                          try clear hcz15_7
                          try clear hcz15_8
                          try clear hcz15_9
                          try clear hcz21_0
                          try clear hcz21_1
                          try clear hcz21_2
                          try clear hcz21_3
                          try clear hcz21_4
                          try clear hcz21_5
                          try clear hcz21_6
                          try clear hcz21_7
                          try clear hcz21_8
                          try clear hcz21_9
                          try clear hcz25_0
                          try clear hcz25_1
                          try clear hcz25_2
                          try clear hcz25_3
                          try clear hcz25_4
                          try clear hcz25_5
                          try clear hcz25_6
                          try clear hcz25_7
                          try clear hcz25_8
                          try clear hcz25_9
                          try clear hfz10_0
                          try clear hfz10_1
                          try clear hfz10_2
                          try clear hfz10_3
                          try clear hfz10_4
                          try clear hfz10_5
                          try clear hfz10_6
                          try clear hfz10_7
                          try clear hfz10_8
                          try clear hfz10_9
                          try clear hfz15_0
                          try clear hfz15_1
                          try clear hfz15_2
                          try clear hfz15_3
                          try clear hfz15_4
                          try clear hfz15_5
                          try clear hfz15_6
                          try clear hfz15_7
                          try clear hfz15_8
                          try clear hfz15_9
                          try clear hfz21_0
                          try clear hfz21_1
                          try clear hfz21_2
                          try clear hfz21_3
                          try clear hfz21_4
                          try clear hfz21_5
                          try clear hfz21_6
                          try clear hfz21_7
                          try clear hfz21_8
                          try clear hfz21_9
                          try clear hfz25_0
                          try clear hfz25_1
                          try clear hfz25_2
                          try clear hfz25_3
                          try clear hfz25_4
                          try clear hfz25_5
                          try clear hfz25_6
                          try clear hfz25_7
                          try clear hfz25_8
                          try clear hfz25_9
                          try clear hx186_0
                          try clear hx186_1
                          try clear hx186_2
                          try clear hx186_3
                          try clear hx186_4
                          try clear hx186_5
                          try clear hx186_6
                          try clear hx186_7
                          try clear hx186_8
                          try clear hx186_9
                          try clear p1
                          try clear p18
                          try clear p186
                          try clear p2
                          try clear q1
                          try clear q18
                          try clear q186
                          obtain ⟨kq, x8_23, rfl, HA, HJ23, BK187, HB⟩ := hcut
                          cases kq with
                          | zero => exact absurd HA.out (by simp [cadastrelaw2_ValueExact.j5])
                          | succ kj23 =>
                            have H := HA.out
                            clear HA
                            simp only [cadastrelaw2_ValueExact.j5] at H
                            replace H := Option.bind_eq_some_iff.mp H
                            obtain ⟨⟨t192, t193⟩, A270, H⟩ := H
                            replace H : ((value_Fits.f ((rd_T47 l0 x3_1).f0.f0) ((rd_T47 l0 x3_1).f0.f1) ((rd_T47 l0 x3_1).f0.f2) ((rd_T47 l0 x3_1).f3)).bind fun bt194 => ((value_Check.f ((rd_T47 l0 x3_1).f0.f0) ((rd_T47 l0 x3_1).f0.f1) ((rd_T47 l0 x3_1).f0.f2)).bind fun t196 => ((cadastrelaw2_num.f t196).bind fun t197 => (if t197 = x5_7 then ((cadastrelaw2_num.f t193).bind fun t198 => (if t198 = x6_13 then (if t192 = x7_17 then ((cadastrelaw2_num.f bt194.2).bind fun t199 => (if t199 = x8_23 then (if x8_23 = 0 then ((cadastreref2_Fits.f ((rd_T47 l0 x3_1).f0.f0) ((rd_T47 l0 x3_1).f0.f1) ((rd_T47 l0 x3_1).f0.f2) ((rd_T47 l0 x3_1).f3)).bind fun t200 => (if (bt194.1 != t200) = true then (some false) else (cadastrelaw2_ValueExact.l0 kj23 l0 (wrap64 (x3_1 + 1))))) else (if (bt194.1 != false) = true then (some false) else (cadastrelaw2_ValueExact.l0 kj23 l0 (wrap64 (x3_1 + 1))))) else (some false))) else (some false)) else (some false))) else (some false))))) = some r := H
                            have A27 := Aside0.mk A270
                            clear A270
                            replace H := Option.bind_eq_some_iff.mp H
                            obtain ⟨⟨t194, t195⟩, A280, H⟩ := H
                            replace H : ((value_Check.f ((rd_T47 l0 x3_1).f0.f0) ((rd_T47 l0 x3_1).f0.f1) ((rd_T47 l0 x3_1).f0.f2)).bind fun t196 => ((cadastrelaw2_num.f t196).bind fun t197 => (if t197 = x5_7 then ((cadastrelaw2_num.f t193).bind fun t198 => (if t198 = x6_13 then (if t192 = x7_17 then ((cadastrelaw2_num.f t195).bind fun t199 => (if t199 = x8_23 then (if x8_23 = 0 then ((cadastreref2_Fits.f ((rd_T47 l0 x3_1).f0.f0) ((rd_T47 l0 x3_1).f0.f1) ((rd_T47 l0 x3_1).f0.f2) ((rd_T47 l0 x3_1).f3)).bind fun t200 => (if (t194 != t200) = true then (some false) else (cadastrelaw2_ValueExact.l0 kj23 l0 (wrap64 (x3_1 + 1))))) else (if (t194 != false) = true then (some false) else (cadastrelaw2_ValueExact.l0 kj23 l0 (wrap64 (x3_1 + 1))))) else (some false))) else (some false)) else (some false))) else (some false)))) = some r := H
                            have A28 := Aside0.mk A280
                            clear A280
                            replace H := Option.bind_eq_some_iff.mp H
                            obtain ⟨t196, A290, H⟩ := H
                            replace H : ((cadastrelaw2_num.f t196).bind fun t197 => (if t197 = x5_7 then ((cadastrelaw2_num.f t193).bind fun t198 => (if t198 = x6_13 then (if t192 = x7_17 then ((cadastrelaw2_num.f t195).bind fun t199 => (if t199 = x8_23 then (if x8_23 = 0 then ((cadastreref2_Fits.f ((rd_T47 l0 x3_1).f0.f0) ((rd_T47 l0 x3_1).f0.f1) ((rd_T47 l0 x3_1).f0.f2) ((rd_T47 l0 x3_1).f3)).bind fun t200 => (if (t194 != t200) = true then (some false) else (cadastrelaw2_ValueExact.l0 kj23 l0 (wrap64 (x3_1 + 1))))) else (if (t194 != false) = true then (some false) else (cadastrelaw2_ValueExact.l0 kj23 l0 (wrap64 (x3_1 + 1))))) else (some false))) else (some false)) else (some false))) else (some false))) = some r := H
                            have A29 := Aside0.mk A290
                            clear A290
                            replace H := Option.bind_eq_some_iff.mp H
                            obtain ⟨t197, A300, H⟩ := H
                            replace H : (if t197 = x5_7 then ((cadastrelaw2_num.f t193).bind fun t198 => (if t198 = x6_13 then (if t192 = x7_17 then ((cadastrelaw2_num.f t195).bind fun t199 => (if t199 = x8_23 then (if x8_23 = 0 then ((cadastreref2_Fits.f ((rd_T47 l0 x3_1).f0.f0) ((rd_T47 l0 x3_1).f0.f1) ((rd_T47 l0 x3_1).f0.f2) ((rd_T47 l0 x3_1).f3)).bind fun t200 => (if (t194 != t200) = true then (some false) else (cadastrelaw2_ValueExact.l0 kj23 l0 (wrap64 (x3_1 + 1))))) else (if (t194 != false) = true then (some false) else (cadastrelaw2_ValueExact.l0 kj23 l0 (wrap64 (x3_1 + 1))))) else (some false))) else (some false)) else (some false))) else (some false)) = some r := H
                            have A30 := Aside0.mk A300
                            clear A300
                            by_cases c31 : t197 = x5_7
                            rotate_left
                            · rw [if_neg c31] at H
                              have c31b0 : (t197 == x5_7) = false := beq_eq_false_iff_ne.mpr c31
                              have c31b1 : (t197 != x5_7) = true := bne_iff_ne.mpr c31
                              obtain rfl := Option.some.inj H
                              have hcz32_0 : wc.cell? ⟨gb187, 0, none⟩ = some (.int .i64 ((rd_T47 l0 x3_1).f0.f0)) := (blk_cell BK187.out 0).trans rfl
                              have hcz32_1 : wc.cell? ⟨gb187, 1, none⟩ = some (.int .i64 ((rd_T47 l0 x3_1).f0.f1)) := (blk_cell BK187.out 1).trans rfl
                              have hcz32_2 : wc.cell? ⟨gb187, 2, none⟩ = some (.string ((rd_T47 l0 x3_1).f0.f2)) := (blk_cell BK187.out 2).trans rfl
                              have hcz32_3 : wc.cell? ⟨gb187, 3, none⟩ = some (.int .i64 ((rd_T47 l0 x3_1).f1.f0)) := (blk_cell BK187.out 3).trans rfl
                              have hcz32_4 : wc.cell? ⟨gb187, 4, none⟩ = some (.int .i64 ((rd_T47 l0 x3_1).f1.f1)) := (blk_cell BK187.out 4).trans rfl
                              have hcz32_5 : wc.cell? ⟨gb187, 5, none⟩ = some (.string ((rd_T47 l0 x3_1).f1.f2)) := (blk_cell BK187.out 5).trans rfl
                              have hcz32_6 : wc.cell? ⟨gb187, 6, none⟩ = some (.int .i64 ((rd_T47 l0 x3_1).f2.f0)) := (blk_cell BK187.out 6).trans rfl
                              have hcz32_7 : wc.cell? ⟨gb187, 7, none⟩ = some (.int .i64 ((rd_T47 l0 x3_1).f2.f1)) := (blk_cell BK187.out 7).trans rfl
                              have hcz32_8 : wc.cell? ⟨gb187, 8, none⟩ = some (.string ((rd_T47 l0 x3_1).f2.f2)) := (blk_cell BK187.out 8).trans rfl
                              have hcz32_9 : wc.cell? ⟨gb187, 9, none⟩ = some (.int .i64 ((rd_T47 l0 x3_1).f3)) := (blk_cell BK187.out 9).trans rfl
                              have hfz32_0 := blk_frozen BK187.out 0
                              have hfz32_1 := blk_frozen BK187.out 1
                              have hfz32_2 := blk_frozen BK187.out 2
                              have hfz32_3 := blk_frozen BK187.out 3
                              have hfz32_4 := blk_frozen BK187.out 4
                              have hfz32_5 := blk_frozen BK187.out 5
                              have hfz32_6 := blk_frozen BK187.out 6
                              have hfz32_7 := blk_frozen BK187.out 7
                              have hfz32_8 := blk_frozen BK187.out 8
                              have hfz32_9 := blk_frozen BK187.out 9
                              go_wp2_with (first | ((with_reducible refine gate_callee (f := 35) rfl ?_); refine goesL_ (some 53) rfl rfl Try.func35 (by kernel_rfl) rfl #[.agg #[.int .i64 ((rd_T47 l0 x3_1).f0.f0), .int .i64 ((rd_T47 l0 x3_1).f0.f1), .string ((rd_T47 l0 x3_1).f0.f2)], .agg #[.int .i64 ((rd_T47 l0 x3_1).f1.f0), .int .i64 ((rd_T47 l0 x3_1).f1.f1), .string ((rd_T47 l0 x3_1).f1.f2)]] rfl (by (try simp only [List.map_toArray, List.map_cons, List.map_nil]); first | done | rfl | (simp only [List.length_drop, List.length_take]; rfl)) ?_; (with_reducible refine (value_Cmp.calls kj23 ((rd_T47 l0 x3_1).f0.f0) ((rd_T47 l0 x3_1).f0.f1) ((rd_T47 l0 x3_1).f0.f2) ((rd_T47 l0 x3_1).f1.f0) ((rd_T47 l0 x3_1).f1.f1) ((rd_T47 l0 x3_1).f1.f2) t192 t193 _ A27.out).mono ?_); rintro e w33 ⟨rfl, hb⟩; refine ⟨_, rfl, ?_⟩; have n0_ := Aside0.mk (blk_below (g := gb187) (o := .cells #[.int .i64 ((rd_T47 l0 x3_1).f0.f0), .int .i64 ((rd_T47 l0 x3_1).f0.f1), .string ((rd_T47 l0 x3_1).f0.f2), .int .i64 ((rd_T47 l0 x3_1).f1.f0), .int .i64 ((rd_T47 l0 x3_1).f1.f1), .string ((rd_T47 l0 x3_1).f1.f2), .int .i64 ((rd_T47 l0 x3_1).f2.f0), .int .i64 ((rd_T47 l0 x3_1).f2.f1), .string ((rd_T47 l0 x3_1).f2.f2), .int .i64 ((rd_T47 l0 x3_1).f3)] 47 (0, 0)) (by (with_reducible repeat (first | refine blk_drewN ?_ _ | refine blk_drew ?_ | refine blk_alloc ?_ _)); exact BK187.out) hb); have n1_ := Aside0.mk (below_step (by repeat (first | (with_reducible first | exact HB.out | apply below_alloc | apply pw_below_drewN | apply below_drew1 | refine below_set ?_ GE187.out) | exact HB.out)) hb); clear BK187; clear HB; have BK187 := n0_; have HB := n1_; clear n0_ n1_; (try clear hb); (try clear hb2); (try clear hk); (try clear hi); have hcz34_0 : w33.cell? ⟨gb187, 0, none⟩ = some (.int .i64 ((rd_T47 l0 x3_1).f0.f0)) := (blk_cell BK187.out 0).trans rfl; have hcz34_1 : w33.cell? ⟨gb187, 1, none⟩ = some (.int .i64 ((rd_T47 l0 x3_1).f0.f1)) := (blk_cell BK187.out 1).trans rfl; have hcz34_2 : w33.cell? ⟨gb187, 2, none⟩ = some (.string ((rd_T47 l0 x3_1).f0.f2)) := (blk_cell BK187.out 2).trans rfl; have hcz34_3 : w33.cell? ⟨gb187, 3, none⟩ = some (.int .i64 ((rd_T47 l0 x3_1).f1.f0)) := (blk_cell BK187.out 3).trans rfl; have hcz34_4 : w33.cell? ⟨gb187, 4, none⟩ = some (.int .i64 ((rd_T47 l0 x3_1).f1.f1)) := (blk_cell BK187.out 4).trans rfl; have hcz34_5 : w33.cell? ⟨gb187, 5, none⟩ = some (.string ((rd_T47 l0 x3_1).f1.f2)) := (blk_cell BK187.out 5).trans rfl; have hcz34_6 : w33.cell? ⟨gb187, 6, none⟩ = some (.int .i64 ((rd_T47 l0 x3_1).f2.f0)) := (blk_cell BK187.out 6).trans rfl; have hcz34_7 : w33.cell? ⟨gb187, 7, none⟩ = some (.int .i64 ((rd_T47 l0 x3_1).f2.f1)) := (blk_cell BK187.out 7).trans rfl; have hcz34_8 : w33.cell? ⟨gb187, 8, none⟩ = some (.string ((rd_T47 l0 x3_1).f2.f2)) := (blk_cell BK187.out 8).trans rfl; have hcz34_9 : w33.cell? ⟨gb187, 9, none⟩ = some (.int .i64 ((rd_T47 l0 x3_1).f3)) := (blk_cell BK187.out 9).trans rfl; have hfz34_0 := blk_frozen BK187.out 0; have hfz34_1 := blk_frozen BK187.out 1; have hfz34_2 := blk_frozen BK187.out 2; have hfz34_3 := blk_frozen BK187.out 3; have hfz34_4 := blk_frozen BK187.out 4; have hfz34_5 := blk_frozen BK187.out 5; have hfz34_6 := blk_frozen BK187.out 6; have hfz34_7 := blk_frozen BK187.out 7; have hfz34_8 := blk_frozen BK187.out 8; have hfz34_9 := blk_frozen BK187.out 9) | ((with_reducible refine gate_callee (f := 49) rfl ?_); refine goesL_ (some 61) rfl rfl Try.func49 (by kernel_rfl) rfl #[.agg #[.int .i64 ((rd_T47 l0 x3_1).f0.f0), .int .i64 ((rd_T47 l0 x3_1).f0.f1), .string ((rd_T47 l0 x3_1).f0.f2)], .int .i64 ((rd_T47 l0 x3_1).f3)] rfl (by (try simp only [List.map_toArray, List.map_cons, List.map_nil]); first | done | rfl | (simp only [List.length_drop, List.length_take]; rfl)) ?_; (with_reducible refine (value_Fits.calls ((rd_T47 l0 x3_1).f0.f0) ((rd_T47 l0 x3_1).f0.f1) ((rd_T47 l0 x3_1).f0.f2) ((rd_T47 l0 x3_1).f3) t194 t195 _ A28.out).mono ?_); rintro e w35 ⟨rfl, hb⟩; refine ⟨_, rfl, ?_⟩; have n0_ := Aside0.mk (blk_below (g := gb187) (o := .cells #[.int .i64 ((rd_T47 l0 x3_1).f0.f0), .int .i64 ((rd_T47 l0 x3_1).f0.f1), .string ((rd_T47 l0 x3_1).f0.f2), .int .i64 ((rd_T47 l0 x3_1).f1.f0), .int .i64 ((rd_T47 l0 x3_1).f1.f1), .string ((rd_T47 l0 x3_1).f1.f2), .int .i64 ((rd_T47 l0 x3_1).f2.f0), .int .i64 ((rd_T47 l0 x3_1).f2.f1), .string ((rd_T47 l0 x3_1).f2.f2), .int .i64 ((rd_T47 l0 x3_1).f3)] 47 (0, 0)) (by (with_reducible repeat (first | refine blk_drewN ?_ _ | refine blk_drew ?_ | refine blk_alloc ?_ _)); exact BK187.out) hb); have n1_ := Aside0.mk (below_step (by repeat (first | (with_reducible first | exact HB.out | apply below_alloc | apply pw_below_drewN | apply below_drew1 | refine below_set ?_ GE187.out) | exact HB.out)) hb); clear BK187; clear HB; have BK187 := n0_; have HB := n1_; clear n0_ n1_; (try clear hb); (try clear hb2); (try clear hk); (try clear hi); have hcz36_0 : w35.cell? ⟨gb187, 0, none⟩ = some (.int .i64 ((rd_T47 l0 x3_1).f0.f0)) := (blk_cell BK187.out 0).trans rfl; have hcz36_1 : w35.cell? ⟨gb187, 1, none⟩ = some (.int .i64 ((rd_T47 l0 x3_1).f0.f1)) := (blk_cell BK187.out 1).trans rfl; have hcz36_2 : w35.cell? ⟨gb187, 2, none⟩ = some (.string ((rd_T47 l0 x3_1).f0.f2)) := (blk_cell BK187.out 2).trans rfl; have hcz36_3 : w35.cell? ⟨gb187, 3, none⟩ = some (.int .i64 ((rd_T47 l0 x3_1).f1.f0)) := (blk_cell BK187.out 3).trans rfl; have hcz36_4 : w35.cell? ⟨gb187, 4, none⟩ = some (.int .i64 ((rd_T47 l0 x3_1).f1.f1)) := (blk_cell BK187.out 4).trans rfl; have hcz36_5 : w35.cell? ⟨gb187, 5, none⟩ = some (.string ((rd_T47 l0 x3_1).f1.f2)) := (blk_cell BK187.out 5).trans rfl; have hcz36_6 : w35.cell? ⟨gb187, 6, none⟩ = some (.int .i64 ((rd_T47 l0 x3_1).f2.f0)) := (blk_cell BK187.out 6).trans rfl; have hcz36_7 : w35.cell? ⟨gb187, 7, none⟩ = some (.int .i64 ((rd_T47 l0 x3_1).f2.f1)) := (blk_cell BK187.out 7).trans rfl; have hcz36_8 : w35.cell? ⟨gb187, 8, none⟩ = some (.string ((rd_T47 l0 x3_1).f2.f2)) := (blk_cell BK187.out 8).trans rfl; have hcz36_9 : w35.cell? ⟨gb187, 9, none⟩ = some (.int .i64 ((rd_T47 l0 x3_1).f3)) := (blk_cell BK187.out 9).trans rfl; have hfz36_0 := blk_frozen BK187.out 0; have hfz36_1 := blk_frozen BK187.out 1; have hfz36_2 := blk_frozen BK187.out 2; have hfz36_3 := blk_frozen BK187.out 3; have hfz36_4 := blk_frozen BK187.out 4; have hfz36_5 := blk_frozen BK187.out 5; have hfz36_6 := blk_frozen BK187.out 6; have hfz36_7 := blk_frozen BK187.out 7; have hfz36_8 := blk_frozen BK187.out 8; have hfz36_9 := blk_frozen BK187.out 9) | ((with_reducible refine gate_callee (f := 39) rfl ?_); refine goesL_ (some 66) rfl rfl Try.func39 (by kernel_rfl) rfl #[.agg #[.int .i64 ((rd_T47 l0 x3_1).f0.f0), .int .i64 ((rd_T47 l0 x3_1).f0.f1), .string ((rd_T47 l0 x3_1).f0.f2)]] rfl (by (try simp only [List.map_toArray, List.map_cons, List.map_nil]); first | done | rfl | (simp only [List.length_drop, List.length_take]; rfl)) ?_; (with_reducible refine (value_Check.calls ((rd_T47 l0 x3_1).f0.f0) ((rd_T47 l0 x3_1).f0.f1) ((rd_T47 l0 x3_1).f0.f2) t196 _ A29.out).mono ?_); rintro e w37 ⟨rfl, hb⟩; refine ⟨_, rfl, ?_⟩; have n0_ := Aside0.mk (blk_below (g := gb187) (o := .cells #[.int .i64 ((rd_T47 l0 x3_1).f0.f0), .int .i64 ((rd_T47 l0 x3_1).f0.f1), .string ((rd_T47 l0 x3_1).f0.f2), .int .i64 ((rd_T47 l0 x3_1).f1.f0), .int .i64 ((rd_T47 l0 x3_1).f1.f1), .string ((rd_T47 l0 x3_1).f1.f2), .int .i64 ((rd_T47 l0 x3_1).f2.f0), .int .i64 ((rd_T47 l0 x3_1).f2.f1), .string ((rd_T47 l0 x3_1).f2.f2), .int .i64 ((rd_T47 l0 x3_1).f3)] 47 (0, 0)) (by (with_reducible repeat (first | refine blk_drewN ?_ _ | refine blk_drew ?_ | refine blk_alloc ?_ _)); exact BK187.out) hb); have n1_ := Aside0.mk (below_step (by repeat (first | (with_reducible first | exact HB.out | apply below_alloc | apply pw_below_drewN | apply below_drew1 | refine below_set ?_ GE187.out) | exact HB.out)) hb); clear BK187; clear HB; have BK187 := n0_; have HB := n1_; clear n0_ n1_; (try clear hb); (try clear hb2); (try clear hk); (try clear hi)) | ((with_reducible refine gate_callee (f := 36) rfl ?_); refine goesL_ (some 67) rfl rfl Try.func36 (by kernel_rfl) rfl #[.int .i64 t196] rfl (by (try simp only [List.map_toArray, List.map_cons, List.map_nil]); first | done | rfl | (simp only [List.length_drop, List.length_take]; rfl)) ?_; (with_reducible refine (cadastrelaw2_num.calls t196 t197 _ A30.out).mono ?_); rintro e w' ⟨rfl, ⟨nd, rfl⟩⟩; refine ⟨_, rfl, ?_⟩))
                              go_ret
                              exact ⟨by first | rfl | (simp [errW_none, errW_some] <;> rfl) | (simp [*, errW_none, errW_some] <;> rfl), by repeat (first | (with_reducible first | exact HB.out | apply below_alloc | apply pw_below_drewN | apply below_drew1 | refine below_set ?_ GE187.out) | exact HB.out)⟩
                            rw [if_pos c31] at H
                            have c31b0 : (t197 == x5_7) = true := beq_iff_eq.mpr c31
                            have c31b1 : (t197 != x5_7) = false := bne_eq_false_iff_eq.mpr c31
                            clear c31
                            replace H := Option.bind_eq_some_iff.mp H
                            obtain ⟨t198, A380, H⟩ := H
                            replace H : (if t198 = x6_13 then (if t192 = x7_17 then ((cadastrelaw2_num.f t195).bind fun t199 => (if t199 = x8_23 then (if x8_23 = 0 then ((cadastreref2_Fits.f ((rd_T47 l0 x3_1).f0.f0) ((rd_T47 l0 x3_1).f0.f1) ((rd_T47 l0 x3_1).f0.f2) ((rd_T47 l0 x3_1).f3)).bind fun t200 => (if (t194 != t200) = true then (some false) else (cadastrelaw2_ValueExact.l0 kj23 l0 (wrap64 (x3_1 + 1))))) else (if (t194 != false) = true then (some false) else (cadastrelaw2_ValueExact.l0 kj23 l0 (wrap64 (x3_1 + 1))))) else (some false))) else (some false)) else (some false)) = some r := H
                            have A38 := Aside0.mk A380
                            clear A380
                            by_cases c39 : t198 = x6_13
                            rotate_left
                            · rw [if_neg c39] at H
                              have c39b0 : (t198 == x6_13) = false := beq_eq_false_iff_ne.mpr c39
                              have c39b1 : (t198 != x6_13) = true := bne_iff_ne.mpr c39
                              obtain rfl := Option.some.inj H
                              have hcz40_0 : wc.cell? ⟨gb187, 0, none⟩ = some (.int .i64 ((rd_T47 l0 x3_1).f0.f0)) := (blk_cell BK187.out 0).trans rfl
                              have hcz40_1 : wc.cell? ⟨gb187, 1, none⟩ = some (.int .i64 ((rd_T47 l0 x3_1).f0.f1)) := (blk_cell BK187.out 1).trans rfl
                              have hcz40_2 : wc.cell? ⟨gb187, 2, none⟩ = some (.string ((rd_T47 l0 x3_1).f0.f2)) := (blk_cell BK187.out 2).trans rfl
                              have hcz40_3 : wc.cell? ⟨gb187, 3, none⟩ = some (.int .i64 ((rd_T47 l0 x3_1).f1.f0)) := (blk_cell BK187.out 3).trans rfl
                              have hcz40_4 : wc.cell? ⟨gb187, 4, none⟩ = some (.int .i64 ((rd_T47 l0 x3_1).f1.f1)) := (blk_cell BK187.out 4).trans rfl
                              have hcz40_5 : wc.cell? ⟨gb187, 5, none⟩ = some (.string ((rd_T47 l0 x3_1).f1.f2)) := (blk_cell BK187.out 5).trans rfl
                              have hcz40_6 : wc.cell? ⟨gb187, 6, none⟩ = some (.int .i64 ((rd_T47 l0 x3_1).f2.f0)) := (blk_cell BK187.out 6).trans rfl
                              have hcz40_7 : wc.cell? ⟨gb187, 7, none⟩ = some (.int .i64 ((rd_T47 l0 x3_1).f2.f1)) := (blk_cell BK187.out 7).trans rfl
                              have hcz40_8 : wc.cell? ⟨gb187, 8, none⟩ = some (.string ((rd_T47 l0 x3_1).f2.f2)) := (blk_cell BK187.out 8).trans rfl
                              have hcz40_9 : wc.cell? ⟨gb187, 9, none⟩ = some (.int .i64 ((rd_T47 l0 x3_1).f3)) := (blk_cell BK187.out 9).trans rfl
                              have hfz40_0 := blk_frozen BK187.out 0
                              have hfz40_1 := blk_frozen BK187.out 1
                              have hfz40_2 := blk_frozen BK187.out 2
                              have hfz40_3 := blk_frozen BK187.out 3
                              have hfz40_4 := blk_frozen BK187.out 4
                              have hfz40_5 := blk_frozen BK187.out 5
                              have hfz40_6 := blk_frozen BK187.out 6
                              have hfz40_7 := blk_frozen BK187.out 7
                              have hfz40_8 := blk_frozen BK187.out 8
                              have hfz40_9 := blk_frozen BK187.out 9
                              go_wp2_with (first | ((with_reducible refine gate_callee (f := 35) rfl ?_); refine goesL_ (some 53) rfl rfl Try.func35 (by kernel_rfl) rfl #[.agg #[.int .i64 ((rd_T47 l0 x3_1).f0.f0), .int .i64 ((rd_T47 l0 x3_1).f0.f1), .string ((rd_T47 l0 x3_1).f0.f2)], .agg #[.int .i64 ((rd_T47 l0 x3_1).f1.f0), .int .i64 ((rd_T47 l0 x3_1).f1.f1), .string ((rd_T47 l0 x3_1).f1.f2)]] rfl (by (try simp only [List.map_toArray, List.map_cons, List.map_nil]); first | done | rfl | (simp only [List.length_drop, List.length_take]; rfl)) ?_; (with_reducible refine (value_Cmp.calls kj23 ((rd_T47 l0 x3_1).f0.f0) ((rd_T47 l0 x3_1).f0.f1) ((rd_T47 l0 x3_1).f0.f2) ((rd_T47 l0 x3_1).f1.f0) ((rd_T47 l0 x3_1).f1.f1) ((rd_T47 l0 x3_1).f1.f2) t192 t193 _ A27.out).mono ?_); rintro e w41 ⟨rfl, hb⟩; refine ⟨_, rfl, ?_⟩; have n0_ := Aside0.mk (blk_below (g := gb187) (o := .cells #[.int .i64 ((rd_T47 l0 x3_1).f0.f0), .int .i64 ((rd_T47 l0 x3_1).f0.f1), .string ((rd_T47 l0 x3_1).f0.f2), .int .i64 ((rd_T47 l0 x3_1).f1.f0), .int .i64 ((rd_T47 l0 x3_1).f1.f1), .string ((rd_T47 l0 x3_1).f1.f2), .int .i64 ((rd_T47 l0 x3_1).f2.f0), .int .i64 ((rd_T47 l0 x3_1).f2.f1), .string ((rd_T47 l0 x3_1).f2.f2), .int .i64 ((rd_T47 l0 x3_1).f3)] 47 (0, 0)) (by (with_reducible repeat (first | refine blk_drewN ?_ _ | refine blk_drew ?_ | refine blk_alloc ?_ _)); exact BK187.out) hb); have n1_ := Aside0.mk (below_step (by repeat (first | (with_reducible first | exact HB.out | apply below_alloc | apply pw_below_drewN | apply below_drew1 | refine below_set ?_ GE187.out) | exact HB.out)) hb); clear BK187; clear HB; have BK187 := n0_; have HB := n1_; clear n0_ n1_; (try clear hb); (try clear hb2); (try clear hk); (try clear hi); have hcz42_0 : w41.cell? ⟨gb187, 0, none⟩ = some (.int .i64 ((rd_T47 l0 x3_1).f0.f0)) := (blk_cell BK187.out 0).trans rfl; have hcz42_1 : w41.cell? ⟨gb187, 1, none⟩ = some (.int .i64 ((rd_T47 l0 x3_1).f0.f1)) := (blk_cell BK187.out 1).trans rfl; have hcz42_2 : w41.cell? ⟨gb187, 2, none⟩ = some (.string ((rd_T47 l0 x3_1).f0.f2)) := (blk_cell BK187.out 2).trans rfl; have hcz42_3 : w41.cell? ⟨gb187, 3, none⟩ = some (.int .i64 ((rd_T47 l0 x3_1).f1.f0)) := (blk_cell BK187.out 3).trans rfl; have hcz42_4 : w41.cell? ⟨gb187, 4, none⟩ = some (.int .i64 ((rd_T47 l0 x3_1).f1.f1)) := (blk_cell BK187.out 4).trans rfl; have hcz42_5 : w41.cell? ⟨gb187, 5, none⟩ = some (.string ((rd_T47 l0 x3_1).f1.f2)) := (blk_cell BK187.out 5).trans rfl; have hcz42_6 : w41.cell? ⟨gb187, 6, none⟩ = some (.int .i64 ((rd_T47 l0 x3_1).f2.f0)) := (blk_cell BK187.out 6).trans rfl; have hcz42_7 : w41.cell? ⟨gb187, 7, none⟩ = some (.int .i64 ((rd_T47 l0 x3_1).f2.f1)) := (blk_cell BK187.out 7).trans rfl; have hcz42_8 : w41.cell? ⟨gb187, 8, none⟩ = some (.string ((rd_T47 l0 x3_1).f2.f2)) := (blk_cell BK187.out 8).trans rfl; have hcz42_9 : w41.cell? ⟨gb187, 9, none⟩ = some (.int .i64 ((rd_T47 l0 x3_1).f3)) := (blk_cell BK187.out 9).trans rfl; have hfz42_0 := blk_frozen BK187.out 0; have hfz42_1 := blk_frozen BK187.out 1; have hfz42_2 := blk_frozen BK187.out 2; have hfz42_3 := blk_frozen BK187.out 3; have hfz42_4 := blk_frozen BK187.out 4; have hfz42_5 := blk_frozen BK187.out 5; have hfz42_6 := blk_frozen BK187.out 6; have hfz42_7 := blk_frozen BK187.out 7; have hfz42_8 := blk_frozen BK187.out 8; have hfz42_9 := blk_frozen BK187.out 9) | ((with_reducible refine gate_callee (f := 49) rfl ?_); refine goesL_ (some 61) rfl rfl Try.func49 (by kernel_rfl) rfl #[.agg #[.int .i64 ((rd_T47 l0 x3_1).f0.f0), .int .i64 ((rd_T47 l0 x3_1).f0.f1), .string ((rd_T47 l0 x3_1).f0.f2)], .int .i64 ((rd_T47 l0 x3_1).f3)] rfl (by (try simp only [List.map_toArray, List.map_cons, List.map_nil]); first | done | rfl | (simp only [List.length_drop, List.length_take]; rfl)) ?_; (with_reducible refine (value_Fits.calls ((rd_T47 l0 x3_1).f0.f0) ((rd_T47 l0 x3_1).f0.f1) ((rd_T47 l0 x3_1).f0.f2) ((rd_T47 l0 x3_1).f3) t194 t195 _ A28.out).mono ?_); rintro e w43 ⟨rfl, hb⟩; refine ⟨_, rfl, ?_⟩; have n0_ := Aside0.mk (blk_below (g := gb187) (o := .cells #[.int .i64 ((rd_T47 l0 x3_1).f0.f0), .int .i64 ((rd_T47 l0 x3_1).f0.f1), .string ((rd_T47 l0 x3_1).f0.f2), .int .i64 ((rd_T47 l0 x3_1).f1.f0), .int .i64 ((rd_T47 l0 x3_1).f1.f1), .string ((rd_T47 l0 x3_1).f1.f2), .int .i64 ((rd_T47 l0 x3_1).f2.f0), .int .i64 ((rd_T47 l0 x3_1).f2.f1), .string ((rd_T47 l0 x3_1).f2.f2), .int .i64 ((rd_T47 l0 x3_1).f3)] 47 (0, 0)) (by (with_reducible repeat (first | refine blk_drewN ?_ _ | refine blk_drew ?_ | refine blk_alloc ?_ _)); exact BK187.out) hb); have n1_ := Aside0.mk (below_step (by repeat (first | (with_reducible first | exact HB.out | apply below_alloc | apply pw_below_drewN | apply below_drew1 | refine below_set ?_ GE187.out) | exact HB.out)) hb); clear BK187; clear HB; have BK187 := n0_; have HB := n1_; clear n0_ n1_; (try clear hb); (try clear hb2); (try clear hk); (try clear hi); have hcz44_0 : w43.cell? ⟨gb187, 0, none⟩ = some (.int .i64 ((rd_T47 l0 x3_1).f0.f0)) := (blk_cell BK187.out 0).trans rfl; have hcz44_1 : w43.cell? ⟨gb187, 1, none⟩ = some (.int .i64 ((rd_T47 l0 x3_1).f0.f1)) := (blk_cell BK187.out 1).trans rfl; have hcz44_2 : w43.cell? ⟨gb187, 2, none⟩ = some (.string ((rd_T47 l0 x3_1).f0.f2)) := (blk_cell BK187.out 2).trans rfl; have hcz44_3 : w43.cell? ⟨gb187, 3, none⟩ = some (.int .i64 ((rd_T47 l0 x3_1).f1.f0)) := (blk_cell BK187.out 3).trans rfl; have hcz44_4 : w43.cell? ⟨gb187, 4, none⟩ = some (.int .i64 ((rd_T47 l0 x3_1).f1.f1)) := (blk_cell BK187.out 4).trans rfl; have hcz44_5 : w43.cell? ⟨gb187, 5, none⟩ = some (.string ((rd_T47 l0 x3_1).f1.f2)) := (blk_cell BK187.out 5).trans rfl; have hcz44_6 : w43.cell? ⟨gb187, 6, none⟩ = some (.int .i64 ((rd_T47 l0 x3_1).f2.f0)) := (blk_cell BK187.out 6).trans rfl; have hcz44_7 : w43.cell? ⟨gb187, 7, none⟩ = some (.int .i64 ((rd_T47 l0 x3_1).f2.f1)) := (blk_cell BK187.out 7).trans rfl; have hcz44_8 : w43.cell? ⟨gb187, 8, none⟩ = some (.string ((rd_T47 l0 x3_1).f2.f2)) := (blk_cell BK187.out 8).trans rfl; have hcz44_9 : w43.cell? ⟨gb187, 9, none⟩ = some (.int .i64 ((rd_T47 l0 x3_1).f3)) := (blk_cell BK187.out 9).trans rfl; have hfz44_0 := blk_frozen BK187.out 0; have hfz44_1 := blk_frozen BK187.out 1; have hfz44_2 := blk_frozen BK187.out 2; have hfz44_3 := blk_frozen BK187.out 3; have hfz44_4 := blk_frozen BK187.out 4; have hfz44_5 := blk_frozen BK187.out 5; have hfz44_6 := blk_frozen BK187.out 6; have hfz44_7 := blk_frozen BK187.out 7; have hfz44_8 := blk_frozen BK187.out 8; have hfz44_9 := blk_frozen BK187.out 9) | ((with_reducible refine gate_callee (f := 39) rfl ?_); refine goesL_ (some 66) rfl rfl Try.func39 (by kernel_rfl) rfl #[.agg #[.int .i64 ((rd_T47 l0 x3_1).f0.f0), .int .i64 ((rd_T47 l0 x3_1).f0.f1), .string ((rd_T47 l0 x3_1).f0.f2)]] rfl (by (try simp only [List.map_toArray, List.map_cons, List.map_nil]); first | done | rfl | (simp only [List.length_drop, List.length_take]; rfl)) ?_; (with_reducible refine (value_Check.calls ((rd_T47 l0 x3_1).f0.f0) ((rd_T47 l0 x3_1).f0.f1) ((rd_T47 l0 x3_1).f0.f2) t196 _ A29.out).mono ?_); rintro e w45 ⟨rfl, hb⟩; refine ⟨_, rfl, ?_⟩; have n0_ := Aside0.mk (blk_below (g := gb187) (o := .cells #[.int .i64 ((rd_T47 l0 x3_1).f0.f0), .int .i64 ((rd_T47 l0 x3_1).f0.f1), .string ((rd_T47 l0 x3_1).f0.f2), .int .i64 ((rd_T47 l0 x3_1).f1.f0), .int .i64 ((rd_T47 l0 x3_1).f1.f1), .string ((rd_T47 l0 x3_1).f1.f2), .int .i64 ((rd_T47 l0 x3_1).f2.f0), .int .i64 ((rd_T47 l0 x3_1).f2.f1), .string ((rd_T47 l0 x3_1).f2.f2), .int .i64 ((rd_T47 l0 x3_1).f3)] 47 (0, 0)) (by (with_reducible repeat (first | refine blk_drewN ?_ _ | refine blk_drew ?_ | refine blk_alloc ?_ _)); exact BK187.out) hb); have n1_ := Aside0.mk (below_step (by repeat (first | (with_reducible first | exact HB.out | apply below_alloc | apply pw_below_drewN | apply below_drew1 | refine below_set ?_ GE187.out) | exact HB.out)) hb); clear BK187; clear HB; have BK187 := n0_; have HB := n1_; clear n0_ n1_; (try clear hb); (try clear hb2); (try clear hk); (try clear hi)) | ((with_reducible refine gate_callee (f := 36) rfl ?_); refine goesL_ (some 67) rfl rfl Try.func36 (by kernel_rfl) rfl #[.int .i64 t196] rfl (by (try simp only [List.map_toArray, List.map_cons, List.map_nil]); first | done | rfl | (simp only [List.length_drop, List.length_take]; rfl)) ?_; (with_reducible refine (cadastrelaw2_num.calls t196 t197 _ A30.out).mono ?_); rintro e w' ⟨rfl, ⟨nd, rfl⟩⟩; refine ⟨_, rfl, ?_⟩) | (go_at_call 36; (with_reducible refine (cadastrelaw2_num.calls t193 t198 _ A38.out).mono ?_); rintro e w' ⟨rfl, ⟨nd, rfl⟩⟩; (try clear A38)))
                              go_ret
                              exact ⟨by first | rfl | (simp [errW_none, errW_some] <;> rfl) | (simp [*, errW_none, errW_some] <;> rfl), by repeat (first | (with_reducible first | exact HB.out | apply below_alloc | apply pw_below_drewN | apply below_drew1 | refine below_set ?_ GE187.out) | exact HB.out)⟩
                            rw [if_pos c39] at H
                            have c39b0 : (t198 == x6_13) = true := beq_iff_eq.mpr c39
                            have c39b1 : (t198 != x6_13) = false := bne_eq_false_iff_eq.mpr c39
                            clear c39
                            by_cases c46 : t192 = x7_17
                            rotate_left
                            · rw [if_neg c46] at H
                              have c46b0 : (t192 == x7_17) = false := beq_eq_false_iff_ne.mpr c46
                              have c46b1 : (t192 != x7_17) = true := bne_iff_ne.mpr c46
                              obtain rfl := Option.some.inj H
                              have hcz47_0 : wc.cell? ⟨gb187, 0, none⟩ = some (.int .i64 ((rd_T47 l0 x3_1).f0.f0)) := (blk_cell BK187.out 0).trans rfl
                              have hcz47_1 : wc.cell? ⟨gb187, 1, none⟩ = some (.int .i64 ((rd_T47 l0 x3_1).f0.f1)) := (blk_cell BK187.out 1).trans rfl
                              have hcz47_2 : wc.cell? ⟨gb187, 2, none⟩ = some (.string ((rd_T47 l0 x3_1).f0.f2)) := (blk_cell BK187.out 2).trans rfl
                              have hcz47_3 : wc.cell? ⟨gb187, 3, none⟩ = some (.int .i64 ((rd_T47 l0 x3_1).f1.f0)) := (blk_cell BK187.out 3).trans rfl
                              have hcz47_4 : wc.cell? ⟨gb187, 4, none⟩ = some (.int .i64 ((rd_T47 l0 x3_1).f1.f1)) := (blk_cell BK187.out 4).trans rfl
                              have hcz47_5 : wc.cell? ⟨gb187, 5, none⟩ = some (.string ((rd_T47 l0 x3_1).f1.f2)) := (blk_cell BK187.out 5).trans rfl
                              have hcz47_6 : wc.cell? ⟨gb187, 6, none⟩ = some (.int .i64 ((rd_T47 l0 x3_1).f2.f0)) := (blk_cell BK187.out 6).trans rfl
                              have hcz47_7 : wc.cell? ⟨gb187, 7, none⟩ = some (.int .i64 ((rd_T47 l0 x3_1).f2.f1)) := (blk_cell BK187.out 7).trans rfl
                              have hcz47_8 : wc.cell? ⟨gb187, 8, none⟩ = some (.string ((rd_T47 l0 x3_1).f2.f2)) := (blk_cell BK187.out 8).trans rfl
                              have hcz47_9 : wc.cell? ⟨gb187, 9, none⟩ = some (.int .i64 ((rd_T47 l0 x3_1).f3)) := (blk_cell BK187.out 9).trans rfl
                              have hfz47_0 := blk_frozen BK187.out 0
                              have hfz47_1 := blk_frozen BK187.out 1
                              have hfz47_2 := blk_frozen BK187.out 2
                              have hfz47_3 := blk_frozen BK187.out 3
                              have hfz47_4 := blk_frozen BK187.out 4
                              have hfz47_5 := blk_frozen BK187.out 5
                              have hfz47_6 := blk_frozen BK187.out 6
                              have hfz47_7 := blk_frozen BK187.out 7
                              have hfz47_8 := blk_frozen BK187.out 8
                              have hfz47_9 := blk_frozen BK187.out 9
                              go_wp2_with (first | ((with_reducible refine gate_callee (f := 35) rfl ?_); refine goesL_ (some 53) rfl rfl Try.func35 (by kernel_rfl) rfl #[.agg #[.int .i64 ((rd_T47 l0 x3_1).f0.f0), .int .i64 ((rd_T47 l0 x3_1).f0.f1), .string ((rd_T47 l0 x3_1).f0.f2)], .agg #[.int .i64 ((rd_T47 l0 x3_1).f1.f0), .int .i64 ((rd_T47 l0 x3_1).f1.f1), .string ((rd_T47 l0 x3_1).f1.f2)]] rfl (by (try simp only [List.map_toArray, List.map_cons, List.map_nil]); first | done | rfl | (simp only [List.length_drop, List.length_take]; rfl)) ?_; (with_reducible refine (value_Cmp.calls kj23 ((rd_T47 l0 x3_1).f0.f0) ((rd_T47 l0 x3_1).f0.f1) ((rd_T47 l0 x3_1).f0.f2) ((rd_T47 l0 x3_1).f1.f0) ((rd_T47 l0 x3_1).f1.f1) ((rd_T47 l0 x3_1).f1.f2) t192 t193 _ A27.out).mono ?_); rintro e w48 ⟨rfl, hb⟩; refine ⟨_, rfl, ?_⟩; have n0_ := Aside0.mk (blk_below (g := gb187) (o := .cells #[.int .i64 ((rd_T47 l0 x3_1).f0.f0), .int .i64 ((rd_T47 l0 x3_1).f0.f1), .string ((rd_T47 l0 x3_1).f0.f2), .int .i64 ((rd_T47 l0 x3_1).f1.f0), .int .i64 ((rd_T47 l0 x3_1).f1.f1), .string ((rd_T47 l0 x3_1).f1.f2), .int .i64 ((rd_T47 l0 x3_1).f2.f0), .int .i64 ((rd_T47 l0 x3_1).f2.f1), .string ((rd_T47 l0 x3_1).f2.f2), .int .i64 ((rd_T47 l0 x3_1).f3)] 47 (0, 0)) (by (with_reducible repeat (first | refine blk_drewN ?_ _ | refine blk_drew ?_ | refine blk_alloc ?_ _)); exact BK187.out) hb); have n1_ := Aside0.mk (below_step (by repeat (first | (with_reducible first | exact HB.out | apply below_alloc | apply pw_below_drewN | apply below_drew1 | refine below_set ?_ GE187.out) | exact HB.out)) hb); clear BK187; clear HB; have BK187 := n0_; have HB := n1_; clear n0_ n1_; (try clear hb); (try clear hb2); (try clear hk); (try clear hi); have hcz49_0 : w48.cell? ⟨gb187, 0, none⟩ = some (.int .i64 ((rd_T47 l0 x3_1).f0.f0)) := (blk_cell BK187.out 0).trans rfl; have hcz49_1 : w48.cell? ⟨gb187, 1, none⟩ = some (.int .i64 ((rd_T47 l0 x3_1).f0.f1)) := (blk_cell BK187.out 1).trans rfl; have hcz49_2 : w48.cell? ⟨gb187, 2, none⟩ = some (.string ((rd_T47 l0 x3_1).f0.f2)) := (blk_cell BK187.out 2).trans rfl; have hcz49_3 : w48.cell? ⟨gb187, 3, none⟩ = some (.int .i64 ((rd_T47 l0 x3_1).f1.f0)) := (blk_cell BK187.out 3).trans rfl; have hcz49_4 : w48.cell? ⟨gb187, 4, none⟩ = some (.int .i64 ((rd_T47 l0 x3_1).f1.f1)) := (blk_cell BK187.out 4).trans rfl; have hcz49_5 : w48.cell? ⟨gb187, 5, none⟩ = some (.string ((rd_T47 l0 x3_1).f1.f2)) := (blk_cell BK187.out 5).trans rfl; have hcz49_6 : w48.cell? ⟨gb187, 6, none⟩ = some (.int .i64 ((rd_T47 l0 x3_1).f2.f0)) := (blk_cell BK187.out 6).trans rfl; have hcz49_7 : w48.cell? ⟨gb187, 7, none⟩ = some (.int .i64 ((rd_T47 l0 x3_1).f2.f1)) := (blk_cell BK187.out 7).trans rfl; have hcz49_8 : w48.cell? ⟨gb187, 8, none⟩ = some (.string ((rd_T47 l0 x3_1).f2.f2)) := (blk_cell BK187.out 8).trans rfl; have hcz49_9 : w48.cell? ⟨gb187, 9, none⟩ = some (.int .i64 ((rd_T47 l0 x3_1).f3)) := (blk_cell BK187.out 9).trans rfl; have hfz49_0 := blk_frozen BK187.out 0; have hfz49_1 := blk_frozen BK187.out 1; have hfz49_2 := blk_frozen BK187.out 2; have hfz49_3 := blk_frozen BK187.out 3; have hfz49_4 := blk_frozen BK187.out 4; have hfz49_5 := blk_frozen BK187.out 5; have hfz49_6 := blk_frozen BK187.out 6; have hfz49_7 := blk_frozen BK187.out 7; have hfz49_8 := blk_frozen BK187.out 8; have hfz49_9 := blk_frozen BK187.out 9) | ((with_reducible refine gate_callee (f := 49) rfl ?_); refine goesL_ (some 61) rfl rfl Try.func49 (by kernel_rfl) rfl #[.agg #[.int .i64 ((rd_T47 l0 x3_1).f0.f0), .int .i64 ((rd_T47 l0 x3_1).f0.f1), .string ((rd_T47 l0 x3_1).f0.f2)], .int .i64 ((rd_T47 l0 x3_1).f3)] rfl (by (try simp only [List.map_toArray, List.map_cons, List.map_nil]); first | done | rfl | (simp only [List.length_drop, List.length_take]; rfl)) ?_; (with_reducible refine (value_Fits.calls ((rd_T47 l0 x3_1).f0.f0) ((rd_T47 l0 x3_1).f0.f1) ((rd_T47 l0 x3_1).f0.f2) ((rd_T47 l0 x3_1).f3) t194 t195 _ A28.out).mono ?_); rintro e w50 ⟨rfl, hb⟩; refine ⟨_, rfl, ?_⟩; have n0_ := Aside0.mk (blk_below (g := gb187) (o := .cells #[.int .i64 ((rd_T47 l0 x3_1).f0.f0), .int .i64 ((rd_T47 l0 x3_1).f0.f1), .string ((rd_T47 l0 x3_1).f0.f2), .int .i64 ((rd_T47 l0 x3_1).f1.f0), .int .i64 ((rd_T47 l0 x3_1).f1.f1), .string ((rd_T47 l0 x3_1).f1.f2), .int .i64 ((rd_T47 l0 x3_1).f2.f0), .int .i64 ((rd_T47 l0 x3_1).f2.f1), .string ((rd_T47 l0 x3_1).f2.f2), .int .i64 ((rd_T47 l0 x3_1).f3)] 47 (0, 0)) (by (with_reducible repeat (first | refine blk_drewN ?_ _ | refine blk_drew ?_ | refine blk_alloc ?_ _)); exact BK187.out) hb); have n1_ := Aside0.mk (below_step (by repeat (first | (with_reducible first | exact HB.out | apply below_alloc | apply pw_below_drewN | apply below_drew1 | refine below_set ?_ GE187.out) | exact HB.out)) hb); clear BK187; clear HB; have BK187 := n0_; have HB := n1_; clear n0_ n1_; (try clear hb); (try clear hb2); (try clear hk); (try clear hi); have hcz51_0 : w50.cell? ⟨gb187, 0, none⟩ = some (.int .i64 ((rd_T47 l0 x3_1).f0.f0)) := (blk_cell BK187.out 0).trans rfl; have hcz51_1 : w50.cell? ⟨gb187, 1, none⟩ = some (.int .i64 ((rd_T47 l0 x3_1).f0.f1)) := (blk_cell BK187.out 1).trans rfl; have hcz51_2 : w50.cell? ⟨gb187, 2, none⟩ = some (.string ((rd_T47 l0 x3_1).f0.f2)) := (blk_cell BK187.out 2).trans rfl; have hcz51_3 : w50.cell? ⟨gb187, 3, none⟩ = some (.int .i64 ((rd_T47 l0 x3_1).f1.f0)) := (blk_cell BK187.out 3).trans rfl; have hcz51_4 : w50.cell? ⟨gb187, 4, none⟩ = some (.int .i64 ((rd_T47 l0 x3_1).f1.f1)) := (blk_cell BK187.out 4).trans rfl; have hcz51_5 : w50.cell? ⟨gb187, 5, none⟩ = some (.string ((rd_T47 l0 x3_1).f1.f2)) := (blk_cell BK187.out 5).trans rfl; have hcz51_6 : w50.cell? ⟨gb187, 6, none⟩ = some (.int .i64 ((rd_T47 l0 x3_1).f2.f0)) := (blk_cell BK187.out 6).trans rfl; have hcz51_7 : w50.cell? ⟨gb187, 7, none⟩ = some (.int .i64 ((rd_T47 l0 x3_1).f2.f1)) := (blk_cell BK187.out 7).trans rfl; have hcz51_8 : w50.cell? ⟨gb187, 8, none⟩ = some (.string ((rd_T47 l0 x3_1).f2.f2)) := (blk_cell BK187.out 8).trans rfl; have hcz51_9 : w50.cell? ⟨gb187, 9, none⟩ = some (.int .i64 ((rd_T47 l0 x3_1).f3)) := (blk_cell BK187.out 9).trans rfl; have hfz51_0 := blk_frozen BK187.out 0; have hfz51_1 := blk_frozen BK187.out 1; have hfz51_2 := blk_frozen BK187.out 2; have hfz51_3 := blk_frozen BK187.out 3; have hfz51_4 := blk_frozen BK187.out 4; have hfz51_5 := blk_frozen BK187.out 5; have hfz51_6 := blk_frozen BK187.out 6; have hfz51_7 := blk_frozen BK187.out 7; have hfz51_8 := blk_frozen BK187.out 8; have hfz51_9 := blk_frozen BK187.out 9) | ((with_reducible refine gate_callee (f := 39) rfl ?_); refine goesL_ (some 66) rfl rfl Try.func39 (by kernel_rfl) rfl #[.agg #[.int .i64 ((rd_T47 l0 x3_1).f0.f0), .int .i64 ((rd_T47 l0 x3_1).f0.f1), .string ((rd_T47 l0 x3_1).f0.f2)]] rfl (by (try simp only [List.map_toArray, List.map_cons, List.map_nil]); first | done | rfl | (simp only [List.length_drop, List.length_take]; rfl)) ?_; (with_reducible refine (value_Check.calls ((rd_T47 l0 x3_1).f0.f0) ((rd_T47 l0 x3_1).f0.f1) ((rd_T47 l0 x3_1).f0.f2) t196 _ A29.out).mono ?_); rintro e w52 ⟨rfl, hb⟩; refine ⟨_, rfl, ?_⟩; have n0_ := Aside0.mk (blk_below (g := gb187) (o := .cells #[.int .i64 ((rd_T47 l0 x3_1).f0.f0), .int .i64 ((rd_T47 l0 x3_1).f0.f1), .string ((rd_T47 l0 x3_1).f0.f2), .int .i64 ((rd_T47 l0 x3_1).f1.f0), .int .i64 ((rd_T47 l0 x3_1).f1.f1), .string ((rd_T47 l0 x3_1).f1.f2), .int .i64 ((rd_T47 l0 x3_1).f2.f0), .int .i64 ((rd_T47 l0 x3_1).f2.f1), .string ((rd_T47 l0 x3_1).f2.f2), .int .i64 ((rd_T47 l0 x3_1).f3)] 47 (0, 0)) (by (with_reducible repeat (first | refine blk_drewN ?_ _ | refine blk_drew ?_ | refine blk_alloc ?_ _)); exact BK187.out) hb); have n1_ := Aside0.mk (below_step (by repeat (first | (with_reducible first | exact HB.out | apply below_alloc | apply pw_below_drewN | apply below_drew1 | refine below_set ?_ GE187.out) | exact HB.out)) hb); clear BK187; clear HB; have BK187 := n0_; have HB := n1_; clear n0_ n1_; (try clear hb); (try clear hb2); (try clear hk); (try clear hi)) | ((with_reducible refine gate_callee (f := 36) rfl ?_); refine goesL_ (some 67) rfl rfl Try.func36 (by kernel_rfl) rfl #[.int .i64 t196] rfl (by (try simp only [List.map_toArray, List.map_cons, List.map_nil]); first | done | rfl | (simp only [List.length_drop, List.length_take]; rfl)) ?_; (with_reducible refine (cadastrelaw2_num.calls t196 t197 _ A30.out).mono ?_); rintro e w' ⟨rfl, ⟨nd, rfl⟩⟩; refine ⟨_, rfl, ?_⟩) | (go_at_call 36; (with_reducible refine (cadastrelaw2_num.calls t193 t198 _ A38.out).mono ?_); rintro e w' ⟨rfl, ⟨nd, rfl⟩⟩; (try clear A38)))
                              go_ret
                              exact ⟨by first | rfl | (simp [errW_none, errW_some] <;> rfl) | (simp [*, errW_none, errW_some] <;> rfl), by repeat (first | (with_reducible first | exact HB.out | apply below_alloc | apply pw_below_drewN | apply below_drew1 | refine below_set ?_ GE187.out) | exact HB.out)⟩
                            rw [if_pos c46] at H
                            have c46b0 : (t192 == x7_17) = true := beq_iff_eq.mpr c46
                            have c46b1 : (t192 != x7_17) = false := bne_eq_false_iff_eq.mpr c46
                            clear c46
                            replace H := Option.bind_eq_some_iff.mp H
                            obtain ⟨t199, A530, H⟩ := H
                            replace H : (if t199 = x8_23 then (if x8_23 = 0 then ((cadastreref2_Fits.f ((rd_T47 l0 x3_1).f0.f0) ((rd_T47 l0 x3_1).f0.f1) ((rd_T47 l0 x3_1).f0.f2) ((rd_T47 l0 x3_1).f3)).bind fun t200 => (if (t194 != t200) = true then (some false) else (cadastrelaw2_ValueExact.l0 kj23 l0 (wrap64 (x3_1 + 1))))) else (if (t194 != false) = true then (some false) else (cadastrelaw2_ValueExact.l0 kj23 l0 (wrap64 (x3_1 + 1))))) else (some false)) = some r := H
                            have A53 := Aside0.mk A530
                            clear A530
                            by_cases c54 : t199 = x8_23
                            rotate_left
                            · rw [if_neg c54] at H
                              have c54b0 : (t199 == x8_23) = false := beq_eq_false_iff_ne.mpr c54
                              have c54b1 : (t199 != x8_23) = true := bne_iff_ne.mpr c54
                              obtain rfl := Option.some.inj H
                              have hcz55_0 : wc.cell? ⟨gb187, 0, none⟩ = some (.int .i64 ((rd_T47 l0 x3_1).f0.f0)) := (blk_cell BK187.out 0).trans rfl
                              have hcz55_1 : wc.cell? ⟨gb187, 1, none⟩ = some (.int .i64 ((rd_T47 l0 x3_1).f0.f1)) := (blk_cell BK187.out 1).trans rfl
                              have hcz55_2 : wc.cell? ⟨gb187, 2, none⟩ = some (.string ((rd_T47 l0 x3_1).f0.f2)) := (blk_cell BK187.out 2).trans rfl
                              have hcz55_3 : wc.cell? ⟨gb187, 3, none⟩ = some (.int .i64 ((rd_T47 l0 x3_1).f1.f0)) := (blk_cell BK187.out 3).trans rfl
                              have hcz55_4 : wc.cell? ⟨gb187, 4, none⟩ = some (.int .i64 ((rd_T47 l0 x3_1).f1.f1)) := (blk_cell BK187.out 4).trans rfl
                              have hcz55_5 : wc.cell? ⟨gb187, 5, none⟩ = some (.string ((rd_T47 l0 x3_1).f1.f2)) := (blk_cell BK187.out 5).trans rfl
                              have hcz55_6 : wc.cell? ⟨gb187, 6, none⟩ = some (.int .i64 ((rd_T47 l0 x3_1).f2.f0)) := (blk_cell BK187.out 6).trans rfl
                              have hcz55_7 : wc.cell? ⟨gb187, 7, none⟩ = some (.int .i64 ((rd_T47 l0 x3_1).f2.f1)) := (blk_cell BK187.out 7).trans rfl
                              have hcz55_8 : wc.cell? ⟨gb187, 8, none⟩ = some (.string ((rd_T47 l0 x3_1).f2.f2)) := (blk_cell BK187.out 8).trans rfl
                              have hcz55_9 : wc.cell? ⟨gb187, 9, none⟩ = some (.int .i64 ((rd_T47 l0 x3_1).f3)) := (blk_cell BK187.out 9).trans rfl
                              have hfz55_0 := blk_frozen BK187.out 0
                              have hfz55_1 := blk_frozen BK187.out 1
                              have hfz55_2 := blk_frozen BK187.out 2
                              have hfz55_3 := blk_frozen BK187.out 3
                              have hfz55_4 := blk_frozen BK187.out 4
                              have hfz55_5 := blk_frozen BK187.out 5
                              have hfz55_6 := blk_frozen BK187.out 6
                              have hfz55_7 := blk_frozen BK187.out 7
                              have hfz55_8 := blk_frozen BK187.out 8
                              have hfz55_9 := blk_frozen BK187.out 9
                              go_wp2_with (first | ((with_reducible refine gate_callee (f := 35) rfl ?_); refine goesL_ (some 53) rfl rfl Try.func35 (by kernel_rfl) rfl #[.agg #[.int .i64 ((rd_T47 l0 x3_1).f0.f0), .int .i64 ((rd_T47 l0 x3_1).f0.f1), .string ((rd_T47 l0 x3_1).f0.f2)], .agg #[.int .i64 ((rd_T47 l0 x3_1).f1.f0), .int .i64 ((rd_T47 l0 x3_1).f1.f1), .string ((rd_T47 l0 x3_1).f1.f2)]] rfl (by (try simp only [List.map_toArray, List.map_cons, List.map_nil]); first | done | rfl | (simp only [List.length_drop, List.length_take]; rfl)) ?_; (with_reducible refine (value_Cmp.calls kj23 ((rd_T47 l0 x3_1).f0.f0) ((rd_T47 l0 x3_1).f0.f1) ((rd_T47 l0 x3_1).f0.f2) ((rd_T47 l0 x3_1).f1.f0) ((rd_T47 l0 x3_1).f1.f1) ((rd_T47 l0 x3_1).f1.f2) t192 t193 _ A27.out).mono ?_); rintro e w56 ⟨rfl, hb⟩; refine ⟨_, rfl, ?_⟩; have n0_ := Aside0.mk (blk_below (g := gb187) (o := .cells #[.int .i64 ((rd_T47 l0 x3_1).f0.f0), .int .i64 ((rd_T47 l0 x3_1).f0.f1), .string ((rd_T47 l0 x3_1).f0.f2), .int .i64 ((rd_T47 l0 x3_1).f1.f0), .int .i64 ((rd_T47 l0 x3_1).f1.f1), .string ((rd_T47 l0 x3_1).f1.f2), .int .i64 ((rd_T47 l0 x3_1).f2.f0), .int .i64 ((rd_T47 l0 x3_1).f2.f1), .string ((rd_T47 l0 x3_1).f2.f2), .int .i64 ((rd_T47 l0 x3_1).f3)] 47 (0, 0)) (by (with_reducible repeat (first | refine blk_drewN ?_ _ | refine blk_drew ?_ | refine blk_alloc ?_ _)); exact BK187.out) hb); have n1_ := Aside0.mk (below_step (by repeat (first | (with_reducible first | exact HB.out | apply below_alloc | apply pw_below_drewN | apply below_drew1 | refine below_set ?_ GE187.out) | exact HB.out)) hb); clear BK187; clear HB; have BK187 := n0_; have HB := n1_; clear n0_ n1_; (try clear hb); (try clear hb2); (try clear hk); (try clear hi); have hcz57_0 : w56.cell? ⟨gb187, 0, none⟩ = some (.int .i64 ((rd_T47 l0 x3_1).f0.f0)) := (blk_cell BK187.out 0).trans rfl; have hcz57_1 : w56.cell? ⟨gb187, 1, none⟩ = some (.int .i64 ((rd_T47 l0 x3_1).f0.f1)) := (blk_cell BK187.out 1).trans rfl; have hcz57_2 : w56.cell? ⟨gb187, 2, none⟩ = some (.string ((rd_T47 l0 x3_1).f0.f2)) := (blk_cell BK187.out 2).trans rfl; have hcz57_3 : w56.cell? ⟨gb187, 3, none⟩ = some (.int .i64 ((rd_T47 l0 x3_1).f1.f0)) := (blk_cell BK187.out 3).trans rfl; have hcz57_4 : w56.cell? ⟨gb187, 4, none⟩ = some (.int .i64 ((rd_T47 l0 x3_1).f1.f1)) := (blk_cell BK187.out 4).trans rfl; have hcz57_5 : w56.cell? ⟨gb187, 5, none⟩ = some (.string ((rd_T47 l0 x3_1).f1.f2)) := (blk_cell BK187.out 5).trans rfl; have hcz57_6 : w56.cell? ⟨gb187, 6, none⟩ = some (.int .i64 ((rd_T47 l0 x3_1).f2.f0)) := (blk_cell BK187.out 6).trans rfl; have hcz57_7 : w56.cell? ⟨gb187, 7, none⟩ = some (.int .i64 ((rd_T47 l0 x3_1).f2.f1)) := (blk_cell BK187.out 7).trans rfl; have hcz57_8 : w56.cell? ⟨gb187, 8, none⟩ = some (.string ((rd_T47 l0 x3_1).f2.f2)) := (blk_cell BK187.out 8).trans rfl; have hcz57_9 : w56.cell? ⟨gb187, 9, none⟩ = some (.int .i64 ((rd_T47 l0 x3_1).f3)) := (blk_cell BK187.out 9).trans rfl; have hfz57_0 := blk_frozen BK187.out 0; have hfz57_1 := blk_frozen BK187.out 1; have hfz57_2 := blk_frozen BK187.out 2; have hfz57_3 := blk_frozen BK187.out 3; have hfz57_4 := blk_frozen BK187.out 4; have hfz57_5 := blk_frozen BK187.out 5; have hfz57_6 := blk_frozen BK187.out 6; have hfz57_7 := blk_frozen BK187.out 7; have hfz57_8 := blk_frozen BK187.out 8; have hfz57_9 := blk_frozen BK187.out 9) | ((with_reducible refine gate_callee (f := 49) rfl ?_); refine goesL_ (some 61) rfl rfl Try.func49 (by kernel_rfl) rfl #[.agg #[.int .i64 ((rd_T47 l0 x3_1).f0.f0), .int .i64 ((rd_T47 l0 x3_1).f0.f1), .string ((rd_T47 l0 x3_1).f0.f2)], .int .i64 ((rd_T47 l0 x3_1).f3)] rfl (by (try simp only [List.map_toArray, List.map_cons, List.map_nil]); first | done | rfl | (simp only [List.length_drop, List.length_take]; rfl)) ?_; (with_reducible refine (value_Fits.calls ((rd_T47 l0 x3_1).f0.f0) ((rd_T47 l0 x3_1).f0.f1) ((rd_T47 l0 x3_1).f0.f2) ((rd_T47 l0 x3_1).f3) t194 t195 _ A28.out).mono ?_); rintro e w58 ⟨rfl, hb⟩; refine ⟨_, rfl, ?_⟩; have n0_ := Aside0.mk (blk_below (g := gb187) (o := .cells #[.int .i64 ((rd_T47 l0 x3_1).f0.f0), .int .i64 ((rd_T47 l0 x3_1).f0.f1), .string ((rd_T47 l0 x3_1).f0.f2), .int .i64 ((rd_T47 l0 x3_1).f1.f0), .int .i64 ((rd_T47 l0 x3_1).f1.f1), .string ((rd_T47 l0 x3_1).f1.f2), .int .i64 ((rd_T47 l0 x3_1).f2.f0), .int .i64 ((rd_T47 l0 x3_1).f2.f1), .string ((rd_T47 l0 x3_1).f2.f2), .int .i64 ((rd_T47 l0 x3_1).f3)] 47 (0, 0)) (by (with_reducible repeat (first | refine blk_drewN ?_ _ | refine blk_drew ?_ | refine blk_alloc ?_ _)); exact BK187.out) hb); have n1_ := Aside0.mk (below_step (by repeat (first | (with_reducible first | exact HB.out | apply below_alloc | apply pw_below_drewN | apply below_drew1 | refine below_set ?_ GE187.out) | exact HB.out)) hb); clear BK187; clear HB; have BK187 := n0_; have HB := n1_; clear n0_ n1_; (try clear hb); (try clear hb2); (try clear hk); (try clear hi); have hcz59_0 : w58.cell? ⟨gb187, 0, none⟩ = some (.int .i64 ((rd_T47 l0 x3_1).f0.f0)) := (blk_cell BK187.out 0).trans rfl; have hcz59_1 : w58.cell? ⟨gb187, 1, none⟩ = some (.int .i64 ((rd_T47 l0 x3_1).f0.f1)) := (blk_cell BK187.out 1).trans rfl; have hcz59_2 : w58.cell? ⟨gb187, 2, none⟩ = some (.string ((rd_T47 l0 x3_1).f0.f2)) := (blk_cell BK187.out 2).trans rfl; have hcz59_3 : w58.cell? ⟨gb187, 3, none⟩ = some (.int .i64 ((rd_T47 l0 x3_1).f1.f0)) := (blk_cell BK187.out 3).trans rfl; have hcz59_4 : w58.cell? ⟨gb187, 4, none⟩ = some (.int .i64 ((rd_T47 l0 x3_1).f1.f1)) := (blk_cell BK187.out 4).trans rfl; have hcz59_5 : w58.cell? ⟨gb187, 5, none⟩ = some (.string ((rd_T47 l0 x3_1).f1.f2)) := (blk_cell BK187.out 5).trans rfl; have hcz59_6 : w58.cell? ⟨gb187, 6, none⟩ = some (.int .i64 ((rd_T47 l0 x3_1).f2.f0)) := (blk_cell BK187.out 6).trans rfl; have hcz59_7 : w58.cell? ⟨gb187, 7, none⟩ = some (.int .i64 ((rd_T47 l0 x3_1).f2.f1)) := (blk_cell BK187.out 7).trans rfl; have hcz59_8 : w58.cell? ⟨gb187, 8, none⟩ = some (.string ((rd_T47 l0 x3_1).f2.f2)) := (blk_cell BK187.out 8).trans rfl; have hcz59_9 : w58.cell? ⟨gb187, 9, none⟩ = some (.int .i64 ((rd_T47 l0 x3_1).f3)) := (blk_cell BK187.out 9).trans rfl; have hfz59_0 := blk_frozen BK187.out 0; have hfz59_1 := blk_frozen BK187.out 1; have hfz59_2 := blk_frozen BK187.out 2; have hfz59_3 := blk_frozen BK187.out 3; have hfz59_4 := blk_frozen BK187.out 4; have hfz59_5 := blk_frozen BK187.out 5; have hfz59_6 := blk_frozen BK187.out 6; have hfz59_7 := blk_frozen BK187.out 7; have hfz59_8 := blk_frozen BK187.out 8; have hfz59_9 := blk_frozen BK187.out 9) | ((with_reducible refine gate_callee (f := 39) rfl ?_); refine goesL_ (some 66) rfl rfl Try.func39 (by kernel_rfl) rfl #[.agg #[.int .i64 ((rd_T47 l0 x3_1).f0.f0), .int .i64 ((rd_T47 l0 x3_1).f0.f1), .string ((rd_T47 l0 x3_1).f0.f2)]] rfl (by (try simp only [List.map_toArray, List.map_cons, List.map_nil]); first | done | rfl | (simp only [List.length_drop, List.length_take]; rfl)) ?_; (with_reducible refine (value_Check.calls ((rd_T47 l0 x3_1).f0.f0) ((rd_T47 l0 x3_1).f0.f1) ((rd_T47 l0 x3_1).f0.f2) t196 _ A29.out).mono ?_); rintro e w60 ⟨rfl, hb⟩; refine ⟨_, rfl, ?_⟩; have n0_ := Aside0.mk (blk_below (g := gb187) (o := .cells #[.int .i64 ((rd_T47 l0 x3_1).f0.f0), .int .i64 ((rd_T47 l0 x3_1).f0.f1), .string ((rd_T47 l0 x3_1).f0.f2), .int .i64 ((rd_T47 l0 x3_1).f1.f0), .int .i64 ((rd_T47 l0 x3_1).f1.f1), .string ((rd_T47 l0 x3_1).f1.f2), .int .i64 ((rd_T47 l0 x3_1).f2.f0), .int .i64 ((rd_T47 l0 x3_1).f2.f1), .string ((rd_T47 l0 x3_1).f2.f2), .int .i64 ((rd_T47 l0 x3_1).f3)] 47 (0, 0)) (by (with_reducible repeat (first | refine blk_drewN ?_ _ | refine blk_drew ?_ | refine blk_alloc ?_ _)); exact BK187.out) hb); have n1_ := Aside0.mk (below_step (by repeat (first | (with_reducible first | exact HB.out | apply below_alloc | apply pw_below_drewN | apply below_drew1 | refine below_set ?_ GE187.out) | exact HB.out)) hb); clear BK187; clear HB; have BK187 := n0_; have HB := n1_; clear n0_ n1_; (try clear hb); (try clear hb2); (try clear hk); (try clear hi)) | ((with_reducible refine gate_callee (f := 36) rfl ?_); refine goesL_ (some 67) rfl rfl Try.func36 (by kernel_rfl) rfl #[.int .i64 t196] rfl (by (try simp only [List.map_toArray, List.map_cons, List.map_nil]); first | done | rfl | (simp only [List.length_drop, List.length_take]; rfl)) ?_; (with_reducible refine (cadastrelaw2_num.calls t196 t197 _ A30.out).mono ?_); rintro e w' ⟨rfl, ⟨nd, rfl⟩⟩; refine ⟨_, rfl, ?_⟩) | (go_at_call 36; (with_reducible refine (cadastrelaw2_num.calls t193 t198 _ A38.out).mono ?_); rintro e w' ⟨rfl, ⟨nd, rfl⟩⟩; (try clear A38)) | (go_at_call 36; (with_reducible refine (cadastrelaw2_num.calls t195 t199 _ A53.out).mono ?_); rintro e w' ⟨rfl, ⟨nd, rfl⟩⟩; (try clear A53)))
                              go_ret
                              exact ⟨by first | rfl | (simp [errW_none, errW_some] <;> rfl) | (simp [*, errW_none, errW_some] <;> rfl), by repeat (first | (with_reducible first | exact HB.out | apply below_alloc | apply pw_below_drewN | apply below_drew1 | refine below_set ?_ GE187.out) | exact HB.out)⟩
                            rw [if_pos c54] at H
                            have c54b0 : (t199 == x8_23) = true := beq_iff_eq.mpr c54
                            have c54b1 : (t199 != x8_23) = false := bne_eq_false_iff_eq.mpr c54
                            clear c54
                            by_cases c61 : x8_23 = 0
                            rotate_left
                            · rw [if_neg c61] at H
                              have c61b0 : (x8_23 == 0) = false := beq_eq_false_iff_ne.mpr c61
                              have c61b1 : (x8_23 != 0) = true := bne_iff_ne.mpr c61
                              by_cases c62 : (t194 != false) = true
                              · rw [if_pos c62] at H
                                have c62b0 : (t194 != false) = true := c62
                                (try (have c62b1 : decide (t194 = false) = false := by simpa using c62))
                                (try (have c62b2 : (t194 == false) = false := by simpa using c62))
                                (try (have c62b3 : ¬ (t194 = false) := by simpa using c62))
                                clear c62
                                obtain rfl := Option.some.inj H
                                have hcz63_0 : wc.cell? ⟨gb187, 0, none⟩ = some (.int .i64 ((rd_T47 l0 x3_1).f0.f0)) := (blk_cell BK187.out 0).trans rfl
                                have hcz63_1 : wc.cell? ⟨gb187, 1, none⟩ = some (.int .i64 ((rd_T47 l0 x3_1).f0.f1)) := (blk_cell BK187.out 1).trans rfl
                                have hcz63_2 : wc.cell? ⟨gb187, 2, none⟩ = some (.string ((rd_T47 l0 x3_1).f0.f2)) := (blk_cell BK187.out 2).trans rfl
                                have hcz63_3 : wc.cell? ⟨gb187, 3, none⟩ = some (.int .i64 ((rd_T47 l0 x3_1).f1.f0)) := (blk_cell BK187.out 3).trans rfl
                                have hcz63_4 : wc.cell? ⟨gb187, 4, none⟩ = some (.int .i64 ((rd_T47 l0 x3_1).f1.f1)) := (blk_cell BK187.out 4).trans rfl
                                have hcz63_5 : wc.cell? ⟨gb187, 5, none⟩ = some (.string ((rd_T47 l0 x3_1).f1.f2)) := (blk_cell BK187.out 5).trans rfl
                                have hcz63_6 : wc.cell? ⟨gb187, 6, none⟩ = some (.int .i64 ((rd_T47 l0 x3_1).f2.f0)) := (blk_cell BK187.out 6).trans rfl
                                have hcz63_7 : wc.cell? ⟨gb187, 7, none⟩ = some (.int .i64 ((rd_T47 l0 x3_1).f2.f1)) := (blk_cell BK187.out 7).trans rfl
                                have hcz63_8 : wc.cell? ⟨gb187, 8, none⟩ = some (.string ((rd_T47 l0 x3_1).f2.f2)) := (blk_cell BK187.out 8).trans rfl
                                have hcz63_9 : wc.cell? ⟨gb187, 9, none⟩ = some (.int .i64 ((rd_T47 l0 x3_1).f3)) := (blk_cell BK187.out 9).trans rfl
                                have hfz63_0 := blk_frozen BK187.out 0
                                have hfz63_1 := blk_frozen BK187.out 1
                                have hfz63_2 := blk_frozen BK187.out 2
                                have hfz63_3 := blk_frozen BK187.out 3
                                have hfz63_4 := blk_frozen BK187.out 4
                                have hfz63_5 := blk_frozen BK187.out 5
                                have hfz63_6 := blk_frozen BK187.out 6
                                have hfz63_7 := blk_frozen BK187.out 7
                                have hfz63_8 := blk_frozen BK187.out 8
                                have hfz63_9 := blk_frozen BK187.out 9
                                go_wp2_with (first | ((with_reducible refine gate_callee (f := 35) rfl ?_); refine goesL_ (some 53) rfl rfl Try.func35 (by kernel_rfl) rfl #[.agg #[.int .i64 ((rd_T47 l0 x3_1).f0.f0), .int .i64 ((rd_T47 l0 x3_1).f0.f1), .string ((rd_T47 l0 x3_1).f0.f2)], .agg #[.int .i64 ((rd_T47 l0 x3_1).f1.f0), .int .i64 ((rd_T47 l0 x3_1).f1.f1), .string ((rd_T47 l0 x3_1).f1.f2)]] rfl (by (try simp only [List.map_toArray, List.map_cons, List.map_nil]); first | done | rfl | (simp only [List.length_drop, List.length_take]; rfl)) ?_; (with_reducible refine (value_Cmp.calls kj23 ((rd_T47 l0 x3_1).f0.f0) ((rd_T47 l0 x3_1).f0.f1) ((rd_T47 l0 x3_1).f0.f2) ((rd_T47 l0 x3_1).f1.f0) ((rd_T47 l0 x3_1).f1.f1) ((rd_T47 l0 x3_1).f1.f2) t192 t193 _ A27.out).mono ?_); rintro e w64 ⟨rfl, hb⟩; refine ⟨_, rfl, ?_⟩; have n0_ := Aside0.mk (blk_below (g := gb187) (o := .cells #[.int .i64 ((rd_T47 l0 x3_1).f0.f0), .int .i64 ((rd_T47 l0 x3_1).f0.f1), .string ((rd_T47 l0 x3_1).f0.f2), .int .i64 ((rd_T47 l0 x3_1).f1.f0), .int .i64 ((rd_T47 l0 x3_1).f1.f1), .string ((rd_T47 l0 x3_1).f1.f2), .int .i64 ((rd_T47 l0 x3_1).f2.f0), .int .i64 ((rd_T47 l0 x3_1).f2.f1), .string ((rd_T47 l0 x3_1).f2.f2), .int .i64 ((rd_T47 l0 x3_1).f3)] 47 (0, 0)) (by (with_reducible repeat (first | refine blk_drewN ?_ _ | refine blk_drew ?_ | refine blk_alloc ?_ _)); exact BK187.out) hb); have n1_ := Aside0.mk (below_step (by repeat (first | (with_reducible first | exact HB.out | apply below_alloc | apply pw_below_drewN | apply below_drew1 | refine below_set ?_ GE187.out) | exact HB.out)) hb); clear BK187; clear HB; have BK187 := n0_; have HB := n1_; clear n0_ n1_; (try clear hb); (try clear hb2); (try clear hk); (try clear hi); have hcz65_0 : w64.cell? ⟨gb187, 0, none⟩ = some (.int .i64 ((rd_T47 l0 x3_1).f0.f0)) := (blk_cell BK187.out 0).trans rfl; have hcz65_1 : w64.cell? ⟨gb187, 1, none⟩ = some (.int .i64 ((rd_T47 l0 x3_1).f0.f1)) := (blk_cell BK187.out 1).trans rfl; have hcz65_2 : w64.cell? ⟨gb187, 2, none⟩ = some (.string ((rd_T47 l0 x3_1).f0.f2)) := (blk_cell BK187.out 2).trans rfl; have hcz65_3 : w64.cell? ⟨gb187, 3, none⟩ = some (.int .i64 ((rd_T47 l0 x3_1).f1.f0)) := (blk_cell BK187.out 3).trans rfl; have hcz65_4 : w64.cell? ⟨gb187, 4, none⟩ = some (.int .i64 ((rd_T47 l0 x3_1).f1.f1)) := (blk_cell BK187.out 4).trans rfl; have hcz65_5 : w64.cell? ⟨gb187, 5, none⟩ = some (.string ((rd_T47 l0 x3_1).f1.f2)) := (blk_cell BK187.out 5).trans rfl; have hcz65_6 : w64.cell? ⟨gb187, 6, none⟩ = some (.int .i64 ((rd_T47 l0 x3_1).f2.f0)) := (blk_cell BK187.out 6).trans rfl; have hcz65_7 : w64.cell? ⟨gb187, 7, none⟩ = some (.int .i64 ((rd_T47 l0 x3_1).f2.f1)) := (blk_cell BK187.out 7).trans rfl; have hcz65_8 : w64.cell? ⟨gb187, 8, none⟩ = some (.string ((rd_T47 l0 x3_1).f2.f2)) := (blk_cell BK187.out 8).trans rfl; have hcz65_9 : w64.cell? ⟨gb187, 9, none⟩ = some (.int .i64 ((rd_T47 l0 x3_1).f3)) := (blk_cell BK187.out 9).trans rfl; have hfz65_0 := blk_frozen BK187.out 0; have hfz65_1 := blk_frozen BK187.out 1; have hfz65_2 := blk_frozen BK187.out 2; have hfz65_3 := blk_frozen BK187.out 3; have hfz65_4 := blk_frozen BK187.out 4; have hfz65_5 := blk_frozen BK187.out 5; have hfz65_6 := blk_frozen BK187.out 6; have hfz65_7 := blk_frozen BK187.out 7; have hfz65_8 := blk_frozen BK187.out 8; have hfz65_9 := blk_frozen BK187.out 9) | ((with_reducible refine gate_callee (f := 49) rfl ?_); refine goesL_ (some 61) rfl rfl Try.func49 (by kernel_rfl) rfl #[.agg #[.int .i64 ((rd_T47 l0 x3_1).f0.f0), .int .i64 ((rd_T47 l0 x3_1).f0.f1), .string ((rd_T47 l0 x3_1).f0.f2)], .int .i64 ((rd_T47 l0 x3_1).f3)] rfl (by (try simp only [List.map_toArray, List.map_cons, List.map_nil]); first | done | rfl | (simp only [List.length_drop, List.length_take]; rfl)) ?_; (with_reducible refine (value_Fits.calls ((rd_T47 l0 x3_1).f0.f0) ((rd_T47 l0 x3_1).f0.f1) ((rd_T47 l0 x3_1).f0.f2) ((rd_T47 l0 x3_1).f3) t194 t195 _ A28.out).mono ?_); rintro e w66 ⟨rfl, hb⟩; refine ⟨_, rfl, ?_⟩; have n0_ := Aside0.mk (blk_below (g := gb187) (o := .cells #[.int .i64 ((rd_T47 l0 x3_1).f0.f0), .int .i64 ((rd_T47 l0 x3_1).f0.f1), .string ((rd_T47 l0 x3_1).f0.f2), .int .i64 ((rd_T47 l0 x3_1).f1.f0), .int .i64 ((rd_T47 l0 x3_1).f1.f1), .string ((rd_T47 l0 x3_1).f1.f2), .int .i64 ((rd_T47 l0 x3_1).f2.f0), .int .i64 ((rd_T47 l0 x3_1).f2.f1), .string ((rd_T47 l0 x3_1).f2.f2), .int .i64 ((rd_T47 l0 x3_1).f3)] 47 (0, 0)) (by (with_reducible repeat (first | refine blk_drewN ?_ _ | refine blk_drew ?_ | refine blk_alloc ?_ _)); exact BK187.out) hb); have n1_ := Aside0.mk (below_step (by repeat (first | (with_reducible first | exact HB.out | apply below_alloc | apply pw_below_drewN | apply below_drew1 | refine below_set ?_ GE187.out) | exact HB.out)) hb); clear BK187; clear HB; have BK187 := n0_; have HB := n1_; clear n0_ n1_; (try clear hb); (try clear hb2); (try clear hk); (try clear hi); have hcz67_0 : w66.cell? ⟨gb187, 0, none⟩ = some (.int .i64 ((rd_T47 l0 x3_1).f0.f0)) := (blk_cell BK187.out 0).trans rfl; have hcz67_1 : w66.cell? ⟨gb187, 1, none⟩ = some (.int .i64 ((rd_T47 l0 x3_1).f0.f1)) := (blk_cell BK187.out 1).trans rfl; have hcz67_2 : w66.cell? ⟨gb187, 2, none⟩ = some (.string ((rd_T47 l0 x3_1).f0.f2)) := (blk_cell BK187.out 2).trans rfl; have hcz67_3 : w66.cell? ⟨gb187, 3, none⟩ = some (.int .i64 ((rd_T47 l0 x3_1).f1.f0)) := (blk_cell BK187.out 3).trans rfl; have hcz67_4 : w66.cell? ⟨gb187, 4, none⟩ = some (.int .i64 ((rd_T47 l0 x3_1).f1.f1)) := (blk_cell BK187.out 4).trans rfl; have hcz67_5 : w66.cell? ⟨gb187, 5, none⟩ = some (.string ((rd_T47 l0 x3_1).f1.f2)) := (blk_cell BK187.out 5).trans rfl; have hcz67_6 : w66.cell? ⟨gb187, 6, none⟩ = some (.int .i64 ((rd_T47 l0 x3_1).f2.f0)) := (blk_cell BK187.out 6).trans rfl; have hcz67_7 : w66.cell? ⟨gb187, 7, none⟩ = some (.int .i64 ((rd_T47 l0 x3_1).f2.f1)) := (blk_cell BK187.out 7).trans rfl; have hcz67_8 : w66.cell? ⟨gb187, 8, none⟩ = some (.string ((rd_T47 l0 x3_1).f2.f2)) := (blk_cell BK187.out 8).trans rfl; have hcz67_9 : w66.cell? ⟨gb187, 9, none⟩ = some (.int .i64 ((rd_T47 l0 x3_1).f3)) := (blk_cell BK187.out 9).trans rfl; have hfz67_0 := blk_frozen BK187.out 0; have hfz67_1 := blk_frozen BK187.out 1; have hfz67_2 := blk_frozen BK187.out 2; have hfz67_3 := blk_frozen BK187.out 3; have hfz67_4 := blk_frozen BK187.out 4; have hfz67_5 := blk_frozen BK187.out 5; have hfz67_6 := blk_frozen BK187.out 6; have hfz67_7 := blk_frozen BK187.out 7; have hfz67_8 := blk_frozen BK187.out 8; have hfz67_9 := blk_frozen BK187.out 9) | ((with_reducible refine gate_callee (f := 39) rfl ?_); refine goesL_ (some 66) rfl rfl Try.func39 (by kernel_rfl) rfl #[.agg #[.int .i64 ((rd_T47 l0 x3_1).f0.f0), .int .i64 ((rd_T47 l0 x3_1).f0.f1), .string ((rd_T47 l0 x3_1).f0.f2)]] rfl (by (try simp only [List.map_toArray, List.map_cons, List.map_nil]); first | done | rfl | (simp only [List.length_drop, List.length_take]; rfl)) ?_; (with_reducible refine (value_Check.calls ((rd_T47 l0 x3_1).f0.f0) ((rd_T47 l0 x3_1).f0.f1) ((rd_T47 l0 x3_1).f0.f2) t196 _ A29.out).mono ?_); rintro e w68 ⟨rfl, hb⟩; refine ⟨_, rfl, ?_⟩; have n0_ := Aside0.mk (blk_below (g := gb187) (o := .cells #[.int .i64 ((rd_T47 l0 x3_1).f0.f0), .int .i64 ((rd_T47 l0 x3_1).f0.f1), .string ((rd_T47 l0 x3_1).f0.f2), .int .i64 ((rd_T47 l0 x3_1).f1.f0), .int .i64 ((rd_T47 l0 x3_1).f1.f1), .string ((rd_T47 l0 x3_1).f1.f2), .int .i64 ((rd_T47 l0 x3_1).f2.f0), .int .i64 ((rd_T47 l0 x3_1).f2.f1), .string ((rd_T47 l0 x3_1).f2.f2), .int .i64 ((rd_T47 l0 x3_1).f3)] 47 (0, 0)) (by (with_reducible repeat (first | refine blk_drewN ?_ _ | refine blk_drew ?_ | refine blk_alloc ?_ _)); exact BK187.out) hb); have n1_ := Aside0.mk (below_step (by repeat (first | (with_reducible first | exact HB.out | apply below_alloc | apply pw_below_drewN | apply below_drew1 | refine below_set ?_ GE187.out) | exact HB.out)) hb); clear BK187; clear HB; have BK187 := n0_; have HB := n1_; clear n0_ n1_; (try clear hb); (try clear hb2); (try clear hk); (try clear hi)) | ((with_reducible refine gate_callee (f := 36) rfl ?_); refine goesL_ (some 67) rfl rfl Try.func36 (by kernel_rfl) rfl #[.int .i64 t196] rfl (by (try simp only [List.map_toArray, List.map_cons, List.map_nil]); first | done | rfl | (simp only [List.length_drop, List.length_take]; rfl)) ?_; (with_reducible refine (cadastrelaw2_num.calls t196 t197 _ A30.out).mono ?_); rintro e w' ⟨rfl, ⟨nd, rfl⟩⟩; refine ⟨_, rfl, ?_⟩) | (go_at_call 36; (with_reducible refine (cadastrelaw2_num.calls t193 t198 _ A38.out).mono ?_); rintro e w' ⟨rfl, ⟨nd, rfl⟩⟩; (try clear A38)) | (go_at_call 36; (with_reducible refine (cadastrelaw2_num.calls t195 t199 _ A53.out).mono ?_); rintro e w' ⟨rfl, ⟨nd, rfl⟩⟩; (try clear A53)))
                                go_ret
                                exact ⟨by first | rfl | (simp [errW_none, errW_some] <;> rfl) | (simp [*, errW_none, errW_some] <;> rfl), by repeat (first | (with_reducible first | exact HB.out | apply below_alloc | apply pw_below_drewN | apply below_drew1 | refine below_set ?_ GE187.out) | exact HB.out)⟩
                              rw [if_neg c62] at H
                              have c62b0 : (t194 != false) = false := by simpa using c62
                              (try (have c62b1 : decide (t194 = false) = true := by simpa using c62))
                              (try (have c62b2 : (t194 == false) = true := by simpa using c62))
                              clear c62
                              have H' := Aside0.mk H
                              clear H
                              have hcz69_0 : wc.cell? ⟨gb187, 0, none⟩ = some (.int .i64 ((rd_T47 l0 x3_1).f0.f0)) := (blk_cell BK187.out 0).trans rfl
                              have hcz69_1 : wc.cell? ⟨gb187, 1, none⟩ = some (.int .i64 ((rd_T47 l0 x3_1).f0.f1)) := (blk_cell BK187.out 1).trans rfl
                              have hcz69_2 : wc.cell? ⟨gb187, 2, none⟩ = some (.string ((rd_T47 l0 x3_1).f0.f2)) := (blk_cell BK187.out 2).trans rfl
                              have hcz69_3 : wc.cell? ⟨gb187, 3, none⟩ = some (.int .i64 ((rd_T47 l0 x3_1).f1.f0)) := (blk_cell BK187.out 3).trans rfl
                              have hcz69_4 : wc.cell? ⟨gb187, 4, none⟩ = some (.int .i64 ((rd_T47 l0 x3_1).f1.f1)) := (blk_cell BK187.out 4).trans rfl
                              have hcz69_5 : wc.cell? ⟨gb187, 5, none⟩ = some (.string ((rd_T47 l0 x3_1).f1.f2)) := (blk_cell BK187.out 5).trans rfl
                              have hcz69_6 : wc.cell? ⟨gb187, 6, none⟩ = some (.int .i64 ((rd_T47 l0 x3_1).f2.f0)) := (blk_cell BK187.out 6).trans rfl
                              have hcz69_7 : wc.cell? ⟨gb187, 7, none⟩ = some (.int .i64 ((rd_T47 l0 x3_1).f2.f1)) := (blk_cell BK187.out 7).trans rfl
                              have hcz69_8 : wc.cell? ⟨gb187, 8, none⟩ = some (.string ((rd_T47 l0 x3_1).f2.f2)) := (blk_cell BK187.out 8).trans rfl
                              have hcz69_9 : wc.cell? ⟨gb187, 9, none⟩ = some (.int .i64 ((rd_T47 l0 x3_1).f3)) := (blk_cell BK187.out 9).trans rfl
                              have hfz69_0 := blk_frozen BK187.out 0
                              have hfz69_1 := blk_frozen BK187.out 1
                              have hfz69_2 := blk_frozen BK187.out 2
                              have hfz69_3 := blk_frozen BK187.out 3
                              have hfz69_4 := blk_frozen BK187.out 4
                              have hfz69_5 := blk_frozen BK187.out 5
                              have hfz69_6 := blk_frozen BK187.out 6
                              have hfz69_7 := blk_frozen BK187.out 7
                              have hfz69_8 := blk_frozen BK187.out 8
                              have hfz69_9 := blk_frozen BK187.out 9
                              go_wp2_with (first | ((with_reducible refine gate_callee (f := 35) rfl ?_); refine goesL_ (some 53) rfl rfl Try.func35 (by kernel_rfl) rfl #[.agg #[.int .i64 ((rd_T47 l0 x3_1).f0.f0), .int .i64 ((rd_T47 l0 x3_1).f0.f1), .string ((rd_T47 l0 x3_1).f0.f2)], .agg #[.int .i64 ((rd_T47 l0 x3_1).f1.f0), .int .i64 ((rd_T47 l0 x3_1).f1.f1), .string ((rd_T47 l0 x3_1).f1.f2)]] rfl (by (try simp only [List.map_toArray, List.map_cons, List.map_nil]); first | done | rfl | (simp only [List.length_drop, List.length_take]; rfl)) ?_; (with_reducible refine (value_Cmp.calls kj23 ((rd_T47 l0 x3_1).f0.f0) ((rd_T47 l0 x3_1).f0.f1) ((rd_T47 l0 x3_1).f0.f2) ((rd_T47 l0 x3_1).f1.f0) ((rd_T47 l0 x3_1).f1.f1) ((rd_T47 l0 x3_1).f1.f2) t192 t193 _ A27.out).mono ?_); rintro e w70 ⟨rfl, hb⟩; refine ⟨_, rfl, ?_⟩; have n0_ := Aside0.mk (blk_below (g := gb187) (o := .cells #[.int .i64 ((rd_T47 l0 x3_1).f0.f0), .int .i64 ((rd_T47 l0 x3_1).f0.f1), .string ((rd_T47 l0 x3_1).f0.f2), .int .i64 ((rd_T47 l0 x3_1).f1.f0), .int .i64 ((rd_T47 l0 x3_1).f1.f1), .string ((rd_T47 l0 x3_1).f1.f2), .int .i64 ((rd_T47 l0 x3_1).f2.f0), .int .i64 ((rd_T47 l0 x3_1).f2.f1), .string ((rd_T47 l0 x3_1).f2.f2), .int .i64 ((rd_T47 l0 x3_1).f3)] 47 (0, 0)) (by (with_reducible repeat (first | refine blk_drewN ?_ _ | refine blk_drew ?_ | refine blk_alloc ?_ _)); exact BK187.out) hb); have n1_ := Aside0.mk (below_step (by repeat (first | (with_reducible first | exact HB.out | apply below_alloc | apply pw_below_drewN | apply below_drew1 | refine below_set ?_ GE187.out) | exact HB.out)) hb); clear BK187; clear HB; have BK187 := n0_; have HB := n1_; clear n0_ n1_; (try clear hb); (try clear hb2); (try clear hk); (try clear hi); have hcz71_0 : w70.cell? ⟨gb187, 0, none⟩ = some (.int .i64 ((rd_T47 l0 x3_1).f0.f0)) := (blk_cell BK187.out 0).trans rfl; have hcz71_1 : w70.cell? ⟨gb187, 1, none⟩ = some (.int .i64 ((rd_T47 l0 x3_1).f0.f1)) := (blk_cell BK187.out 1).trans rfl; have hcz71_2 : w70.cell? ⟨gb187, 2, none⟩ = some (.string ((rd_T47 l0 x3_1).f0.f2)) := (blk_cell BK187.out 2).trans rfl; have hcz71_3 : w70.cell? ⟨gb187, 3, none⟩ = some (.int .i64 ((rd_T47 l0 x3_1).f1.f0)) := (blk_cell BK187.out 3).trans rfl; have hcz71_4 : w70.cell? ⟨gb187, 4, none⟩ = some (.int .i64 ((rd_T47 l0 x3_1).f1.f1)) := (blk_cell BK187.out 4).trans rfl; have hcz71_5 : w70.cell? ⟨gb187, 5, none⟩ = some (.string ((rd_T47 l0 x3_1).f1.f2)) := (blk_cell BK187.out 5).trans rfl; have hcz71_6 : w70.cell? ⟨gb187, 6, none⟩ = some (.int .i64 ((rd_T47 l0 x3_1).f2.f0)) := (blk_cell BK187.out 6).trans rfl; have hcz71_7 : w70.cell? ⟨gb187, 7, none⟩ = some (.int .i64 ((rd_T47 l0 x3_1).f2.f1)) := (blk_cell BK187.out 7).trans rfl; have hcz71_8 : w70.cell? ⟨gb187, 8, none⟩ = some (.string ((rd_T47 l0 x3_1).f2.f2)) := (blk_cell BK187.out 8).trans rfl; have hcz71_9 : w70.cell? ⟨gb187, 9, none⟩ = some (.int .i64 ((rd_T47 l0 x3_1).f3)) := (blk_cell BK187.out 9).trans rfl; have hfz71_0 := blk_frozen BK187.out 0; have hfz71_1 := blk_frozen BK187.out 1; have hfz71_2 := blk_frozen BK187.out 2; have hfz71_3 := blk_frozen BK187.out 3; have hfz71_4 := blk_frozen BK187.out 4; have hfz71_5 := blk_frozen BK187.out 5; have hfz71_6 := blk_frozen BK187.out 6; have hfz71_7 := blk_frozen BK187.out 7; have hfz71_8 := blk_frozen BK187.out 8; have hfz71_9 := blk_frozen BK187.out 9) | ((with_reducible refine gate_callee (f := 49) rfl ?_); refine goesL_ (some 61) rfl rfl Try.func49 (by kernel_rfl) rfl #[.agg #[.int .i64 ((rd_T47 l0 x3_1).f0.f0), .int .i64 ((rd_T47 l0 x3_1).f0.f1), .string ((rd_T47 l0 x3_1).f0.f2)], .int .i64 ((rd_T47 l0 x3_1).f3)] rfl (by (try simp only [List.map_toArray, List.map_cons, List.map_nil]); first | done | rfl | (simp only [List.length_drop, List.length_take]; rfl)) ?_; (with_reducible refine (value_Fits.calls ((rd_T47 l0 x3_1).f0.f0) ((rd_T47 l0 x3_1).f0.f1) ((rd_T47 l0 x3_1).f0.f2) ((rd_T47 l0 x3_1).f3) t194 t195 _ A28.out).mono ?_); rintro e w72 ⟨rfl, hb⟩; refine ⟨_, rfl, ?_⟩; have n0_ := Aside0.mk (blk_below (g := gb187) (o := .cells #[.int .i64 ((rd_T47 l0 x3_1).f0.f0), .int .i64 ((rd_T47 l0 x3_1).f0.f1), .string ((rd_T47 l0 x3_1).f0.f2), .int .i64 ((rd_T47 l0 x3_1).f1.f0), .int .i64 ((rd_T47 l0 x3_1).f1.f1), .string ((rd_T47 l0 x3_1).f1.f2), .int .i64 ((rd_T47 l0 x3_1).f2.f0), .int .i64 ((rd_T47 l0 x3_1).f2.f1), .string ((rd_T47 l0 x3_1).f2.f2), .int .i64 ((rd_T47 l0 x3_1).f3)] 47 (0, 0)) (by (with_reducible repeat (first | refine blk_drewN ?_ _ | refine blk_drew ?_ | refine blk_alloc ?_ _)); exact BK187.out) hb); have n1_ := Aside0.mk (below_step (by repeat (first | (with_reducible first | exact HB.out | apply below_alloc | apply pw_below_drewN | apply below_drew1 | refine below_set ?_ GE187.out) | exact HB.out)) hb); clear BK187; clear HB; have BK187 := n0_; have HB := n1_; clear n0_ n1_; (try clear hb); (try clear hb2); (try clear hk); (try clear hi); have hcz73_0 : w72.cell? ⟨gb187, 0, none⟩ = some (.int .i64 ((rd_T47 l0 x3_1).f0.f0)) := (blk_cell BK187.out 0).trans rfl; have hcz73_1 : w72.cell? ⟨gb187, 1, none⟩ = some (.int .i64 ((rd_T47 l0 x3_1).f0.f1)) := (blk_cell BK187.out 1).trans rfl; have hcz73_2 : w72.cell? ⟨gb187, 2, none⟩ = some (.string ((rd_T47 l0 x3_1).f0.f2)) := (blk_cell BK187.out 2).trans rfl; have hcz73_3 : w72.cell? ⟨gb187, 3, none⟩ = some (.int .i64 ((rd_T47 l0 x3_1).f1.f0)) := (blk_cell BK187.out 3).trans rfl; have hcz73_4 : w72.cell? ⟨gb187, 4, none⟩ = some (.int .i64 ((rd_T47 l0 x3_1).f1.f1)) := (blk_cell BK187.out 4).trans rfl; have hcz73_5 : w72.cell? ⟨gb187, 5, none⟩ = some (.string ((rd_T47 l0 x3_1).f1.f2)) := (blk_cell BK187.out 5).trans rfl; have hcz73_6 : w72.cell? ⟨gb187, 6, none⟩ = some (.int .i64 ((rd_T47 l0 x3_1).f2.f0)) := (blk_cell BK187.out 6).trans rfl; have hcz73_7 : w72.cell? ⟨gb187, 7, none⟩ = some (.int .i64 ((rd_T47 l0 x3_1).f2.f1)) := (blk_cell BK187.out 7).trans rfl; have hcz73_8 : w72.cell? ⟨gb187, 8, none⟩ = some (.string ((rd_T47 l0 x3_1).f2.f2)) := (blk_cell BK187.out 8).trans rfl; have hcz73_9 : w72.cell? ⟨gb187, 9, none⟩ = some (.int .i64 ((rd_T47 l0 x3_1).f3)) := (blk_cell BK187.out 9).trans rfl; have hfz73_0 := blk_frozen BK187.out 0; have hfz73_1 := blk_frozen BK187.out 1; have hfz73_2 := blk_frozen BK187.out 2; have hfz73_3 := blk_frozen BK187.out 3; have hfz73_4 := blk_frozen BK187.out 4; have hfz73_5 := blk_frozen BK187.out 5; have hfz73_6 := blk_frozen BK187.out 6; have hfz73_7 := blk_frozen BK187.out 7; have hfz73_8 := blk_frozen BK187.out 8; have hfz73_9 := blk_frozen BK187.out 9) | ((with_reducible refine gate_callee (f := 39) rfl ?_); refine goesL_ (some 66) rfl rfl Try.func39 (by kernel_rfl) rfl #[.agg #[.int .i64 ((rd_T47 l0 x3_1).f0.f0), .int .i64 ((rd_T47 l0 x3_1).f0.f1), .string ((rd_T47 l0 x3_1).f0.f2)]] rfl (by (try simp only [List.map_toArray, List.map_cons, List.map_nil]); first | done | rfl | (simp only [List.length_drop, List.length_take]; rfl)) ?_; (with_reducible refine (value_Check.calls ((rd_T47 l0 x3_1).f0.f0) ((rd_T47 l0 x3_1).f0.f1) ((rd_T47 l0 x3_1).f0.f2) t196 _ A29.out).mono ?_); rintro e w74 ⟨rfl, hb⟩; refine ⟨_, rfl, ?_⟩; have n0_ := Aside0.mk (blk_below (g := gb187) (o := .cells #[.int .i64 ((rd_T47 l0 x3_1).f0.f0), .int .i64 ((rd_T47 l0 x3_1).f0.f1), .string ((rd_T47 l0 x3_1).f0.f2), .int .i64 ((rd_T47 l0 x3_1).f1.f0), .int .i64 ((rd_T47 l0 x3_1).f1.f1), .string ((rd_T47 l0 x3_1).f1.f2), .int .i64 ((rd_T47 l0 x3_1).f2.f0), .int .i64 ((rd_T47 l0 x3_1).f2.f1), .string ((rd_T47 l0 x3_1).f2.f2), .int .i64 ((rd_T47 l0 x3_1).f3)] 47 (0, 0)) (by (with_reducible repeat (first | refine blk_drewN ?_ _ | refine blk_drew ?_ | refine blk_alloc ?_ _)); exact BK187.out) hb); have n1_ := Aside0.mk (below_step (by repeat (first | (with_reducible first | exact HB.out | apply below_alloc | apply pw_below_drewN | apply below_drew1 | refine below_set ?_ GE187.out) | exact HB.out)) hb); clear BK187; clear HB; have BK187 := n0_; have HB := n1_; clear n0_ n1_; (try clear hb); (try clear hb2); (try clear hk); (try clear hi)) | ((with_reducible refine gate_callee (f := 36) rfl ?_); refine goesL_ (some 67) rfl rfl Try.func36 (by kernel_rfl) rfl #[.int .i64 t196] rfl (by (try simp only [List.map_toArray, List.map_cons, List.map_nil]); first | done | rfl | (simp only [List.length_drop, List.length_take]; rfl)) ?_; (with_reducible refine (cadastrelaw2_num.calls t196 t197 _ A30.out).mono ?_); rintro e w' ⟨rfl, ⟨nd, rfl⟩⟩; refine ⟨_, rfl, ?_⟩) | (go_at_call 36; (with_reducible refine (cadastrelaw2_num.calls t193 t198 _ A38.out).mono ?_); rintro e w' ⟨rfl, ⟨nd, rfl⟩⟩; (try clear A38)) | (go_at_call 36; (with_reducible refine (cadastrelaw2_num.calls t195 t199 _ A53.out).mono ?_); rintro e w' ⟨rfl, ⟨nd, rfl⟩⟩; (try clear A53)))
                              go_roundg kj23
                              case measure => have := HK1.out; have := HJ1.out; have := HJ7.out; have := HJ13.out; have := HJ17.out; have := HJ23.out; omega
                              case rel => exact ⟨(wrap64 (x3_1 + 1)), (by first | rfl | (simp; done) | (simp [*]; done)), H', ⟨by have := HK1.out; have := HJ1.out; have := HJ7.out; have := HJ13.out; have := HJ17.out; have := HJ23.out; omega⟩, ⟨by repeat (first | (with_reducible first | exact HB.out | apply below_alloc | apply pw_below_drewN | apply below_drew1 | refine below_set ?_ GE187.out) | exact HB.out)⟩⟩
                            rw [if_pos c61] at H
                            have c61b0 : (x8_23 == 0) = true := beq_iff_eq.mpr c61
                            have c61b1 : (x8_23 != 0) = false := bne_eq_false_iff_eq.mpr c61
                            clear c61
                            replace H := Option.bind_eq_some_iff.mp H
                            obtain ⟨t200, A750, H⟩ := H
                            replace H : (if (t194 != t200) = true then (some false) else (cadastrelaw2_ValueExact.l0 kj23 l0 (wrap64 (x3_1 + 1)))) = some r := H
                            have A75 := Aside0.mk A750
                            clear A750
                            by_cases c76 : (t194 != t200) = true
                            · rw [if_pos c76] at H
                              have c76b0 : (t194 != t200) = true := c76
                              (try (have c76b1 : decide (t194 = t200) = false := by simpa using c76))
                              (try (have c76b2 : (t194 == t200) = false := by simpa using c76))
                              (try (have c76b3 : ¬ (t194 = t200) := by simpa using c76))
                              clear c76
                              obtain rfl := Option.some.inj H
                              have hcz77_0 : wc.cell? ⟨gb187, 0, none⟩ = some (.int .i64 ((rd_T47 l0 x3_1).f0.f0)) := (blk_cell BK187.out 0).trans rfl
                              have hcz77_1 : wc.cell? ⟨gb187, 1, none⟩ = some (.int .i64 ((rd_T47 l0 x3_1).f0.f1)) := (blk_cell BK187.out 1).trans rfl
                              have hcz77_2 : wc.cell? ⟨gb187, 2, none⟩ = some (.string ((rd_T47 l0 x3_1).f0.f2)) := (blk_cell BK187.out 2).trans rfl
                              have hcz77_3 : wc.cell? ⟨gb187, 3, none⟩ = some (.int .i64 ((rd_T47 l0 x3_1).f1.f0)) := (blk_cell BK187.out 3).trans rfl
                              have hcz77_4 : wc.cell? ⟨gb187, 4, none⟩ = some (.int .i64 ((rd_T47 l0 x3_1).f1.f1)) := (blk_cell BK187.out 4).trans rfl
                              have hcz77_5 : wc.cell? ⟨gb187, 5, none⟩ = some (.string ((rd_T47 l0 x3_1).f1.f2)) := (blk_cell BK187.out 5).trans rfl
                              have hcz77_6 : wc.cell? ⟨gb187, 6, none⟩ = some (.int .i64 ((rd_T47 l0 x3_1).f2.f0)) := (blk_cell BK187.out 6).trans rfl
                              have hcz77_7 : wc.cell? ⟨gb187, 7, none⟩ = some (.int .i64 ((rd_T47 l0 x3_1).f2.f1)) := (blk_cell BK187.out 7).trans rfl
                              have hcz77_8 : wc.cell? ⟨gb187, 8, none⟩ = some (.string ((rd_T47 l0 x3_1).f2.f2)) := (blk_cell BK187.out 8).trans rfl
                              have hcz77_9 : wc.cell? ⟨gb187, 9, none⟩ = some (.int .i64 ((rd_T47 l0 x3_1).f3)) := (blk_cell BK187.out 9).trans rfl
                              have hfz77_0 := blk_frozen BK187.out 0
                              have hfz77_1 := blk_frozen BK187.out 1
                              have hfz77_2 := blk_frozen BK187.out 2
                              have hfz77_3 := blk_frozen BK187.out 3
                              have hfz77_4 := blk_frozen BK187.out 4
                              have hfz77_5 := blk_frozen BK187.out 5
                              have hfz77_6 := blk_frozen BK187.out 6
                              have hfz77_7 := blk_frozen BK187.out 7
                              have hfz77_8 := blk_frozen BK187.out 8
                              have hfz77_9 := blk_frozen BK187.out 9
                              go_wp2_with (first | ((with_reducible refine gate_callee (f := 35) rfl ?_); refine goesL_ (some 53) rfl rfl Try.func35 (by kernel_rfl) rfl #[.agg #[.int .i64 ((rd_T47 l0 x3_1).f0.f0), .int .i64 ((rd_T47 l0 x3_1).f0.f1), .string ((rd_T47 l0 x3_1).f0.f2)], .agg #[.int .i64 ((rd_T47 l0 x3_1).f1.f0), .int .i64 ((rd_T47 l0 x3_1).f1.f1), .string ((rd_T47 l0 x3_1).f1.f2)]] rfl (by (try simp only [List.map_toArray, List.map_cons, List.map_nil]); first | done | rfl | (simp only [List.length_drop, List.length_take]; rfl)) ?_; (with_reducible refine (value_Cmp.calls kj23 ((rd_T47 l0 x3_1).f0.f0) ((rd_T47 l0 x3_1).f0.f1) ((rd_T47 l0 x3_1).f0.f2) ((rd_T47 l0 x3_1).f1.f0) ((rd_T47 l0 x3_1).f1.f1) ((rd_T47 l0 x3_1).f1.f2) t192 t193 _ A27.out).mono ?_); rintro e w78 ⟨rfl, hb⟩; refine ⟨_, rfl, ?_⟩; have n0_ := Aside0.mk (blk_below (g := gb187) (o := .cells #[.int .i64 ((rd_T47 l0 x3_1).f0.f0), .int .i64 ((rd_T47 l0 x3_1).f0.f1), .string ((rd_T47 l0 x3_1).f0.f2), .int .i64 ((rd_T47 l0 x3_1).f1.f0), .int .i64 ((rd_T47 l0 x3_1).f1.f1), .string ((rd_T47 l0 x3_1).f1.f2), .int .i64 ((rd_T47 l0 x3_1).f2.f0), .int .i64 ((rd_T47 l0 x3_1).f2.f1), .string ((rd_T47 l0 x3_1).f2.f2), .int .i64 ((rd_T47 l0 x3_1).f3)] 47 (0, 0)) (by (with_reducible repeat (first | refine blk_drewN ?_ _ | refine blk_drew ?_ | refine blk_alloc ?_ _)); exact BK187.out) hb); have n1_ := Aside0.mk (below_step (by repeat (first | (with_reducible first | exact HB.out | apply below_alloc | apply pw_below_drewN | apply below_drew1 | refine below_set ?_ GE187.out) | exact HB.out)) hb); clear BK187; clear HB; have BK187 := n0_; have HB := n1_; clear n0_ n1_; (try clear hb); (try clear hb2); (try clear hk); (try clear hi); have hcz79_0 : w78.cell? ⟨gb187, 0, none⟩ = some (.int .i64 ((rd_T47 l0 x3_1).f0.f0)) := (blk_cell BK187.out 0).trans rfl; have hcz79_1 : w78.cell? ⟨gb187, 1, none⟩ = some (.int .i64 ((rd_T47 l0 x3_1).f0.f1)) := (blk_cell BK187.out 1).trans rfl; have hcz79_2 : w78.cell? ⟨gb187, 2, none⟩ = some (.string ((rd_T47 l0 x3_1).f0.f2)) := (blk_cell BK187.out 2).trans rfl; have hcz79_3 : w78.cell? ⟨gb187, 3, none⟩ = some (.int .i64 ((rd_T47 l0 x3_1).f1.f0)) := (blk_cell BK187.out 3).trans rfl; have hcz79_4 : w78.cell? ⟨gb187, 4, none⟩ = some (.int .i64 ((rd_T47 l0 x3_1).f1.f1)) := (blk_cell BK187.out 4).trans rfl; have hcz79_5 : w78.cell? ⟨gb187, 5, none⟩ = some (.string ((rd_T47 l0 x3_1).f1.f2)) := (blk_cell BK187.out 5).trans rfl; have hcz79_6 : w78.cell? ⟨gb187, 6, none⟩ = some (.int .i64 ((rd_T47 l0 x3_1).f2.f0)) := (blk_cell BK187.out 6).trans rfl; have hcz79_7 : w78.cell? ⟨gb187, 7, none⟩ = some (.int .i64 ((rd_T47 l0 x3_1).f2.f1)) := (blk_cell BK187.out 7).trans rfl; have hcz79_8 : w78.cell? ⟨gb187, 8, none⟩ = some (.string ((rd_T47 l0 x3_1).f2.f2)) := (blk_cell BK187.out 8).trans rfl; have hcz79_9 : w78.cell? ⟨gb187, 9, none⟩ = some (.int .i64 ((rd_T47 l0 x3_1).f3)) := (blk_cell BK187.out 9).trans rfl; have hfz79_0 := blk_frozen BK187.out 0; have hfz79_1 := blk_frozen BK187.out 1; have hfz79_2 := blk_frozen BK187.out 2; have hfz79_3 := blk_frozen BK187.out 3; have hfz79_4 := blk_frozen BK187.out 4; have hfz79_5 := blk_frozen BK187.out 5; have hfz79_6 := blk_frozen BK187.out 6; have hfz79_7 := blk_frozen BK187.out 7; have hfz79_8 := blk_frozen BK187.out 8; have hfz79_9 := blk_frozen BK187.out 9) | ((with_reducible refine gate_callee (f := 49) rfl ?_); refine goesL_ (some 61) rfl rfl Try.func49 (by kernel_rfl) rfl #[.agg #[.int .i64 ((rd_T47 l0 x3_1).f0.f0), .int .i64 ((rd_T47 l0 x3_1).f0.f1), .string ((rd_T47 l0 x3_1).f0.f2)], .int .i64 ((rd_T47 l0 x3_1).f3)] rfl (by (try simp only [List.map_toArray, List.map_cons, List.map_nil]); first | done | rfl | (simp only [List.length_drop, List.length_take]; rfl)) ?_; (with_reducible refine (value_Fits.calls ((rd_T47 l0 x3_1).f0.f0) ((rd_T47 l0 x3_1).f0.f1) ((rd_T47 l0 x3_1).f0.f2) ((rd_T47 l0 x3_1).f3) t194 t195 _ A28.out).mono ?_); rintro e w80 ⟨rfl, hb⟩; refine ⟨_, rfl, ?_⟩; have n0_ := Aside0.mk (blk_below (g := gb187) (o := .cells #[.int .i64 ((rd_T47 l0 x3_1).f0.f0), .int .i64 ((rd_T47 l0 x3_1).f0.f1), .string ((rd_T47 l0 x3_1).f0.f2), .int .i64 ((rd_T47 l0 x3_1).f1.f0), .int .i64 ((rd_T47 l0 x3_1).f1.f1), .string ((rd_T47 l0 x3_1).f1.f2), .int .i64 ((rd_T47 l0 x3_1).f2.f0), .int .i64 ((rd_T47 l0 x3_1).f2.f1), .string ((rd_T47 l0 x3_1).f2.f2), .int .i64 ((rd_T47 l0 x3_1).f3)] 47 (0, 0)) (by (with_reducible repeat (first | refine blk_drewN ?_ _ | refine blk_drew ?_ | refine blk_alloc ?_ _)); exact BK187.out) hb); have n1_ := Aside0.mk (below_step (by repeat (first | (with_reducible first | exact HB.out | apply below_alloc | apply pw_below_drewN | apply below_drew1 | refine below_set ?_ GE187.out) | exact HB.out)) hb); clear BK187; clear HB; have BK187 := n0_; have HB := n1_; clear n0_ n1_; (try clear hb); (try clear hb2); (try clear hk); (try clear hi); have hcz81_0 : w80.cell? ⟨gb187, 0, none⟩ = some (.int .i64 ((rd_T47 l0 x3_1).f0.f0)) := (blk_cell BK187.out 0).trans rfl; have hcz81_1 : w80.cell? ⟨gb187, 1, none⟩ = some (.int .i64 ((rd_T47 l0 x3_1).f0.f1)) := (blk_cell BK187.out 1).trans rfl; have hcz81_2 : w80.cell? ⟨gb187, 2, none⟩ = some (.string ((rd_T47 l0 x3_1).f0.f2)) := (blk_cell BK187.out 2).trans rfl; have hcz81_3 : w80.cell? ⟨gb187, 3, none⟩ = some (.int .i64 ((rd_T47 l0 x3_1).f1.f0)) := (blk_cell BK187.out 3).trans rfl; have hcz81_4 : w80.cell? ⟨gb187, 4, none⟩ = some (.int .i64 ((rd_T47 l0 x3_1).f1.f1)) := (blk_cell BK187.out 4).trans rfl; have hcz81_5 : w80.cell? ⟨gb187, 5, none⟩ = some (.string ((rd_T47 l0 x3_1).f1.f2)) := (blk_cell BK187.out 5).trans rfl; have hcz81_6 : w80.cell? ⟨gb187, 6, none⟩ = some (.int .i64 ((rd_T47 l0 x3_1).f2.f0)) := (blk_cell BK187.out 6).trans rfl; have hcz81_7 : w80.cell? ⟨gb187, 7, none⟩ = some (.int .i64 ((rd_T47 l0 x3_1).f2.f1)) := (blk_cell BK187.out 7).trans rfl; have hcz81_8 : w80.cell? ⟨gb187, 8, none⟩ = some (.string ((rd_T47 l0 x3_1).f2.f2)) := (blk_cell BK187.out 8).trans rfl; have hcz81_9 : w80.cell? ⟨gb187, 9, none⟩ = some (.int .i64 ((rd_T47 l0 x3_1).f3)) := (blk_cell BK187.out 9).trans rfl; have hfz81_0 := blk_frozen BK187.out 0; have hfz81_1 := blk_frozen BK187.out 1; have hfz81_2 := blk_frozen BK187.out 2; have hfz81_3 := blk_frozen BK187.out 3; have hfz81_4 := blk_frozen BK187.out 4; have hfz81_5 := blk_frozen BK187.out 5; have hfz81_6 := blk_frozen BK187.out 6; have hfz81_7 := blk_frozen BK187.out 7; have hfz81_8 := blk_frozen BK187.out 8; have hfz81_9 := blk_frozen BK187.out 9) | ((with_reducible refine gate_callee (f := 39) rfl ?_); refine goesL_ (some 66) rfl rfl Try.func39 (by kernel_rfl) rfl #[.agg #[.int .i64 ((rd_T47 l0 x3_1).f0.f0), .int .i64 ((rd_T47 l0 x3_1).f0.f1), .string ((rd_T47 l0 x3_1).f0.f2)]] rfl (by (try simp only [List.map_toArray, List.map_cons, List.map_nil]); first | done | rfl | (simp only [List.length_drop, List.length_take]; rfl)) ?_; (with_reducible refine (value_Check.calls ((rd_T47 l0 x3_1).f0.f0) ((rd_T47 l0 x3_1).f0.f1) ((rd_T47 l0 x3_1).f0.f2) t196 _ A29.out).mono ?_); rintro e w82 ⟨rfl, hb⟩; refine ⟨_, rfl, ?_⟩; have n0_ := Aside0.mk (blk_below (g := gb187) (o := .cells #[.int .i64 ((rd_T47 l0 x3_1).f0.f0), .int .i64 ((rd_T47 l0 x3_1).f0.f1), .string ((rd_T47 l0 x3_1).f0.f2), .int .i64 ((rd_T47 l0 x3_1).f1.f0), .int .i64 ((rd_T47 l0 x3_1).f1.f1), .string ((rd_T47 l0 x3_1).f1.f2), .int .i64 ((rd_T47 l0 x3_1).f2.f0), .int .i64 ((rd_T47 l0 x3_1).f2.f1), .string ((rd_T47 l0 x3_1).f2.f2), .int .i64 ((rd_T47 l0 x3_1).f3)] 47 (0, 0)) (by (with_reducible repeat (first | refine blk_drewN ?_ _ | refine blk_drew ?_ | refine blk_alloc ?_ _)); exact BK187.out) hb); have n1_ := Aside0.mk (below_step (by repeat (first | (with_reducible first | exact HB.out | apply below_alloc | apply pw_below_drewN | apply below_drew1 | refine below_set ?_ GE187.out) | exact HB.out)) hb); clear BK187; clear HB; have BK187 := n0_; have HB := n1_; clear n0_ n1_; (try clear hb); (try clear hb2); (try clear hk); (try clear hi)) | ((with_reducible refine gate_callee (f := 36) rfl ?_); refine goesL_ (some 67) rfl rfl Try.func36 (by kernel_rfl) rfl #[.int .i64 t196] rfl (by (try simp only [List.map_toArray, List.map_cons, List.map_nil]); first | done | rfl | (simp only [List.length_drop, List.length_take]; rfl)) ?_; (with_reducible refine (cadastrelaw2_num.calls t196 t197 _ A30.out).mono ?_); rintro e w' ⟨rfl, ⟨nd, rfl⟩⟩; refine ⟨_, rfl, ?_⟩) | (go_at_call 36; (with_reducible refine (cadastrelaw2_num.calls t193 t198 _ A38.out).mono ?_); rintro e w' ⟨rfl, ⟨nd, rfl⟩⟩; (try clear A38)) | (go_at_call 36; (with_reducible refine (cadastrelaw2_num.calls t195 t199 _ A53.out).mono ?_); rintro e w' ⟨rfl, ⟨nd, rfl⟩⟩; (try clear A53); have hcz83_0 : w82.cell? ⟨gb187, 0, none⟩ = some (.int .i64 ((rd_T47 l0 x3_1).f0.f0)) := (blk_cell BK187.out 0).trans rfl; have hcz83_1 : w82.cell? ⟨gb187, 1, none⟩ = some (.int .i64 ((rd_T47 l0 x3_1).f0.f1)) := (blk_cell BK187.out 1).trans rfl; have hcz83_2 : w82.cell? ⟨gb187, 2, none⟩ = some (.string ((rd_T47 l0 x3_1).f0.f2)) := (blk_cell BK187.out 2).trans rfl; have hcz83_3 : w82.cell? ⟨gb187, 3, none⟩ = some (.int .i64 ((rd_T47 l0 x3_1).f1.f0)) := (blk_cell BK187.out 3).trans rfl; have hcz83_4 : w82.cell? ⟨gb187, 4, none⟩ = some (.int .i64 ((rd_T47 l0 x3_1).f1.f1)) := (blk_cell BK187.out 4).trans rfl; have hcz83_5 : w82.cell? ⟨gb187, 5, none⟩ = some (.string ((rd_T47 l0 x3_1).f1.f2)) := (blk_cell BK187.out 5).trans rfl; have hcz83_6 : w82.cell? ⟨gb187, 6, none⟩ = some (.int .i64 ((rd_T47 l0 x3_1).f2.f0)) := (blk_cell BK187.out 6).trans rfl; have hcz83_7 : w82.cell? ⟨gb187, 7, none⟩ = some (.int .i64 ((rd_T47 l0 x3_1).f2.f1)) := (blk_cell BK187.out 7).trans rfl; have hcz83_8 : w82.cell? ⟨gb187, 8, none⟩ = some (.string ((rd_T47 l0 x3_1).f2.f2)) := (blk_cell BK187.out 8).trans rfl; have hcz83_9 : w82.cell? ⟨gb187, 9, none⟩ = some (.int .i64 ((rd_T47 l0 x3_1).f3)) := (blk_cell BK187.out 9).trans rfl; have hfz83_0 := blk_frozen BK187.out 0; have hfz83_1 := blk_frozen BK187.out 1; have hfz83_2 := blk_frozen BK187.out 2; have hfz83_3 := blk_frozen BK187.out 3; have hfz83_4 := blk_frozen BK187.out 4; have hfz83_5 := blk_frozen BK187.out 5; have hfz83_6 := blk_frozen BK187.out 6; have hfz83_7 := blk_frozen BK187.out 7; have hfz83_8 := blk_frozen BK187.out 8; have hfz83_9 := blk_frozen BK187.out 9) | (go_at_call 50; (with_reducible refine (cadastreref2_Fits.calls ((rd_T47 l0 x3_1).f0.f0) ((rd_T47 l0 x3_1).f0.f1) ((rd_T47 l0 x3_1).f0.f2) ((rd_T47 l0 x3_1).f3) t200 _ A75.out).mono ?_); rintro e w84 ⟨rfl, hb⟩; have n0_ := Aside0.mk (blk_below (g := gb187) (o := .cells #[.int .i64 ((rd_T47 l0 x3_1).f0.f0), .int .i64 ((rd_T47 l0 x3_1).f0.f1), .string ((rd_T47 l0 x3_1).f0.f2), .int .i64 ((rd_T47 l0 x3_1).f1.f0), .int .i64 ((rd_T47 l0 x3_1).f1.f1), .string ((rd_T47 l0 x3_1).f1.f2), .int .i64 ((rd_T47 l0 x3_1).f2.f0), .int .i64 ((rd_T47 l0 x3_1).f2.f1), .string ((rd_T47 l0 x3_1).f2.f2), .int .i64 ((rd_T47 l0 x3_1).f3)] 47 (0, 0)) (by (with_reducible repeat (first | refine blk_drewN ?_ _ | refine blk_drew ?_ | refine blk_alloc ?_ _)); exact BK187.out) hb); have n1_ := Aside0.mk (below_step (by repeat (first | (with_reducible first | exact HB.out | apply below_alloc | apply pw_below_drewN | apply below_drew1 | refine below_set ?_ GE187.out) | exact HB.out)) hb); clear BK187; clear HB; have BK187 := n0_; have HB := n1_; clear n0_ n1_; (try clear hb); (try clear hb2); (try clear hk); (try clear hi); (try clear A75)))
                              go_ret
                              exact ⟨by first | rfl | (simp [errW_none, errW_some] <;> rfl) | (simp [*, errW_none, errW_some] <;> rfl), by repeat (first | (with_reducible first | exact HB.out | apply below_alloc | apply pw_below_drewN | apply below_drew1 | refine below_set ?_ GE187.out) | exact HB.out)⟩
                            rw [if_neg c76] at H
                            have c76b0 : (t194 != t200) = false := by simpa using c76
                            (try (have c76b1 : decide (t194 = t200) = true := by simpa using c76))
                            (try (have c76b2 : (t194 == t200) = true := by simpa using c76))
                            clear c76
                            have H' := Aside0.mk H
                            clear H
                            have hcz85_0 : wc.cell? ⟨gb187, 0, none⟩ = some (.int .i64 ((rd_T47 l0 x3_1).f0.f0)) := (blk_cell BK187.out 0).trans rfl
                            have hcz85_1 : wc.cell? ⟨gb187, 1, none⟩ = some (.int .i64 ((rd_T47 l0 x3_1).f0.f1)) := (blk_cell BK187.out 1).trans rfl
                            have hcz85_2 : wc.cell? ⟨gb187, 2, none⟩ = some (.string ((rd_T47 l0 x3_1).f0.f2)) := (blk_cell BK187.out 2).trans rfl
                            have hcz85_3 : wc.cell? ⟨gb187, 3, none⟩ = some (.int .i64 ((rd_T47 l0 x3_1).f1.f0)) := (blk_cell BK187.out 3).trans rfl
                            have hcz85_4 : wc.cell? ⟨gb187, 4, none⟩ = some (.int .i64 ((rd_T47 l0 x3_1).f1.f1)) := (blk_cell BK187.out 4).trans rfl
                            have hcz85_5 : wc.cell? ⟨gb187, 5, none⟩ = some (.string ((rd_T47 l0 x3_1).f1.f2)) := (blk_cell BK187.out 5).trans rfl
                            have hcz85_6 : wc.cell? ⟨gb187, 6, none⟩ = some (.int .i64 ((rd_T47 l0 x3_1).f2.f0)) := (blk_cell BK187.out 6).trans rfl
                            have hcz85_7 : wc.cell? ⟨gb187, 7, none⟩ = some (.int .i64 ((rd_T47 l0 x3_1).f2.f1)) := (blk_cell BK187.out 7).trans rfl
                            have hcz85_8 : wc.cell? ⟨gb187, 8, none⟩ = some (.string ((rd_T47 l0 x3_1).f2.f2)) := (blk_cell BK187.out 8).trans rfl
                            have hcz85_9 : wc.cell? ⟨gb187, 9, none⟩ = some (.int .i64 ((rd_T47 l0 x3_1).f3)) := (blk_cell BK187.out 9).trans rfl
                            have hfz85_0 := blk_frozen BK187.out 0
                            have hfz85_1 := blk_frozen BK187.out 1
                            have hfz85_2 := blk_frozen BK187.out 2
                            have hfz85_3 := blk_frozen BK187.out 3
                            have hfz85_4 := blk_frozen BK187.out 4
                            have hfz85_5 := blk_frozen BK187.out 5
                            have hfz85_6 := blk_frozen BK187.out 6
                            have hfz85_7 := blk_frozen BK187.out 7
                            have hfz85_8 := blk_frozen BK187.out 8
                            have hfz85_9 := blk_frozen BK187.out 9
                            go_wp2_with (first | ((with_reducible refine gate_callee (f := 35) rfl ?_); refine goesL_ (some 53) rfl rfl Try.func35 (by kernel_rfl) rfl #[.agg #[.int .i64 ((rd_T47 l0 x3_1).f0.f0), .int .i64 ((rd_T47 l0 x3_1).f0.f1), .string ((rd_T47 l0 x3_1).f0.f2)], .agg #[.int .i64 ((rd_T47 l0 x3_1).f1.f0), .int .i64 ((rd_T47 l0 x3_1).f1.f1), .string ((rd_T47 l0 x3_1).f1.f2)]] rfl (by (try simp only [List.map_toArray, List.map_cons, List.map_nil]); first | done | rfl | (simp only [List.length_drop, List.length_take]; rfl)) ?_; (with_reducible refine (value_Cmp.calls kj23 ((rd_T47 l0 x3_1).f0.f0) ((rd_T47 l0 x3_1).f0.f1) ((rd_T47 l0 x3_1).f0.f2) ((rd_T47 l0 x3_1).f1.f0) ((rd_T47 l0 x3_1).f1.f1) ((rd_T47 l0 x3_1).f1.f2) t192 t193 _ A27.out).mono ?_); rintro e w86 ⟨rfl, hb⟩; refine ⟨_, rfl, ?_⟩; have n0_ := Aside0.mk (blk_below (g := gb187) (o := .cells #[.int .i64 ((rd_T47 l0 x3_1).f0.f0), .int .i64 ((rd_T47 l0 x3_1).f0.f1), .string ((rd_T47 l0 x3_1).f0.f2), .int .i64 ((rd_T47 l0 x3_1).f1.f0), .int .i64 ((rd_T47 l0 x3_1).f1.f1), .string ((rd_T47 l0 x3_1).f1.f2), .int .i64 ((rd_T47 l0 x3_1).f2.f0), .int .i64 ((rd_T47 l0 x3_1).f2.f1), .string ((rd_T47 l0 x3_1).f2.f2), .int .i64 ((rd_T47 l0 x3_1).f3)] 47 (0, 0)) (by (with_reducible repeat (first | refine blk_drewN ?_ _ | refine blk_drew ?_ | refine blk_alloc ?_ _)); exact BK187.out) hb); have n1_ := Aside0.mk (below_step (by repeat (first | (with_reducible first | exact HB.out | apply below_alloc | apply pw_below_drewN | apply below_drew1 | refine below_set ?_ GE187.out) | exact HB.out)) hb); clear BK187; clear HB; have BK187 := n0_; have HB := n1_; clear n0_ n1_; (try clear hb); (try clear hb2); (try clear hk); (try clear hi); have hcz87_0 : w86.cell? ⟨gb187, 0, none⟩ = some (.int .i64 ((rd_T47 l0 x3_1).f0.f0)) := (blk_cell BK187.out 0).trans rfl; have hcz87_1 : w86.cell? ⟨gb187, 1, none⟩ = some (.int .i64 ((rd_T47 l0 x3_1).f0.f1)) := (blk_cell BK187.out 1).trans rfl; have hcz87_2 : w86.cell? ⟨gb187, 2, none⟩ = some (.string ((rd_T47 l0 x3_1).f0.f2)) := (blk_cell BK187.out 2).trans rfl; have hcz87_3 : w86.cell? ⟨gb187, 3, none⟩ = some (.int .i64 ((rd_T47 l0 x3_1).f1.f0)) := (blk_cell BK187.out 3).trans rfl; have hcz87_4 : w86.cell? ⟨gb187, 4, none⟩ = some (.int .i64 ((rd_T47 l0 x3_1).f1.f1)) := (blk_cell BK187.out 4).trans rfl; have hcz87_5 : w86.cell? ⟨gb187, 5, none⟩ = some (.string ((rd_T47 l0 x3_1).f1.f2)) := (blk_cell BK187.out 5).trans rfl; have hcz87_6 : w86.cell? ⟨gb187, 6, none⟩ = some (.int .i64 ((rd_T47 l0 x3_1).f2.f0)) := (blk_cell BK187.out 6).trans rfl; have hcz87_7 : w86.cell? ⟨gb187, 7, none⟩ = some (.int .i64 ((rd_T47 l0 x3_1).f2.f1)) := (blk_cell BK187.out 7).trans rfl; have hcz87_8 : w86.cell? ⟨gb187, 8, none⟩ = some (.string ((rd_T47 l0 x3_1).f2.f2)) := (blk_cell BK187.out 8).trans rfl; have hcz87_9 : w86.cell? ⟨gb187, 9, none⟩ = some (.int .i64 ((rd_T47 l0 x3_1).f3)) := (blk_cell BK187.out 9).trans rfl; have hfz87_0 := blk_frozen BK187.out 0; have hfz87_1 := blk_frozen BK187.out 1; have hfz87_2 := blk_frozen BK187.out 2; have hfz87_3 := blk_frozen BK187.out 3; have hfz87_4 := blk_frozen BK187.out 4; have hfz87_5 := blk_frozen BK187.out 5; have hfz87_6 := blk_frozen BK187.out 6; have hfz87_7 := blk_frozen BK187.out 7; have hfz87_8 := blk_frozen BK187.out 8; have hfz87_9 := blk_frozen BK187.out 9) | ((with_reducible refine gate_callee (f := 49) rfl ?_); refine goesL_ (some 61) rfl rfl Try.func49 (by kernel_rfl) rfl #[.agg #[.int .i64 ((rd_T47 l0 x3_1).f0.f0), .int .i64 ((rd_T47 l0 x3_1).f0.f1), .string ((rd_T47 l0 x3_1).f0.f2)], .int .i64 ((rd_T47 l0 x3_1).f3)] rfl (by (try simp only [List.map_toArray, List.map_cons, List.map_nil]); first | done | rfl | (simp only [List.length_drop, List.length_take]; rfl)) ?_; (with_reducible refine (value_Fits.calls ((rd_T47 l0 x3_1).f0.f0) ((rd_T47 l0 x3_1).f0.f1) ((rd_T47 l0 x3_1).f0.f2) ((rd_T47 l0 x3_1).f3) t194 t195 _ A28.out).mono ?_); rintro e w88 ⟨rfl, hb⟩; refine ⟨_, rfl, ?_⟩; have n0_ := Aside0.mk (blk_below (g := gb187) (o := .cells #[.int .i64 ((rd_T47 l0 x3_1).f0.f0), .int .i64 ((rd_T47 l0 x3_1).f0.f1), .string ((rd_T47 l0 x3_1).f0.f2), .int .i64 ((rd_T47 l0 x3_1).f1.f0), .int .i64 ((rd_T47 l0 x3_1).f1.f1), .string ((rd_T47 l0 x3_1).f1.f2), .int .i64 ((rd_T47 l0 x3_1).f2.f0), .int .i64 ((rd_T47 l0 x3_1).f2.f1), .string ((rd_T47 l0 x3_1).f2.f2), .int .i64 ((rd_T47 l0 x3_1).f3)] 47 (0, 0)) (by (with_reducible repeat (first | refine blk_drewN ?_ _ | refine blk_drew ?_ | refine blk_alloc ?_ _)); exact BK187.out) hb); have n1_ := Aside0.mk (below_step (by repeat (first | (with_reducible first | exact HB.out | apply below_alloc | apply pw_below_drewN | apply below_drew1 | refine below_set ?_ GE187.out) | exact HB.out)) hb); clear BK187; clear HB; have BK187 := n0_; have HB := n1_; clear n0_ n1_; (try clear hb); (try clear hb2); (try clear hk); (try clear hi); have hcz89_0 : w88.cell? ⟨gb187, 0, none⟩ = some (.int .i64 ((rd_T47 l0 x3_1).f0.f0)) := (blk_cell BK187.out 0).trans rfl; have hcz89_1 : w88.cell? ⟨gb187, 1, none⟩ = some (.int .i64 ((rd_T47 l0 x3_1).f0.f1)) := (blk_cell BK187.out 1).trans rfl; have hcz89_2 : w88.cell? ⟨gb187, 2, none⟩ = some (.string ((rd_T47 l0 x3_1).f0.f2)) := (blk_cell BK187.out 2).trans rfl; have hcz89_3 : w88.cell? ⟨gb187, 3, none⟩ = some (.int .i64 ((rd_T47 l0 x3_1).f1.f0)) := (blk_cell BK187.out 3).trans rfl; have hcz89_4 : w88.cell? ⟨gb187, 4, none⟩ = some (.int .i64 ((rd_T47 l0 x3_1).f1.f1)) := (blk_cell BK187.out 4).trans rfl; have hcz89_5 : w88.cell? ⟨gb187, 5, none⟩ = some (.string ((rd_T47 l0 x3_1).f1.f2)) := (blk_cell BK187.out 5).trans rfl; have hcz89_6 : w88.cell? ⟨gb187, 6, none⟩ = some (.int .i64 ((rd_T47 l0 x3_1).f2.f0)) := (blk_cell BK187.out 6).trans rfl; have hcz89_7 : w88.cell? ⟨gb187, 7, none⟩ = some (.int .i64 ((rd_T47 l0 x3_1).f2.f1)) := (blk_cell BK187.out 7).trans rfl; have hcz89_8 : w88.cell? ⟨gb187, 8, none⟩ = some (.string ((rd_T47 l0 x3_1).f2.f2)) := (blk_cell BK187.out 8).trans rfl; have hcz89_9 : w88.cell? ⟨gb187, 9, none⟩ = some (.int .i64 ((rd_T47 l0 x3_1).f3)) := (blk_cell BK187.out 9).trans rfl; have hfz89_0 := blk_frozen BK187.out 0; have hfz89_1 := blk_frozen BK187.out 1; have hfz89_2 := blk_frozen BK187.out 2; have hfz89_3 := blk_frozen BK187.out 3; have hfz89_4 := blk_frozen BK187.out 4; have hfz89_5 := blk_frozen BK187.out 5; have hfz89_6 := blk_frozen BK187.out 6; have hfz89_7 := blk_frozen BK187.out 7; have hfz89_8 := blk_frozen BK187.out 8; have hfz89_9 := blk_frozen BK187.out 9) | ((with_reducible refine gate_callee (f := 39) rfl ?_); refine goesL_ (some 66) rfl rfl Try.func39 (by kernel_rfl) rfl #[.agg #[.int .i64 ((rd_T47 l0 x3_1).f0.f0), .int .i64 ((rd_T47 l0 x3_1).f0.f1), .string ((rd_T47 l0 x3_1).f0.f2)]] rfl (by (try simp only [List.map_toArray, List.map_cons, List.map_nil]); first | done | rfl | (simp only [List.length_drop, List.length_take]; rfl)) ?_; (with_reducible refine (value_Check.calls ((rd_T47 l0 x3_1).f0.f0) ((rd_T47 l0 x3_1).f0.f1) ((rd_T47 l0 x3_1).f0.f2) t196 _ A29.out).mono ?_); rintro e w90 ⟨rfl, hb⟩; refine ⟨_, rfl, ?_⟩; have n0_ := Aside0.mk (blk_below (g := gb187) (o := .cells #[.int .i64 ((rd_T47 l0 x3_1).f0.f0), .int .i64 ((rd_T47 l0 x3_1).f0.f1), .string ((rd_T47 l0 x3_1).f0.f2), .int .i64 ((rd_T47 l0 x3_1).f1.f0), .int .i64 ((rd_T47 l0 x3_1).f1.f1), .string ((rd_T47 l0 x3_1).f1.f2), .int .i64 ((rd_T47 l0 x3_1).f2.f0), .int .i64 ((rd_T47 l0 x3_1).f2.f1), .string ((rd_T47 l0 x3_1).f2.f2), .int .i64 ((rd_T47 l0 x3_1).f3)] 47 (0, 0)) (by (with_reducible repeat (first | refine blk_drewN ?_ _ | refine blk_drew ?_ | refine blk_alloc ?_ _)); exact BK187.out) hb); have n1_ := Aside0.mk (below_step (by repeat (first | (with_reducible first | exact HB.out | apply below_alloc | apply pw_below_drewN | apply below_drew1 | refine below_set ?_ GE187.out) | exact HB.out)) hb); clear BK187; clear HB; have BK187 := n0_; have HB := n1_; clear n0_ n1_; (try clear hb); (try clear hb2); (try clear hk); (try clear hi)) | ((with_reducible refine gate_callee (f := 36) rfl ?_); refine goesL_ (some 67) rfl rfl Try.func36 (by kernel_rfl) rfl #[.int .i64 t196] rfl (by (try simp only [List.map_toArray, List.map_cons, List.map_nil]); first | done | rfl | (simp only [List.length_drop, List.length_take]; rfl)) ?_; (with_reducible refine (cadastrelaw2_num.calls t196 t197 _ A30.out).mono ?_); rintro e w' ⟨rfl, ⟨nd, rfl⟩⟩; refine ⟨_, rfl, ?_⟩) | (go_at_call 36; (with_reducible refine (cadastrelaw2_num.calls t193 t198 _ A38.out).mono ?_); rintro e w' ⟨rfl, ⟨nd, rfl⟩⟩; (try clear A38)) | (go_at_call 36; (with_reducible refine (cadastrelaw2_num.calls t195 t199 _ A53.out).mono ?_); rintro e w' ⟨rfl, ⟨nd, rfl⟩⟩; (try clear A53); have hcz91_0 : w90.cell? ⟨gb187, 0, none⟩ = some (.int .i64 ((rd_T47 l0 x3_1).f0.f0)) := (blk_cell BK187.out 0).trans rfl; have hcz91_1 : w90.cell? ⟨gb187, 1, none⟩ = some (.int .i64 ((rd_T47 l0 x3_1).f0.f1)) := (blk_cell BK187.out 1).trans rfl; have hcz91_2 : w90.cell? ⟨gb187, 2, none⟩ = some (.string ((rd_T47 l0 x3_1).f0.f2)) := (blk_cell BK187.out 2).trans rfl; have hcz91_3 : w90.cell? ⟨gb187, 3, none⟩ = some (.int .i64 ((rd_T47 l0 x3_1).f1.f0)) := (blk_cell BK187.out 3).trans rfl; have hcz91_4 : w90.cell? ⟨gb187, 4, none⟩ = some (.int .i64 ((rd_T47 l0 x3_1).f1.f1)) := (blk_cell BK187.out 4).trans rfl; have hcz91_5 : w90.cell? ⟨gb187, 5, none⟩ = some (.string ((rd_T47 l0 x3_1).f1.f2)) := (blk_cell BK187.out 5).trans rfl; have hcz91_6 : w90.cell? ⟨gb187, 6, none⟩ = some (.int .i64 ((rd_T47 l0 x3_1).f2.f0)) := (blk_cell BK187.out 6).trans rfl; have hcz91_7 : w90.cell? ⟨gb187, 7, none⟩ = some (.int .i64 ((rd_T47 l0 x3_1).f2.f1)) := (blk_cell BK187.out 7).trans rfl; have hcz91_8 : w90.cell? ⟨gb187, 8, none⟩ = some (.string ((rd_T47 l0 x3_1).f2.f2)) := (blk_cell BK187.out 8).trans rfl; have hcz91_9 : w90.cell? ⟨gb187, 9, none⟩ = some (.int .i64 ((rd_T47 l0 x3_1).f3)) := (blk_cell BK187.out 9).trans rfl; have hfz91_0 := blk_frozen BK187.out 0; have hfz91_1 := blk_frozen BK187.out 1; have hfz91_2 := blk_frozen BK187.out 2; have hfz91_3 := blk_frozen BK187.out 3; have hfz91_4 := blk_frozen BK187.out 4; have hfz91_5 := blk_frozen BK187.out 5; have hfz91_6 := blk_frozen BK187.out 6; have hfz91_7 := blk_frozen BK187.out 7; have hfz91_8 := blk_frozen BK187.out 8; have hfz91_9 := blk_frozen BK187.out 9) | (go_at_call 50; (with_reducible refine (cadastreref2_Fits.calls ((rd_T47 l0 x3_1).f0.f0) ((rd_T47 l0 x3_1).f0.f1) ((rd_T47 l0 x3_1).f0.f2) ((rd_T47 l0 x3_1).f3) t200 _ A75.out).mono ?_); rintro e w92 ⟨rfl, hb⟩; have n0_ := Aside0.mk (blk_below (g := gb187) (o := .cells #[.int .i64 ((rd_T47 l0 x3_1).f0.f0), .int .i64 ((rd_T47 l0 x3_1).f0.f1), .string ((rd_T47 l0 x3_1).f0.f2), .int .i64 ((rd_T47 l0 x3_1).f1.f0), .int .i64 ((rd_T47 l0 x3_1).f1.f1), .string ((rd_T47 l0 x3_1).f1.f2), .int .i64 ((rd_T47 l0 x3_1).f2.f0), .int .i64 ((rd_T47 l0 x3_1).f2.f1), .string ((rd_T47 l0 x3_1).f2.f2), .int .i64 ((rd_T47 l0 x3_1).f3)] 47 (0, 0)) (by (with_reducible repeat (first | refine blk_drewN ?_ _ | refine blk_drew ?_ | refine blk_alloc ?_ _)); exact BK187.out) hb); have n1_ := Aside0.mk (below_step (by repeat (first | (with_reducible first | exact HB.out | apply below_alloc | apply pw_below_drewN | apply below_drew1 | refine below_set ?_ GE187.out) | exact HB.out)) hb); clear BK187; clear HB; have BK187 := n0_; have HB := n1_; clear n0_ n1_; (try clear hb); (try clear hb2); (try clear hk); (try clear hi); (try clear A75)))
                            go_roundg kj23
                            case measure => have := HK1.out; have := HJ1.out; have := HJ7.out; have := HJ13.out; have := HJ17.out; have := HJ23.out; omega
                            case rel => exact ⟨(wrap64 (x3_1 + 1)), (by first | rfl | (simp; done) | (simp [*]; done)), H', ⟨by have := HK1.out; have := HJ1.out; have := HJ7.out; have := HJ13.out; have := HJ17.out; have := HJ23.out; omega⟩, ⟨by repeat (first | (with_reducible first | exact HB.out | apply below_alloc | apply pw_below_drewN | apply below_drew1 | refine below_set ?_ GE187.out) | exact HB.out)⟩⟩
          · replace c4 := Bool.eq_false_iff.mpr c4
            subst c4
            have H1 : ((cadastrelaw2_wakes.f kj1).bind fun t185 => (some t185)) = some r := by rw [if_neg (show ¬ (false = true) by decide)] at H; exact H
            clear H
            have H := H1
            clear H1
            replace H := Option.bind_eq_some_iff.mp H
            obtain ⟨t185, A930, H⟩ := H
            replace H : (some t185) = some r := H
            have A93 := Aside0.mk A930
            clear A930
            obtain rfl := Option.some.inj H
            go_wp2_with (first | ((with_reducible refine gate_callee (f := 37) rfl ?_); refine goesL_ (some 100) rfl rfl Try.func37 (by kernel_rfl) rfl #[] rfl (by (try simp only [List.map_toArray, List.map_cons, List.map_nil]); first | done | rfl | (simp only [List.length_drop, List.length_take]; rfl)) ?_; (with_reducible refine (cadastrelaw2_wakes.calls kj1  t185 _ A93.out).mono ?_); rintro e w94 ⟨rfl, hb⟩; refine ⟨_, rfl, ?_⟩; have n0_ := Aside0.mk (below_step (by repeat (first | (with_reducible first | exact HB.out | apply below_alloc | apply pw_below_drewN | apply below_drew1) | exact HB.out)) hb); clear HB; have HB := n0_; clear n0_; (try clear hb); (try clear hb2); (try clear hk); (try clear hi)))
            go_ret
            exact ⟨by first | rfl | (simp [errW_none, errW_some] <;> rfl) | (simp [*, errW_none, errW_some] <;> rfl), by repeat (first | (with_reducible first | exact HB.out | apply below_alloc | apply pw_below_drewN | apply below_drew1) | exact HB.out)⟩

end Go.Proofs.Ytaodnkhpiiepiaa.V
